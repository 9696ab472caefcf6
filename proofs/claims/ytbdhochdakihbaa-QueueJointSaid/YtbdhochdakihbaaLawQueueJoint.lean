/-
  QueueJoint: the walk.
-/
import Derived.Test.YtbdhochdakihbaaLaw17
import Derived.Test.YtbdhochdakihbaaOpen
namespace Go.Proofs.Ytbdhochdakihbaa
open Go.RowKit
set_option linter.unusedVariables false
theorem QAt.dis {B : Nat} {w w1 : World} {q c : Nat} {A A2 : Option Addr} {xs : List (Nat × Option Nat)} {ls : List (List UInt8)} {n : Nat} {b : List UInt8} (h : QAt B w q A c xs ls) (i : Nat) (hi : i < xs.length) (hA : LiesB w1 B A2 n b) :
    ∀ bk off, A2 = some ⟨bk, off, none⟩ → b ≠ [] → ¬ lineBlocks xs[i].1 xs[i].2 bk := by
  intro bk off e hb hs
  obtain ⟨b2, o2, e2, h2, _⟩ := hA.2 (by simpa using hb)
  rw [e2] at e
  injection e with e
  injection e with e
  subst e
  have := h.lbase i hi
  rcases hs with hs | hs
  · omega
  · have := this.2 _ hs.symm; omega
/-- What was never known is put whole. -/
theorem queue_put0 {B : Nat} {w : World} {q c : Nat} {A A2 : Option Addr} {xs : List (Nat × Option Nat)} {ls : List (List UInt8)} {n c2 : Nat} {b : List UInt8} (h : QAt B w q A c xs ls) (hB : B ≤ w.heap.size) (i : Nat) (hi : i < xs.length) (hl : ls.getD i [] = [])
    {p : Nat} (hp : p = xs[i].1) (hA : LiesB w B A2 n b) (hn : n ≤ 1000) :
    Calls Try.prog 18 #[.pointer (some ⟨p, 0, none⟩), .int .i64 0, .slice A2 n c2] w fun e w' =>
      e = .returned (.tuple #[.int .i64 (n : Int), .int .i64 0]) ∧ ∃ ys : List (Nat × Option Nat), ys.length = xs.length ∧ QAt B w' q A c ys (ls.set i b) ∧ Below B w w' := by
  have hL := h.line i hi
  rw [hl] at hL
  subst hp
  have hb := hA.len
  refine Calls.mono (line_Put_v xs[i].1 xs[i].2 [] 0 A2 n c2 b b (n : Int) 0 w hL (hA.more hB) (h.dis i hi hA) (by omega) (by omega) (by omega) (putAdd_zero (by omega)) (by rw [hb]) (putErr_zero (by omega))) ?_
  rintro e w' ⟨he, g', k1, k2, k3⟩
  refine ⟨he, xs.set i (xs[i].1, g'), List.length_set, h.put hB i hi k1 k2 k3, k2.below hB fun k hk hs => ?_⟩
  have := h.lbase i hi
  rcases hs with hs | hs
  · omega
  · have := this.2 k hs.symm; omega
set_option maxHeartbeats 2000000 in
set_option maxRecDepth 20000 in
theorem law_QueueJoint (A : Option Addr) (n c : Nat) (a : List UInt8) (A2 : Option Addr) (n2 c2 : Nat) (b : List UInt8) (A3 : Option Addr) (n3 c3 : Nat) (d : List UInt8) (w : World) (hA : LiesB w w.heap.size A n a) (hc : n ≤ c) (_ : c ≤ maxLen)
    (hA2 : LiesB w w.heap.size A2 n2 b) (hc2 : n2 ≤ c2) (_ : c2 ≤ maxLen) (hA3 : LiesB w w.heap.size A3 n3 d) (hc3 : n3 ≤ c3) (_ : c3 ≤ maxLen) :
    Calls Try.prog 6 #[.slice A n c, .slice A2 n2 c2, .slice A3 n3 c3] w fun e w' => e = .returned (.bool true) ∧ Below w.heap.size w w' := by
  obtain ⟨m, hm⟩ : ∃ m, m = min 20 n := ⟨_, rfl⟩
  obtain ⟨m2, hm2⟩ : ∃ m, m = min 20 n2 := ⟨_, rfl⟩
  obtain ⟨m3, hm3⟩ : ∃ m, m = min 20 n3 := ⟨_, rfl⟩
  obtain ⟨a', ha'⟩ : ∃ l, l = a.take 20 := ⟨_, rfl⟩
  obtain ⟨b', hb'⟩ : ∃ l, l = b.take 20 := ⟨_, rfl⟩
  obtain ⟨d', hd'⟩ : ∃ l, l = d.take 20 := ⟨_, rfl⟩
  have hl1 : m ≤ 20 := by omega
  have hl2 : m2 ≤ 20 := by omega
  have hl3 : m3 ≤ 20 := by omega
  have r1 := hA.take 20
  have r2 := hA2.take 20
  have r3 := hA3.take 20
  rw [← hm, ← ha'] at r1
  rw [← hm2, ← hb'] at r2
  rw [← hm3, ← hd'] at r3
  have Hm := hide hm
  have Hm2 := hide hm2
  have Hm3 := hide hm3
  have R1 := hide r1
  have R2 := hide r2
  have R3 := hide r3
  clear hA hA2 hA3 ha' hb' hd' hm hm2 hm3 r1 r2 r3
  go_enter Try.func6, Try.ntmps6
  go_wp2_with fail
  refine Calls.mono (begun17 _) ?_
  rintro e w1 ⟨rfl, hb1⟩
  have HB1 := hide hb1
  clear hb1
  go_wp2_with fail
  refine Calls.mono (law_Short _ _ _ _ 20 _ hc (by omega) (by omega)) ?_
  rintro e w2 ⟨rfl, rfl⟩
  rw [← Hm.out]
  go_wp2_with fail
  refine Calls.mono (law_Short _ _ _ _ 20 _ hc2 (by omega) (by omega)) ?_
  rintro e w2 ⟨rfl, rfl⟩
  rw [← Hm2.out]
  go_wp2_with fail
  refine Calls.mono (law_Short _ _ _ _ 20 _ hc3 (by omega) (by omega)) ?_
  rintro e w2 ⟨rfl, rfl⟩
  rw [← Hm3.out]
  go_wp2_with fail
  refine Calls.mono (queue_New 3 0 3 0 _ (by decide) (by decide)) ?_
  rintro e w2 ⟨q, Aq, cq, xs, rfl, hx, hq, hb⟩
  have HB2 := hide (Below_step HB1.out hb)
  have HQ2 := hide hq
  have HX := hide hx
  have hs1 := HB1.out.size
  have hs2 : w1.heap.size ≤ w2.heap.size := hb.size
  obtain ⟨p0, hp0⟩ : ∃ p, p = (xs[0]'(by rw [HX.out]; omega)).1 := ⟨_, rfl⟩
  have HP0 := hide hp0
  clear hq hb hx hp0
  go_wp2_with fail
  refine Calls.mono (queue_Line HQ2.out 0 (by rw [HX.out]; omega) (by rw [HX.out]; omega) rfl HP0.out) ?_
  rintro e w3 ⟨rfl, rfl⟩
  go_wp2_with fail
  refine Calls.mono (queue_put0 HQ2.out hs2 0 (by rw [HX.out]; omega) rfl HP0.out ((R1.out.below HB2.out).more hs1) (by omega)) ?_
  rintro e w3 ⟨rfl, xs3, hx3, hq3, hb3⟩
  have HX3 : Hid (xs3.length = 3) := hx3.trans HX.out
  have HQ3 : Hid (QAt w1.heap.size w3 q Aq cq xs3 [a', [], []]) := hq3
  have HB3 := hide (HB2.out.trans (hb3.mono hs1))
  obtain ⟨p1, hp1⟩ : ∃ p, p = (xs3[1]'(by rw [HX3.out]; omega)).1 := ⟨_, rfl⟩
  have HP1 := hide hp1
  have hs3 : w1.heap.size ≤ w3.heap.size := Nat.le_trans hs2 hb3.size
  clear hx3 hq3 hb3 hp1
  go_wp2_with fail
  refine Calls.mono (queue_Line HQ3.out 1 (by rw [HX3.out]; omega) (by rw [HX3.out]; omega) rfl HP1.out) ?_
  rintro e w4 ⟨rfl, rfl⟩
  go_wp2_with fail
  refine Calls.mono (queue_put0 HQ3.out hs3 1 (by rw [HX3.out]; omega) rfl HP1.out ((R2.out.below HB3.out).more hs1) (by omega)) ?_
  rintro e w4 ⟨rfl, xs4, hx4, hq4, hb4⟩
  have HX4 : Hid (xs4.length = 3) := hx4.trans HX3.out
  have HQ4 : Hid (QAt w1.heap.size w4 q Aq cq xs4 [a', b', []]) := hq4
  have HB4 := hide (HB3.out.trans (hb4.mono hs1))
  obtain ⟨p2, hp2⟩ : ∃ p, p = (xs4[2]'(by rw [HX4.out]; omega)).1 := ⟨_, rfl⟩
  have HP2 := hide hp2
  have hs4 : w1.heap.size ≤ w4.heap.size := Nat.le_trans hs3 hb4.size
  clear hx4 hq4 hb4 hp2
  go_wp2_with fail
  refine Calls.mono (queue_Line HQ4.out 2 (by rw [HX4.out]; omega) (by rw [HX4.out]; omega) rfl HP2.out) ?_
  rintro e w5 ⟨rfl, rfl⟩
  go_wp2_with fail
  refine Calls.mono (queue_put0 HQ4.out hs4 2 (by rw [HX4.out]; omega) rfl HP2.out ((R3.out.below HB4.out).more hs1) (by omega)) ?_
  rintro e w5 ⟨rfl, xs5, hx5, hq5, hb5⟩
  have HX5 : Hid (xs5.length = 3) := hx5.trans HX4.out
  have HQ5 : Hid (QAt w1.heap.size w5 q Aq cq xs5 [a', b', d']) := hq5
  have HB5 := hide (HB4.out.trans (hb5.mono hs1))
  have hs5 : w1.heap.size ≤ w5.heap.size := Nat.le_trans hs4 hb5.size
  clear hx5 hq5 hb5
  obtain ⟨F, hF⟩ : ∃ F, F = min m (min m2 m3) := ⟨_, rfl⟩
  have hmin : min (m : Int) (min (m2 : Int) (m3 : Int)) = (F : Int) := by omega
  have HF : Hid (front [a', b', d'] = F) := by
    show front _ = F
    have e1 := R1.out.len; have e2 := R2.out.len; have e3 := R3.out.len
    show min (min (min a'.length a'.length) b'.length) d'.length = F
    omega
  have hF1 : F ≤ m := by omega
  have hF2 : F ≤ m2 := by omega
  have hF3 : F ≤ m3 := by omega
  have h3a : Hid (0 < xs5.length) := by show 0 < _; rw [HX5.out]; omega
  have h3b : Hid (xs5.length ≤ 1000) := by show _ ≤ 1000; rw [HX5.out]; omega
  clear hF
  go_wp2_with fail
  go_loopg [10] F (fun gg i wr => ∃ k : Nat, k ≤ F ∧ gg = F - k ∧ i = .int .i64 k ∧ QAt w1.heap.size wr q Aq cq xs5 [a', b', d'] ∧ Below w.heap.size w wr ∧ w5.heap.size ≤ wr.heap.size)
  case atStart => exact ⟨0, by omega, rfl, rfl, HQ5.out, HB5.out, Nat.le_refl _⟩
  case round =>
    obtain ⟨W1, hW1⟩ : ∃ W1, W1 = wr := ⟨_, rfl⟩
    subst hW1
    obtain ⟨k, hk, rfl, rfl, hq, hb, hsw⟩ := hrel
    have HQ := hide hq
    have HB := hide hb
    have hszw := hb.size
    have hs6 : w1.heap.size ≤ W1.heap.size := by omega
    clear hq hb
    by_cases hlt : k < F
    · have hkm1 : k < m := by omega
      have hkm2 : k < m2 := by omega
      have hkm3 : k < m3 := by omega
      have HK : Hid (k < front [a', b', d']) := by show k < _; rw [HF.out]; exact hlt
      obtain ⟨J, hJ⟩ : ∃ J, J = jointOf [a', b', d'] k := ⟨_, rfl⟩
      have HJ := hide hJ
      clear hJ
      go_wp2_with fail
      refine Calls.mono (queue_Joint HQ.out hs6 h3a.out h3b.out k HK.out rfl) ?_
      rintro e w6 ⟨A6, c6, rfl, own6, hb6⟩
      rw [HX5.out, ← HJ.out] at own6
      rw [HX5.out]
      have BB := hb6
      obtain ⟨g6, rfl, hg6, hg6'⟩ := own6.form (by omega)
      obtain ⟨b1, o1, hl1', rfl, hbl1, q1⟩ := (R1.out.below HB.out).at_ (k := k) (by omega)
      obtain ⟨b2, o2, hl2', rfl, hbl2, q2⟩ := (R2.out.below HB.out).at_ (k := k) (by omega)
      obtain ⟨b3, o3, hl3', rfl, hbl3, q3⟩ := (R3.out.below HB.out).at_ (k := k) (by omega)
      obtain ⟨x, hx⟩ : ∃ x, x = a'[k] := ⟨_, rfl⟩
      obtain ⟨y, hy⟩ : ∃ y, y = b'[k] := ⟨_, rfl⟩
      obtain ⟨z, hz⟩ : ∃ z, z = d'[k] := ⟨_, rfl⟩
      rw [← hx] at q1
      rw [← hy] at q2
      rw [← hz] at q3
      have HJ3 : Hid (J = [x, y, z]) := by
        show J = _
        rw [HJ.out, hx, hy, hz]
        simp [jointOf, List.getD_eq_getElem?_getD, List.getElem?_eq_getElem hl1', List.getElem?_eq_getElem hl2', List.getElem?_eq_getElem hl3']
      have CC : Hid (∀ w', Below W1.heap.size W1 w' → w'.cell? ⟨b1, o1 + k, none⟩ = some (.int .u8 (x.toNat : Int)) ∧ w'.cell? ⟨b2, o2 + k, none⟩ = some (.int .u8 (y.toNat : Int)) ∧ w'.cell? ⟨b3, o3 + k, none⟩ = some (.int .u8 (z.toNat : Int))) := fun w' h =>
        ⟨(h.cell (p := ⟨b1, o1 + k, none⟩) (by show b1 < _; omega)).trans q1, (h.cell (p := ⟨b2, o2 + k, none⟩) (by show b2 < _; omega)).trans q2, (h.cell (p := ⟨b3, o3 + k, none⟩) (by show b3 < _; omega)).trans q3⟩
      clear hx hy hz hl1' hl2' hl3' q1 q2 q3 hb6
      have HBB := hide BB
      have HO6 := hide own6
      clear BB own6
      go_upto_region 14 with fail
      go_cut [76] from 45 to 95 (fun s wx => s = .bool false ∧ OwnB wx W1.heap.size (some ⟨g6, 0, none⟩) 3 c6 J ∧ Below W1.heap.size W1 wx)
      case first =>
        have BB := HBB.out.drew
        have own6 := HO6.out.drew
        have e1 : (J == [x, y, z]) = true := by rw [HJ3.out]; simp
        have e2 : (J != [x, y, z]) = false := by rw [HJ3.out]; simp
        refine wp_region_noPanic ?_
        refine wp_region_held_drew (S := (fun w' => (convert 23 9 (.slice (some ⟨g6, 0, none⟩) 3 c6)).run Try.prog w' = .ok (.string (strOf J)) w' ∧ w'.cell? ⟨b1, o1 + k, none⟩ = some (.int .u8 (x.toNat : Int)) ∧ w'.cell? ⟨b2, o2 + k, none⟩ = some (.int .u8 (y.toNat : Int)) ∧ w'.cell? ⟨b3, o3 + k, none⟩ = some (.int .u8 (z.toNat : Int)))) (by kernel_rfl) ⟨run_stringB own6.lies, CC.out _ BB⟩ (fun hHeld => ?_)
        refine wpAnyH_take (i := 0) (oi := ?_) (v := ?_) ?_ (by kernel_rfl) (by kernel_rfl) (by kernel_rfl) ?_ ?_ (by assumption) ?_
        rotate_left 2
        · (simp only [List.getElem?_toArray, List.getElem?_cons_zero]; rfl)
        · exact fun _ _ _ h => h
        · (refine Or.inl ⟨by rfl, ?_⟩; intro w hSw; (try dsimp only at hSw); go_simp <;> with_reducible rfl)
        try simp only [Act.put, List.setIfInBounds_toArray, List.set_cons_zero, List.set_cons_succ]
        refine wpAnyH_take (i := 1) (oi := ?_) (v := ?_) ?_ (by kernel_rfl) (by kernel_rfl) (by kernel_rfl) ?_ ?_ (by assumption) ?_
        rotate_left 2
        · (simp only [List.getElem?_toArray, List.getElem?_cons_succ, List.getElem?_cons_zero]; rfl)
        · exact fun _ _ _ h => h
        · (refine Or.inl ⟨by rfl, ?_⟩; intro w hSw; (try dsimp only at hSw); go_simp <;> with_reducible rfl)
        try simp only [Act.put, List.setIfInBounds_toArray, List.set_cons_zero, List.set_cons_succ]
        refine wpAnyH_take (i := 2) (oi := ?_) (v := ?_) ?_ (by kernel_rfl) (by kernel_rfl) (by kernel_rfl) ?_ ?_ (by assumption) ?_
        rotate_left 2
        · (simp only [List.getElem?_toArray, List.getElem?_cons_succ, List.getElem?_cons_zero]; rfl)
        · exact fun _ _ _ h => h
        · (refine Or.inl ⟨by rfl, ?_⟩; intro w hSw; (try dsimp only at hSw); go_simp <;> with_reducible rfl)
        try simp only [Act.put, List.setIfInBounds_toArray, List.set_cons_zero, List.set_cons_succ]
        refine wpAnyH_take (i := 3) (oi := ?_) (v := ?_) ?_ (by kernel_rfl) (by kernel_rfl) (by kernel_rfl) ?_ ?_ (by assumption) ?_
        rotate_left 2
        · (simp only [List.getElem?_toArray, List.getElem?_cons_succ, List.getElem?_cons_zero]; rfl)
        · exact fun _ _ _ h => h
        · (refine Or.inl ⟨by rfl, ?_⟩; intro w hSw; (try dsimp only at hSw); go_simp <;> with_reducible rfl)
        try simp only [Act.put, List.setIfInBounds_toArray, List.set_cons_zero, List.set_cons_succ]
        refine wpAnyH_take (i := 4) (oi := ?_) (v := ?_) ?_ (by kernel_rfl) (by kernel_rfl) (by kernel_rfl) ?_ ?_ (by assumption) ?_
        rotate_left 2
        · (simp only [List.getElem?_toArray, List.getElem?_cons_succ, List.getElem?_cons_zero]; rfl)
        · exact fun _ _ _ h => h
        · (refine Or.inl ⟨by rfl, ?_⟩; intro w hSw; (try dsimp only at hSw); go_simp <;> with_reducible rfl)
        try simp only [Act.put, List.setIfInBounds_toArray, List.set_cons_zero, List.set_cons_succ]
        refine wpAnyH_take (i := 5) (oi := ?_) (v := ?_) ?_ (by kernel_rfl) (by kernel_rfl) (by kernel_rfl) ?_ ?_ (by assumption) ?_
        rotate_left 2
        · (simp only [List.getElem?_toArray, List.getElem?_cons_succ, List.getElem?_cons_zero]; rfl)
        · exact fun _ _ _ h => h
        · (refine Or.inl ⟨by rfl, ?_⟩; intro w hSw; (try dsimp only at hSw); go_simp <;> with_reducible rfl)
        try simp only [Act.put, List.setIfInBounds_toArray, List.set_cons_zero, List.set_cons_succ]
        refine wpAnyH_take (i := 6) (oi := ?_) (v := ?_) ?_ (by kernel_rfl) (by kernel_rfl) (by kernel_rfl) ?_ ?_ (by assumption) ?_
        rotate_left 2
        · (simp only [List.getElem?_toArray, List.getElem?_cons_succ, List.getElem?_cons_zero]; rfl)
        · exact fun _ _ _ h => h
        · (refine Or.inl ⟨by rfl, ?_⟩; intro w hSw; (try dsimp only at hSw); go_simp <;> with_reducible rfl)
        try simp only [Act.put, List.setIfInBounds_toArray, List.set_cons_zero, List.set_cons_succ]
        refine wpAnyH_take (i := 7) (oi := ?_) (v := ?_) ?_ (by kernel_rfl) (by kernel_rfl) (by kernel_rfl) ?_ ?_ (by assumption) ?_
        rotate_left 2
        · (simp only [List.getElem?_toArray, List.getElem?_cons_succ, List.getElem?_cons_zero]; rfl)
        · exact fun _ _ _ h => h
        · (refine Or.inl ⟨by rfl, ?_⟩; intro w hSw; (try dsimp only at hSw); go_simp <;> with_reducible rfl)
        try simp only [Act.put, List.setIfInBounds_toArray, List.set_cons_zero, List.set_cons_succ]
        refine wpAnyH_take (i := 8) (oi := ?_) (v := ?_) ?_ (by kernel_rfl) (by kernel_rfl) (by kernel_rfl) ?_ ?_ (by assumption) ?_
        rotate_left 2
        · (simp only [List.getElem?_toArray, List.getElem?_cons_succ, List.getElem?_cons_zero]; rfl)
        · exact fun _ _ _ h => h
        · (refine Or.inl ⟨by rfl, ?_⟩; intro w hSw; (try dsimp only at hSw); go_simp <;> with_reducible rfl)
        try simp only [Act.put, List.setIfInBounds_toArray, List.set_cons_zero, List.set_cons_succ]
        refine wpAnyH_take (i := 9) (oi := ?_) (v := ?_) ?_ (by kernel_rfl) (by kernel_rfl) (by kernel_rfl) ?_ ?_ (by assumption) ?_
        rotate_left 2
        · (simp only [List.getElem?_toArray, List.getElem?_cons_succ, List.getElem?_cons_zero]; rfl)
        · exact fun _ _ _ h => h
        · (refine Or.inl ⟨by rfl, ?_⟩; intro w hSw; (try dsimp only at hSw); go_simp <;> with_reducible rfl)
        try simp only [Act.put, List.setIfInBounds_toArray, List.set_cons_zero, List.set_cons_succ]
        refine wpAnyH_take (i := 10) (oi := ?_) (v := ?_) ?_ (by kernel_rfl) (by kernel_rfl) (by kernel_rfl) ?_ ?_ (by assumption) ?_
        rotate_left 2
        · (simp only [List.getElem?_toArray, List.getElem?_cons_succ, List.getElem?_cons_zero]; rfl)
        · exact fun _ _ _ h => h
        · (refine Or.inl ⟨by rfl, ?_⟩; intro w hSw; (try dsimp only at hSw); go_simp <;> with_reducible rfl)
        try simp only [Act.put, List.setIfInBounds_toArray, List.set_cons_zero, List.set_cons_succ]
        refine wpAnyH_take (i := 11) (oi := ?_) (v := ?_) ?_ (by kernel_rfl) (by kernel_rfl) (by kernel_rfl) ?_ ?_ (by assumption) ?_
        rotate_left 2
        · (simp only [List.getElem?_toArray, List.getElem?_cons_succ, List.getElem?_cons_zero]; rfl)
        · exact fun _ _ _ h => h
        · (refine Or.inl ⟨by rfl, ?_⟩; intro w hSw; (try dsimp only at hSw); go_simp <;> with_reducible rfl)
        try simp only [Act.put, List.setIfInBounds_toArray, List.set_cons_zero, List.set_cons_succ]
        refine wpAnyH_take (i := 12) (oi := ?_) (v := ?_) ?_ (by kernel_rfl) (by kernel_rfl) (by kernel_rfl) ?_ ?_ (by assumption) ?_
        rotate_left 2
        · (simp only [List.getElem?_toArray, List.getElem?_cons_succ, List.getElem?_cons_zero]; rfl)
        · exact fun _ _ _ h => h
        · (refine Or.inl ⟨by rfl, ?_⟩; intro w hSw; (try dsimp only at hSw); go_simp <;> with_reducible rfl)
        try simp only [Act.put, List.setIfInBounds_toArray, List.set_cons_zero, List.set_cons_succ]
        refine wpAnyH_take (i := 13) (oi := ?_) (v := ?_) ?_ (by kernel_rfl) (by kernel_rfl) (by kernel_rfl) ?_ ?_ (by assumption) ?_
        rotate_left 2
        · (simp only [List.getElem?_toArray, List.getElem?_cons_succ, List.getElem?_cons_zero]; rfl)
        · exact fun _ _ _ h => h
        · (refine Or.inl ⟨by rfl, ?_⟩; intro w hSw; (try dsimp only at hSw); go_simp <;> with_reducible rfl)
        try simp only [Act.put, List.setIfInBounds_toArray, List.set_cons_zero, List.set_cons_succ]
        refine wpAnyH_take (i := 14) (oi := ?_) (v := ?_) ?_ (by kernel_rfl) (by kernel_rfl) (by kernel_rfl) ?_ ?_ (by assumption) ?_
        rotate_left 2
        · (simp only [List.getElem?_toArray, List.getElem?_cons_succ, List.getElem?_cons_zero]; rfl)
        · exact fun _ _ _ h => h
        · (refine Or.inl ⟨by rfl, ?_⟩; intro w hSw; (try dsimp only at hSw); go_simp <;> with_reducible rfl)
        try simp only [Act.put, List.setIfInBounds_toArray, List.set_cons_zero, List.set_cons_succ]
        refine wpAnyH_take (i := 15) (oi := ?_) (v := ?_) ?_ (by kernel_rfl) (by kernel_rfl) (by kernel_rfl) ?_ ?_ (by assumption) ?_
        rotate_left 2
        · (simp only [List.getElem?_toArray, List.getElem?_cons_succ, List.getElem?_cons_zero]; rfl)
        · exact fun _ _ _ h => h
        · (refine Or.inl ⟨by rfl, ?_⟩; intro w hSw; (try dsimp only at hSw); go_simp <;> with_reducible rfl)
        try simp only [Act.put, List.setIfInBounds_toArray, List.set_cons_zero, List.set_cons_succ]
        refine wpAnyH_take (i := 16) (oi := ?_) (v := ?_) ?_ (by kernel_rfl) (by kernel_rfl) (by kernel_rfl) ?_ ?_ (by assumption) ?_
        rotate_left 2
        · (simp only [List.getElem?_toArray, List.getElem?_cons_succ, List.getElem?_cons_zero]; rfl)
        · exact fun _ _ _ h => h
        · (refine Or.inl ⟨by rfl, ?_⟩; intro w hSw; (try dsimp only at hSw); go_simp <;> with_reducible rfl)
        try simp only [Act.put, List.setIfInBounds_toArray, List.set_cons_zero, List.set_cons_succ]
        refine wpAnyH_ready (rs := [17]) (by kernel_rfl) (by simp) ?_
        refine AllReadyH.cons (o := ?_) ?_ (fun K hK => ?_) AllReadyH.nil
        rotate_left 1
        · (simp only [List.getElem?_toArray, List.getElem?_cons_succ, List.getElem?_cons_zero]; rfl)
        go_simp
        refine hK.out _ _ ⟨run_stringB (own6.below (Below_new _ _)).lies, CC.out _ (Below_step BB (Below_new _ _))⟩ (fun hHeld => ?_)
        clear hK K
        try simp only [Act.put, List.setIfInBounds_toArray, List.set_cons_zero, List.set_cons_succ]
        refine wpAnyH_mono (S' := (fun w' => (convert 23 9 (.slice (some ⟨w6.heap.size, 0, none⟩) 3 3)).run Try.prog w' = .ok (.string (strOf [x, y, z])) w' ∧ ((convert 23 9 (.slice (some ⟨g6, 0, none⟩) 3 c6)).run Try.prog w' = .ok (.string (strOf J)) w' ∧ w'.cell? ⟨b1, o1 + k, none⟩ = some (.int .u8 (x.toNat : Int)) ∧ w'.cell? ⟨b2, o2 + k, none⟩ = some (.int .u8 (y.toNat : Int)) ∧ w'.cell? ⟨b3, o3 + k, none⟩ = some (.int .u8 (z.toNat : Int))))) (fun _ h => h.2) _ _ _ _ ?_
        have hHeld2 := (⟨run_stringB (LiesB.new _ _ _ _ [x, y, z] 3 rfl rfl), run_stringB (own6.below (Below_new _ _)).lies, CC.out _ (Below_step BB (Below_new _ _))⟩ : (fun w' => (convert 23 9 (.slice (some ⟨w6.heap.size, 0, none⟩) 3 3)).run Try.prog w' = .ok (.string (strOf [x, y, z])) w' ∧ ((convert 23 9 (.slice (some ⟨g6, 0, none⟩) 3 c6)).run Try.prog w' = .ok (.string (strOf J)) w' ∧ w'.cell? ⟨b1, o1 + k, none⟩ = some (.int .u8 (x.toNat : Int)) ∧ w'.cell? ⟨b2, o2 + k, none⟩ = some (.int .u8 (y.toNat : Int)) ∧ w'.cell? ⟨b3, o3 + k, none⟩ = some (.int .u8 (z.toNat : Int)))) (w6.drew.alloc (.cells #[.int .u8 (x.toNat : Int), .int .u8 (y.toNat : Int), .int .u8 (z.toNat : Int)] 5)))
        refine wpAnyH_take (i := 18) (oi := ?_) (v := ?_) ?_ (by kernel_rfl) (by kernel_rfl) (by kernel_rfl) ?_ ?_ (by assumption) ?_
        rotate_left 2
        · (simp only [List.getElem?_toArray, List.getElem?_cons_succ, List.getElem?_cons_zero]; rfl)
        · exact fun _ _ _ h => h
        · (refine Or.inl ⟨by rfl, ?_⟩; intro w hSw; (try dsimp only at hSw); go_simp <;> with_reducible rfl)
        try simp only [Act.put, List.setIfInBounds_toArray, List.set_cons_zero, List.set_cons_succ]
        refine wpAnyH_take (i := 19) (oi := ?_) (v := ?_) ?_ (by kernel_rfl) (by kernel_rfl) (by kernel_rfl) ?_ ?_ (by assumption) ?_
        rotate_left 2
        · (simp only [List.getElem?_toArray, List.getElem?_cons_succ, List.getElem?_cons_zero]; rfl)
        · exact fun _ _ _ h => h
        · (refine Or.inl ⟨by rfl, ?_⟩; intro w hSw; (try dsimp only at hSw); go_simp <;> with_reducible rfl)
        try simp only [Act.put, List.setIfInBounds_toArray, List.set_cons_zero, List.set_cons_succ]
        refine wpAnyH_take (i := 20) (oi := ?_) (v := ?_) ?_ (by kernel_rfl) (by kernel_rfl) (by kernel_rfl) ?_ ?_ (by assumption) ?_
        rotate_left 2
        · (simp only [List.getElem?_toArray, List.getElem?_cons_succ, List.getElem?_cons_zero]; rfl)
        · exact fun _ _ _ h => h
        · (refine Or.inl ⟨by rfl, ?_⟩; intro w hSw; (try dsimp only at hSw); go_simp <;> with_reducible rfl)
        try simp only [Act.put, List.setIfInBounds_toArray, List.set_cons_zero, List.set_cons_succ]
        refine wpAnyH_done (by kernel_rfl) (NoPanic.normal ?_) _
        go_wp2_with fail
        go_meet
        exact ⟨by simp, own6.below (Below_new _ _), Below_step BB (Below_new _ _)⟩
      case rest =>
        obtain ⟨rfl, own, BB⟩ := hcut
        have O := hide own
        have HBC := hide BB
        obtain ⟨h0, hc0⟩ := own.cell (j := 0) (by omega)
        have hf0 := own.frozen 0
        have hJ0 : J[0] = x := by simp only [HJ3.out]; rfl
        rw [hJ0] at hc0
        have HBS := hide (BB.setCell (p := ⟨g6, 0, none⟩) hg6 (.int .u8 (((x.toNat : Int) + 1) % 256)))
        clear own BB h0 hJ0
        go_wp2_with fail
        refine Calls.mono (queue_Joint (HQ.out.below HBS.out) (Nat.le_trans hs6 HBS.out.size) h3a.out h3b.out k HK.out rfl) ?_
        rintro e w7 ⟨A7, c7, rfl, own7, hb7⟩
        rw [HX5.out, ← HJ.out, HJ3.out] at own7
        rw [HX5.out]
        have HB7 := hide (HBS.out.trans (hb7.mono HBS.out.size))
        obtain ⟨g7, rfl, _, _⟩ := own7.form (by omega)
        have hc7 : w7.cell? ⟨g7, 0, none⟩ = some (.int .u8 (x.toNat : Int)) := (own7.cell (j := 0) (by omega)).2
        have ha7 := (CC.out _ HB7.out).1
        clear own7 hb7 hc0 hf0
        go_wp2_with fail
        refine wp_region_noPanic ?_
        refine wp_region_held_drew (S := (fun w' => w'.cell? ⟨g7, 0, none⟩ = some (.int .u8 (x.toNat : Int)) ∧ w'.cell? ⟨b1, o1 + k, none⟩ = some (.int .u8 (x.toNat : Int)))) (by kernel_rfl) ⟨hc7, ha7⟩ (fun hHeld => ?_)
        refine wpAnyH_take (i := 0) (oi := ?_) (v := ?_) ?_ (by kernel_rfl) (by kernel_rfl) (by kernel_rfl) ?_ ?_ (by assumption) ?_
        rotate_left 2
        · (simp only [List.getElem?_toArray, List.getElem?_cons_zero]; rfl)
        · exact fun _ _ _ h => h
        · (refine Or.inl ⟨by rfl, ?_⟩; intro w hSw; (try dsimp only at hSw); go_simp <;> with_reducible rfl)
        try simp only [Act.put, List.setIfInBounds_toArray, List.set_cons_zero, List.set_cons_succ]
        refine wpAnyH_take (i := 1) (oi := ?_) (v := ?_) ?_ (by kernel_rfl) (by kernel_rfl) (by kernel_rfl) ?_ ?_ (by assumption) ?_
        rotate_left 2
        · (simp only [List.getElem?_toArray, List.getElem?_cons_succ, List.getElem?_cons_zero]; rfl)
        · exact fun _ _ _ h => h
        · (refine Or.inl ⟨by rfl, ?_⟩; intro w hSw; (try dsimp only at hSw); go_simp <;> with_reducible rfl)
        try simp only [Act.put, List.setIfInBounds_toArray, List.set_cons_zero, List.set_cons_succ]
        refine wpAnyH_take (i := 2) (oi := ?_) (v := ?_) ?_ (by kernel_rfl) (by kernel_rfl) (by kernel_rfl) ?_ ?_ (by assumption) ?_
        rotate_left 2
        · (simp only [List.getElem?_toArray, List.getElem?_cons_succ, List.getElem?_cons_zero]; rfl)
        · exact fun _ _ _ h => h
        · (refine Or.inl ⟨by rfl, ?_⟩; intro w hSw; (try dsimp only at hSw); go_simp <;> with_reducible rfl)
        try simp only [Act.put, List.setIfInBounds_toArray, List.set_cons_zero, List.set_cons_succ]
        refine wpAnyH_take (i := 3) (oi := ?_) (v := ?_) ?_ (by kernel_rfl) (by kernel_rfl) (by kernel_rfl) ?_ ?_ (by assumption) ?_
        rotate_left 2
        · (simp only [List.getElem?_toArray, List.getElem?_cons_succ, List.getElem?_cons_zero]; rfl)
        · exact fun _ _ _ h => h
        · (refine Or.inl ⟨by rfl, ?_⟩; intro w hSw; (try dsimp only at hSw); go_simp <;> with_reducible rfl)
        try simp only [Act.put, List.setIfInBounds_toArray, List.set_cons_zero, List.set_cons_succ]
        refine wpAnyH_take (i := 4) (oi := ?_) (v := ?_) ?_ (by kernel_rfl) (by kernel_rfl) (by kernel_rfl) ?_ ?_ (by assumption) ?_
        rotate_left 2
        · (simp only [List.getElem?_toArray, List.getElem?_cons_succ, List.getElem?_cons_zero]; rfl)
        · exact fun _ _ _ h => h
        · (refine Or.inl ⟨by rfl, ?_⟩; intro w hSw; (try dsimp only at hSw); go_simp <;> with_reducible rfl)
        try simp only [Act.put, List.setIfInBounds_toArray, List.set_cons_zero, List.set_cons_succ]
        refine wpAnyH_take (i := 5) (oi := ?_) (v := ?_) ?_ (by kernel_rfl) (by kernel_rfl) (by kernel_rfl) ?_ ?_ (by assumption) ?_
        rotate_left 2
        · (simp only [List.getElem?_toArray, List.getElem?_cons_succ, List.getElem?_cons_zero]; rfl)
        · exact fun _ _ _ h => h
        · (refine Or.inl ⟨by rfl, ?_⟩; intro w hSw; (try dsimp only at hSw); go_simp <;> with_reducible rfl)
        try simp only [Act.put, List.setIfInBounds_toArray, List.set_cons_zero, List.set_cons_succ]
        refine wpAnyH_take (i := 6) (oi := ?_) (v := ?_) ?_ (by kernel_rfl) (by kernel_rfl) (by kernel_rfl) ?_ ?_ (by assumption) ?_
        rotate_left 2
        · (simp only [List.getElem?_toArray, List.getElem?_cons_succ, List.getElem?_cons_zero]; rfl)
        · exact fun _ _ _ h => h
        · (refine Or.inl ⟨by rfl, ?_⟩; intro w hSw; (try dsimp only at hSw); go_simp <;> with_reducible rfl)
        try simp only [Act.put, List.setIfInBounds_toArray, List.set_cons_zero, List.set_cons_succ]
        refine wpAnyH_take (i := 7) (oi := ?_) (v := ?_) ?_ (by kernel_rfl) (by kernel_rfl) (by kernel_rfl) ?_ ?_ (by assumption) ?_
        rotate_left 2
        · (simp only [List.getElem?_toArray, List.getElem?_cons_succ, List.getElem?_cons_zero]; rfl)
        · exact fun _ _ _ h => h
        · (refine Or.inl ⟨by rfl, ?_⟩; intro w hSw; (try dsimp only at hSw); go_simp <;> with_reducible rfl)
        try simp only [Act.put, List.setIfInBounds_toArray, List.set_cons_zero, List.set_cons_succ]
        refine wpAnyH_done (by kernel_rfl) (NoPanic.normal ?_) _
        go_wp2_with fail
        go_roundg (F - (k + 1))
        case measure => omega
        case rel => exact ⟨k + 1, by omega, rfl, by go_num, HQ.out.below HB7.out.drew, Below_step HB.out HB7.out.drew, by have := HB7.out.size; show _ ≤ w7.heap.size; omega⟩
    · obtain rfl : k = F := by omega
      go_wp2_with fail
      refine Calls.mono (queue_Front (f := (k : Int)) HQ.out h3a.out h3b.out (by rw [HF.out])) ?_
      rintro e w6 ⟨rfl, rfl⟩
      go_wp2_with fail
      go_ret
      exact ⟨by simp, HB.out⟩
end Go.Proofs.Ytbdhochdakihbaa
