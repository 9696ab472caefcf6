/-
  Sorting: the walks of the insertion, of the exchange of two stretches and of their turning.
-/
import Derived.Test.YtciogjnchpeaaaaSortP
import Derived.Test.YtciogjnchpeaaaaKeepB
import Derived.Test.YtciogjnchpeaaaaRegion
import Derived.Deep.CutBlock
namespace Go.Proofs.Ytciogjnchpeaaaa
open Go.RowKit
set_option maxRecDepth 10000
set_option linter.unusedVariables false
/-- The comparison's value. -/
@[reducible] def cmpV (p0 p1 p2 p3 : Value) : Value := .func (.func 38) #[] #[p0, p1, p2, p3]
/-- In each world that differs in block g alone: of two values the greater one is held against the lesser one by their keys. -/
def CmpOK (K : UInt8 → Nat) (g : Nat) (p0 p1 p2 p3 : Value) (w : World) : Prop := ∀ W, Keeps (fun k => k = g) w W → ∀ x y : UInt8, y < x →
  Calls Try.prog 38 #[.int .u8 (x.toNat : Int), .int .u8 (y.toNat : Int), p0, p1, p2, p3] W fun e w' => ∃ v : Int, e = .returned (.int .i64 v) ∧ decide (v < 0) = decide (K x < K y) ∧ Below W.heap.size W w'
theorem CmpOK.step {K : UInt8 → Nat} {g : Nat} {p0 p1 p2 p3 : Value} {w w' : World} (h : CmpOK K g p0 p1 p2 p3 w) (hk : Keeps (fun k => k = g) w w') : CmpOK K g p0 p1 p2 p3 w' :=
  fun W hW => h W (hk.trans hW fun _ _ h => h)
theorem Keeps.below1 {w w1 w2 : World} {S : Nat → Prop} (h : Keeps S w w1) (hb : Below w1.heap.size w1 w2) : Keeps S w w2 := h.trans (Keeps.of_below (S := S) hb) fun _ _ h => h
theorem Keeps.drew1 {w w1 : World} {S : Nat → Prop} (h : Keeps S w w1) : Keeps S w w1.drew := ⟨h.os, h.tape, h.output, h.size, h.block⟩
theorem OwnB.getD {w : World} {base n c g : Nat} {l : List UInt8} (h : OwnB w base (some ⟨g, 0, none⟩) n c l) {j : Nat} (hj : j < n) : w.cell? ⟨g, j, none⟩ = some (.int .u8 ((l.getD j 0).toNat : Int)) := by
  obtain ⟨hl, hc⟩ := h.cell hj
  rw [hc, List.getD_eq_getElem?_getD, List.getElem?_eq_getElem hl]; rfl
theorem OwnB.swp {w : World} {base n c g : Nat} {l : List UInt8} (h : OwnB w base (some ⟨g, 0, none⟩) n c l) (i j : Nat) :
    OwnB ((w.setCell ⟨g, i, none⟩ (.int .u8 ((l.getD j 0).toNat : Int))).setCell ⟨g, j, none⟩ (.int .u8 ((l.getD i 0).toNat : Int))) base (some ⟨g, 0, none⟩) n c (Srt.swp l i j) := (h.store i _).store j _
theorem Keeps.two {w : World} (g i j : Nat) (x y : Value) : Keeps (fun k => k = g) w ((w.setCell ⟨g, i, none⟩ x).setCell ⟨g, j, none⟩ y) := (Keeps.setCell w ⟨g, i, none⟩ x).trans (Keeps.setCell _ ⟨g, j, none⟩ y) fun _ _ h => h
set_option maxHeartbeats 2000000 in
set_option maxRecDepth 10000 in
theorem sort_insertion {K : UInt8 → Nat} (hK : ∀ x y, K x = K y → x = y) {g n c base a b : Nat} {p0 p1 p2 p3 : Value} {l0 : List UInt8} {w : World} (ho : OwnB w base (some ⟨g, 0, none⟩) n c l0) (hn : n ≤ 100000) (hab : a ≤ b) (hb : b ≤ n)
    (hasc : (Srt.seg l0 a b).Pairwise (· < ·)) (hc : CmpOK K g p0 p1 p2 p3 w) {ai bi : Int} (hai : ai = (a : Int)) (hbi : bi = (b : Int)) :
    Calls Try.prog 47 #[.slice (some ⟨g, 0, none⟩) n c, .int .i64 ai, .int .i64 bi, cmpV p0 p1 p2 p3] w fun e w' =>
      e = .returned (.tuple #[]) ∧ ∃ l', OwnB w' base (some ⟨g, 0, none⟩) n c l' ∧ Srt.Made K l0 a b l' ∧ Keeps (fun k => k = g) w w' := by
  subst hai hbi
  have HO := hide ho
  have HC := hide hc
  have hl0 := ho.len
  have HA := hide hasc
  clear ho hc hasc
  go_enter Try.func47, Try.ntmps47
  go_wp2_with fail
  go_loopg [8] (b - a) (fun gg s wr => ∃ (i : Nat) (l M : List UInt8), a + 1 ≤ i ∧ (i ≤ b ∨ i = a + 1) ∧ gg = b + 1 - i ∧ s = .int .i64 i ∧ Hid (OwnB wr base (some ⟨g, 0, none⟩) n c l) ∧ Hid (Keeps (fun k => k = g) w wr) ∧
    Hid ((b ≤ a ∧ l = l0) ∨ a < b ∧ l = l0.take a ++ (M ++ l0.drop i) ∧ M.Perm (Srt.seg l0 a i) ∧ Srt.Sorted K M))
  case atStart =>
    refine ⟨a + 1, l0, Srt.seg l0 a (a + 1), by omega, .inr rfl, by omega, by go_num, HO, Keeps.refl _ _, ?_⟩
    by_cases h : b ≤ a
    · exact .inl ⟨h, rfl⟩
    · refine .inr ⟨by omega, Srt.split3 (by omega), List.Perm.refl _, ?_⟩
      rw [Srt.seg_one (by omega)]
      exact List.pairwise_singleton _ _
  case round =>
    obtain ⟨i, l, M, hi, hib, rfl, rfl, HOl, HK1, HM⟩ := hrel
    by_cases hlt : i < b
    · have hM0 := HM.out
      have hM1 : l = l0.take a ++ (M ++ l0.drop i) ∧ M.Perm (Srt.seg l0 a i) ∧ Srt.Sorted K M := by
        rcases hM0 with h | h
        · omega
        · exact h.2
      obtain ⟨hM2, hM3, hM4⟩ := hM1
      obtain ⟨x, hx⟩ : ∃ x, x = l0.getD i 0 := ⟨_, rfl⟩
      have HX := hide hx
      have hta : (l0.take a).length = a := by rw [List.length_take]; omega
      have HTA := hide hta
      have hMl : M.length = i - a := by rw [hM3.length_eq, Srt.seg_len (by omega) (by omega)]
      have hdrop : l0.drop i = x :: l0.drop (i + 1) := by
        rw [List.drop_eq_getElem_cons (by omega), hx, List.getD_eq_getElem?_getD, List.getElem?_eq_getElem (by omega)]; rfl
      have HLT : Hid (∀ y ∈ M, y < x) := by
        show ∀ y ∈ M, _
        intro y hy
        obtain ⟨k, k1, k2, k3, rfl⟩ := Srt.mem_seg (hM3.mem_iff.1 hy)
        have hp := HA.out
        have := (List.pairwise_iff_getElem.1 hp) (k - a) (i - a) (by rw [Srt.seg_len hab (by omega)]; omega) (by rw [Srt.seg_len hab (by omega)]; omega) (by omega)
        have e1 : (Srt.seg l0 a b)[k - a]'(by rw [Srt.seg_len hab (by omega)]; omega) = l0.getD k 0 := by
          have h1 := Srt.seg_getD (l := l0) (i := a) (j := b) (k := k - a) (by omega)
          rw [List.getD_eq_getElem?_getD, List.getElem?_eq_getElem (by rw [Srt.seg_len hab (by omega)]; omega), show a + (k - a) = k by omega] at h1
          exact h1
        have e2 : (Srt.seg l0 a b)[i - a]'(by rw [Srt.seg_len hab (by omega)]; omega) = l0.getD i 0 := by
          have h1 := Srt.seg_getD (l := l0) (i := a) (j := b) (k := i - a) (by omega)
          rw [List.getD_eq_getElem?_getD, List.getElem?_eq_getElem (by rw [Srt.seg_len hab (by omega)]; omega), show a + (i - a) = i by omega] at h1
          exact h1
        rw [e1, e2] at this
        rw [hx]; exact this
      have HM3 := hide hM3
      have START : Hid (l = l0.take a ++ (M ++ x :: ([] ++ l0.drop (i + 1)))) := by show _ = _; rw [hM2, hdrop]; rfl
      have HMS := hide hM4
      have HML := hide hMl
      have CLOSE : Hid (∀ P Q : List UInt8, (P ++ Q).Perm M → Srt.Sorted K (P ++ Q) → (∀ q ∈ Q, K x < K q) → (∀ p ∈ P, K p < K x) → (b ≤ a ∧ l0.take a ++ (P ++ x :: (Q ++ l0.drop (i + 1))) = l0) ∨ a < b ∧ l0.take a ++ (P ++ x :: (Q ++ l0.drop (i + 1))) = l0.take a ++ ((P ++ x :: Q) ++ l0.drop (i + 1)) ∧ (P ++ x :: Q).Perm (Srt.seg l0 a (i + 1)) ∧ Srt.Sorted K (P ++ x :: Q)) := by
        show ∀ P Q : List UInt8, _
        intro P Q hp hs hq hpp
        refine .inr ⟨by omega, by simp, ?_, Srt.insert_sorted hs hpp hq⟩
        rw [Srt.seg_seg (l := l0) (i := a) (j := i) (k := i + 1) (by omega) (by omega), Srt.seg_one (by omega), ← hx]
        exact (Srt.perm_insert P Q x).trans ((hp.trans hM3).append_right [x])
      clear hM0 hM2 hM3 hM4 hx hta hMl hdrop HM
      go_wp2_with fail
      go_loopg [9] (i - a) (fun gg s wr => ∃ (j : Nat) (P Q : List UInt8), a ≤ j ∧ gg = j - a ∧ s = .int .i64 j ∧ Hid (P.length = j - a ∧ Q.length + P.length = i - a ∧ (P ++ Q).Perm M) ∧ Hid (OwnB wr base (some ⟨g, 0, none⟩) n c (l0.take a ++ (P ++ x :: (Q ++ l0.drop (i + 1))))) ∧ Hid (Keeps (fun k => k = g) w wr) ∧ Hid (Srt.Sorted K (P ++ Q) ∧ ∀ q ∈ Q, K x < K q))
      case atStart => exact ⟨i, M, [], by omega, rfl, rfl, ⟨HML.out, by have := HML.out; simpa using this, by rw [List.append_nil]⟩, by show OwnB _ _ _ _ _ _; rw [← START.out]; exact HOl.out, HK1, ⟨by rw [List.append_nil]; exact HMS.out, by simp⟩⟩
      case round =>
        clear HOl HK1 START
        obtain ⟨j, P, Q, haj, rfl, rfl, HP, HOl, HK1, HS⟩ := hrel
        by_cases hj : a < j
        · obtain ⟨q, rfl⟩ : ∃ q, j = q + 1 := ⟨j - 1, by omega⟩
          have hq : a ≤ q := by omega
          obtain ⟨P', y, hPy⟩ : ∃ P' y, P = P' ++ [y] := by
            have hPl := HP.out.1
            rcases List.eq_nil_or_concat P with h | ⟨P', y, h⟩
            · rw [h] at hPl; simp at hPl; omega
            · exact ⟨P', y, by rw [h, List.concat_eq_append]⟩
          subst hPy
          have hPl' : P'.length = q - a := by have := HP.out.1; rw [List.length_append] at this; simp at this; omega
          obtain ⟨L, hL⟩ : ∃ L, L = l0.take a ++ ((P' ++ [y]) ++ x :: (Q ++ l0.drop (i + 1))) := ⟨_, rfl⟩
          have HOL : Hid (OwnB wr base (some ⟨g, 0, none⟩) n c L) := by show OwnB _ _ _ _ _ _; rw [hL]; exact HOl.out
          have hLy : L.getD q 0 = y := by
            rw [hL, show l0.take a ++ ((P' ++ [y]) ++ x :: (Q ++ l0.drop (i + 1))) = (l0.take a ++ P') ++ y :: ([] ++ x :: (Q ++ l0.drop (i + 1))) by simp]
            exact Srt.getD_mid _ _ _ _ (by rw [List.length_append, HTA.out]; omega)
          have hLx : L.getD (q + 1) 0 = x := by
            rw [hL, show l0.take a ++ ((P' ++ [y]) ++ x :: (Q ++ l0.drop (i + 1))) = (l0.take a ++ (P' ++ [y])) ++ x :: (Q ++ l0.drop (i + 1)) by simp]
            exact Srt.getD_mid _ _ _ _ (by rw [List.length_append, HTA.out, List.length_append]; simp; omega)
          have hswp : Hid (Srt.swp L (q + 1) q = l0.take a ++ (P' ++ x :: ((y :: Q) ++ l0.drop (i + 1)))) := by
            show _ = _
            rw [Srt.swp_comm _ _ _ (by omega), hL, show l0.take a ++ ((P' ++ [y]) ++ x :: (Q ++ l0.drop (i + 1))) = (l0.take a ++ P') ++ y :: ([] ++ x :: (Q ++ l0.drop (i + 1))) by simp, Srt.swp_parts _ _ _ _ _ _ _ (by rw [List.length_append, HTA.out]; omega) (by simp)]
            simp
          have hqi : q < i := by have := HP.out.2.1; rw [List.length_append] at this; simp at this; omega
          have cq := HOL.out.getD (j := q) (by omega)
          have cj := HOL.out.getD (j := q + 1) (by omega)
          rw [hLy] at cq
          rw [hLx] at cj
          have fq := HOL.out.frozen q
          have fj := HOL.out.frozen (q + 1)
          have hyx : Hid (y < x) := by
            show y < x
            exact HLT.out y (HP.out.2.2.mem_iff.1 (by simp))
          obtain ⟨r, hr⟩ : ∃ r, decide (K x < K y) = r := ⟨_, rfl⟩
          have HRR := hide hr
          have OSW : Hid (∀ w', OwnB w' base (some ⟨g, 0, none⟩) n c L → OwnB ((w'.setCell ⟨g, q + 1, none⟩ (.int .u8 (y.toNat : Int))).setCell ⟨g, q, none⟩ (.int .u8 (x.toNat : Int))) base (some ⟨g, 0, none⟩) n c (l0.take a ++ (P' ++ x :: ((y :: Q) ++ l0.drop (i + 1))))) := by
            show ∀ w', _
            intro w' h
            have := h.swp (q + 1) q
            rwa [hLy, hLx, hswp.out] at this
          have a1 : IntKind.i64.wrap (q : Int) = (q : Int) := by rw [IntKind.wrap_i64]; omega
          have a1' : IntKind.i64.wrap ((q : Int) + 1 - 1) = (q : Int) := by rw [IntKind.wrap_i64]; omega
          have a2 : (q : Int) < (n : Int) := by omega
          have a3 : (q : Int) + 1 < (n : Int) := by omega
          have a4 : ((q : Int) + 1).toNat = q + 1 := by omega
          have a5 : (0 : Int) ≤ (q : Int) + 1 := by omega
          have d0 : decide ((a : Int) < (q : Int) + 1) = true := decide_eq_true (by omega)
          have HLL := hide hL
          clear hLy hLx hswp hr hj hL
          go_upto_region 4 with fail
          refine wp_region_noPanic ?_
          refine wp_region_held_drew (S := (fun w' => w'.cell? ⟨g, q, none⟩ = some (.int .u8 (y.toNat : Int)) ∧ w'.cell? ⟨g, q + 1, none⟩ = some (.int .u8 (x.toNat : Int)))) (by kernel_rfl) ⟨cq, cj⟩ (fun hHeld => ?_)
          refine wpAnyH_take (i := 0) (oi := ?_) (v := ?_) ?_ (by kernel_rfl) (by kernel_rfl) (by kernel_rfl) ?_ ?_ (by assumption) ?_
          rotate_left 2
          · (simp only [List.getElem?_toArray, List.getElem?_cons_zero]; rfl)
          · exact fun _ _ _ h => h
          · (refine Or.inl ⟨by rfl, ?_⟩; intro w hSw; (try dsimp only at hSw); go_simp <;> with_reducible rfl)
          try simp only [Act.put, List.setIfInBounds_toArray, List.set_cons_zero, List.set_cons_succ]
          refine wpAnyH_take (i := 1) (oi := ?_) (v := ?_) ?_ (by kernel_rfl) (by kernel_rfl) (by kernel_rfl) ?_ ?_ (by assumption) ?_
          rotate_left 2
          · (simp only [List.getElem?_toArray, List.getElem?_cons_succ, List.getElem?_cons_zero]; rfl)
          · exact fun _ _ _ h => h
          · (refine Or.inl ⟨by rfl, ?_⟩; intro w hSw; (try dsimp only at hSw); go_simp <;> with_reducible rfl)
          try simp only [Act.put, List.setIfInBounds_toArray, List.set_cons_zero, List.set_cons_succ]
          refine wpAnyH_take (i := 2) (oi := ?_) (v := ?_) ?_ (by kernel_rfl) (by kernel_rfl) (by kernel_rfl) ?_ ?_ (by assumption) ?_
          rotate_left 2
          · (simp only [List.getElem?_toArray, List.getElem?_cons_succ, List.getElem?_cons_zero]; rfl)
          · exact fun _ _ _ h => h
          · (refine Or.inl ⟨by rfl, ?_⟩; intro w hSw; (try dsimp only at hSw); go_simp <;> with_reducible rfl)
          try simp only [Act.put, List.setIfInBounds_toArray, List.set_cons_zero, List.set_cons_succ]
          refine wpAnyH_take (i := 3) (oi := ?_) (v := ?_) ?_ (by kernel_rfl) (by kernel_rfl) (by kernel_rfl) ?_ ?_ (by assumption) ?_
          rotate_left 2
          · (simp only [List.getElem?_toArray, List.getElem?_cons_succ, List.getElem?_cons_zero]; rfl)
          · exact fun _ _ _ h => h
          · (refine Or.inl ⟨by rfl, ?_⟩; intro w hSw; (try dsimp only at hSw); go_simp <;> with_reducible rfl)
          try simp only [Act.put, List.setIfInBounds_toArray, List.set_cons_zero, List.set_cons_succ]
          refine wpAnyH_take (i := 4) (oi := ?_) (v := ?_) ?_ (by kernel_rfl) (by kernel_rfl) (by kernel_rfl) ?_ ?_ (by assumption) ?_
          rotate_left 2
          · (simp only [List.getElem?_toArray, List.getElem?_cons_succ, List.getElem?_cons_zero]; rfl)
          · exact fun _ _ _ h => h
          · (refine Or.inl ⟨by rfl, ?_⟩; intro w hSw; (try dsimp only at hSw); go_simp <;> with_reducible rfl)
          try simp only [Act.put, List.setIfInBounds_toArray, List.set_cons_zero, List.set_cons_succ]
          refine wpAnyH_take (i := 5) (oi := ?_) (v := ?_) ?_ (by kernel_rfl) (by kernel_rfl) (by kernel_rfl) ?_ ?_ (by assumption) ?_
          rotate_left 2
          · (simp only [List.getElem?_toArray, List.getElem?_cons_succ, List.getElem?_cons_zero]; rfl)
          · exact fun _ _ _ h => h
          · (refine Or.inl ⟨by rfl, ?_⟩; intro w hSw; (try dsimp only at hSw); go_simp <;> with_reducible rfl)
          try simp only [Act.put, List.setIfInBounds_toArray, List.set_cons_zero, List.set_cons_succ]
          refine wpAnyH_take (i := 6) (oi := ?_) (v := ?_) ?_ (by kernel_rfl) (by kernel_rfl) (by kernel_rfl) ?_ ?_ (by assumption) ?_
          rotate_left 2
          · (simp only [List.getElem?_toArray, List.getElem?_cons_succ, List.getElem?_cons_zero]; rfl)
          · exact fun _ _ _ h => h
          · (refine Or.inl ⟨by rfl, ?_⟩; intro w hSw; (try dsimp only at hSw); go_simp <;> with_reducible rfl)
          try simp only [Act.put, List.setIfInBounds_toArray, List.set_cons_zero, List.set_cons_succ]
          refine wpAnyH_take (i := 7) (oi := ?_) (v := ?_) ?_ (by kernel_rfl) (by kernel_rfl) (by kernel_rfl) ?_ ?_ (by assumption) ?_
          rotate_left 2
          · (simp only [List.getElem?_toArray, List.getElem?_cons_succ, List.getElem?_cons_zero]; rfl)
          · exact fun _ _ _ h => h
          · (refine Or.inl ⟨by rfl, ?_⟩; intro w hSw; (try dsimp only at hSw); go_simp <;> with_reducible rfl)
          try simp only [Act.put, List.setIfInBounds_toArray, List.set_cons_zero, List.set_cons_succ]
          refine wpAnyH_take (i := 8) (oi := ?_) (v := ?_) ?_ (by kernel_rfl) (by kernel_rfl) (by kernel_rfl) ?_ ?_ (by assumption) ?_
          rotate_left 2
          · (simp only [List.getElem?_toArray, List.getElem?_cons_succ, List.getElem?_cons_zero]; rfl)
          · exact fun _ _ _ h => h
          · (refine Or.inl ⟨by rfl, ?_⟩; intro w hSw; (try dsimp only at hSw); go_simp <;> with_reducible rfl)
          try simp only [Act.put, List.setIfInBounds_toArray, List.set_cons_zero, List.set_cons_succ]
          refine wpAnyH_take (i := 9) (oi := ?_) (v := ?_) ?_ (by kernel_rfl) (by kernel_rfl) (by kernel_rfl) ?_ ?_ (by assumption) ?_
          rotate_left 2
          · (simp only [List.getElem?_toArray, List.getElem?_cons_succ, List.getElem?_cons_zero]; rfl)
          · exact fun _ _ _ h => h
          · (refine Or.inl ⟨by rfl, ?_⟩; intro w hSw; (try dsimp only at hSw); go_simp <;> with_reducible rfl)
          try simp only [Act.put, List.setIfInBounds_toArray, List.set_cons_zero, List.set_cons_succ]
          refine wpAnyH_take (i := 10) (oi := ?_) (v := ?_) ?_ (by kernel_rfl) (by kernel_rfl) (by kernel_rfl) ?_ ?_ (by assumption) ?_
          rotate_left 2
          · (simp only [List.getElem?_toArray, List.getElem?_cons_succ, List.getElem?_cons_zero]; rfl)
          · exact fun _ _ _ h => h
          · (refine Or.inl ⟨by rfl, ?_⟩; intro w hSw; (try dsimp only at hSw); go_simp <;> with_reducible rfl)
          try simp only [Act.put, List.setIfInBounds_toArray, List.set_cons_zero, List.set_cons_succ]
          refine wpAnyH_take (i := 11) (oi := ?_) (v := ?_) ?_ (by kernel_rfl) (by kernel_rfl) (by kernel_rfl) ?_ ?_ (by assumption) ?_
          rotate_left 2
          · (simp only [List.getElem?_toArray, List.getElem?_cons_succ, List.getElem?_cons_zero]; rfl)
          · exact fun _ _ _ h => h
          · (refine Or.inl ⟨by rfl, ?_⟩; intro w hSw; (try dsimp only at hSw); go_simp <;> with_reducible rfl)
          try simp only [Act.put, List.setIfInBounds_toArray, List.set_cons_zero, List.set_cons_succ]
          refine wpAnyH_take (i := 12) (oi := ?_) (v := ?_) ?_ (by kernel_rfl) (by kernel_rfl) (by kernel_rfl) ?_ ?_ (by assumption) ?_
          rotate_left 2
          · (simp only [List.getElem?_toArray, List.getElem?_cons_succ, List.getElem?_cons_zero]; rfl)
          · exact fun _ _ _ h => h
          · (refine Or.inl ⟨by rfl, ?_⟩; intro w hSw; (try dsimp only at hSw); go_simp <;> with_reducible rfl)
          try simp only [Act.put, List.setIfInBounds_toArray, List.set_cons_zero, List.set_cons_succ]
          refine wpAnyH_take (i := 13) (oi := ?_) (v := ?_) ?_ (by kernel_rfl) (by kernel_rfl) (by kernel_rfl) ?_ ?_ (by assumption) ?_
          rotate_left 2
          · (simp only [List.getElem?_toArray, List.getElem?_cons_succ, List.getElem?_cons_zero]; rfl)
          · exact fun _ _ _ h => h
          · (refine Or.inl ⟨by rfl, ?_⟩; intro w hSw; (try dsimp only at hSw); go_simp <;> with_reducible rfl)
          try simp only [Act.put, List.setIfInBounds_toArray, List.set_cons_zero, List.set_cons_succ]
          refine wpAnyH_ready (rs := [14]) (by kernel_rfl) (by simp) ?_
          refine AllReadyH.cons (o := ?_) ?_ (fun K hK => ?_) AllReadyH.nil
          rotate_left 1
          · (simp only [List.getElem?_toArray, List.getElem?_cons_succ, List.getElem?_cons_zero]; rfl)
          go_simp
          refine Calls.mono (HC.out _ HK1.out.drew1 x y hyx.out) ?_
          rintro e w2 ⟨v, rfl, hv, hb2⟩
          rw [HRR.out] at hv
          have O2 := HOL.out.drew.below hb2
          have HK2 := HK1.out.drew1.below1 hb2
          have cq2 := (hb2.cell (p := ⟨g, q, none⟩) HOL.out.lt.2).trans cq
          have cj2 := (hb2.cell (p := ⟨g, q + 1, none⟩) HOL.out.lt.2).trans cj
          refine hK.out _ _ ⟨cq2, cj2⟩ (fun hHeld => ?_)
          clear hK K
          try simp only [Act.put, List.setIfInBounds_toArray, List.set_cons_zero, List.set_cons_succ]
          refine wpAnyH_take (i := 15) (oi := ?_) (v := ?_) ?_ (by kernel_rfl) (by kernel_rfl) (by kernel_rfl) ?_ ?_ (by assumption) ?_
          rotate_left 2
          · (simp only [List.getElem?_toArray, List.getElem?_cons_succ, List.getElem?_cons_zero]; rfl)
          · exact fun _ _ _ h => h
          · (refine Or.inl ⟨by rfl, ?_⟩; intro w hSw; (try dsimp only at hSw); go_simp <;> with_reducible rfl)
          try simp only [Act.put, List.setIfInBounds_toArray, List.set_cons_zero, List.set_cons_succ]
          refine wpAnyH_take (i := 16) (oi := ?_) (v := ?_) ?_ (by kernel_rfl) (by kernel_rfl) (by kernel_rfl) ?_ ?_ (by assumption) ?_
          rotate_left 2
          · (simp only [List.getElem?_toArray, List.getElem?_cons_succ, List.getElem?_cons_zero]; rfl)
          · exact fun _ _ _ h => h
          · (refine Or.inl ⟨by rfl, ?_⟩; intro w hSw; (try dsimp only at hSw); go_simp <;> with_reducible rfl)
          try simp only [Act.put, List.setIfInBounds_toArray, List.set_cons_zero, List.set_cons_succ]
          refine wpAnyH_done (by kernel_rfl) (NoPanic.normal ?_) _
          have HO2 := hide O2
          have HKK2 := hide HK2
          clear O2 HK2 hb2 cq cj fq fj hHeld
          have fq := HO2.out.frozen q
          have fj := HO2.out.frozen (q + 1)
          cases r
          · have hlast : Hid (∀ p ∈ P' ++ [y], K p < K x) := by
              show ∀ p ∈ P' ++ [y], _
              have hyK : K y < K x := by
                have h1 := of_decide_eq_false HRR.out
                rcases Nat.lt_or_ge (K y) (K x) with h | h
                · exact h
                · have e := hK x y (by omega)
                  have := hyx.out
                  rw [e] at this
                  exact absurd this (by simp)
              intro p hp
              rcases List.mem_append.1 hp with hp | hp
              · have := HS.out.1.left.cross p hp y (by simp)
                omega
              · rw [List.mem_singleton.1 hp]; exact hyK
            have HFIN := hide (CLOSE.out (P' ++ [y]) Q HP.out.2.2 HS.out.1 HS.out.2 hlast.out)
            have HO3 : Hid (OwnB w2 base (some ⟨g, 0, none⟩) n c (l0.take a ++ ((P' ++ [y]) ++ x :: (Q ++ l0.drop (i + 1))))) := by show OwnB _ _ _ _ _ _; rw [← HLL.out]; exact HO2.out
            go_wp2_with fail
            go_roundg (b + 1 - (i + 1))
            case measure => omega
            case rel => exact ⟨i + 1, _, (P' ++ [y]) ++ x :: Q, by omega, .inl (by omega), rfl, by go_num, HO3, HKK2, HFIN⟩
          · have OS2 : Hid (OwnB ((w2.drew.setCell ⟨g, q + 1, none⟩ (.int .u8 (y.toNat : Int))).setCell ⟨g, q, none⟩ (.int .u8 (x.toNat : Int))) base (some ⟨g, 0, none⟩) n c (l0.take a ++ (P' ++ x :: ((y :: Q) ++ l0.drop (i + 1))))) := OSW.out w2.drew HO2.out.drew
            have KS2 : Hid (Keeps (fun k => k = g) w ((w2.drew.setCell ⟨g, q + 1, none⟩ (.int .u8 (y.toNat : Int))).setCell ⟨g, q, none⟩ (.int .u8 (x.toNat : Int)))) := HKK2.out.drew1.trans (Keeps.two g (q + 1) q _ _) fun _ _ h => h
            have HP1 : Hid (P'.length = q - a ∧ (y :: Q).length + P'.length = i - a ∧ (P' ++ y :: Q).Perm M) := ⟨hPl', by have := HP.out.2.1; simp only [List.length_append, List.length_cons, List.length_nil] at this ⊢; omega, by have := HP.out.2.2; simpa using this⟩
            have HS2 : Hid (Srt.Sorted K (P' ++ y :: Q) ∧ ∀ q ∈ y :: Q, K x < K q) := ⟨by have := HS.out.1; simpa using this, by
              intro z hz
              rcases List.mem_cons.1 hz with rfl | hz
              · exact of_decide_eq_true HRR.out
              · exact HS.out.2 z hz⟩
            go_upto_region 6 with fail
            refine wp_region_noPanic ?_
            refine wp_region_held_drew (S := (fun _ => True)) (by kernel_rfl) trivial (fun hHeld => ?_)
            refine wpAnyH_take (i := 0) (oi := ?_) (v := ?_) ?_ (by kernel_rfl) (by kernel_rfl) (by kernel_rfl) ?_ ?_ (by assumption) ?_
            rotate_left 2
            · (simp only [List.getElem?_toArray, List.getElem?_cons_zero]; rfl)
            · exact fun _ _ _ h => h
            · (refine Or.inl ⟨by rfl, ?_⟩; intro w hSw; (try dsimp only at hSw); go_simp <;> with_reducible rfl)
            try simp only [Act.put, List.setIfInBounds_toArray, List.set_cons_zero, List.set_cons_succ]
            refine wpAnyH_take (i := 1) (oi := ?_) (v := ?_) ?_ (by kernel_rfl) (by kernel_rfl) (by kernel_rfl) ?_ ?_ (by assumption) ?_
            rotate_left 2
            · (simp only [List.getElem?_toArray, List.getElem?_cons_succ, List.getElem?_cons_zero]; rfl)
            · exact fun _ _ _ h => h
            · (refine Or.inl ⟨by rfl, ?_⟩; intro w hSw; (try dsimp only at hSw); go_simp <;> with_reducible rfl)
            try simp only [Act.put, List.setIfInBounds_toArray, List.set_cons_zero, List.set_cons_succ]
            refine wpAnyH_take (i := 2) (oi := ?_) (v := ?_) ?_ (by kernel_rfl) (by kernel_rfl) (by kernel_rfl) ?_ ?_ (by assumption) ?_
            rotate_left 2
            · (simp only [List.getElem?_toArray, List.getElem?_cons_succ, List.getElem?_cons_zero]; rfl)
            · exact fun _ _ _ h => h
            · (refine Or.inl ⟨by rfl, ?_⟩; intro w hSw; (try dsimp only at hSw); go_simp <;> with_reducible rfl)
            try simp only [Act.put, List.setIfInBounds_toArray, List.set_cons_zero, List.set_cons_succ]
            refine wpAnyH_take (i := 3) (oi := ?_) (v := ?_) ?_ (by kernel_rfl) (by kernel_rfl) (by kernel_rfl) ?_ ?_ (by assumption) ?_
            rotate_left 2
            · (simp only [List.getElem?_toArray, List.getElem?_cons_succ, List.getElem?_cons_zero]; rfl)
            · exact fun _ _ _ h => h
            · (refine Or.inl ⟨by rfl, ?_⟩; intro w hSw; (try dsimp only at hSw); go_simp <;> with_reducible rfl)
            try simp only [Act.put, List.setIfInBounds_toArray, List.set_cons_zero, List.set_cons_succ]
            refine wpAnyH_take (i := 4) (oi := ?_) (v := ?_) ?_ (by kernel_rfl) (by kernel_rfl) (by kernel_rfl) ?_ ?_ (by assumption) ?_
            rotate_left 2
            · (simp only [List.getElem?_toArray, List.getElem?_cons_succ, List.getElem?_cons_zero]; rfl)
            · exact fun _ _ _ h => h
            · (refine Or.inl ⟨by rfl, ?_⟩; intro w hSw; (try dsimp only at hSw); go_simp <;> with_reducible rfl)
            try simp only [Act.put, List.setIfInBounds_toArray, List.set_cons_zero, List.set_cons_succ]
            refine wpAnyH_take (i := 5) (oi := ?_) (v := ?_) ?_ (by kernel_rfl) (by kernel_rfl) (by kernel_rfl) ?_ ?_ (by assumption) ?_
            rotate_left 2
            · (simp only [List.getElem?_toArray, List.getElem?_cons_succ, List.getElem?_cons_zero]; rfl)
            · exact fun _ _ _ h => h
            · (refine Or.inl ⟨by rfl, ?_⟩; intro w hSw; (try dsimp only at hSw); go_simp <;> with_reducible rfl)
            try simp only [Act.put, List.setIfInBounds_toArray, List.set_cons_zero, List.set_cons_succ]
            refine wpAnyH_take (i := 6) (oi := ?_) (v := ?_) ?_ (by kernel_rfl) (by kernel_rfl) (by kernel_rfl) ?_ ?_ (by assumption) ?_
            rotate_left 2
            · (simp only [List.getElem?_toArray, List.getElem?_cons_succ, List.getElem?_cons_zero]; rfl)
            · exact fun _ _ _ h => h
            · (refine Or.inl ⟨by rfl, ?_⟩; intro w hSw; (try dsimp only at hSw); go_simp <;> with_reducible rfl)
            try simp only [Act.put, List.setIfInBounds_toArray, List.set_cons_zero, List.set_cons_succ]
            refine wpAnyH_take (i := 7) (oi := ?_) (v := ?_) ?_ (by kernel_rfl) (by kernel_rfl) (by kernel_rfl) ?_ ?_ (by assumption) ?_
            rotate_left 2
            · (simp only [List.getElem?_toArray, List.getElem?_cons_succ, List.getElem?_cons_zero]; rfl)
            · exact fun _ _ _ h => h
            · (refine Or.inl ⟨by rfl, ?_⟩; intro w hSw; (try dsimp only at hSw); go_simp <;> with_reducible rfl)
            try simp only [Act.put, List.setIfInBounds_toArray, List.set_cons_zero, List.set_cons_succ]
            refine wpAnyH_take (i := 8) (oi := ?_) (v := ?_) ?_ (by kernel_rfl) (by kernel_rfl) (by kernel_rfl) ?_ ?_ (by assumption) ?_
            rotate_left 2
            · (simp only [List.getElem?_toArray, List.getElem?_cons_succ, List.getElem?_cons_zero]; rfl)
            · exact fun _ _ _ h => h
            · (refine Or.inl ⟨by rfl, ?_⟩; intro w hSw; (try dsimp only at hSw); go_simp <;> with_reducible rfl)
            try simp only [Act.put, List.setIfInBounds_toArray, List.set_cons_zero, List.set_cons_succ]
            refine wpAnyH_take (i := 10) (oi := ?_) (v := ?_) ?_ (by kernel_rfl) (by kernel_rfl) (by kernel_rfl) ?_ ?_ (by assumption) ?_
            rotate_left 2
            · (simp only [List.getElem?_toArray, List.getElem?_cons_succ, List.getElem?_cons_zero]; rfl)
            · exact fun _ _ _ h => h
            · (refine Or.inl ⟨by rfl, ?_⟩; intro w hSw; (try dsimp only at hSw); go_simp <;> with_reducible rfl)
            try simp only [Act.put, List.setIfInBounds_toArray, List.set_cons_zero, List.set_cons_succ]
            refine wpAnyH_take (i := 11) (oi := ?_) (v := ?_) ?_ (by kernel_rfl) (by kernel_rfl) (by kernel_rfl) ?_ ?_ (by assumption) ?_
            rotate_left 2
            · (simp only [List.getElem?_toArray, List.getElem?_cons_succ, List.getElem?_cons_zero]; rfl)
            · exact fun _ _ _ h => h
            · (refine Or.inl ⟨by rfl, ?_⟩; intro w hSw; (try dsimp only at hSw); go_simp <;> with_reducible rfl)
            try simp only [Act.put, List.setIfInBounds_toArray, List.set_cons_zero, List.set_cons_succ]
            refine wpAnyH_take (i := 12) (oi := ?_) (v := ?_) ?_ (by kernel_rfl) (by kernel_rfl) (by kernel_rfl) ?_ ?_ (by assumption) ?_
            rotate_left 2
            · (simp only [List.getElem?_toArray, List.getElem?_cons_succ, List.getElem?_cons_zero]; rfl)
            · exact fun _ _ _ h => h
            · (refine Or.inl ⟨by rfl, ?_⟩; intro w hSw; (try dsimp only at hSw); go_simp <;> with_reducible rfl)
            try simp only [Act.put, List.setIfInBounds_toArray, List.set_cons_zero, List.set_cons_succ]
            refine wpAnyH_ready (rs := [9, 13]) (by kernel_rfl) (by simp) ?_
            refine AllReadyH.cons (o := ?_) ?_ (fun K hK => ?_) ?_
            rotate_left 1
            · (simp only [List.getElem?_toArray, List.getElem?_cons_succ, List.getElem?_cons_zero]; rfl)
            · go_simp
              skip
              refine hK.out _ _ trivial (fun hHeld => ?_)
              clear hK K
              try simp only [Act.put, List.setIfInBounds_toArray, List.set_cons_zero, List.set_cons_succ]
              refine wpAnyH_ready (rs := [13]) (by kernel_rfl) (by simp) ?_
              refine AllReadyH.cons (o := ?_) ?_ (fun K hK => ?_) AllReadyH.nil
              rotate_left 1
              · (simp only [List.getElem?_toArray, List.getElem?_cons_succ, List.getElem?_cons_zero]; rfl)
              go_simp
              refine hK.out _ _ trivial (fun hHeld => ?_)
              clear hK K
              try simp only [Act.put, List.setIfInBounds_toArray, List.set_cons_zero, List.set_cons_succ]
              refine wpAnyH_take (i := 14) (oi := ?_) (v := ?_) ?_ (by kernel_rfl) (by kernel_rfl) (by kernel_rfl) ?_ ?_ (by assumption) ?_
              rotate_left 2
              · (simp only [List.getElem?_toArray, List.getElem?_cons_succ, List.getElem?_cons_zero]; rfl)
              · exact fun _ _ _ h => h
              · (refine Or.inl ⟨by rfl, ?_⟩; intro w hSw; (try dsimp only at hSw); go_simp <;> with_reducible rfl)
              try simp only [Act.put, List.setIfInBounds_toArray, List.set_cons_zero, List.set_cons_succ]
              refine wpAnyH_ready (rs := [15]) (by kernel_rfl) (by simp) ?_
              refine AllReadyH.cons (o := ?_) ?_ (fun K hK => ?_) AllReadyH.nil
              rotate_left 1
              · (simp only [List.getElem?_toArray, List.getElem?_cons_succ, List.getElem?_cons_zero]; rfl)
              go_simp
              refine hK.out _ _ trivial (fun hHeld => ?_)
              clear hK K
              try simp only [Act.put]
              refine wpAnyH_take (i := 16) (oi := ?_) (v := ?_) ?_ (by kernel_rfl) (by kernel_rfl) (by kernel_rfl) ?_ ?_ (by assumption) ?_
              rotate_left 2
              · (simp only [List.getElem?_toArray, List.getElem?_cons_succ, List.getElem?_cons_zero]; rfl)
              · exact fun _ _ _ h => h
              · (refine Or.inl ⟨by rfl, ?_⟩; intro w hSw; (try dsimp only at hSw); go_simp <;> with_reducible rfl)
              try simp only [Act.put, List.setIfInBounds_toArray, List.set_cons_zero, List.set_cons_succ]
              refine wpAnyH_ready (rs := [17]) (by kernel_rfl) (by simp) ?_
              refine AllReadyH.cons (o := ?_) ?_ (fun K hK => ?_) AllReadyH.nil
              rotate_left 1
              · (simp only [List.getElem?_toArray, List.getElem?_cons_succ, List.getElem?_cons_zero]; rfl)
              go_simp
              refine hK.out _ _ trivial (fun hHeld => ?_)
              clear hK K
              try simp only [Act.put]
              refine wpAnyH_done (by kernel_rfl) (NoPanic.normal ?_) _
              go_wp2_with fail
              go_roundg (q - a)
              case measure => omega
              case rel => exact ⟨q, P', y :: Q, hq, rfl, by go_num, HP1.out, OS2.out, KS2.out, HS2.out⟩
            refine AllReadyH.cons (o := ?_) ?_ (fun K hK => ?_) ?_
            rotate_left 1
            · (simp only [List.getElem?_toArray, List.getElem?_cons_succ, List.getElem?_cons_zero]; rfl)
            · go_simp
              skip
              refine hK.out _ _ trivial (fun hHeld => ?_)
              clear hK K
              try simp only [Act.put, List.setIfInBounds_toArray, List.set_cons_zero, List.set_cons_succ]
              refine wpAnyH_ready (rs := [9]) (by kernel_rfl) (by simp) ?_
              refine AllReadyH.cons (o := ?_) ?_ (fun K hK => ?_) AllReadyH.nil
              rotate_left 1
              · (simp only [List.getElem?_toArray, List.getElem?_cons_succ, List.getElem?_cons_zero]; rfl)
              go_simp
              refine hK.out _ _ trivial (fun hHeld => ?_)
              clear hK K
              try simp only [Act.put, List.setIfInBounds_toArray, List.set_cons_zero, List.set_cons_succ]
              refine wpAnyH_take (i := 14) (oi := ?_) (v := ?_) ?_ (by kernel_rfl) (by kernel_rfl) (by kernel_rfl) ?_ ?_ (by assumption) ?_
              rotate_left 2
              · (simp only [List.getElem?_toArray, List.getElem?_cons_succ, List.getElem?_cons_zero]; rfl)
              · exact fun _ _ _ h => h
              · (refine Or.inl ⟨by rfl, ?_⟩; intro w hSw; (try dsimp only at hSw); go_simp <;> with_reducible rfl)
              try simp only [Act.put, List.setIfInBounds_toArray, List.set_cons_zero, List.set_cons_succ]
              refine wpAnyH_ready (rs := [15]) (by kernel_rfl) (by simp) ?_
              refine AllReadyH.cons (o := ?_) ?_ (fun K hK => ?_) AllReadyH.nil
              rotate_left 1
              · (simp only [List.getElem?_toArray, List.getElem?_cons_succ, List.getElem?_cons_zero]; rfl)
              go_simp
              refine hK.out _ _ trivial (fun hHeld => ?_)
              clear hK K
              try simp only [Act.put]
              refine wpAnyH_take (i := 16) (oi := ?_) (v := ?_) ?_ (by kernel_rfl) (by kernel_rfl) (by kernel_rfl) ?_ ?_ (by assumption) ?_
              rotate_left 2
              · (simp only [List.getElem?_toArray, List.getElem?_cons_succ, List.getElem?_cons_zero]; rfl)
              · exact fun _ _ _ h => h
              · (refine Or.inl ⟨by rfl, ?_⟩; intro w hSw; (try dsimp only at hSw); go_simp <;> with_reducible rfl)
              try simp only [Act.put, List.setIfInBounds_toArray, List.set_cons_zero, List.set_cons_succ]
              refine wpAnyH_ready (rs := [17]) (by kernel_rfl) (by simp) ?_
              refine AllReadyH.cons (o := ?_) ?_ (fun K hK => ?_) AllReadyH.nil
              rotate_left 1
              · (simp only [List.getElem?_toArray, List.getElem?_cons_succ, List.getElem?_cons_zero]; rfl)
              go_simp
              refine hK.out _ _ trivial (fun hHeld => ?_)
              clear hK K
              try simp only [Act.put]
              refine wpAnyH_done (by kernel_rfl) (NoPanic.normal ?_) _
              go_wp2_with fail
              go_roundg (q - a)
              case measure => omega
              case rel => exact ⟨q, P', y :: Q, hq, rfl, by go_num, HP1.out, OS2.out, KS2.out, HS2.out⟩
            exact AllReadyH.nil
        · obtain rfl : j = a := by omega
          have hPn : P = [] := List.eq_nil_of_length_eq_zero (by have := HP.out.1; omega)
          subst hPn
          have HFIN := hide (CLOSE.out [] Q HP.out.2.2 HS.out.1 HS.out.2 (by simp))
          have d0 : decide ((j : Int) < (j : Int)) = false := decide_eq_false (by omega)
          clear hj
          go_upto_region 4 with fail
          refine wp_region_noPanic ?_
          refine wp_region_held_drew (S := (fun _ => True)) (by kernel_rfl) trivial (fun hHeld => ?_)
          refine wpAnyH_take (i := 0) (oi := ?_) (v := ?_) ?_ (by kernel_rfl) (by kernel_rfl) (by kernel_rfl) ?_ ?_ (by assumption) ?_
          rotate_left 2
          · (simp only [List.getElem?_toArray, List.getElem?_cons_zero]; rfl)
          · exact fun _ _ _ h => h
          · (refine Or.inl ⟨by rfl, ?_⟩; intro w hSw; (try dsimp only at hSw); go_simp <;> with_reducible rfl)
          try simp only [Act.put, List.setIfInBounds_toArray, List.set_cons_zero, List.set_cons_succ]
          refine wpAnyH_take (i := 1) (oi := ?_) (v := ?_) ?_ (by kernel_rfl) (by kernel_rfl) (by kernel_rfl) ?_ ?_ (by assumption) ?_
          rotate_left 2
          · (simp only [List.getElem?_toArray, List.getElem?_cons_succ, List.getElem?_cons_zero]; rfl)
          · exact fun _ _ _ h => h
          · (refine Or.inl ⟨by rfl, ?_⟩; intro w hSw; (try dsimp only at hSw); go_simp <;> with_reducible rfl)
          try simp only [Act.put, List.setIfInBounds_toArray, List.set_cons_zero, List.set_cons_succ]
          refine wpAnyH_take (i := 2) (oi := ?_) (v := ?_) ?_ (by kernel_rfl) (by kernel_rfl) (by kernel_rfl) ?_ ?_ (by assumption) ?_
          rotate_left 2
          · (simp only [List.getElem?_toArray, List.getElem?_cons_succ, List.getElem?_cons_zero]; rfl)
          · exact fun _ _ _ h => h
          · (refine Or.inl ⟨by rfl, ?_⟩; intro w hSw; (try dsimp only at hSw); go_simp <;> with_reducible rfl)
          try simp only [Act.put, List.setIfInBounds_toArray, List.set_cons_zero, List.set_cons_succ]
          refine wpAnyH_take (i := 3) (oi := ?_) (v := ?_) ?_ (by kernel_rfl) (by kernel_rfl) (by kernel_rfl) ?_ ?_ (by assumption) ?_
          rotate_left 2
          · (simp only [List.getElem?_toArray, List.getElem?_cons_succ, List.getElem?_cons_zero]; rfl)
          · exact fun _ _ _ h => h
          · (refine Or.inl ⟨by rfl, ?_⟩; intro w hSw; (try dsimp only at hSw); go_simp <;> with_reducible rfl)
          try simp only [Act.put, List.setIfInBounds_toArray, List.set_cons_zero, List.set_cons_succ]
          refine wpAnyH_take (i := 4) (oi := ?_) (v := undef) ?_ (by kernel_rfl) (by kernel_rfl) (by kernel_rfl) ?_ ?_ (by assumption) ?_
          rotate_left 1
          · (simp only [List.getElem?_toArray, List.getElem?_cons_succ, List.getElem?_cons_zero]; rfl)
          · exact fun _ _ _ h => h
          · exact Or.inr ⟨by rfl, rfl⟩
          try simp only [Act.put, List.setIfInBounds_toArray, List.set_cons_zero, List.set_cons_succ]
          refine wpAnyH_take (i := 5) (oi := ?_) (v := undef) ?_ (by kernel_rfl) (by kernel_rfl) (by kernel_rfl) ?_ ?_ (by assumption) ?_
          rotate_left 1
          · (simp only [List.getElem?_toArray, List.getElem?_cons_succ, List.getElem?_cons_zero]; rfl)
          · exact fun _ _ _ h => h
          · exact Or.inr ⟨by rfl, rfl⟩
          try simp only [Act.put, List.setIfInBounds_toArray, List.set_cons_zero, List.set_cons_succ]
          refine wpAnyH_take (i := 6) (oi := ?_) (v := undef) ?_ (by kernel_rfl) (by kernel_rfl) (by kernel_rfl) ?_ ?_ (by assumption) ?_
          rotate_left 1
          · (simp only [List.getElem?_toArray, List.getElem?_cons_succ, List.getElem?_cons_zero]; rfl)
          · exact fun _ _ _ h => h
          · exact Or.inr ⟨by rfl, rfl⟩
          try simp only [Act.put, List.setIfInBounds_toArray, List.set_cons_zero, List.set_cons_succ]
          refine wpAnyH_take (i := 7) (oi := ?_) (v := undef) ?_ (by kernel_rfl) (by kernel_rfl) (by kernel_rfl) ?_ ?_ (by assumption) ?_
          rotate_left 1
          · (simp only [List.getElem?_toArray, List.getElem?_cons_succ, List.getElem?_cons_zero]; rfl)
          · exact fun _ _ _ h => h
          · exact Or.inr ⟨by rfl, rfl⟩
          try simp only [Act.put, List.setIfInBounds_toArray, List.set_cons_zero, List.set_cons_succ]
          refine wpAnyH_take (i := 8) (oi := ?_) (v := undef) ?_ (by kernel_rfl) (by kernel_rfl) (by kernel_rfl) ?_ ?_ (by assumption) ?_
          rotate_left 1
          · (simp only [List.getElem?_toArray, List.getElem?_cons_succ, List.getElem?_cons_zero]; rfl)
          · exact fun _ _ _ h => h
          · exact Or.inr ⟨by rfl, rfl⟩
          try simp only [Act.put, List.setIfInBounds_toArray, List.set_cons_zero, List.set_cons_succ]
          refine wpAnyH_take (i := 9) (oi := ?_) (v := undef) ?_ (by kernel_rfl) (by kernel_rfl) (by kernel_rfl) ?_ ?_ (by assumption) ?_
          rotate_left 1
          · (simp only [List.getElem?_toArray, List.getElem?_cons_succ, List.getElem?_cons_zero]; rfl)
          · exact fun _ _ _ h => h
          · exact Or.inr ⟨by rfl, rfl⟩
          try simp only [Act.put, List.setIfInBounds_toArray, List.set_cons_zero, List.set_cons_succ]
          refine wpAnyH_take (i := 10) (oi := ?_) (v := undef) ?_ (by kernel_rfl) (by kernel_rfl) (by kernel_rfl) ?_ ?_ (by assumption) ?_
          rotate_left 1
          · (simp only [List.getElem?_toArray, List.getElem?_cons_succ, List.getElem?_cons_zero]; rfl)
          · exact fun _ _ _ h => h
          · exact Or.inr ⟨by rfl, rfl⟩
          try simp only [Act.put, List.setIfInBounds_toArray, List.set_cons_zero, List.set_cons_succ]
          refine wpAnyH_take (i := 11) (oi := ?_) (v := undef) ?_ (by kernel_rfl) (by kernel_rfl) (by kernel_rfl) ?_ ?_ (by assumption) ?_
          rotate_left 1
          · (simp only [List.getElem?_toArray, List.getElem?_cons_succ, List.getElem?_cons_zero]; rfl)
          · exact fun _ _ _ h => h
          · exact Or.inr ⟨by rfl, rfl⟩
          try simp only [Act.put, List.setIfInBounds_toArray, List.set_cons_zero, List.set_cons_succ]
          refine wpAnyH_take (i := 12) (oi := ?_) (v := undef) ?_ (by kernel_rfl) (by kernel_rfl) (by kernel_rfl) ?_ ?_ (by assumption) ?_
          rotate_left 1
          · (simp only [List.getElem?_toArray, List.getElem?_cons_succ, List.getElem?_cons_zero]; rfl)
          · exact fun _ _ _ h => h
          · exact Or.inr ⟨by rfl, rfl⟩
          try simp only [Act.put, List.setIfInBounds_toArray, List.set_cons_zero, List.set_cons_succ]
          refine wpAnyH_take (i := 13) (oi := ?_) (v := undef) ?_ (by kernel_rfl) (by kernel_rfl) (by kernel_rfl) ?_ ?_ (by assumption) ?_
          rotate_left 1
          · (simp only [List.getElem?_toArray, List.getElem?_cons_succ, List.getElem?_cons_zero]; rfl)
          · exact fun _ _ _ h => h
          · exact Or.inr ⟨by rfl, rfl⟩
          try simp only [Act.put, List.setIfInBounds_toArray, List.set_cons_zero, List.set_cons_succ]
          refine wpAnyH_take (i := 14) (oi := ?_) (v := undef) ?_ (by kernel_rfl) (by kernel_rfl) (by kernel_rfl) ?_ ?_ (by assumption) ?_
          rotate_left 1
          · (simp only [List.getElem?_toArray, List.getElem?_cons_succ, List.getElem?_cons_zero]; rfl)
          · exact fun _ _ _ h => h
          · exact Or.inr ⟨by rfl, rfl⟩
          try simp only [Act.put, List.setIfInBounds_toArray, List.set_cons_zero, List.set_cons_succ]
          refine wpAnyH_take (i := 15) (oi := ?_) (v := undef) ?_ (by kernel_rfl) (by kernel_rfl) (by kernel_rfl) ?_ ?_ (by assumption) ?_
          rotate_left 1
          · (simp only [List.getElem?_toArray, List.getElem?_cons_succ, List.getElem?_cons_zero]; rfl)
          · exact fun _ _ _ h => h
          · exact Or.inr ⟨by rfl, rfl⟩
          try simp only [Act.put, List.setIfInBounds_toArray, List.set_cons_zero, List.set_cons_succ]
          refine wpAnyH_take (i := 16) (oi := ?_) (v := ?_) ?_ (by kernel_rfl) (by kernel_rfl) (by kernel_rfl) ?_ ?_ (by assumption) ?_
          rotate_left 2
          · (simp only [List.getElem?_toArray, List.getElem?_cons_succ, List.getElem?_cons_zero]; rfl)
          · exact fun _ _ _ h => h
          · (refine Or.inl ⟨by rfl, ?_⟩; intro w hSw; (try dsimp only at hSw); go_simp <;> with_reducible rfl)
          try simp only [Act.put, List.setIfInBounds_toArray, List.set_cons_zero, List.set_cons_succ]
          refine wpAnyH_done (by kernel_rfl) (NoPanic.normal ?_) _
          have HO3 := hide HOl.out.drew
          have HKK3 := hide HK1.out.drew1
          go_wp2_with fail
          go_roundg (b + 1 - (i + 1))
          case measure => omega
          case rel => exact ⟨i + 1, _, [] ++ x :: Q, by omega, .inl (by omega), rfl, by go_num, HO3, HKK3, HFIN⟩
    · go_wp2_with fail
      refine bodyPost_end (v := .tuple #[]) (by simp [results, go_sem]) rfl ⟨rfl, l, HOl.out, ⟨?_⟩, HK1.out⟩
      rcases HM.out with ⟨h, rfl⟩ | ⟨h0, h1, h2, h3⟩
      · obtain rfl : a = b := by omega
        exact ⟨[], by simp, by rw [Srt.seg_nil], List.Pairwise.nil⟩
      · obtain rfl : i = b := by omega
        exact ⟨M, h1, h2, h3⟩
end Go.Proofs.Ytciogjnchpeaaaa
