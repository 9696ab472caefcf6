/-
  quintainlaw17.Do: an operation of both.
-/
import Derived.Test.YtciogjnchpeaaaaTwo
import Derived.Test.YtciogjnchpeaaaaShort
import Derived.Test.YtciogjnchpeaaaaArr
import Derived.Deep.CutBlock
namespace Go.Proofs.Ytciogjnchpeaaaa
open Go.RowKit
set_option maxRecDepth 10000
set_option linter.unusedVariables false
/-- An operation's value. -/
@[reducible] def opRow (kind p first : Int) (v : Value) : List Value := [.int .i64 kind, .int .i64 p, .int .i64 first, v]
theorem Arr.ne_line {w : World} {b p k : Nat} {R : List Value} {g : Option Nat} {l : List UInt8} (h : Arr 34 w b R) (hl : LineAt w p g l) (hk : lineBlocks p g k) : k ≠ b := hl.ne_blk hk h (by decide) (by decide)
/-- Each line grew by twelve at most. -/
def Grew (ls ls' : List (List UInt8)) : Prop := ∀ p, (ls'.getD p []).length ≤ (ls.getD p []).length + 12
theorem Grew.refl (ls : List (List UInt8)) : Grew ls ls := fun p => by omega
theorem putAdd_le (l : List UInt8) (F : Int) (b : List UInt8) : (putAdd l F (b.take 12)).length ≤ 12 := by
  unfold putAdd
  split
  · simp
  · rw [List.length_take, List.length_drop, List.length_take]; omega
theorem Grew.set {ls : List (List UInt8)} {i : Nat} {l add : List UInt8} (hl : l = ls.getD i []) (ha : add.length ≤ 12) : Grew ls (ls.set i (l ++ add)) := fun p => by
  by_cases e : i = p
  · subst e
    by_cases hi : i < ls.length
    · rw [List.getD_eq_getElem?_getD, List.getElem?_set_self hi, ← hl]
      show (l ++ add).length ≤ _
      rw [List.length_append]; omega
    · rw [List.getD_eq_getElem?_getD, List.getElem?_eq_none (by simpa using hi)]; simp
  · rw [List.getD_eq_getElem?_getD, List.getElem?_set_ne e, ← List.getD_eq_getElem?_getD]; omega
set_option maxHeartbeats 2000000 in
set_option maxRecDepth 10000 in
theorem law_Do2 {B : Nat} {w : World} {q c g n cg : Nat} {A : Option Addr} {xs : List (Nat × Option Nat)} {ss : List Sl} {ls : List (List UInt8)} (h : TS B w q A c xs g n cg ss ls) (hB : B ≤ w.heap.size) (hn : 0 < n) (hn8 : n ≤ 1000)
    {kind p first : Int} {A2 : Option Addr} {n2 c2 : Nat} {b : List UInt8} (hA : LiesB w B A2 n2 b) (hc2 : n2 ≤ c2) (h1 : -9223372036854775808 ≤ first) (h2 : first ≤ 9223372036854775807) (p1 : -9223372036854775808 ≤ p) (p2 : p ≤ 9223372036854775807) :
    Calls Try.prog 12 #[.pointer (some ⟨q, 0, none⟩), .slice (some ⟨g, 0, none⟩) n cg, .agg (opRow kind p first (.slice A2 n2 c2)).toArray] w fun e w' => e = .returned (.bool true) ∧
      (∃ xs' ss' ls', TS B w' q A c xs' g n cg ss' ls' ∧ Grew ls ls') ∧ Below B w w' := by
  have H := hide h
  have HA := hide hA
  have HP0 : Hid (Arr 34 (w.alloc (.cells (opRow kind p first (.slice A2 n2 c2)).toArray 34)) w.heap.size (opRow kind p first (.slice A2 n2 c2))) := Arr.new 34 w _ _ rfl
  have HB0 : Hid (Below w.heap.size w (w.alloc (.cells (opRow kind p first (.slice A2 n2 c2)).toArray 34))) := Below_new _ _
  have HC2 := hide hc2
  have HBW := hide hB
  obtain ⟨m, hm⟩ : ∃ m, m = min 12 n2 := ⟨_, rfl⟩
  have HM := hide hm
  have hm12 : m ≤ 12 := by omega
  simp only [opRow] at HP0 HB0
  clear h hA hc2 hm hB
  go_enter Try.func12, Try.ntmps12
  go_upto_region 1 with fail
  generalize World.alloc w _ = w0 at HP0 HB0 ⊢
  have c3 := HP0.out.cell (j := 3) (by simp)
  have f3 := HP0.out.frozen 3
  simp only [List.getElem_cons_zero, List.getElem_cons_succ] at c3
  go_wp2_with fail
  refine Calls.mono (law_Short A2 n2 c2 12 12 _ HC2.out rfl (by omega)) ?_
  rintro e w1 ⟨rfl, rfl⟩
  rw [← HM.out]
  go_upto_region 2 with fail
  have HP1 := hide (HP0.out.set 3 (.slice A2 m c2))
  have kc := Keeps.setCell w0 ⟨w.heap.size, 3, none⟩ (.slice A2 m c2)
  have HB1 := hide (HB0.out.trans (kc.below HB0.out.size (fun k hk => by show k = w.heap.size → _; omega)))
  simp only [List.set_cons_succ, List.set_cons_zero] at HP1
  generalize World.setCell w0 _ _ = w1 at HP1 HB1 ⊢
  clear kc c3 f3 HP0 HB0
  have H1 := hide (H.out.below HB1.out)
  have HA1 : Hid (LiesB w1 B A2 m (b.take 12)) := by
    show LiesB _ _ _ _ _
    rw [HM.out]
    exact (HA.out.below (HB1.out.mono HBW.out)).take 12
  have HB1B := hide (HB1.out.mono HBW.out)
  have HW1 : Hid (B ≤ w1.heap.size) := Nat.le_trans HBW.out HB1.out.size
  have HWB : Hid (B ≤ w.heap.size) := HBW.out
  have c0 := HP1.out.cell (j := 0) (by simp)
  have c1 := HP1.out.cell (j := 1) (by simp)
  have c2' := HP1.out.cell (j := 2) (by simp)
  have c3 := HP1.out.cell (j := 3) (by simp)
  simp only [List.getElem_cons_zero, List.getElem_cons_succ] at c0 c1 c2' c3
  have HNX : Hid (xs.length = n) := H1.out.nx
  have hout : p < 0 ∨ (n : Int) ≤ p → Hid (p < 0 ∨ (xs.length : Int) ≤ p) := fun h => by show _ ∨ _; rw [HNX.out]; exact h
  by_cases hp0 : p < 0
  · have d1 : decide (p < 0) = true := decide_eq_true hp0
    have HO := hout (.inl hp0)
    clear hp0 hout
    go_wp2_with fail
    refine Calls.mono (queue_Line_out H1.out.q HO.out) ?_
    rintro e w2 ⟨rfl, rfl⟩
    go_wp2_with fail
    go_ret
    exact ⟨rfl, ⟨_, _, _, H1.out, Grew.refl _⟩, HB1B.out⟩
  have d1 : decide (p < 0) = false := decide_eq_false hp0
  by_cases hpn : (n : Int) ≤ p
  · have d2 : decide ((n : Int) ≤ p) = true := decide_eq_true hpn
    have HO := hout (.inr hpn)
    clear hp0 hpn hout
    go_wp2_with fail
    refine Calls.mono (queue_Line_out H1.out.q HO.out) ?_
    rintro e w2 ⟨rfl, rfl⟩
    go_wp2_with fail
    go_ret
    exact ⟨rfl, ⟨_, _, _, H1.out, Grew.refl _⟩, HB1B.out⟩
  have d2 : decide ((n : Int) ≤ p) = false := decide_eq_false hpn
  obtain ⟨i, rfl⟩ : ∃ i : Nat, p = (i : Int) := ⟨p.toNat, by omega⟩
  have hin : i < n := by omega
  clear hp0 hpn hout
  obtain ⟨hs, hcr, -, hlr⟩ := H1.out.r.cell i hin
  obtain ⟨⟨A3, m3, c3'⟩, hx3⟩ : ∃ x, x = ss[i] := ⟨_, rfl⟩
  rw [← hx3] at hcr hlr
  simp only at hcr hlr
  have HL3 := hide hlr
  have hm3 : m3 ≤ 1000 := by have := H1.out.r.short i; omega
  clear hx3 hlr
  obtain ⟨F, hF⟩ : ∃ F : Int, F = if kind = 0 then (m3 : Int) else first := ⟨_, rfl⟩
  have HF := hide hF
  have hF1 : -9223372036854775808 ≤ F := by rw [hF]; split <;> omega
  have hF2 : F ≤ 9223372036854775807 := by rw [hF]; split <;> omega
  clear hF
  go_upto_if 35 with fail
  go_cut [7] (fun s wx => s = .int .i64 F ∧ w1 = wx)
  case first =>
    by_cases hk : kind = 0
    · have d3 : (kind == 0) = true := by simp [hk]
      have e : Hid (F = (m3 : Int)) := by show _ = _; rw [HF.out, if_pos hk]
      clear hk
      go_wp2_with fail
      go_meet
      rw [e.out]
      exact ⟨rfl, rfl⟩
    · have d3 : (kind == 0) = false := by simp [hk]
      have e : Hid (F = first) := by show _ = _; rw [HF.out, if_neg hk]
      clear hk
      go_wp2_with fail
      go_meet
      rw [e.out]
      exact ⟨rfl, rfl⟩
  case rest =>
  obtain ⟨rfl, rfl⟩ := hcut
  clear hcr c0 c2'
  have hix : i < xs.length := by rw [HNX.out]; exact hin
  have hxn : xs.length ≤ 1000 := by rw [HNX.out]; exact hn8
  obtain ⟨l, hl⟩ : ∃ l, l = ls.getD i [] := ⟨_, rfl⟩
  have HL := hide hl
  obtain ⟨pp, hpp⟩ : ∃ pp, pp = xs[i].1 := ⟨_, rfl⟩
  have HPP := hide hpp
  obtain ⟨add, hadd⟩ : ∃ a, putAdd l F (b.take 12) = a := ⟨_, rfl⟩
  obtain ⟨E, hE⟩ : ∃ e, putErr l F (b.take 12) = e := ⟨_, rfl⟩
  obtain ⟨N, hN⟩ : ∃ e : Int, (add.length : Int) = e := ⟨_, rfl⟩
  have HADD := hide hadd
  have HE := hide hE
  have HN := hide hN
  have HLN : Hid (LineAt w1 pp xs[i].2 l) := by show LineAt _ _ _ _; rw [hpp, hl]; exact H1.out.q.line i hix
  have HDIS : Hid (∀ bk off, A2 = some ⟨bk, off, none⟩ → b.take 12 ≠ [] → ¬ lineBlocks pp xs[i].2 bk) := by
    show ∀ bk off, _
    intro bk off e1 e2 hbk
    obtain ⟨b2, o2, e3, hb2, -⟩ := HA1.out.2 (by simpa using e2)
    rw [e3] at e1; injection e1 with e1; injection e1 with e1 _
    have hlb := H1.out.q.lbase i hix
    rcases hbk with hbk | hbk
    · rw [hpp] at hbk; omega
    · have := hlb.2 bk hbk.symm; omega
  have hNX : Hid (xs.length ≤ 1000) := hxn
  have HIX : Hid (i < xs.length) := hix
  clear hl hpp hadd hE hN hxn
  go_upto_region 7 with fail
  go_cut [8, 9] (fun s8 s9 wx => s8 = .int .i64 N ∧ s9 = .int .i64 E ∧ Hid (∃ g', LineAt wx pp g' (l ++ add) ∧ Keeps (lineBlocks pp (xs[i]'HIX.out).2) w1 wx ∧ (g' = (xs[i]'HIX.out).2 ∨ ∃ k, g' = some k ∧ w1.heap.size ≤ k)))
  case first =>
    refine wp_region_noPanic ?_
    refine wp_region_held_drew (S := (fun w' => w'.cell? ⟨w.heap.size, 1, none⟩ = some (.int .i64 (i : Int)) ∧ w'.cell? ⟨w.heap.size, 3, none⟩ = some (.slice A2 m c2))) (by kernel_rfl) ⟨c1, c3⟩ (fun hHeld => ?_)
    refine wpAnyH_take (i := 0) (oi := ?_) (v := ?_) ?_ (by kernel_rfl) (by kernel_rfl) (by kernel_rfl) ?_ ?_ (by assumption) ?_
    rotate_left 2
    · (simp only [List.getElem?_toArray, List.getElem?_cons_zero]; rfl)
    · exact fun _ _ _ h => h
    · (refine Or.inl ⟨by rfl, ?_⟩; intro w hSw; (try dsimp only at hSw); go_simp <;> with_reducible rfl)
    try simp only [Act.put, List.setIfInBounds_toArray, List.set_cons_zero, List.set_cons_succ]
    refine wpAnyH_take (i := 1) (oi := ?_) (v := ?_) ?_ (by kernel_rfl) (by kernel_rfl) (by kernel_rfl) ?_ ?_ (by assumption) ?_
    rotate_left 2
    · (simp only [List.getElem?_toArray, List.getElem?_cons_succ, List.getElem?_cons_zero]; rfl)
    · exact fun _ _ _ h => h
    · (refine Or.inl ⟨by rfl, ?_⟩; intro w hSw; (try dsimp only at hSw); go_simp <;> with_reducible rfl)
    try simp only [Act.put, List.setIfInBounds_toArray, List.set_cons_zero, List.set_cons_succ]
    refine wpAnyH_take (i := 2) (oi := ?_) (v := ?_) ?_ (by kernel_rfl) (by kernel_rfl) (by kernel_rfl) ?_ ?_ (by assumption) ?_
    rotate_left 2
    · (simp only [List.getElem?_toArray, List.getElem?_cons_succ, List.getElem?_cons_zero]; rfl)
    · exact fun _ _ _ h => h
    · (refine Or.inl ⟨by rfl, ?_⟩; intro w hSw; (try dsimp only at hSw); go_simp <;> with_reducible rfl)
    try simp only [Act.put, List.setIfInBounds_toArray, List.set_cons_zero, List.set_cons_succ]
    refine wpAnyH_take (i := 4) (oi := ?_) (v := ?_) ?_ (by kernel_rfl) (by kernel_rfl) (by kernel_rfl) ?_ ?_ (by assumption) ?_
    rotate_left 2
    · (simp only [List.getElem?_toArray, List.getElem?_cons_succ, List.getElem?_cons_zero]; rfl)
    · exact fun _ _ _ h => h
    · (refine Or.inl ⟨by rfl, ?_⟩; intro w hSw; (try dsimp only at hSw); go_simp <;> with_reducible rfl)
    try simp only [Act.put, List.setIfInBounds_toArray, List.set_cons_zero, List.set_cons_succ]
    refine wpAnyH_take (i := 5) (oi := ?_) (v := ?_) ?_ (by kernel_rfl) (by kernel_rfl) (by kernel_rfl) ?_ ?_ (by assumption) ?_
    rotate_left 2
    · (simp only [List.getElem?_toArray, List.getElem?_cons_succ, List.getElem?_cons_zero]; rfl)
    · exact fun _ _ _ h => h
    · (refine Or.inl ⟨by rfl, ?_⟩; intro w hSw; (try dsimp only at hSw); go_simp <;> with_reducible rfl)
    try simp only [Act.put, List.setIfInBounds_toArray, List.set_cons_zero, List.set_cons_succ]
    refine wpAnyH_take (i := 6) (oi := ?_) (v := ?_) ?_ (by kernel_rfl) (by kernel_rfl) (by kernel_rfl) ?_ ?_ (by assumption) ?_
    rotate_left 2
    · (simp only [List.getElem?_toArray, List.getElem?_cons_succ, List.getElem?_cons_zero]; rfl)
    · exact fun _ _ _ h => h
    · (refine Or.inl ⟨by rfl, ?_⟩; intro w hSw; (try dsimp only at hSw); go_simp <;> with_reducible rfl)
    try simp only [Act.put, List.setIfInBounds_toArray, List.set_cons_zero, List.set_cons_succ]
    refine wpAnyH_ready (rs := [3]) (by kernel_rfl) (by simp) ?_
    refine AllReadyH.cons (o := ?_) ?_ (fun K hK => ?_) AllReadyH.nil
    rotate_left 1
    · (simp only [List.getElem?_toArray, List.getElem?_cons_succ, List.getElem?_cons_zero]; rfl)
    go_simp
    refine Calls.mono (queue_Line H1.out.q.drew i HIX.out hNX.out rfl HPP.out) ?_
    rintro e w2 ⟨rfl, rfl⟩
    refine hK.out _ _ ⟨c1, c3⟩ (fun hHeld => ?_)
    clear hK K
    try simp only [Act.put, List.setIfInBounds_toArray, List.set_cons_zero, List.set_cons_succ]
    refine wpAnyH_ready (rs := [7]) (by kernel_rfl) (by simp) ?_
    refine AllReadyH.cons (o := ?_) ?_ (fun K hK => ?_) AllReadyH.nil
    rotate_left 1
    · (simp only [List.getElem?_toArray, List.getElem?_cons_succ, List.getElem?_cons_zero]; rfl)
    go_simp
    refine Calls.mono (line_Put_v pp _ l F A2 m c2 (b.take 12) add N E _ (HLN.out.below (Below_drewN (Below.refl _ _) 1)) (HA1.out.drew.more HW1.out) HDIS.out hF1 hF2 (by omega) HADD.out HN.out HE.out) ?_
    rintro e w2 ⟨rfl, g2, hl2, hk2, hg2⟩
    have P2 := HP1.out.drew.keeps hk2 (fun hs => HP1.out.ne_line HLN.out hs rfl)
    refine hK.out _ _ ⟨P2.cell (j := 1) (by simp), P2.cell (j := 3) (by simp)⟩ (fun hHeld => ?_)
    clear hK K
    try simp only [Act.put, List.setIfInBounds_toArray, List.set_cons_zero, List.set_cons_succ]
    refine wpAnyH_take (i := 8) (oi := ?_) (v := ?_) ?_ (by kernel_rfl) (by kernel_rfl) (by kernel_rfl) ?_ ?_ (by assumption) ?_
    rotate_left 2
    · (simp only [List.getElem?_toArray, List.getElem?_cons_succ, List.getElem?_cons_zero]; rfl)
    · exact fun _ _ _ h => h
    · (refine Or.inl ⟨by rfl, ?_⟩; intro w hSw; (try dsimp only at hSw); go_simp <;> with_reducible rfl)
    try simp only [Act.put, List.setIfInBounds_toArray, List.set_cons_zero, List.set_cons_succ]
    refine wpAnyH_take (i := 9) (oi := ?_) (v := ?_) ?_ (by kernel_rfl) (by kernel_rfl) (by kernel_rfl) ?_ ?_ (by assumption) ?_
    rotate_left 2
    · (simp only [List.getElem?_toArray, List.getElem?_cons_succ, List.getElem?_cons_zero]; rfl)
    · exact fun _ _ _ h => h
    · (refine Or.inl ⟨by rfl, ?_⟩; intro w hSw; (try dsimp only at hSw); go_simp <;> with_reducible rfl)
    try simp only [Act.put, List.setIfInBounds_toArray, List.set_cons_zero, List.set_cons_succ]
    refine wpAnyH_take (i := 10) (oi := ?_) (v := ?_) ?_ (by kernel_rfl) (by kernel_rfl) (by kernel_rfl) ?_ ?_ (by assumption) ?_
    rotate_left 2
    · (simp only [List.getElem?_toArray, List.getElem?_cons_succ, List.getElem?_cons_zero]; rfl)
    · exact fun _ _ _ h => h
    · (refine Or.inl ⟨by rfl, ?_⟩; intro w hSw; (try dsimp only at hSw); go_simp <;> with_reducible rfl)
    try simp only [Act.put, List.setIfInBounds_toArray, List.set_cons_zero, List.set_cons_succ]
    refine wpAnyH_take (i := 11) (oi := ?_) (v := ?_) ?_ (by kernel_rfl) (by kernel_rfl) (by kernel_rfl) ?_ ?_ (by assumption) ?_
    rotate_left 2
    · (simp only [List.getElem?_toArray, List.getElem?_cons_succ, List.getElem?_cons_zero]; rfl)
    · exact fun _ _ _ h => h
    · (refine Or.inl ⟨by rfl, ?_⟩; intro w hSw; (try dsimp only at hSw); go_simp <;> with_reducible rfl)
    try simp only [Act.put, List.setIfInBounds_toArray, List.set_cons_zero, List.set_cons_succ]
    refine wpAnyH_take (i := 12) (oi := ?_) (v := ?_) ?_ (by kernel_rfl) (by kernel_rfl) (by kernel_rfl) ?_ ?_ (by assumption) ?_
    rotate_left 2
    · (simp only [List.getElem?_toArray, List.getElem?_cons_succ, List.getElem?_cons_zero]; rfl)
    · exact fun _ _ _ h => h
    · (refine Or.inl ⟨by rfl, ?_⟩; intro w hSw; (try dsimp only at hSw); go_simp <;> with_reducible rfl)
    try simp only [Act.put, List.setIfInBounds_toArray, List.set_cons_zero, List.set_cons_succ]
    refine wpAnyH_done (by kernel_rfl) (NoPanic.normal ?_) _
    go_wp2_with fail
    go_meet
    exact ⟨rfl, rfl, g2, hl2, ⟨hk2.os, hk2.tape, hk2.output, hk2.size, hk2.block⟩, hg2⟩
  case rest =>
  obtain ⟨w2, hw2⟩ : ∃ w2, w2 = wc := ⟨_, rfl⟩
  subst hw2
  obtain ⟨rfl, rfl, hcc⟩ := hcut
  obtain ⟨g', hl2, hk2, hg2⟩ := hcc.out
  have P2 := hide (HP1.out.keeps hk2 (fun hs => HP1.out.ne_line HLN.out hs rfl))
  have HA2 := hide (HA1.out.keeps hk2 HDIS.out)
  have HBC := hide (HB1B.out.trans (hk2.below HW1.out (fun k hk hs => by
    have hlb := H1.out.q.lbase i hix
    rcases hs with hs | hs
    · have := HPP.out; omega
    · have := hlb.2 k hs.symm; omega)))
  have HWC : Hid (B ≤ w2.heap.size) := Nat.le_trans HW1.out hk2.size
  have hput := H1.out.putQ HW1.out hn i hix (w' := w2) (g' := g') (l' := l ++ add) (by rw [← HPP.out]; exact hl2) (by rw [← HPP.out]; exact hk2) hg2
  obtain ⟨hq2, hr2, hcr2⟩ := hput
  have HQ2 := hide hq2
  have HR2 := hide hr2
  have HCR2 := hide hcr2
  have c1 := P2.out.cell (j := 1) (by simp)
  have c3 := P2.out.cell (j := 3) (by simp)
  simp only [List.getElem_cons_zero, List.getElem_cons_succ] at c1 c3
  have hii : (i : Int) < (n : Int) := by omega
  clear hcc hl2 hk2 hg2 hq2 hr2 hcr2 H1 HP1 HB1
  go_upto_region 8 with fail
  go_cut [10, 11] (fun s8 s9 wx => s8 = .int .i64 N ∧ s9 = .int .i64 E ∧ Hid (∃ (x : Sl) (hs : i < ss.length), RL B wx g n cg (ss.set i x) (ls.set i (l ++ add)) ∧ Keeps (rlBlocks g ss[i]) w2 wx ∧ ((sv x).ownBlock = (sv ss[i]).ownBlock ∨ ∃ k, (sv x).ownBlock = some k ∧ w2.heap.size ≤ k)))
  case first =>
    refine wp_region_noPanic ?_
    refine wp_region_held_drew (S := (fun w' => w'.cell? ⟨w.heap.size, 1, none⟩ = some (.int .i64 (i : Int)) ∧ w'.cell? ⟨w.heap.size, 3, none⟩ = some (.slice A2 m c2))) (by kernel_rfl) ⟨c1, c3⟩ (fun hHeld => ?_)
    refine wpAnyH_take (i := 0) (oi := ?_) (v := ?_) ?_ (by kernel_rfl) (by kernel_rfl) (by kernel_rfl) ?_ ?_ (by assumption) ?_
    rotate_left 2
    · (simp only [List.getElem?_toArray, List.getElem?_cons_zero]; rfl)
    · exact fun _ _ _ h => h
    · (refine Or.inl ⟨by rfl, ?_⟩; intro w hSw; (try dsimp only at hSw); go_simp <;> with_reducible rfl)
    try simp only [Act.put, List.setIfInBounds_toArray, List.set_cons_zero, List.set_cons_succ]
    refine wpAnyH_take (i := 1) (oi := ?_) (v := ?_) ?_ (by kernel_rfl) (by kernel_rfl) (by kernel_rfl) ?_ ?_ (by assumption) ?_
    rotate_left 2
    · (simp only [List.getElem?_toArray, List.getElem?_cons_succ, List.getElem?_cons_zero]; rfl)
    · exact fun _ _ _ h => h
    · (refine Or.inl ⟨by rfl, ?_⟩; intro w hSw; (try dsimp only at hSw); go_simp <;> with_reducible rfl)
    try simp only [Act.put, List.setIfInBounds_toArray, List.set_cons_zero, List.set_cons_succ]
    refine wpAnyH_take (i := 2) (oi := ?_) (v := ?_) ?_ (by kernel_rfl) (by kernel_rfl) (by kernel_rfl) ?_ ?_ (by assumption) ?_
    rotate_left 2
    · (simp only [List.getElem?_toArray, List.getElem?_cons_succ, List.getElem?_cons_zero]; rfl)
    · exact fun _ _ _ h => h
    · (refine Or.inl ⟨by rfl, ?_⟩; intro w hSw; (try dsimp only at hSw); go_simp <;> with_reducible rfl)
    try simp only [Act.put, List.setIfInBounds_toArray, List.set_cons_zero, List.set_cons_succ]
    refine wpAnyH_take (i := 3) (oi := ?_) (v := ?_) ?_ (by kernel_rfl) (by kernel_rfl) (by kernel_rfl) ?_ ?_ (by assumption) ?_
    rotate_left 2
    · (simp only [List.getElem?_toArray, List.getElem?_cons_succ, List.getElem?_cons_zero]; rfl)
    · exact fun _ _ _ h => h
    · (refine Or.inl ⟨by rfl, ?_⟩; intro w hSw; (try dsimp only at hSw); go_simp <;> with_reducible rfl)
    try simp only [Act.put, List.setIfInBounds_toArray, List.set_cons_zero, List.set_cons_succ]
    refine wpAnyH_take (i := 4) (oi := ?_) (v := ?_) ?_ (by kernel_rfl) (by kernel_rfl) (by kernel_rfl) ?_ ?_ (by assumption) ?_
    rotate_left 2
    · (simp only [List.getElem?_toArray, List.getElem?_cons_succ, List.getElem?_cons_zero]; rfl)
    · exact fun _ _ _ h => h
    · (refine Or.inl ⟨by rfl, ?_⟩; intro w hSw; (try dsimp only at hSw); go_simp <;> with_reducible rfl)
    try simp only [Act.put, List.setIfInBounds_toArray, List.set_cons_zero, List.set_cons_succ]
    refine wpAnyH_take (i := 5) (oi := ?_) (v := ?_) ?_ (by kernel_rfl) (by kernel_rfl) (by kernel_rfl) ?_ ?_ (by assumption) ?_
    rotate_left 2
    · (simp only [List.getElem?_toArray, List.getElem?_cons_succ, List.getElem?_cons_zero]; rfl)
    · exact fun _ _ _ h => h
    · (refine Or.inl ⟨by rfl, ?_⟩; intro w hSw; (try dsimp only at hSw); go_simp <;> with_reducible rfl)
    try simp only [Act.put, List.setIfInBounds_toArray, List.set_cons_zero, List.set_cons_succ]
    refine wpAnyH_take (i := 6) (oi := ?_) (v := ?_) ?_ (by kernel_rfl) (by kernel_rfl) (by kernel_rfl) ?_ ?_ (by assumption) ?_
    rotate_left 2
    · (simp only [List.getElem?_toArray, List.getElem?_cons_succ, List.getElem?_cons_zero]; rfl)
    · exact fun _ _ _ h => h
    · (refine Or.inl ⟨by rfl, ?_⟩; intro w hSw; (try dsimp only at hSw); go_simp <;> with_reducible rfl)
    try simp only [Act.put, List.setIfInBounds_toArray, List.set_cons_zero, List.set_cons_succ]
    refine wpAnyH_ready (rs := [7]) (by kernel_rfl) (by simp) ?_
    refine AllReadyH.cons (o := ?_) ?_ (fun K hK => ?_) AllReadyH.nil
    rotate_left 1
    · (simp only [List.getElem?_toArray, List.getElem?_cons_succ, List.getElem?_cons_zero]; rfl)
    go_simp
    refine Calls.mono (ref_LinePut HR2.out.drew HWC.out i hin HL.out F HA2.out.drew hF1 hF2 (by omega) HADD.out HN.out HE.out) ?_
    rintro e w4 ⟨rfl, x2, hs2, hr3, hk3, hx3⟩
    have P3 := P2.out.drew.keeps hk3 (fun hs => by rcases hs with hs | hs; exact HR2.out.row.ne_blk P2.out (by decide) (by rw [hs]; rfl); exact (HR2.out.line i hs2).ne_blk P2.out (by decide) hs)
    refine hK.out _ _ ⟨P3.cell (j := 1) (by simp), P3.cell (j := 3) (by simp)⟩ (fun hHeld => ?_)
    clear hK K
    try simp only [Act.put, List.setIfInBounds_toArray, List.set_cons_zero, List.set_cons_succ]
    refine wpAnyH_take (i := 8) (oi := ?_) (v := ?_) ?_ (by kernel_rfl) (by kernel_rfl) (by kernel_rfl) ?_ ?_ (by assumption) ?_
    rotate_left 2
    · (simp only [List.getElem?_toArray, List.getElem?_cons_succ, List.getElem?_cons_zero]; rfl)
    · exact fun _ _ _ h => h
    · (refine Or.inl ⟨by rfl, ?_⟩; intro w hSw; (try dsimp only at hSw); go_simp <;> with_reducible rfl)
    try simp only [Act.put, List.setIfInBounds_toArray, List.set_cons_zero, List.set_cons_succ]
    refine wpAnyH_take (i := 9) (oi := ?_) (v := ?_) ?_ (by kernel_rfl) (by kernel_rfl) (by kernel_rfl) ?_ ?_ (by assumption) ?_
    rotate_left 2
    · (simp only [List.getElem?_toArray, List.getElem?_cons_succ, List.getElem?_cons_zero]; rfl)
    · exact fun _ _ _ h => h
    · (refine Or.inl ⟨by rfl, ?_⟩; intro w hSw; (try dsimp only at hSw); go_simp <;> with_reducible rfl)
    try simp only [Act.put, List.setIfInBounds_toArray, List.set_cons_zero, List.set_cons_succ]
    refine wpAnyH_take (i := 10) (oi := ?_) (v := ?_) ?_ (by kernel_rfl) (by kernel_rfl) (by kernel_rfl) ?_ ?_ (by assumption) ?_
    rotate_left 2
    · (simp only [List.getElem?_toArray, List.getElem?_cons_succ, List.getElem?_cons_zero]; rfl)
    · exact fun _ _ _ h => h
    · (refine Or.inl ⟨by rfl, ?_⟩; intro w hSw; (try dsimp only at hSw); go_simp <;> with_reducible rfl)
    try simp only [Act.put, List.setIfInBounds_toArray, List.set_cons_zero, List.set_cons_succ]
    refine wpAnyH_take (i := 11) (oi := ?_) (v := ?_) ?_ (by kernel_rfl) (by kernel_rfl) (by kernel_rfl) ?_ ?_ (by assumption) ?_
    rotate_left 2
    · (simp only [List.getElem?_toArray, List.getElem?_cons_succ, List.getElem?_cons_zero]; rfl)
    · exact fun _ _ _ h => h
    · (refine Or.inl ⟨by rfl, ?_⟩; intro w hSw; (try dsimp only at hSw); go_simp <;> with_reducible rfl)
    try simp only [Act.put, List.setIfInBounds_toArray, List.set_cons_zero, List.set_cons_succ]
    refine wpAnyH_take (i := 12) (oi := ?_) (v := ?_) ?_ (by kernel_rfl) (by kernel_rfl) (by kernel_rfl) ?_ ?_ (by assumption) ?_
    rotate_left 2
    · (simp only [List.getElem?_toArray, List.getElem?_cons_succ, List.getElem?_cons_zero]; rfl)
    · exact fun _ _ _ h => h
    · (refine Or.inl ⟨by rfl, ?_⟩; intro w hSw; (try dsimp only at hSw); go_simp <;> with_reducible rfl)
    try simp only [Act.put, List.setIfInBounds_toArray, List.set_cons_zero, List.set_cons_succ]
    refine wpAnyH_done (by kernel_rfl) (NoPanic.normal ?_) _
    go_wp2_with fail
    go_meet
    exact ⟨rfl, rfl, x2, hs2, hr3, ⟨hk3.os, hk3.tape, hk3.output, hk3.size, hk3.block⟩, hx3⟩
  case rest =>
  obtain ⟨rfl, rfl, hcc⟩ := hcut
  obtain ⟨x, hs2, hr3, hk3, hx3⟩ := hcc.out
  have HTS : Hid (∃ xs' ss' ls', TS B wc q A c xs' g n cg ss' ls' ∧ Grew ls ls') := ⟨_, _, _, TS.putR HQ2.out HR2.out hn (by rw [List.length_set]; exact HNX.out) HCR2.out i hs2 hr3 hk3 hx3, Grew.set HL.out (by rw [← HADD.out]; exact putAdd_le _ _ _)⟩
  have HBD := hide (HBC.out.trans (hk3.below HWC.out (fun k hk hs => by
    rcases hs with hs | hs
    · have := (HR2.out.gblk hn).1; omega
    · have := ((HR2.out.line i hs2).blk k hs).1; omega)))
  clear hcc hr3 hk3 hx3
  go_wp2_with fail
  go_ret
  exact ⟨rfl, HTS.out, HBD.out⟩
theorem law_Do {B : Nat} {w : World} {q c g n cg : Nat} {A : Option Addr} {xs : List (Nat × Option Nat)} {ss : List Sl} {ls : List (List UInt8)} (h : TS B w q A c xs g n cg ss ls) (hB : B ≤ w.heap.size) (hn : 0 < n) (hn8 : n ≤ 1000)
    {kind p first : Int} {A2 : Option Addr} {n2 c2 : Nat} {b : List UInt8} (hA : LiesB w B A2 n2 b) (hc2 : n2 ≤ c2) (h1 : -9223372036854775808 ≤ first) (h2 : first ≤ 9223372036854775807) (p1 : -9223372036854775808 ≤ p) (p2 : p ≤ 9223372036854775807) :
    Calls Try.prog 12 #[.pointer (some ⟨q, 0, none⟩), .slice (some ⟨g, 0, none⟩) n cg, .agg (opRow kind p first (.slice A2 n2 c2)).toArray] w fun e w' => e = .returned (.bool true) ∧
      (∃ xs' ss' ls', TS B w' q A c xs' g n cg ss' ls') ∧ Below B w w' :=
  (law_Do2 h hB hn hn8 hA hc2 h1 h2 p1 p2).mono fun e w' ⟨he, ⟨xs', ss', ls', ht, _⟩, hb⟩ => ⟨he, ⟨xs', ss', ls', ht⟩, hb⟩
end Go.Proofs.Ytciogjnchpeaaaa
