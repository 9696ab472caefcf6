/-
  StateBytes: the walk.
-/
import Derived.Test.YtmikaidfdcamfaaLaw8
namespace Go.Proofs.Ytmikaidfdcamfaa
open Go.RowKit
set_option linter.unusedVariables false
theorem bytes_gets (k : Nat) : ∀ (l : List UInt8), l.length = 4 * k → bytes32 ((List.range k).map fun i => get32 (l.drop (4 * i))) = l := by
  induction k with
  | zero => intro l h; have : l = [] := List.eq_nil_of_length_eq_zero (by omega); subst this; rfl
  | succ k ih =>
    intro l h
    match l, h with
    | a :: b :: c :: d :: r, h =>
      have e := ih r (by simp at h; omega)
      rw [List.range_succ_eq_map, List.map_cons, List.map_map]
      show be32 (get32 (a :: b :: c :: d :: r)) ++ bytes32 _ = _
      rw [be32_get32]
      have e2 : ((fun i => get32 ((a :: b :: c :: d :: r).drop (4 * i))) ∘ Nat.succ) = fun i => get32 (r.drop (4 * i)) := by
        funext i
        show get32 ((a :: b :: c :: d :: r).drop (4 * (i + 1))) = _
        rw [show 4 * (i + 1) = 4 * i + 1 + 1 + 1 + 1 by omega]
        rfl
      rw [e2, e]
      rfl
    | [], h => simp at h
    | [_], h => simp at h; omega
    | [_, _], h => simp at h; omega
    | [_, _, _], h => simp at h; omega
theorem bytes_decS (b : List UInt8) (h : b.length = 128) : bytes32 (decS b) = b := by
  rw [decS, if_pos h]
  exact bytes_gets 32 b h
theorem decS_len (b : List UInt8) : (decS b).length = 32 := by unfold decS; split <;> simp
set_option maxHeartbeats 1000000 in
set_option maxRecDepth 10000 in
theorem law_StateBytes (A : Option Addr) (n c : Nat) (b : List UInt8) (w : World) (hA : LiesB w w.heap.size A n b) (hc : n ≤ c) (_ : c ≤ maxLen) :
    Calls Try.prog 3 #[.slice A n c] w fun e w' => e = .returned (.bool true) ∧ Below w.heap.size w w' := by
  obtain ⟨m, hm⟩ : ∃ m, m = min 140 n := ⟨_, rfl⟩
  obtain ⟨b', hb'⟩ : ∃ l, l = b.take 140 := ⟨_, rfl⟩
  have hl1 : m ≤ 140 := by omega
  have hmc : m ≤ c := by omega
  have hb0 := hA.take 140
  rw [← hm, ← hb'] at hb0
  have Hm := hide hm
  have Hlen := hide hb0.len
  obtain ⟨R, hR⟩ : ∃ R, R = ivs (decS b') := ⟨_, rfl⟩
  have HR := hide hR
  have HR32 : Hid (R.length = 32) := by rw [hR]; show (ivs _).length = 32; rw [ivs_len, decS_len]
  have HR1 : Hid (∀ u ∈ R, u.oneCell' = true) := by rw [hR]; exact ivs_one _
  clear hA hb' hm hR
  go_enter Try.func3, Try.ntmps3
  go_wp2_with fail
  refine Calls.mono (begun8 _) ?_
  rintro e w1 ⟨rfl, hb1⟩
  have L1 := hide (hb0.below hb1)
  have hs1 := hb1.size
  have HB1 := hide hb1
  clear hb0 hb1
  go_wp2_with fail
  refine Calls.mono (law_Short _ _ _ _ 140 _ hc (by omega) (by omega)) ?_
  rintro e w2 ⟨rfl, rfl⟩
  rw [← Hm.out]
  by_cases h128 : m = 128
  · subst h128
    have hE := bytes_decS b' Hlen.out
    have HE := hide hE.symm
    clear hE
    go_wp2_with fail
    refine Calls.mono (state_Decode_v (er := 0) L1.out hs1 hmc (by omega) HR.out rfl) ?_
    rintro e w2 ⟨rfl, hb2⟩
    have HB2 := hide (Below_step HB1.out hb2)
    have L2 := hide (L1.out.below (hb2.mono hs1))
    clear hb2
    go_wp2_with (refine wpA_init rfl 26 (.tmp 4) (.tmp 14) rfl R rfl rfl 32 info_state rfl HR32.out HR1.out ?_; intro w3 ha3 hb3 hs3)
    have HB3 := Below_step HB2.out hb3
    have L3 := L2.out.below (hb3.mono HB2.out.size)
    have e1 : (b' == b') = true := by simp
    clear hs3 hb3
    refine wp_region_noPanic ?_
    refine wp_region_held_drew (S := (fun w' => Whole 26 w2.heap.size R w' ∧ (convert 22 9 (.slice A 128 c)).run Try.prog w' = .ok (.string (strOf b')) w')) (by kernel_rfl) ⟨ha3.drew.whole 26 32 21 Try.underlying26 info_state HR32.out, run_stringB L3.drew⟩ (fun hHeld => ?_)
    refine wpAnyH_take (i := 0) (oi := ?_) (v := ?_) ?_ (by kernel_rfl) (by kernel_rfl) (by kernel_rfl) ?_ ?_ (by assumption) ?_
    rotate_left 2
    · (simp only [List.getElem?_toArray, List.getElem?_cons_zero]; rfl)
    · exact fun _ _ _ h => h
    · (refine Or.inl ⟨by rfl, ?_⟩; intro w hSw; (try dsimp only at hSw); go_simp <;> with_reducible rfl)
    try simp only [Act.put, List.setIfInBounds_toArray, List.set_cons_zero, List.set_cons_succ]
    refine wpAnyH_take (i := 1) (oi := ?_) (v := ?_) ?_ (by kernel_rfl) (by kernel_rfl) (by kernel_rfl) ?_ ?_ (by assumption) ?_
    rotate_left 2
    · (simp only [List.getElem?_toArray, List.getElem?_cons_succ, List.getElem?_cons_zero]; rfl)
    · exact fun _ _ _ h => h
    · (refine Or.inl ⟨by rfl, ?_⟩; intro w hSw; (try dsimp only at hSw); go_simp <;> with_reducible rfl)
    try simp only [Act.put, List.setIfInBounds_toArray, List.set_cons_zero, List.set_cons_succ]
    refine wpAnyH_take (i := 2) (oi := ?_) (v := ?_) ?_ (by kernel_rfl) (by kernel_rfl) (by kernel_rfl) ?_ ?_ (by assumption) ?_
    rotate_left 2
    · (simp only [List.getElem?_toArray, List.getElem?_cons_succ, List.getElem?_cons_zero]; rfl)
    · exact fun _ _ _ h => h
    · (refine Or.inl ⟨by rfl, ?_⟩; intro w hSw; (try dsimp only at hSw); go_simp <;> with_reducible rfl)
    try simp only [Act.put, List.setIfInBounds_toArray, List.set_cons_zero, List.set_cons_succ]
    refine wpAnyH_take (i := 3) (oi := ?_) (v := .agg R.toArray) ?_ (by kernel_rfl) (by kernel_rfl) (by kernel_rfl) ?_ ?_ (by assumption) ?_
    rotate_left 1
    · (simp only [List.getElem?_toArray, List.getElem?_cons_succ, List.getElem?_cons_zero]; rfl)
    · exact fun _ _ _ h => h
    · (refine Or.inl ⟨by rfl, ?_⟩; intro w hSw; (try dsimp only at hSw); exact exec_whole (x := .tmp 4) hSw.1 rfl rfl)
    try simp only [Act.put, List.setIfInBounds_toArray, List.set_cons_zero, List.set_cons_succ]
    refine wpAnyH_take (i := 6) (oi := ?_) (v := ?_) ?_ (by kernel_rfl) (by kernel_rfl) (by kernel_rfl) ?_ ?_ (by assumption) ?_
    rotate_left 2
    · (simp only [List.getElem?_toArray, List.getElem?_cons_succ, List.getElem?_cons_zero]; rfl)
    · exact fun _ _ _ h => h
    · (refine Or.inl ⟨by rfl, ?_⟩; intro w hSw; (try dsimp only at hSw); go_simp <;> with_reducible rfl)
    try simp only [Act.put, List.setIfInBounds_toArray, List.set_cons_zero, List.set_cons_succ]
    refine wpAnyH_take (i := 7) (oi := ?_) (v := ?_) ?_ (by kernel_rfl) (by kernel_rfl) (by kernel_rfl) ?_ ?_ (by assumption) ?_
    rotate_left 2
    · (simp only [List.getElem?_toArray, List.getElem?_cons_succ, List.getElem?_cons_zero]; rfl)
    · exact fun _ _ _ h => h
    · (refine Or.inl ⟨by rfl, ?_⟩; intro w hSw; (try dsimp only at hSw); go_simp <;> with_reducible rfl)
    try simp only [Act.put, List.setIfInBounds_toArray, List.set_cons_zero, List.set_cons_succ]
    refine wpAnyH_ready (rs := [4]) (by kernel_rfl) (by simp) ?_
    refine AllReadyH.cons (o := ?_) ?_ (fun K hK => ?_) AllReadyH.nil
    rotate_left 1
    · (simp only [List.getElem?_toArray, List.getElem?_cons_succ, List.getElem?_cons_zero]; rfl)
    go_simp
    refine Calls.mono (state_Encode_v HR.out (decS_len _) HE.out _) ?_
    rintro e w4 ⟨A4, c4, rfl, own4, hb4⟩
    have ha3 := ha3.drew.belowN hb4
    have L3 := L3.drew.below (hb4.mono HB3.size)
    have HB3 := Below_step HB3.drew hb4
    refine hK.out _ _ ⟨ha3.whole 26 32 21 Try.underlying26 info_state HR32.out, run_stringB L3⟩ (fun hHeld => ?_)
    clear hK K
    try simp only [Act.put, List.setIfInBounds_toArray, List.set_cons_zero, List.set_cons_succ]
    refine wpAnyH_mono (S' := (fun w' => (convert 22 9 (.slice A4 128 c4)).run Try.prog w' = .ok (.string (strOf b')) w' ∧ Whole 26 w2.heap.size R w' ∧ (convert 22 9 (.slice A 128 c)).run Try.prog w' = .ok (.string (strOf b')) w')) (fun _ h => h.2) _ _ _ _ ?_
    have hHeld2 := (⟨run_stringB own4.lies, ha3.whole 26 32 21 Try.underlying26 info_state HR32.out, run_stringB L3⟩ : (fun w' => (convert 22 9 (.slice A4 128 c4)).run Try.prog w' = .ok (.string (strOf b')) w' ∧ Whole 26 w2.heap.size R w' ∧ (convert 22 9 (.slice A 128 c)).run Try.prog w' = .ok (.string (strOf b')) w') w4)
    refine wpAnyH_take (i := 5) (oi := ?_) (v := ?_) ?_ (by kernel_rfl) (by kernel_rfl) (by kernel_rfl) ?_ ?_ (by assumption) ?_
    rotate_left 2
    · (simp only [List.getElem?_toArray, List.getElem?_cons_succ, List.getElem?_cons_zero]; rfl)
    · exact fun _ _ _ h => h
    · (refine Or.inl ⟨by rfl, ?_⟩; intro w hSw; (try dsimp only at hSw); go_simp <;> with_reducible rfl)
    try simp only [Act.put, List.setIfInBounds_toArray, List.set_cons_zero, List.set_cons_succ]
    refine wpAnyH_take (i := 8) (oi := ?_) (v := ?_) ?_ (by kernel_rfl) (by kernel_rfl) (by kernel_rfl) ?_ ?_ (by assumption) ?_
    rotate_left 2
    · (simp only [List.getElem?_toArray, List.getElem?_cons_succ, List.getElem?_cons_zero]; rfl)
    · exact fun _ _ _ h => h
    · (refine Or.inl ⟨by rfl, ?_⟩; intro w hSw; (try dsimp only at hSw); go_simp <;> with_reducible rfl)
    try simp only [Act.put, List.setIfInBounds_toArray, List.set_cons_zero, List.set_cons_succ]
    refine wpAnyH_take (i := 9) (oi := ?_) (v := ?_) ?_ (by kernel_rfl) (by kernel_rfl) (by kernel_rfl) ?_ ?_ (by assumption) ?_
    rotate_left 2
    · (simp only [List.getElem?_toArray, List.getElem?_cons_succ, List.getElem?_cons_zero]; rfl)
    · exact fun _ _ _ h => h
    · (refine Or.inl ⟨by rfl, ?_⟩; intro w hSw; (try dsimp only at hSw); go_simp <;> with_reducible rfl)
    try simp only [Act.put, List.setIfInBounds_toArray, List.set_cons_zero, List.set_cons_succ]
    refine wpAnyH_take (i := 10) (oi := ?_) (v := ?_) ?_ (by kernel_rfl) (by kernel_rfl) (by kernel_rfl) ?_ ?_ (by assumption) ?_
    rotate_left 2
    · (simp only [List.getElem?_toArray, List.getElem?_cons_succ, List.getElem?_cons_zero]; rfl)
    · exact fun _ _ _ h => h
    · (refine Or.inl ⟨by rfl, ?_⟩; intro w hSw; (try dsimp only at hSw); go_simp <;> with_reducible rfl)
    try simp only [Act.put, List.setIfInBounds_toArray, List.set_cons_zero, List.set_cons_succ]
    refine wpAnyH_done (by kernel_rfl) (NoPanic.normal ?_) _
    go_wp2_with fail
    go_ret
    exact ⟨by simp, HB3⟩
  · have hZ : R = ivs (List.replicate 32 0) := by rw [HR.out, decS, if_neg (by rw [Hlen.out]; exact h128)]
    have HR0 : Hid (∀ h : 0 < R.length, R[0] = .int .i32 0) := by subst hZ; exact fun _ => rfl
    have HR31 : Hid (∀ h : 31 < R.length, R[31] = .int .i32 0) := by subst hZ; exact fun _ => rfl
    have d1 : ((m : Int) != 128) = true := by simp; omega
    have d2 : ((m : Int) == 128) = false := by simp; omega
    have he : (1 : Int) = if m = 128 then 0 else 1 := by rw [if_neg h128]
    have HE := hide he
    clear hZ he h128
    go_wp2_with fail
    refine Calls.mono (state_Decode_v (er := 1) L1.out hs1 hmc (by omega) HR.out HE.out) ?_
    rintro e w2 ⟨rfl, hb2⟩
    have HB2 := hide (Below_step HB1.out hb2)
    clear hb2
    go_wp2_with (refine wpA_init rfl 26 (.tmp 4) (.tmp 14) rfl R rfl rfl 32 info_state rfl HR32.out HR1.out ?_; intro w3 ha3 hb3 hs3; have HB3 := hide (Below_step HB2.out hb3); have hc0 := ha3.cell (j := 0) (by rw [HR32.out]; omega); have hc1 := ha3.cell (j := 31) (by rw [HR32.out]; omega); rw [HR0.out] at hc0; rw [HR31.out] at hc1; clear hb3 hs3 ha3)
    go_ret
    exact ⟨by simp, HB3.out⟩
end Go.Proofs.Ytmikaidfdcamfaa
