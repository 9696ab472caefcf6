/-
  StateAll: the walk.
-/
import Derived.Test.YtmikaidfdcamfaaLaw8
namespace Go.Proofs.Ytmikaidfdcamfaa
open Go.RowKit
set_option linter.unusedVariables false
/-- What stands in a place of a game with another page. -/
def wantOf (s : List Int) (i j : Int) (k : Nat) : Int := if 0 ≤ j ∧ j < 4 ∧ ((k / 8 : Nat) : Int) = j then (if 0 ≤ i ∧ i < 4 then s.getD (8 * i.toNat + k % 8) 0 else 0) else s.getD k 0
theorem pageOf_at (s : List Int) (i : Int) (r : Nat) (h : s.length = 32) (hr : r < 8) : (pageOf s i).getD r 0 = if 0 ≤ i ∧ i < 4 then s.getD (8 * i.toNat + r) 0 else 0 := by
  unfold pageOf
  split
  · rw [List.getD_eq_getElem?_getD, List.getElem?_take, if_pos hr, List.getElem?_drop, ← List.getD_eq_getElem?_getD]
  · rw [List.getD_eq_getElem?_getD, List.getElem?_replicate, if_pos hr]; rfl
theorem withOf_at (s p : List Int) (j : Int) (k : Nat) (h : s.length = 32) (hp : p.length = 8) (hk : k < 32) :
    (withOf s j p).getD k 0 = if 0 ≤ j ∧ j < 4 ∧ ((k / 8 : Nat) : Int) = j then p.getD (k % 8) 0 else s.getD k 0 := by
  unfold withOf
  by_cases hj : 0 ≤ j ∧ j < 4
  · rw [if_pos hj]
    obtain ⟨m, rfl⟩ : ∃ m : Nat, j = (m : Int) := ⟨j.toNat, by omega⟩
    rw [Int.toNat_natCast]
    have e : (s.take (8 * m)).length = 8 * m := by rw [List.length_take]; omega
    by_cases h1 : k < 8 * m
    · rw [if_neg (by omega), List.getD_eq_getElem?_getD, List.append_assoc, List.getElem?_append_left (by omega), List.getElem?_take, if_pos h1, ← List.getD_eq_getElem?_getD]
    · by_cases h2 : k < 8 * m + 8
      · rw [if_pos (by omega), List.getD_eq_getElem?_getD, List.append_assoc, List.getElem?_append_right (by omega), e, List.getElem?_append_left (by omega), ← List.getD_eq_getElem?_getD]
        congr 1; omega
      · rw [if_neg (by omega), List.getD_eq_getElem?_getD, List.append_assoc, List.getElem?_append_right (by omega), e, List.getElem?_append_right (by omega), hp, List.getElem?_drop, ← List.getD_eq_getElem?_getD]
        congr 1; omega
  · rw [if_neg hj, if_neg (by omega)]
theorem want_eq (s : List Int) (i j : Int) (k : Nat) (h : s.length = 32) (hk : k < 32) : (withOf s j (pageOf s i)).getD k 0 = wantOf s i j k := by
  rw [withOf_at s _ j k h (pageOf_len s i h) hk, pageOf_at s i (k % 8) h (by omega)]
  rfl
theorem ivs_getD (l : List Int) (k : Nat) (h : k < (ivs l).length) : (ivs l)[k] = .int .i32 (l.getD k 0) := by
  rw [ivs_at, List.getD_eq_getElem?_getD, List.getElem?_eq_getElem]; rfl
set_option maxHeartbeats 2000000 in
set_option maxRecDepth 20000 in
theorem law_StateAll (A : Option Addr) (n c : Nat) (l : List Int) (i j : Int) (w : World) (hA : LiesI .i32 w w.heap.size A n l) (hc : n ≤ c) (hm : c ≤ maxLen)
    (lo : -9223372036854775808 ≤ i) (hi : i ≤ 9223372036854775807) (loj : -9223372036854775808 ≤ j) (hij : j ≤ 9223372036854775807) :
    Calls Try.prog 5 #[.slice A n c, .int .i64 i, .int .i64 j] w fun e w' => e = .returned (.bool true) ∧ Below w.heap.size w w' := by
  have hn : n ≤ 9223372036854775807 := by simp only [maxLen] at *; omega
  obtain ⟨s, hs⟩ : ∃ s, s = ofL l := ⟨_, rfl⟩
  have hs32 : s.length = 32 := by rw [hs]; exact ofL_len l
  have hsI : I32 s := by rw [hs]; exact ofL_I32 hA.2.2
  obtain ⟨S, hS⟩ : ∃ S, S = ivs s := ⟨_, rfl⟩
  obtain ⟨P, hP⟩ : ∃ P, P = ivs (pageOf s i) := ⟨_, rfl⟩
  obtain ⟨U, hU⟩ : ∃ U, U = ivs (withOf s j (pageOf s i)) := ⟨_, rfl⟩
  obtain ⟨bs, hbs⟩ : ∃ b, b = bytes32 s := ⟨_, rfl⟩
  have HSl : Hid (S = ivs (ofL l)) := by rw [← hs]; exact hS
  have HSd : Hid (S = ivs (decS bs)) := by rw [hbs, decS_bytes s hs32 hsI]; exact hS
  have HS32 : Hid (S.length = 32) := by rw [hS]; show (ivs s).length = 32; rw [ivs_len, hs32]
  have HS1 : Hid (∀ u ∈ S, u.oneCell' = true) := by rw [hS]; exact ivs_one _
  have HP8 : Hid (P.length = 8) := by rw [hP]; show (ivs _).length = 8; rw [ivs_len, pageOf_len _ _ hs32]
  have HP1 : Hid (∀ u ∈ P, u.oneCell' = true) := by rw [hP]; exact ivs_one _
  have HU32 : Hid (U.length = 32) := by rw [hU]; show (ivs _).length = 32; rw [ivs_len, withOf_len _ _ _ hs32 (pageOf_len _ _ hs32)]
  have HU1 : Hid (∀ u ∈ U, u.oneCell' = true) := by rw [hU]; exact ivs_one _
  have HSK : Hid (∀ k (h : k < S.length), S[k] = .int .i32 (s.getD k 0)) := by subst hS; exact fun k h => ivs_getD s k h
  have HUK : Hid (∀ k (h : k < U.length), U[k] = .int .i32 (wantOf s i j k)) := by
    subst hU; intro k h
    rw [ivs_getD, want_eq s i j k hs32 (by rw [ivs_len, withOf_len _ _ _ hs32 (pageOf_len _ _ hs32)] at h; exact h)]
  obtain ⟨sm, hsm⟩ : ∃ sm : Int, sm = ((Crc.sum (bytes32 s)).toNat : Int) := ⟨_, rfl⟩
  have Hsm := hide hsm
  have HS := hide hS
  have HP := hide hP
  have HU := hide hU
  have Hbs := hide hbs
  have Hs32 := hide hs32
  have HsI := hide hsI
  have HA := hide hA
  clear hS hP hU hs hs32 hsI hA hm hbs hsm
  go_enter Try.func5, Try.ntmps5
  go_wp2_with fail
  refine Calls.mono (begun8 _) ?_
  rintro e w1 ⟨rfl, hb1⟩
  have L1 := hide (HA.out.below hb1)
  have hs1 := hb1.size
  have HB1 := hide hb1
  clear hb1
  go_wp2_with fail
  refine Calls.mono (law8_Of _ _ _ _ _ _ L1.out hs1 hn) ?_
  rintro e w2 ⟨rfl, hb2⟩
  rw [← HSl.out]
  have HB2 := hide (Below_step HB1.out hb2)
  clear hb2
  go_wp2_with (first
    | (refine wpA_init rfl 26 (.tmp 8) (.tmp 21) rfl S rfl rfl 32 info_state rfl HS32.out HS1.out ?_; intro w3 ha3 hb3 hs3; clear hs3)
    | (refine wpA_load rfl 26 (.tmp 8) rfl w2.heap.size rfl 26 S ha3 32 21 Try.underlying26 info_state HS32.out ?_)
    | (refine wpA_init rfl 37 (.tmp 9) (.tmp 22) rfl S rfl rfl 32 info_game rfl HS32.out HS1.out ?_; intro w4 ha4 hb4 hs4; clear hs4; have ha3 := ha3.belowN hb4))
  have HB4 := hide (Below_step (Below_step HB2.out hb3) hb4)
  have H3 := hide ha3
  have H4 := hide ha4
  clear ha3 ha4 hb3 hb4
  refine Calls.mono (state_Encode_v HS.out Hs32.out Hbs.out _) ?_
  rintro e w4b ⟨A5, c5, rfl, own5, hb5⟩
  have HB5 := hide (Below_step HB4.out hb5)
  have H3 := hide (H3.out.belowN hb5)
  have H4 := hide (H4.out.belowN hb5)
  have O5 := hide own5
  have hc5 := own5.cap
  clear own5 hb5
  go_wp2_with fail
  refine Calls.mono (state_Decode_v (er := 0) O5.out.lies (Nat.le_refl _) hc5 (by omega) HSd.out rfl) ?_
  rintro e w5 ⟨rfl, hb5⟩
  have HB6 := hide (Below_step HB5.out hb5)
  have H3 := hide (H3.out.belowN hb5)
  have H4 := hide (H4.out.belowN hb5)
  have O5 := hide (O5.out.below hb5)
  clear hb5
  go_wp2_with (refine wpA_init rfl 26 (.tmp 11) (.tmp 28) rfl S rfl rfl 32 info_state rfl HS32.out HS1.out ?_; intro w6 ha6 hb6 hs6; clear hs6)
  have HB := Below_step HB6.out hb6
  have k3 := H3.out.belowN hb6
  have k4 := H4.out.belowN hb6
  have k5 := ha6
  have L5 := O5.out.below hb6
  clear hb6 ha6
  have WW : Hid (∀ w', Arr 37 w' w3.heap.size S → Arr 26 w' w2.heap.size S → Whole 26 w2.heap.size S w' ∧ Whole 37 w3.heap.size S w') := fun w' h1 h2 => ⟨h2.whole 26 32 21 Try.underlying26 info_state HS32.out, h1.whole 37 32 21 Try.underlying37 info_game HS32.out⟩
  go_cut [46] (fun q wx => q = .bool false ∧ Arr 26 wx w2.heap.size S ∧ Arr 26 wx w5.heap.size S ∧ Below w.heap.size w wx)
  case first =>
    have e1 : (bs == bs) = true := by simp
    refine wp_region_noPanic ?_
    refine wp_region_held_drew (S := (fun w' => (convert 22 9 (.slice A5 128 c5)).run Try.prog w' = .ok (.string (strOf bs)) w' ∧ Whole 26 w2.heap.size S w' ∧ Whole 37 w3.heap.size S w')) (by kernel_rfl) ⟨run_stringB L5.drew.lies, WW.out _ k4.drew k3.drew⟩ (fun hHeld => ?_)
    refine wpAnyH_take (i := 0) (oi := ?_) (v := ?_) ?_ (by kernel_rfl) (by kernel_rfl) (by kernel_rfl) ?_ ?_ (by assumption) ?_
    rotate_left 2
    · (simp only [List.getElem?_toArray, List.getElem?_cons_zero]; rfl)
    · exact fun _ _ _ h => h
    · (refine Or.inl ⟨by rfl, ?_⟩; intro w hSw; (try dsimp only at hSw); go_simp <;> with_reducible rfl)
    try simp only [Act.put, List.setIfInBounds_toArray, List.set_cons_zero, List.set_cons_succ]
    refine wpAnyH_take (i := 1) (oi := ?_) (v := ?_) ?_ (by kernel_rfl) (by kernel_rfl) (by kernel_rfl) ?_ ?_ (by assumption) ?_
    rotate_left 2
    · (simp only [List.getElem?_toArray, List.getElem?_cons_succ, List.getElem?_cons_zero]; rfl)
    · exact fun _ _ _ h => h
    · (refine Or.inl ⟨by rfl, ?_⟩; intro w hSw; (try dsimp only at hSw); go_simp <;> with_reducible rfl)
    try simp only [Act.put, List.setIfInBounds_toArray, List.set_cons_zero, List.set_cons_succ]
    refine wpAnyH_take (i := 2) (oi := ?_) (v := .agg S.toArray) ?_ (by kernel_rfl) (by kernel_rfl) (by kernel_rfl) ?_ ?_ (by assumption) ?_
    rotate_left 1
    · (simp only [List.getElem?_toArray, List.getElem?_cons_succ, List.getElem?_cons_zero]; rfl)
    · exact fun _ _ _ h => h
    · (refine Or.inl ⟨by rfl, ?_⟩; intro w hSw; (try dsimp only at hSw); exact exec_whole (x := .tmp 9) hSw.2.2 rfl rfl)
    try simp only [Act.put, List.setIfInBounds_toArray, List.set_cons_zero, List.set_cons_succ]
    refine wpAnyH_ready (rs := [3]) (by kernel_rfl) (by simp) ?_
    refine AllReadyH.cons (o := ?_) ?_ (fun K hK => ?_) AllReadyH.nil
    rotate_left 1
    · (simp only [List.getElem?_toArray, List.getElem?_cons_succ, List.getElem?_cons_zero]; rfl)
    go_simp
    refine Calls.mono (ref_Bytes_v HS.out Hs32.out HsI.out Hbs.out _) ?_
    rintro e w7 ⟨A7, c7, rfl, own7, hb7⟩
    have k3 := k3.drew.belowN hb7
    have k4 := k4.drew.belowN hb7
    have k5 := k5.drew.belowN hb7
    have HB := Below_step HB.drew hb7
    have L5 := L5.drew.below hb7
    have L7 := own7
    refine hK.out _ _ ⟨run_stringB L5.lies, WW.out _ k4 k3⟩ (fun hHeld => ?_)
    clear hK K
    try simp only [Act.put, List.setIfInBounds_toArray, List.set_cons_zero, List.set_cons_succ]
    refine wpAnyH_mono (S' := (fun w' => (convert 22 9 (.slice A7 128 c7)).run Try.prog w' = .ok (.string (strOf bs)) w' ∧ ((convert 22 9 (.slice A5 128 c5)).run Try.prog w' = .ok (.string (strOf bs)) w' ∧ Whole 26 w2.heap.size S w' ∧ Whole 37 w3.heap.size S w'))) (fun _ h => h.2) _ _ _ _ ?_
    have hHeld2 := (⟨run_stringB L7.lies, run_stringB L5.lies, WW.out _ k4 k3⟩ : (fun w' => (convert 22 9 (.slice A7 128 c7)).run Try.prog w' = .ok (.string (strOf bs)) w' ∧ ((convert 22 9 (.slice A5 128 c5)).run Try.prog w' = .ok (.string (strOf bs)) w' ∧ Whole 26 w2.heap.size S w' ∧ Whole 37 w3.heap.size S w')) w7)
    refine wpAnyH_take (i := 4) (oi := ?_) (v := ?_) ?_ (by kernel_rfl) (by kernel_rfl) (by kernel_rfl) ?_ ?_ (by assumption) ?_
    rotate_left 2
    · (simp only [List.getElem?_toArray, List.getElem?_cons_succ, List.getElem?_cons_zero]; rfl)
    · exact fun _ _ _ h => h
    · (refine Or.inl ⟨by rfl, ?_⟩; intro w hSw; (try dsimp only at hSw); go_simp <;> with_reducible rfl)
    try simp only [Act.put, List.setIfInBounds_toArray, List.set_cons_zero, List.set_cons_succ]
    refine wpAnyH_take (i := 5) (oi := ?_) (v := ?_) ?_ (by kernel_rfl) (by kernel_rfl) (by kernel_rfl) ?_ ?_ (by assumption) ?_
    rotate_left 2
    · (simp only [List.getElem?_toArray, List.getElem?_cons_succ, List.getElem?_cons_zero]; rfl)
    · exact fun _ _ _ h => h
    · (refine Or.inl ⟨by rfl, ?_⟩; intro w hSw; (try dsimp only at hSw); go_simp <;> with_reducible rfl)
    try simp only [Act.put, List.setIfInBounds_toArray, List.set_cons_zero, List.set_cons_succ]
    refine wpAnyH_take (i := 6) (oi := ?_) (v := ?_) ?_ (by kernel_rfl) (by kernel_rfl) (by kernel_rfl) ?_ ?_ (by assumption) ?_
    rotate_left 2
    · (simp only [List.getElem?_toArray, List.getElem?_cons_succ, List.getElem?_cons_zero]; rfl)
    · exact fun _ _ _ h => h
    · (refine Or.inl ⟨by rfl, ?_⟩; intro w hSw; (try dsimp only at hSw); go_simp <;> with_reducible rfl)
    try simp only [Act.put, List.setIfInBounds_toArray, List.set_cons_zero, List.set_cons_succ]
    refine wpAnyH_take (i := 7) (oi := ?_) (v := .agg S.toArray) ?_ (by kernel_rfl) (by kernel_rfl) (by kernel_rfl) ?_ ?_ (by assumption) ?_
    rotate_left 1
    · (simp only [List.getElem?_toArray, List.getElem?_cons_succ, List.getElem?_cons_zero]; rfl)
    · exact fun _ _ _ h => h
    · (refine Or.inl ⟨by rfl, ?_⟩; intro w hSw; (try dsimp only at hSw); exact exec_whole (x := .tmp 8) hSw.2.2.1 rfl rfl)
    try simp only [Act.put, List.setIfInBounds_toArray, List.set_cons_zero, List.set_cons_succ]
    refine wpAnyH_take (i := 9) (oi := ?_) (v := .agg S.toArray) ?_ (by kernel_rfl) (by kernel_rfl) (by kernel_rfl) ?_ ?_ (by assumption) ?_
    rotate_left 1
    · (simp only [List.getElem?_toArray, List.getElem?_cons_succ, List.getElem?_cons_zero]; rfl)
    · exact fun _ _ _ h => h
    · (refine Or.inl ⟨by rfl, ?_⟩; intro w hSw; (try dsimp only at hSw); exact exec_whole (x := .tmp 9) hSw.2.2.2 rfl rfl)
    try simp only [Act.put, List.setIfInBounds_toArray, List.set_cons_zero, List.set_cons_succ]
    refine wpAnyH_ready (rs := [8]) (by kernel_rfl) (by simp) ?_
    refine AllReadyH.cons (o := ?_) ?_ (fun K hK => ?_) AllReadyH.nil
    rotate_left 1
    · (simp only [List.getElem?_toArray, List.getElem?_cons_succ, List.getElem?_cons_zero]; rfl)
    go_simp
    refine Calls.mono (state_Sum_v HS.out Hs32.out Hsm.out _) ?_
    rintro e w9 ⟨rfl, hb9⟩
    have k3 := k3.belowN hb9
    have k4 := k4.belowN hb9
    have k5 := k5.belowN hb9
    have HB := Below_step HB hb9
    have L5 := L5.below hb9
    have L7 := L7.below hb9
    refine hK.out _ _ ⟨run_stringB L7.lies, run_stringB L5.lies, WW.out _ k4 k3⟩ (fun hHeld => ?_)
    clear hK K
    try simp only [Act.put, List.setIfInBounds_toArray, List.set_cons_zero, List.set_cons_succ]
    refine wpAnyH_ready (rs := [10]) (by kernel_rfl) (by simp) ?_
    refine AllReadyH.cons (o := ?_) ?_ (fun K hK => ?_) AllReadyH.nil
    rotate_left 1
    · (simp only [List.getElem?_toArray, List.getElem?_cons_succ, List.getElem?_cons_zero]; rfl)
    go_simp
    refine Calls.mono (ref_SumOf_v HS.out Hs32.out HsI.out Hsm.out _) ?_
    rintro e w10 ⟨rfl, hb9⟩
    have k3 := k3.belowN hb9
    have k4 := k4.belowN hb9
    have k5 := k5.belowN hb9
    have HB := Below_step HB hb9
    have L5 := L5.below hb9
    have L7 := L7.below hb9
    refine hK.out _ _ ⟨run_stringB L7.lies, run_stringB L5.lies, WW.out _ k4 k3⟩ (fun hHeld => ?_)
    clear hK K
    try simp only [Act.put, List.setIfInBounds_toArray, List.set_cons_zero, List.set_cons_succ]
    refine wpAnyH_take (i := 11) (oi := ?_) (v := ?_) ?_ (by kernel_rfl) (by kernel_rfl) (by kernel_rfl) ?_ ?_ (by assumption) ?_
    rotate_left 2
    · (simp only [List.getElem?_toArray, List.getElem?_cons_succ, List.getElem?_cons_zero]; rfl)
    · exact fun _ _ _ h => h
    · (refine Or.inl ⟨by rfl, ?_⟩; intro w hSw; (try dsimp only at hSw); go_simp <;> with_reducible rfl)
    try simp only [Act.put, List.setIfInBounds_toArray, List.set_cons_zero, List.set_cons_succ]
    refine wpAnyH_take (i := 12) (oi := ?_) (v := ?_) ?_ (by kernel_rfl) (by kernel_rfl) (by kernel_rfl) ?_ ?_ (by assumption) ?_
    rotate_left 2
    · (simp only [List.getElem?_toArray, List.getElem?_cons_succ, List.getElem?_cons_zero]; rfl)
    · exact fun _ _ _ h => h
    · (refine Or.inl ⟨by rfl, ?_⟩; intro w hSw; (try dsimp only at hSw); go_simp <;> with_reducible rfl)
    try simp only [Act.put, List.setIfInBounds_toArray, List.set_cons_zero, List.set_cons_succ]
    refine wpAnyH_take (i := 13) (oi := ?_) (v := ?_) ?_ (by kernel_rfl) (by kernel_rfl) (by kernel_rfl) ?_ ?_ (by assumption) ?_
    rotate_left 2
    · (simp only [List.getElem?_toArray, List.getElem?_cons_succ, List.getElem?_cons_zero]; rfl)
    · exact fun _ _ _ h => h
    · (refine Or.inl ⟨by rfl, ?_⟩; intro w hSw; (try dsimp only at hSw); go_simp <;> with_reducible rfl)
    try simp only [Act.put, List.setIfInBounds_toArray, List.set_cons_zero, List.set_cons_succ]
    refine wpAnyH_take (i := 14) (oi := ?_) (v := ?_) ?_ (by kernel_rfl) (by kernel_rfl) (by kernel_rfl) ?_ ?_ (by assumption) ?_
    rotate_left 2
    · (simp only [List.getElem?_toArray, List.getElem?_cons_succ, List.getElem?_cons_zero]; rfl)
    · exact fun _ _ _ h => h
    · (refine Or.inl ⟨by rfl, ?_⟩; intro w hSw; (try dsimp only at hSw); go_simp <;> with_reducible rfl)
    try simp only [Act.put, List.setIfInBounds_toArray, List.set_cons_zero, List.set_cons_succ]
    refine wpAnyH_take (i := 15) (oi := ?_) (v := ?_) ?_ (by kernel_rfl) (by kernel_rfl) (by kernel_rfl) ?_ ?_ (by assumption) ?_
    rotate_left 2
    · (simp only [List.getElem?_toArray, List.getElem?_cons_succ, List.getElem?_cons_zero]; rfl)
    · exact fun _ _ _ h => h
    · (refine Or.inl ⟨by rfl, ?_⟩; intro w hSw; (try dsimp only at hSw); go_simp <;> with_reducible rfl)
    try simp only [Act.put, List.setIfInBounds_toArray, List.set_cons_zero, List.set_cons_succ]
    refine wpAnyH_take (i := 16) (oi := ?_) (v := ?_) ?_ (by kernel_rfl) (by kernel_rfl) (by kernel_rfl) ?_ ?_ (by assumption) ?_
    rotate_left 2
    · (simp only [List.getElem?_toArray, List.getElem?_cons_succ, List.getElem?_cons_zero]; rfl)
    · exact fun _ _ _ h => h
    · (refine Or.inl ⟨by rfl, ?_⟩; intro w hSw; (try dsimp only at hSw); go_simp <;> with_reducible rfl)
    try simp only [Act.put, List.setIfInBounds_toArray, List.set_cons_zero, List.set_cons_succ]
    refine wpAnyH_done (by kernel_rfl) (NoPanic.normal ?_) _
    go_wp2_with fail
    go_meet
    exact ⟨by simp, k3, k5, HB⟩
  case rest =>
    clear k3 k4 k5 HB L5 WW
    obtain ⟨rfl, k3, k5, HB⟩ := hcut
    go_wp2_with (refine wpA_load rfl 26 (.tmp 8) rfl w2.heap.size rfl 26 S k3 32 21 Try.underlying26 info_state HS32.out ?_)
    refine Calls.mono (state_Page_v HS.out Hs32.out HP.out _ lo hi) ?_
    rintro e w7 ⟨rfl, hb7⟩
    have k3 := k3.belowN hb7
    have k5 := k5.belowN hb7
    have HB := Below_step HB hb7
    go_wp2_with (first
      | (refine wpA_init rfl 35 (.tmp 13) (.tmp 49) rfl P rfl rfl 8 info_page rfl HP8.out HP1.out ?_; intro w8 ha8 hb8 hs8; clear hs8; have k3 := k3.belowN hb8)
      | (refine wpA_load rfl 35 (.tmp 13) rfl w7.heap.size rfl 35 P ha8 8 21 Try.underlying35 info_page HP8.out ?_)
      | (refine wpA_load rfl 26 (.tmp 8) rfl w2.heap.size rfl 26 S k3 32 21 Try.underlying26 info_state HS32.out ?_))
    refine Calls.mono (state_With_v HS.out Hs32.out HP.out (pageOf_len _ _ Hs32.out) HU.out _ loj hij) ?_
    rintro e w8' ⟨rfl, hb9⟩
    have k3 := hide (k3.belowN hb9)
    have k5 := hide ((k5.belowN hb8).belowN hb9)
    have HB := hide (Below_step (Below_step HB hb8) hb9)
    clear hb7 hb8 hb9 ha8
    go_wp2_with (refine wpA_init rfl 26 (.tmp 14) (.tmp 53) rfl U rfl rfl 32 info_state rfl HU32.out HU1.out ?_; intro w9 ha9 hb9 hs9; clear hs9)
    have k3 := hide (k3.out.belowN hb9)
    have k5 := hide (k5.out.belowN hb9)
    have kU := hide ha9
    have HB := hide (Below_step HB.out hb9)
    clear hb9 ha9
    go_loopg [15] 32 (fun g q wr => ∃ k : Nat, k ≤ 32 ∧ g = 32 - k ∧ q = .int .i64 k ∧ Arr 26 wr w2.heap.size S ∧ Arr 26 wr w5.heap.size S ∧ Arr 26 wr w8'.heap.size U ∧ Below w.heap.size w wr)
    case atStart => exact ⟨0, by omega, rfl, rfl, k3.out, k5.out, kU.out, HB.out⟩
    case round =>
      obtain ⟨W1, hW1⟩ : ∃ W1, W1 = wr := ⟨_, rfl⟩
      subst hW1
      clear k3 k5 kU HB
      obtain ⟨k, hk, rfl, rfl, k3', k5', kU', HB'⟩ := hrel
      have k3 := hide k3'
      have k5 := hide k5'
      have kU := hide kU'
      have HB := hide HB'
      clear k3' k5' kU' HB'
      by_cases hlt : k < 32
      · have c3 := k3.out.cell (j := k) (by rw [HS32.out]; exact hlt)
        have c5' := k5.out.cell (j := k) (by rw [HS32.out]; exact hlt)
        have cU := kU.out.cell (j := k) (by rw [HU32.out]; exact hlt)
        rw [HSK.out] at c3 c5'
        rw [HUK.out] at cU
        obtain ⟨x, hx⟩ : ∃ x, x = s.getD k 0 := ⟨_, rfl⟩
        obtain ⟨wv, hwv⟩ : ∃ wv, wv = wantOf s i j k := ⟨_, rfl⟩
        rw [← hx] at c3 c5'
        rw [← hwv] at cU
        have HX := hide hx
        have HWV := hide hwv
        obtain ⟨kq, hkq⟩ : ∃ kq, kq = k / 8 := ⟨_, rfl⟩
        obtain ⟨kr, hkr⟩ : ∃ kr, kr = k % 8 := ⟨_, rfl⟩
        have e8 : (k : Int) / 8 = (kq : Int) := by omega
        have r8 : (k : Int) % 8 = (kr : Int) := by omega
        have hkr8 : kr < 8 := by omega
        have HKQ := hide hkq
        have HKR := hide hkr
        have hki : (k : Int) < 32 := by omega
        have C3 := hide c3
        have C5 := hide c5'
        have CU := hide cU
        obtain ⟨jb, hjb⟩ : ∃ jb : Bool, jb = decide (0 ≤ j ∧ j < 4 ∧ (kq : Int) = j) := ⟨_, rfl⟩
        have HJB := hide hjb
        clear hx hwv hkq hkr hjb c5' cU
        go_upto_region 16 with fail
        go_cut [72] from 54 to 99 (fun q wx => q = .bool jb ∧ W1 = wx)
        case first =>
          by_cases j1 : 0 ≤ j
          · by_cases j2 : j < 4
            · by_cases j3 : (kq : Int) = j
              · have e : Hid (jb = true) := by show jb = true; rw [HJB.out, decide_eq_true ⟨j1, j2, j3⟩]
                have d : ((kq : Int) == j) = true := by simpa using j3
                clear j3
                go_wp2
                go_meet
                rw [e.out]
                exact ⟨rfl, rfl⟩
              · have e : Hid (jb = false) := by show jb = false; rw [HJB.out, decide_eq_false (fun h => j3 h.2.2)]
                have d : ((kq : Int) == j) = false := by simpa using j3
                clear j3
                go_wp2
                go_meet
                rw [e.out]
                exact ⟨rfl, rfl⟩
            · have e : Hid (jb = false) := by show jb = false; rw [HJB.out, decide_eq_false (fun h => j2 h.2.1)]
              have d : decide (j < 4) = false := by simp; omega
              go_wp2
              go_meet
              rw [e.out]
              exact ⟨rfl, rfl⟩
          · have e : Hid (jb = false) := by show jb = false; rw [HJB.out, decide_eq_false (fun h => j1 h.1)]
            have d : decide (0 ≤ j) = false := by simp; omega
            go_wp2
            go_meet
            rw [e.out]
            exact ⟨rfl, rfl⟩
        case rest =>
        obtain ⟨rfl, rfl⟩ := hcut
        go_upto_if 72 with fail
        go_cut [16] from 54 to 99 (fun q wx => q = .int .i32 wv ∧ W1 = wx)
        case first =>
          cases jb with
          | false =>
            have e : Hid (wv = x) := by
              show wv = x
              rw [HWV.out, wantOf, if_neg (by have := of_decide_eq_false HJB.out.symm; rw [HKQ.out] at this; exact this), ← HX.out]
            go_wp2
            go_meet
            rw [e.out]
            exact ⟨rfl, rfl⟩
          | true =>
            have hj := of_decide_eq_true HJB.out.symm
            rw [HKQ.out] at hj
            have hw1 : wv = if 0 ≤ i ∧ i < 4 then s.getD (8 * i.toNat + k % 8) 0 else 0 := by rw [HWV.out, wantOf, if_pos hj]
            clear hj
            by_cases i1 : 0 ≤ i
            · by_cases i2 : i < 4
              · rw [if_pos ⟨i1, i2⟩] at hw1
                obtain ⟨ci, rfl⟩ : ∃ ci : Nat, i = (ci : Int) := ⟨i.toNat, by omega⟩
                obtain ⟨m, hm⟩ : ∃ m, m = 8 * ci := ⟨_, rfl⟩
                obtain ⟨r, hr⟩ : ∃ r, r = m + kr := ⟨_, rfl⟩
                have m8 : (8 : Int) * (ci : Int) = (m : Int) := by omega
                have mr : (m : Int) + (kr : Int) = (r : Int) := by omega
                have hr32 : r < 32 := by omega
                have hri : (r : Int) < 32 := by omega
                have cr := k3.out.cell (j := r) (by rw [HS32.out]; exact hr32)
                rw [HSK.out] at cr
                have e : Hid (s.getD r 0 = wv) := by show _ = wv; rw [hw1, Int.toNat_natCast, hr, hm, HKR.out]
                rw [e.out] at cr
                clear hw1 hm hr c3
                go_wp2
                go_meet
                exact ⟨rfl, rfl⟩
              · rw [if_neg (by omega)] at hw1
                have e : Hid (wv = 0) := hw1
                have d : decide (i < 4) = false := by simp; omega
                clear hw1
                go_wp2
                go_meet
                rw [e.out]
                exact ⟨rfl, rfl⟩
            · rw [if_neg (by omega)] at hw1
              have e : Hid (wv = 0) := hw1
              have d : decide (0 ≤ i) = false := by simp; omega
              clear hw1
              go_wp2
              go_meet
              rw [e.out]
              exact ⟨rfl, rfl⟩
        case rest =>
        obtain ⟨rfl, rfl⟩ := hcut
        clear c3
        go_wp2_with fail
        refine wp_region_noPanic ?_
        refine wp_region_held_drew (S := (fun w' => w'.cell? ⟨w5.heap.size, k, none⟩ = some (.int .i32 x) ∧ w'.cell? ⟨w2.heap.size, k, none⟩ = some (.int .i32 x) ∧ w'.cell? ⟨w8'.heap.size, k, none⟩ = some (.int .i32 wv))) (by kernel_rfl) ⟨C5.out, C3.out, CU.out⟩ (fun hHeld => ?_)
        refine wpAnyH_take (i := 0) (oi := ?_) (v := ?_) ?_ (by kernel_rfl) (by kernel_rfl) (by kernel_rfl) ?_ ?_ (by assumption) ?_
        rotate_left 2
        · (simp only [List.getElem?_toArray, List.getElem?_cons_zero]; rfl)
        · exact fun _ _ _ h => h
        · (refine Or.inl ⟨by rfl, ?_⟩; intro w hSw; (try dsimp only at hSw); go_simp <;> with_reducible rfl)
        try simp only [Act.put, List.setIfInBounds_toArray, List.set_cons_zero, List.set_cons_succ]
        refine wpAnyH_take (i := 1) (oi := ?_) (v := ?_) ?_ (by kernel_rfl) (by kernel_rfl) (by kernel_rfl) ?_ ?_ (by assumption) ?_
        rotate_left 2
        · (simp only [List.getElem?_toArray, List.getElem?_cons_succ, List.getElem?_cons_zero]; rfl)
        · exact fun _ _ _ h => h
        · (refine Or.inl ⟨by rfl, ?_⟩; intro w hSw; (try dsimp only at hSw); go_simp <;> with_reducible rfl)
        try simp only [Act.put, List.setIfInBounds_toArray, List.set_cons_zero, List.set_cons_succ]
        refine wpAnyH_take (i := 2) (oi := ?_) (v := ?_) ?_ (by kernel_rfl) (by kernel_rfl) (by kernel_rfl) ?_ ?_ (by assumption) ?_
        rotate_left 2
        · (simp only [List.getElem?_toArray, List.getElem?_cons_succ, List.getElem?_cons_zero]; rfl)
        · exact fun _ _ _ h => h
        · (refine Or.inl ⟨by rfl, ?_⟩; intro w hSw; (try dsimp only at hSw); go_simp <;> with_reducible rfl)
        try simp only [Act.put, List.setIfInBounds_toArray, List.set_cons_zero, List.set_cons_succ]
        refine wpAnyH_take (i := 3) (oi := ?_) (v := ?_) ?_ (by kernel_rfl) (by kernel_rfl) (by kernel_rfl) ?_ ?_ (by assumption) ?_
        rotate_left 2
        · (simp only [List.getElem?_toArray, List.getElem?_cons_succ, List.getElem?_cons_zero]; rfl)
        · exact fun _ _ _ h => h
        · (refine Or.inl ⟨by rfl, ?_⟩; intro w hSw; (try dsimp only at hSw); go_simp <;> with_reducible rfl)
        try simp only [Act.put, List.setIfInBounds_toArray, List.set_cons_zero, List.set_cons_succ]
        refine wpAnyH_take (i := 4) (oi := ?_) (v := ?_) ?_ (by kernel_rfl) (by kernel_rfl) (by kernel_rfl) ?_ ?_ (by assumption) ?_
        rotate_left 2
        · (simp only [List.getElem?_toArray, List.getElem?_cons_succ, List.getElem?_cons_zero]; rfl)
        · exact fun _ _ _ h => h
        · (refine Or.inl ⟨by rfl, ?_⟩; intro w hSw; (try dsimp only at hSw); go_simp <;> with_reducible rfl)
        try simp only [Act.put, List.setIfInBounds_toArray, List.set_cons_zero, List.set_cons_succ]
        refine wpAnyH_take (i := 5) (oi := ?_) (v := ?_) ?_ (by kernel_rfl) (by kernel_rfl) (by kernel_rfl) ?_ ?_ (by assumption) ?_
        rotate_left 2
        · (simp only [List.getElem?_toArray, List.getElem?_cons_succ, List.getElem?_cons_zero]; rfl)
        · exact fun _ _ _ h => h
        · (refine Or.inl ⟨by rfl, ?_⟩; intro w hSw; (try dsimp only at hSw); go_simp <;> with_reducible rfl)
        try simp only [Act.put, List.setIfInBounds_toArray, List.set_cons_zero, List.set_cons_succ]
        refine wpAnyH_take (i := 6) (oi := ?_) (v := ?_) ?_ (by kernel_rfl) (by kernel_rfl) (by kernel_rfl) ?_ ?_ (by assumption) ?_
        rotate_left 2
        · (simp only [List.getElem?_toArray, List.getElem?_cons_succ, List.getElem?_cons_zero]; rfl)
        · exact fun _ _ _ h => h
        · (refine Or.inl ⟨by rfl, ?_⟩; intro w hSw; (try dsimp only at hSw); go_simp <;> with_reducible rfl)
        try simp only [Act.put, List.setIfInBounds_toArray, List.set_cons_zero, List.set_cons_succ]
        refine wpAnyH_take (i := 7) (oi := ?_) (v := ?_) ?_ (by kernel_rfl) (by kernel_rfl) (by kernel_rfl) ?_ ?_ (by assumption) ?_
        rotate_left 2
        · (simp only [List.getElem?_toArray, List.getElem?_cons_succ, List.getElem?_cons_zero]; rfl)
        · exact fun _ _ _ h => h
        · (refine Or.inl ⟨by rfl, ?_⟩; intro w hSw; (try dsimp only at hSw); go_simp <;> with_reducible rfl)
        try simp only [Act.put, List.setIfInBounds_toArray, List.set_cons_zero, List.set_cons_succ]
        refine wpAnyH_take (i := 8) (oi := ?_) (v := ?_) ?_ (by kernel_rfl) (by kernel_rfl) (by kernel_rfl) ?_ ?_ (by assumption) ?_
        rotate_left 2
        · (simp only [List.getElem?_toArray, List.getElem?_cons_succ, List.getElem?_cons_zero]; rfl)
        · exact fun _ _ _ h => h
        · (refine Or.inl ⟨by rfl, ?_⟩; intro w hSw; (try dsimp only at hSw); go_simp <;> with_reducible rfl)
        try simp only [Act.put, List.setIfInBounds_toArray, List.set_cons_zero, List.set_cons_succ]
        refine wpAnyH_take (i := 9) (oi := ?_) (v := ?_) ?_ (by kernel_rfl) (by kernel_rfl) (by kernel_rfl) ?_ ?_ (by assumption) ?_
        rotate_left 2
        · (simp only [List.getElem?_toArray, List.getElem?_cons_succ, List.getElem?_cons_zero]; rfl)
        · exact fun _ _ _ h => h
        · (refine Or.inl ⟨by rfl, ?_⟩; intro w hSw; (try dsimp only at hSw); go_simp <;> with_reducible rfl)
        try simp only [Act.put, List.setIfInBounds_toArray, List.set_cons_zero, List.set_cons_succ]
        refine wpAnyH_take (i := 10) (oi := ?_) (v := ?_) ?_ (by kernel_rfl) (by kernel_rfl) (by kernel_rfl) ?_ ?_ (by assumption) ?_
        rotate_left 2
        · (simp only [List.getElem?_toArray, List.getElem?_cons_succ, List.getElem?_cons_zero]; rfl)
        · exact fun _ _ _ h => h
        · (refine Or.inl ⟨by rfl, ?_⟩; intro w hSw; (try dsimp only at hSw); go_simp <;> with_reducible rfl)
        try simp only [Act.put, List.setIfInBounds_toArray, List.set_cons_zero, List.set_cons_succ]
        refine wpAnyH_take (i := 11) (oi := ?_) (v := ?_) ?_ (by kernel_rfl) (by kernel_rfl) (by kernel_rfl) ?_ ?_ (by assumption) ?_
        rotate_left 2
        · (simp only [List.getElem?_toArray, List.getElem?_cons_succ, List.getElem?_cons_zero]; rfl)
        · exact fun _ _ _ h => h
        · (refine Or.inl ⟨by rfl, ?_⟩; intro w hSw; (try dsimp only at hSw); go_simp <;> with_reducible rfl)
        try simp only [Act.put, List.setIfInBounds_toArray, List.set_cons_zero, List.set_cons_succ]
        refine wpAnyH_take (i := 12) (oi := ?_) (v := ?_) ?_ (by kernel_rfl) (by kernel_rfl) (by kernel_rfl) ?_ ?_ (by assumption) ?_
        rotate_left 2
        · (simp only [List.getElem?_toArray, List.getElem?_cons_succ, List.getElem?_cons_zero]; rfl)
        · exact fun _ _ _ h => h
        · (refine Or.inl ⟨by rfl, ?_⟩; intro w hSw; (try dsimp only at hSw); go_simp <;> with_reducible rfl)
        try simp only [Act.put, List.setIfInBounds_toArray, List.set_cons_zero, List.set_cons_succ]
        refine wpAnyH_take (i := 13) (oi := ?_) (v := ?_) ?_ (by kernel_rfl) (by kernel_rfl) (by kernel_rfl) ?_ ?_ (by assumption) ?_
        rotate_left 2
        · (simp only [List.getElem?_toArray, List.getElem?_cons_succ, List.getElem?_cons_zero]; rfl)
        · exact fun _ _ _ h => h
        · (refine Or.inl ⟨by rfl, ?_⟩; intro w hSw; (try dsimp only at hSw); go_simp <;> with_reducible rfl)
        try simp only [Act.put, List.setIfInBounds_toArray, List.set_cons_zero, List.set_cons_succ]
        refine wpAnyH_done (by kernel_rfl) (NoPanic.normal ?_) _
        go_wp2_with fail
        go_roundg (32 - (k + 1))
        case measure => omega
        case rel => exact ⟨k + 1, by omega, rfl, by go_num, k3.out.drew, k5.out.drew, kU.out.drew, HB.out.drew⟩
      · obtain rfl : k = 32 := by omega
        go_wp2
        go_ret
        exact ⟨rfl, HB.out⟩
end Go.Proofs.Ytmikaidfdcamfaa
