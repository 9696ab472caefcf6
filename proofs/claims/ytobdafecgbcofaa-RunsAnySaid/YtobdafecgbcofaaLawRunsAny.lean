/-
  RunsAny: the walk.
-/
import Derived.Test.YtobdafecgbcofaaLaw14
import Derived.Test.YtobdafecgbcofaaRegion
namespace Go.Proofs.Ytobdafecgbcofaa
open Go.RowKit
set_option linter.unusedVariables false
set_option maxHeartbeats 2000000 in
set_option maxRecDepth 10000 in
theorem runs_tells (A : Option Addr) (n c B : Nat) (l : List UInt8) (most : Int) (M : Nat) (w : World) (hA : LiesB w B A n l) (hnc : n ≤ c) (hB : B ≤ w.heap.size) (hn : n ≤ 1000000)
    (lo : -9223372036854775808 ≤ most) (hi : most ≤ 9223372036854775807) (hM : max most 0 = (M : Int)) (hM5 : M ≤ 5000) :
    Calls Try.prog 13 #[.slice A n c, .int .i64 most] w fun e w' => e = .returned (.bool true) ∧ Below w.heap.size w w' := by
  obtain ⟨x, er, hR⟩ : ∃ x er, Runs.dec M true 0 [] l = (x, er) := ⟨_, _, rfl⟩
  have HA := hide hA
  have HM := hide hM
  have HM2 : Hid (max 0 most = (M : Int)) := by rw [Int.max_comm]; exact hM
  have HR := hide hR
  clear hA hM hR
  by_cases he : er = 0
  · subst he
    have hbk := Runs.dec_back0 HR.out rfl
    have hx5 : x.length ≤ 5000 := by have := hbk.2; omega
    have HE := hide hbk.1
    clear hbk
    go_enter Try.func13, Try.ntmps13
    go_wp2_with fail
    refine Calls.mono (runs_Decode_v M HA.out hnc hB hn lo hi HM.out HR.out (.inl (by omega))) ?_
    rintro e w1 ⟨A1, n1, c1, rfl, own1, hb1⟩
    have L1 := hide (HA.out.below (hb1.mono hB))
    have HB1 := hide hb1
    have O1 := hide own1
    have hs1 := hb1.size
    have hn1 : n1 ≤ 5000 := by rw [← own1.len]; exact hx5
    clear own1 hb1
    go_wp2_with fail
    refine Calls.mono (ref_Unruns _ _ _ _ _ _ M _ L1.out hnc (Nat.le_trans hB hs1) hn lo hi HM2.out (x, 0) HR.out (.inl (by omega))) ?_
    rintro e w2 ⟨A2, n2, c2, rfl, own2, hb2⟩
    have L2 := (L1.out.below (hb2.mono (Nat.le_trans hB hs1))).drew
    have O1 := (O1.out.below hb2).lies.drew
    have O2 := own2.lies.drew
    have HB := (Below_step HB1.out hb2).drew
    clear own2 hb2
    go_wp2_with fail
    have e1 : (x == x) = true := by simp
    have e2 : (l == l) = true := by simp
    refine wp_region_noPanic ?_
    refine wp_region_held_drew (S := (fun w' => (convert 22 9 (.slice A1 n1 c1)).run Try.prog w' = .ok (.string (strOf x)) w' ∧ (convert 22 9 (.slice A2 n2 c2)).run Try.prog w' = .ok (.string (strOf x)) w' ∧ (convert 22 9 (.slice A n c)).run Try.prog w' = .ok (.string (strOf l)) w')) (by kernel_rfl) ⟨run_stringB O1, run_stringB O2, run_stringB L2⟩ (fun hHeld => ?_)
    refine wpAnyH_take (i := 0) (oi := ?_) (v := ?_) ?_ (by kernel_rfl) (by kernel_rfl) (by kernel_rfl) ?_ ?_ (by assumption) ?_
    rotate_left 2
    · (simp only [List.getElem?_toArray, List.getElem?_cons_zero]; rfl)
    · exact fun _ _ _ h => h
    · (refine Or.inl ⟨by rfl, ?_⟩; intro w hSw; (try dsimp only at hSw); go_simp <;> with_reducible rfl)
    try simp only [Act.put, List.setIfInBounds_toArray, List.set_cons_zero, List.set_cons_succ]
    refine wpAnyH_take (i := 1) (oi := ?_) (v := ?_) ?_ (by kernel_rfl) (by kernel_rfl) (by kernel_rfl) ?_ ?_ (by assumption) ?_
    rotate_left 2
    · (simp only [List.getElem?_toArray, List.getElem?_cons_succ, List.getElem?_cons_zero]; rfl)
    · exact fun _ _ _ h => h
    · (refine Or.inl ⟨by rfl, ?_⟩; intro w hSw; (try dsimp only at hSw); go_simp <;> with_reducible rfl)
    try simp only [Act.put, List.setIfInBounds_toArray, List.set_cons_zero, List.set_cons_succ]
    refine wpAnyH_take (i := 2) (oi := ?_) (v := ?_) ?_ (by kernel_rfl) (by kernel_rfl) (by kernel_rfl) ?_ ?_ (by assumption) ?_
    rotate_left 2
    · (simp only [List.getElem?_toArray, List.getElem?_cons_succ, List.getElem?_cons_zero]; rfl)
    · exact fun _ _ _ h => h
    · (refine Or.inl ⟨by rfl, ?_⟩; intro w hSw; (try dsimp only at hSw); go_simp <;> with_reducible rfl)
    try simp only [Act.put, List.setIfInBounds_toArray, List.set_cons_zero, List.set_cons_succ]
    refine wpAnyH_take (i := 3) (oi := ?_) (v := ?_) ?_ (by kernel_rfl) (by kernel_rfl) (by kernel_rfl) ?_ ?_ (by assumption) ?_
    rotate_left 2
    · (simp only [List.getElem?_toArray, List.getElem?_cons_succ, List.getElem?_cons_zero]; rfl)
    · exact fun _ _ _ h => h
    · (refine Or.inl ⟨by rfl, ?_⟩; intro w hSw; (try dsimp only at hSw); go_simp <;> with_reducible rfl)
    try simp only [Act.put, List.setIfInBounds_toArray, List.set_cons_zero, List.set_cons_succ]
    refine wpAnyH_take (i := 4) (oi := ?_) (v := ?_) ?_ (by kernel_rfl) (by kernel_rfl) (by kernel_rfl) ?_ ?_ (by assumption) ?_
    rotate_left 2
    · (simp only [List.getElem?_toArray, List.getElem?_cons_succ, List.getElem?_cons_zero]; rfl)
    · exact fun _ _ _ h => h
    · (refine Or.inl ⟨by rfl, ?_⟩; intro w hSw; (try dsimp only at hSw); go_simp <;> with_reducible rfl)
    try simp only [Act.put, List.setIfInBounds_toArray, List.set_cons_zero, List.set_cons_succ]
    refine wpAnyH_take (i := 5) (oi := ?_) (v := ?_) ?_ (by kernel_rfl) (by kernel_rfl) (by kernel_rfl) ?_ ?_ (by assumption) ?_
    rotate_left 2
    · (simp only [List.getElem?_toArray, List.getElem?_cons_succ, List.getElem?_cons_zero]; rfl)
    · exact fun _ _ _ h => h
    · (refine Or.inl ⟨by rfl, ?_⟩; intro w hSw; (try dsimp only at hSw); go_simp <;> with_reducible rfl)
    try simp only [Act.put, List.setIfInBounds_toArray, List.set_cons_zero, List.set_cons_succ]
    refine wpAnyH_take (i := 6) (oi := ?_) (v := ?_) ?_ (by kernel_rfl) (by kernel_rfl) (by kernel_rfl) ?_ ?_ (by assumption) ?_
    rotate_left 2
    · (simp only [List.getElem?_toArray, List.getElem?_cons_succ, List.getElem?_cons_zero]; rfl)
    · exact fun _ _ _ h => h
    · (refine Or.inl ⟨by rfl, ?_⟩; intro w hSw; (try dsimp only at hSw); go_simp <;> with_reducible rfl)
    try simp only [Act.put, List.setIfInBounds_toArray, List.set_cons_zero, List.set_cons_succ]
    refine wpAnyH_take (i := 7) (oi := ?_) (v := ?_) ?_ (by kernel_rfl) (by kernel_rfl) (by kernel_rfl) ?_ ?_ (by assumption) ?_
    rotate_left 2
    · (simp only [List.getElem?_toArray, List.getElem?_cons_succ, List.getElem?_cons_zero]; rfl)
    · exact fun _ _ _ h => h
    · (refine Or.inl ⟨by rfl, ?_⟩; intro w hSw; (try dsimp only at hSw); go_simp <;> with_reducible rfl)
    try simp only [Act.put, List.setIfInBounds_toArray, List.set_cons_zero, List.set_cons_succ]
    refine wpAnyH_take (i := 8) (oi := ?_) (v := ?_) ?_ (by kernel_rfl) (by kernel_rfl) (by kernel_rfl) ?_ ?_ (by assumption) ?_
    rotate_left 2
    · (simp only [List.getElem?_toArray, List.getElem?_cons_succ, List.getElem?_cons_zero]; rfl)
    · exact fun _ _ _ h => h
    · (refine Or.inl ⟨by rfl, ?_⟩; intro w hSw; (try dsimp only at hSw); go_simp <;> with_reducible rfl)
    try simp only [Act.put, List.setIfInBounds_toArray, List.set_cons_zero, List.set_cons_succ]
    refine wpAnyH_take (i := 9) (oi := ?_) (v := ?_) ?_ (by kernel_rfl) (by kernel_rfl) (by kernel_rfl) ?_ ?_ (by assumption) ?_
    rotate_left 2
    · (simp only [List.getElem?_toArray, List.getElem?_cons_succ, List.getElem?_cons_zero]; rfl)
    · exact fun _ _ _ h => h
    · (refine Or.inl ⟨by rfl, ?_⟩; intro w hSw; (try dsimp only at hSw); go_simp <;> with_reducible rfl)
    try simp only [Act.put, List.setIfInBounds_toArray, List.set_cons_zero, List.set_cons_succ]
    refine wpAnyH_take (i := 10) (oi := ?_) (v := ?_) ?_ (by kernel_rfl) (by kernel_rfl) (by kernel_rfl) ?_ ?_ (by assumption) ?_
    rotate_left 2
    · (simp only [List.getElem?_toArray, List.getElem?_cons_succ, List.getElem?_cons_zero]; rfl)
    · exact fun _ _ _ h => h
    · (refine Or.inl ⟨by rfl, ?_⟩; intro w hSw; (try dsimp only at hSw); go_simp <;> with_reducible rfl)
    try simp only [Act.put, List.setIfInBounds_toArray, List.set_cons_zero, List.set_cons_succ]
    refine wpAnyH_take (i := 11) (oi := ?_) (v := ?_) ?_ (by kernel_rfl) (by kernel_rfl) (by kernel_rfl) ?_ ?_ (by assumption) ?_
    rotate_left 2
    · (simp only [List.getElem?_toArray, List.getElem?_cons_succ, List.getElem?_cons_zero]; rfl)
    · exact fun _ _ _ h => h
    · (refine Or.inl ⟨by rfl, ?_⟩; intro w hSw; (try dsimp only at hSw); go_simp <;> with_reducible rfl)
    try simp only [Act.put, List.setIfInBounds_toArray, List.set_cons_zero, List.set_cons_succ]
    refine wpAnyH_take (i := 12) (oi := ?_) (v := ?_) ?_ (by kernel_rfl) (by kernel_rfl) (by kernel_rfl) ?_ ?_ (by assumption) ?_
    rotate_left 2
    · (simp only [List.getElem?_toArray, List.getElem?_cons_succ, List.getElem?_cons_zero]; rfl)
    · exact fun _ _ _ h => h
    · (refine Or.inl ⟨by rfl, ?_⟩; intro w hSw; (try dsimp only at hSw); go_simp <;> with_reducible rfl)
    try simp only [Act.put, List.setIfInBounds_toArray, List.set_cons_zero, List.set_cons_succ]
    refine wpAnyH_take (i := 13) (oi := ?_) (v := ?_) ?_ (by kernel_rfl) (by kernel_rfl) (by kernel_rfl) ?_ ?_ (by assumption) ?_
    rotate_left 2
    · (simp only [List.getElem?_toArray, List.getElem?_cons_succ, List.getElem?_cons_zero]; rfl)
    · exact fun _ _ _ h => h
    · (refine Or.inl ⟨by rfl, ?_⟩; intro w hSw; (try dsimp only at hSw); go_simp <;> with_reducible rfl)
    try simp only [Act.put, List.setIfInBounds_toArray, List.set_cons_zero, List.set_cons_succ]
    refine wpAnyH_take (i := 14) (oi := ?_) (v := ?_) ?_ (by kernel_rfl) (by kernel_rfl) (by kernel_rfl) ?_ ?_ (by assumption) ?_
    rotate_left 2
    · (simp only [List.getElem?_toArray, List.getElem?_cons_succ, List.getElem?_cons_zero]; rfl)
    · exact fun _ _ _ h => h
    · (refine Or.inl ⟨by rfl, ?_⟩; intro w hSw; (try dsimp only at hSw); go_simp <;> with_reducible rfl)
    try simp only [Act.put, List.setIfInBounds_toArray, List.set_cons_zero, List.set_cons_succ]
    refine wpAnyH_take (i := 17) (oi := ?_) (v := ?_) ?_ (by kernel_rfl) (by kernel_rfl) (by kernel_rfl) ?_ ?_ (by assumption) ?_
    rotate_left 2
    · (simp only [List.getElem?_toArray, List.getElem?_cons_succ, List.getElem?_cons_zero]; rfl)
    · exact fun _ _ _ h => h
    · (refine Or.inl ⟨by rfl, ?_⟩; intro w hSw; (try dsimp only at hSw); go_simp <;> with_reducible rfl)
    try simp only [Act.put, List.setIfInBounds_toArray, List.set_cons_zero, List.set_cons_succ]
    refine wpAnyH_take (i := 18) (oi := ?_) (v := ?_) ?_ (by kernel_rfl) (by kernel_rfl) (by kernel_rfl) ?_ ?_ (by assumption) ?_
    rotate_left 2
    · (simp only [List.getElem?_toArray, List.getElem?_cons_succ, List.getElem?_cons_zero]; rfl)
    · exact fun _ _ _ h => h
    · (refine Or.inl ⟨by rfl, ?_⟩; intro w hSw; (try dsimp only at hSw); go_simp <;> with_reducible rfl)
    try simp only [Act.put, List.setIfInBounds_toArray, List.set_cons_zero, List.set_cons_succ]
    refine wpAnyH_ready (rs := [15]) (by kernel_rfl) (by simp) ?_
    refine AllReadyH.cons (o := ?_) ?_ (fun K hK => ?_) AllReadyH.nil
    rotate_left 1
    · (simp only [List.getElem?_toArray, List.getElem?_cons_succ, List.getElem?_cons_zero]; rfl)
    go_simp
    (go_at_call 10; (refine Calls.mono (runs_Encode _ _ _ _ _ _ O1 (Nat.le_refl _) (by omega)) ?_); rintro e w4 ⟨A4, n4, c4, rfl, own4, hb4⟩)
    rw [HE.out] at own4
    have L4 := own4.lies; have L2 := L2.below (hb4.mono (Nat.le_trans hB HB.size)); have HB := Below_step HB hb4; have O1 := O1.below hb4; have O2 := O2.below hb4
    refine hK.out _ _ ⟨run_stringB O1, run_stringB O2, run_stringB L2⟩ (fun hHeld => ?_)
    clear hK K
    try simp only [Act.put, List.setIfInBounds_toArray, List.set_cons_zero, List.set_cons_succ]
    refine wpAnyH_mono (S' := (fun w' => (convert 22 9 (.slice A4 n4 c4)).run Try.prog w' = .ok (.string (strOf l)) w' ∧ (fun w' => (convert 22 9 (.slice A1 n1 c1)).run Try.prog w' = .ok (.string (strOf x)) w' ∧ (convert 22 9 (.slice A2 n2 c2)).run Try.prog w' = .ok (.string (strOf x)) w' ∧ (convert 22 9 (.slice A n c)).run Try.prog w' = .ok (.string (strOf l)) w') w')) (fun _ h => h.2) _ _ _ _ ?_
    have hHeld2 := (⟨run_stringB L4, run_stringB O1, run_stringB O2, run_stringB L2⟩ : (fun w' => (convert 22 9 (.slice A4 n4 c4)).run Try.prog w' = .ok (.string (strOf l)) w' ∧ (fun w' => (convert 22 9 (.slice A1 n1 c1)).run Try.prog w' = .ok (.string (strOf x)) w' ∧ (convert 22 9 (.slice A2 n2 c2)).run Try.prog w' = .ok (.string (strOf x)) w' ∧ (convert 22 9 (.slice A n c)).run Try.prog w' = .ok (.string (strOf l)) w') w') w4)
    refine wpAnyH_take (i := 16) (oi := ?_) (v := ?_) ?_ (by kernel_rfl) (by kernel_rfl) (by kernel_rfl) ?_ ?_ (by assumption) ?_
    rotate_left 2
    · (simp only [List.getElem?_toArray, List.getElem?_cons_succ, List.getElem?_cons_zero]; rfl)
    · exact fun _ _ _ h => h
    · (refine Or.inl ⟨by rfl, ?_⟩; intro w hSw; (try dsimp only at hSw); go_simp <;> with_reducible rfl)
    try simp only [Act.put, List.setIfInBounds_toArray, List.set_cons_zero, List.set_cons_succ]
    refine wpAnyH_take (i := 19) (oi := ?_) (v := ?_) ?_ (by kernel_rfl) (by kernel_rfl) (by kernel_rfl) ?_ ?_ (by assumption) ?_
    rotate_left 2
    · (simp only [List.getElem?_toArray, List.getElem?_cons_succ, List.getElem?_cons_zero]; rfl)
    · exact fun _ _ _ h => h
    · (refine Or.inl ⟨by rfl, ?_⟩; intro w hSw; (try dsimp only at hSw); go_simp <;> with_reducible rfl)
    try simp only [Act.put, List.setIfInBounds_toArray, List.set_cons_zero, List.set_cons_succ]
    refine wpAnyH_take (i := 20) (oi := ?_) (v := ?_) ?_ (by kernel_rfl) (by kernel_rfl) (by kernel_rfl) ?_ ?_ (by assumption) ?_
    rotate_left 2
    · (simp only [List.getElem?_toArray, List.getElem?_cons_succ, List.getElem?_cons_zero]; rfl)
    · exact fun _ _ _ h => h
    · (refine Or.inl ⟨by rfl, ?_⟩; intro w hSw; (try dsimp only at hSw); go_simp <;> with_reducible rfl)
    try simp only [Act.put, List.setIfInBounds_toArray, List.set_cons_zero, List.set_cons_succ]
    refine wpAnyH_take (i := 21) (oi := ?_) (v := ?_) ?_ (by kernel_rfl) (by kernel_rfl) (by kernel_rfl) ?_ ?_ (by assumption) ?_
    rotate_left 2
    · (simp only [List.getElem?_toArray, List.getElem?_cons_succ, List.getElem?_cons_zero]; rfl)
    · exact fun _ _ _ h => h
    · (refine Or.inl ⟨by rfl, ?_⟩; intro w hSw; (try dsimp only at hSw); go_simp <;> with_reducible rfl)
    try simp only [Act.put, List.setIfInBounds_toArray, List.set_cons_zero, List.set_cons_succ]
    refine wpAnyH_take (i := 22) (oi := ?_) (v := ?_) ?_ (by kernel_rfl) (by kernel_rfl) (by kernel_rfl) ?_ ?_ (by assumption) ?_
    rotate_left 2
    · (simp only [List.getElem?_toArray, List.getElem?_cons_succ, List.getElem?_cons_zero]; rfl)
    · exact fun _ _ _ h => h
    · (refine Or.inl ⟨by rfl, ?_⟩; intro w hSw; (try dsimp only at hSw); go_simp <;> with_reducible rfl)
    try simp only [Act.put, List.setIfInBounds_toArray, List.set_cons_zero, List.set_cons_succ]
    refine wpAnyH_done (by kernel_rfl) (NoPanic.normal ?_) _
    go_wp2_with fail
    go_ret
    exact ⟨by simp, HB⟩
  · have hx := Runs.dec_full_nil l.length (Nat.le_refl _) HR.out he
    subst hx
    have d1 : (er == 0) = false := by simpa using he
    have d2 : (er != 0) = true := by simpa using he
    have d3 : (er == er) = true := by simp
    clear he
    go_enter Try.func13, Try.ntmps13
    go_wp2_with fail
    refine Calls.mono (runs_Decode_v M HA.out hnc hB hn lo hi HM.out HR.out (.inl (by omega))) ?_
    rintro e w1 ⟨A1, n1, c1, rfl, own1, hb1⟩
    have L1 := hide (HA.out.below (hb1.mono hB))
    have HB1 := hide hb1
    have O1 := hide own1
    have hs1 := hb1.size
    clear own1 hb1
    go_wp2_with fail
    refine Calls.mono (ref_Unruns _ _ _ _ _ _ M _ L1.out hnc (Nat.le_trans hB hs1) hn lo hi HM2.out ([], er) HR.out (.inl (by omega))) ?_
    rintro e w2 ⟨A2, n2, c2, rfl, own2, hb2⟩
    have O1 := (O1.out.below hb2).lies.drew
    have O2 := own2.lies.drew
    have HB := (Below_step HB1.out hb2).drew
    clear own2 hb2
    go_wp2_with fail
    have e1 : (([] : List UInt8) == []) = true := rfl
    refine wp_region_noPanic ?_
    refine wp_region_held_drew (S := (fun w' => (convert 22 9 (.slice A1 n1 c1)).run Try.prog w' = .ok (.string (strOf [])) w' ∧ (convert 22 9 (.slice A2 n2 c2)).run Try.prog w' = .ok (.string (strOf [])) w')) (by kernel_rfl) ⟨run_stringB O1, run_stringB O2⟩ (fun hHeld => ?_)
    refine wpAnyH_take (i := 0) (oi := ?_) (v := ?_) ?_ (by kernel_rfl) (by kernel_rfl) (by kernel_rfl) ?_ ?_ (by assumption) ?_
    rotate_left 2
    · (simp only [List.getElem?_toArray, List.getElem?_cons_zero]; rfl)
    · exact fun _ _ _ h => h
    · (refine Or.inl ⟨by rfl, ?_⟩; intro w hSw; (try dsimp only at hSw); go_simp <;> with_reducible rfl)
    try simp only [Act.put, List.setIfInBounds_toArray, List.set_cons_zero, List.set_cons_succ]
    refine wpAnyH_take (i := 1) (oi := ?_) (v := ?_) ?_ (by kernel_rfl) (by kernel_rfl) (by kernel_rfl) ?_ ?_ (by assumption) ?_
    rotate_left 2
    · (simp only [List.getElem?_toArray, List.getElem?_cons_succ, List.getElem?_cons_zero]; rfl)
    · exact fun _ _ _ h => h
    · (refine Or.inl ⟨by rfl, ?_⟩; intro w hSw; (try dsimp only at hSw); go_simp <;> with_reducible rfl)
    try simp only [Act.put, List.setIfInBounds_toArray, List.set_cons_zero, List.set_cons_succ]
    refine wpAnyH_take (i := 2) (oi := ?_) (v := ?_) ?_ (by kernel_rfl) (by kernel_rfl) (by kernel_rfl) ?_ ?_ (by assumption) ?_
    rotate_left 2
    · (simp only [List.getElem?_toArray, List.getElem?_cons_succ, List.getElem?_cons_zero]; rfl)
    · exact fun _ _ _ h => h
    · (refine Or.inl ⟨by rfl, ?_⟩; intro w hSw; (try dsimp only at hSw); go_simp <;> with_reducible rfl)
    try simp only [Act.put, List.setIfInBounds_toArray, List.set_cons_zero, List.set_cons_succ]
    refine wpAnyH_take (i := 3) (oi := ?_) (v := ?_) ?_ (by kernel_rfl) (by kernel_rfl) (by kernel_rfl) ?_ ?_ (by assumption) ?_
    rotate_left 2
    · (simp only [List.getElem?_toArray, List.getElem?_cons_succ, List.getElem?_cons_zero]; rfl)
    · exact fun _ _ _ h => h
    · (refine Or.inl ⟨by rfl, ?_⟩; intro w hSw; (try dsimp only at hSw); go_simp <;> with_reducible rfl)
    try simp only [Act.put, List.setIfInBounds_toArray, List.set_cons_zero, List.set_cons_succ]
    refine wpAnyH_take (i := 4) (oi := ?_) (v := ?_) ?_ (by kernel_rfl) (by kernel_rfl) (by kernel_rfl) ?_ ?_ (by assumption) ?_
    rotate_left 2
    · (simp only [List.getElem?_toArray, List.getElem?_cons_succ, List.getElem?_cons_zero]; rfl)
    · exact fun _ _ _ h => h
    · (refine Or.inl ⟨by rfl, ?_⟩; intro w hSw; (try dsimp only at hSw); go_simp <;> with_reducible rfl)
    try simp only [Act.put, List.setIfInBounds_toArray, List.set_cons_zero, List.set_cons_succ]
    refine wpAnyH_take (i := 5) (oi := ?_) (v := ?_) ?_ (by kernel_rfl) (by kernel_rfl) (by kernel_rfl) ?_ ?_ (by assumption) ?_
    rotate_left 2
    · (simp only [List.getElem?_toArray, List.getElem?_cons_succ, List.getElem?_cons_zero]; rfl)
    · exact fun _ _ _ h => h
    · (refine Or.inl ⟨by rfl, ?_⟩; intro w hSw; (try dsimp only at hSw); go_simp <;> with_reducible rfl)
    try simp only [Act.put, List.setIfInBounds_toArray, List.set_cons_zero, List.set_cons_succ]
    refine wpAnyH_take (i := 6) (oi := ?_) (v := ?_) ?_ (by kernel_rfl) (by kernel_rfl) (by kernel_rfl) ?_ ?_ (by assumption) ?_
    rotate_left 2
    · (simp only [List.getElem?_toArray, List.getElem?_cons_succ, List.getElem?_cons_zero]; rfl)
    · exact fun _ _ _ h => h
    · (refine Or.inl ⟨by rfl, ?_⟩; intro w hSw; (try dsimp only at hSw); go_simp <;> with_reducible rfl)
    try simp only [Act.put, List.setIfInBounds_toArray, List.set_cons_zero, List.set_cons_succ]
    refine wpAnyH_take (i := 7) (oi := ?_) (v := ?_) ?_ (by kernel_rfl) (by kernel_rfl) (by kernel_rfl) ?_ ?_ (by assumption) ?_
    rotate_left 2
    · (simp only [List.getElem?_toArray, List.getElem?_cons_succ, List.getElem?_cons_zero]; rfl)
    · exact fun _ _ _ h => h
    · (refine Or.inl ⟨by rfl, ?_⟩; intro w hSw; (try dsimp only at hSw); go_simp <;> with_reducible rfl)
    try simp only [Act.put, List.setIfInBounds_toArray, List.set_cons_zero, List.set_cons_succ]
    refine wpAnyH_take (i := 8) (oi := ?_) (v := ?_) ?_ (by kernel_rfl) (by kernel_rfl) (by kernel_rfl) ?_ ?_ (by assumption) ?_
    rotate_left 2
    · (simp only [List.getElem?_toArray, List.getElem?_cons_succ, List.getElem?_cons_zero]; rfl)
    · exact fun _ _ _ h => h
    · (refine Or.inl ⟨by rfl, ?_⟩; intro w hSw; (try dsimp only at hSw); go_simp <;> with_reducible rfl)
    try simp only [Act.put, List.setIfInBounds_toArray, List.set_cons_zero, List.set_cons_succ]
    refine wpAnyH_take (i := 9) (oi := ?_) (v := ?_) ?_ (by kernel_rfl) (by kernel_rfl) (by kernel_rfl) ?_ ?_ (by assumption) ?_
    rotate_left 2
    · (simp only [List.getElem?_toArray, List.getElem?_cons_succ, List.getElem?_cons_zero]; rfl)
    · exact fun _ _ _ h => h
    · (refine Or.inl ⟨by rfl, ?_⟩; intro w hSw; (try dsimp only at hSw); go_simp <;> with_reducible rfl)
    try simp only [Act.put, List.setIfInBounds_toArray, List.set_cons_zero, List.set_cons_succ]
    refine wpAnyH_take (i := 10) (oi := ?_) (v := ?_) ?_ (by kernel_rfl) (by kernel_rfl) (by kernel_rfl) ?_ ?_ (by assumption) ?_
    rotate_left 2
    · (simp only [List.getElem?_toArray, List.getElem?_cons_succ, List.getElem?_cons_zero]; rfl)
    · exact fun _ _ _ h => h
    · (refine Or.inl ⟨by rfl, ?_⟩; intro w hSw; (try dsimp only at hSw); go_simp <;> with_reducible rfl)
    try simp only [Act.put, List.setIfInBounds_toArray, List.set_cons_zero, List.set_cons_succ]
    refine wpAnyH_take (i := 11) (oi := ?_) (v := ?_) ?_ (by kernel_rfl) (by kernel_rfl) (by kernel_rfl) ?_ ?_ (by assumption) ?_
    rotate_left 2
    · (simp only [List.getElem?_toArray, List.getElem?_cons_succ, List.getElem?_cons_zero]; rfl)
    · exact fun _ _ _ h => h
    · (refine Or.inl ⟨by rfl, ?_⟩; intro w hSw; (try dsimp only at hSw); go_simp <;> with_reducible rfl)
    try simp only [Act.put, List.setIfInBounds_toArray, List.set_cons_zero, List.set_cons_succ]
    refine wpAnyH_take (i := 12) (oi := ?_) (v := ?_) ?_ (by kernel_rfl) (by kernel_rfl) (by kernel_rfl) ?_ ?_ (by assumption) ?_
    rotate_left 2
    · (simp only [List.getElem?_toArray, List.getElem?_cons_succ, List.getElem?_cons_zero]; rfl)
    · exact fun _ _ _ h => h
    · (refine Or.inl ⟨by rfl, ?_⟩; intro w hSw; (try dsimp only at hSw); go_simp <;> with_reducible rfl)
    try simp only [Act.put, List.setIfInBounds_toArray, List.set_cons_zero, List.set_cons_succ]
    refine wpAnyH_take (i := 13) (oi := ?_) (v := ?_) ?_ (by kernel_rfl) (by kernel_rfl) (by kernel_rfl) ?_ ?_ (by assumption) ?_
    rotate_left 2
    · (simp only [List.getElem?_toArray, List.getElem?_cons_succ, List.getElem?_cons_zero]; rfl)
    · exact fun _ _ _ h => h
    · (refine Or.inl ⟨by rfl, ?_⟩; intro w hSw; (try dsimp only at hSw); go_simp <;> with_reducible rfl)
    try simp only [Act.put, List.setIfInBounds_toArray, List.set_cons_zero, List.set_cons_succ]
    refine wpAnyH_take (i := 14) (oi := ?_) (v := undef) ?_ (by kernel_rfl) (by kernel_rfl) (by kernel_rfl) ?_ ?_ (by assumption) ?_
    rotate_left 1
    · (simp only [List.getElem?_toArray, List.getElem?_cons_succ, List.getElem?_cons_zero]; rfl)
    · exact fun _ _ _ h => h
    · exact Or.inr ⟨by rfl, rfl⟩
    try simp only [Act.put, List.setIfInBounds_toArray, List.set_cons_zero, List.set_cons_succ]
    refine wpAnyH_take (i := 15) (oi := ?_) (v := undef) ?_ (by kernel_rfl) (by kernel_rfl) (by kernel_rfl) ?_ ?_ (by assumption) ?_
    rotate_left 1
    · (simp only [List.getElem?_toArray, List.getElem?_cons_succ, List.getElem?_cons_zero]; rfl)
    · exact fun _ _ _ h => h
    · exact Or.inr ⟨by rfl, rfl⟩
    try simp only [Act.put, List.setIfInBounds_toArray, List.set_cons_zero, List.set_cons_succ]
    refine wpAnyH_take (i := 16) (oi := ?_) (v := undef) ?_ (by kernel_rfl) (by kernel_rfl) (by kernel_rfl) ?_ ?_ (by assumption) ?_
    rotate_left 1
    · (simp only [List.getElem?_toArray, List.getElem?_cons_succ, List.getElem?_cons_zero]; rfl)
    · exact fun _ _ _ h => h
    · exact Or.inr ⟨by rfl, rfl⟩
    try simp only [Act.put, List.setIfInBounds_toArray, List.set_cons_zero, List.set_cons_succ]
    refine wpAnyH_take (i := 17) (oi := ?_) (v := undef) ?_ (by kernel_rfl) (by kernel_rfl) (by kernel_rfl) ?_ ?_ (by assumption) ?_
    rotate_left 1
    · (simp only [List.getElem?_toArray, List.getElem?_cons_succ, List.getElem?_cons_zero]; rfl)
    · exact fun _ _ _ h => h
    · exact Or.inr ⟨by rfl, rfl⟩
    try simp only [Act.put, List.setIfInBounds_toArray, List.set_cons_zero, List.set_cons_succ]
    refine wpAnyH_take (i := 18) (oi := ?_) (v := undef) ?_ (by kernel_rfl) (by kernel_rfl) (by kernel_rfl) ?_ ?_ (by assumption) ?_
    rotate_left 1
    · (simp only [List.getElem?_toArray, List.getElem?_cons_succ, List.getElem?_cons_zero]; rfl)
    · exact fun _ _ _ h => h
    · exact Or.inr ⟨by rfl, rfl⟩
    try simp only [Act.put, List.setIfInBounds_toArray, List.set_cons_zero, List.set_cons_succ]
    refine wpAnyH_take (i := 19) (oi := ?_) (v := undef) ?_ (by kernel_rfl) (by kernel_rfl) (by kernel_rfl) ?_ ?_ (by assumption) ?_
    rotate_left 1
    · (simp only [List.getElem?_toArray, List.getElem?_cons_succ, List.getElem?_cons_zero]; rfl)
    · exact fun _ _ _ h => h
    · exact Or.inr ⟨by rfl, rfl⟩
    try simp only [Act.put, List.setIfInBounds_toArray, List.set_cons_zero, List.set_cons_succ]
    refine wpAnyH_take (i := 20) (oi := ?_) (v := ?_) ?_ (by kernel_rfl) (by kernel_rfl) (by kernel_rfl) ?_ ?_ (by assumption) ?_
    rotate_left 2
    · (simp only [List.getElem?_toArray, List.getElem?_cons_succ, List.getElem?_cons_zero]; rfl)
    · exact fun _ _ _ h => h
    · (refine Or.inl ⟨by rfl, ?_⟩; intro w hSw; (try dsimp only at hSw); go_simp <;> with_reducible rfl)
    try simp only [Act.put, List.setIfInBounds_toArray, List.set_cons_zero, List.set_cons_succ]
    refine wpAnyH_take (i := 21) (oi := ?_) (v := ?_) ?_ (by kernel_rfl) (by kernel_rfl) (by kernel_rfl) ?_ ?_ (by assumption) ?_
    rotate_left 2
    · (simp only [List.getElem?_toArray, List.getElem?_cons_succ, List.getElem?_cons_zero]; rfl)
    · exact fun _ _ _ h => h
    · (refine Or.inl ⟨by rfl, ?_⟩; intro w hSw; (try dsimp only at hSw); go_simp <;> with_reducible rfl)
    try simp only [Act.put, List.setIfInBounds_toArray, List.set_cons_zero, List.set_cons_succ]
    refine wpAnyH_take (i := 22) (oi := ?_) (v := ?_) ?_ (by kernel_rfl) (by kernel_rfl) (by kernel_rfl) ?_ ?_ (by assumption) ?_
    rotate_left 2
    · (simp only [List.getElem?_toArray, List.getElem?_cons_succ, List.getElem?_cons_zero]; rfl)
    · exact fun _ _ _ h => h
    · (refine Or.inl ⟨by rfl, ?_⟩; intro w hSw; (try dsimp only at hSw); go_simp <;> with_reducible rfl)
    try simp only [Act.put, List.setIfInBounds_toArray, List.set_cons_zero, List.set_cons_succ]
    refine wpAnyH_done (by kernel_rfl) (NoPanic.normal ?_) _
    go_wp2_with fail
    go_ret
    exact ⟨by simp, HB⟩

set_option maxHeartbeats 2000000 in
set_option maxRecDepth 10000 in
theorem law_RunsAny (A : Option Addr) (n c : Nat) (b : List UInt8) (most at' x : Int) (A2 : Option Addr) (n2 c2 : Nat) (pr : List UInt8) (w : World) (hA : LiesB w w.heap.size A n b) (hc : n ≤ c) (_ : c ≤ maxLen)
    (lo : -9223372036854775808 ≤ most) (hi : most ≤ 9223372036854775807) (lo2 : -9223372036854775808 ≤ at') (hi2 : at' ≤ 9223372036854775807) (lo3 : 0 ≤ x) (hi3 : x ≤ 255)
    (hA2 : LiesB w w.heap.size A2 n2 pr) (hc2 : n2 ≤ c2) (_ : c2 ≤ maxLen) :
    Calls Try.prog 4 #[.slice A n c, .int .i64 most, .int .i64 at', .int .u8 x, .slice A2 n2 c2] w fun e w' => e = .returned (.bool true) ∧ Below w.heap.size w w' := by
  obtain ⟨z, rfl⟩ : ∃ z : UInt8, x = (z.toNat : Int) := ⟨UInt8.ofNat x.toNat, by rw [UInt8.toNat_ofNat']; omega⟩
  obtain ⟨m, hm⟩ : ∃ m, m = min 60 n := ⟨_, rfl⟩
  obtain ⟨b', hb'⟩ : ∃ l, l = b.take 60 := ⟨_, rfl⟩
  obtain ⟨m2, hm2⟩ : ∃ m, m = min 60 n2 := ⟨_, rfl⟩
  obtain ⟨p', hp'⟩ : ∃ l, l = pr.take 60 := ⟨_, rfl⟩
  have hl1 : m ≤ 60 := by omega
  have hl2 : m2 ≤ 60 := by omega
  have hmc : m ≤ c := by omega
  have hb0 := hA.take 60
  have hb2 := hA2.take 60
  rw [← hm, ← hb'] at hb0
  rw [← hm2, ← hp'] at hb2
  have Hm := hide hm
  have Hm2 := hide hm2
  have Hlen2 := hide hb2.len
  obtain ⟨mo, hmo⟩ : ∃ mo, mo = min most 5000 := ⟨_, rfl⟩
  obtain ⟨M, hM⟩ : ∃ M : Nat, max mo 0 = (M : Int) := ⟨(max mo 0).toNat, by omega⟩
  have HM := hide hM
  have hM5 : M ≤ 5000 := by omega
  have lo' : -9223372036854775808 ≤ mo := by omega
  have hi' : mo ≤ 9223372036854775807 := by omega
  have Hmo := hide hmo
  clear hA hA2 hb' hp' hm hm2 hM hmo
  go_enter Try.func4, Try.ntmps4
  go_wp2_with fail
  refine Calls.mono (begun14 _) ?_
  rintro e w1 ⟨rfl, hb1⟩
  have L1 := hide (hb0.below hb1)
  have L2 := hide (hb2.below hb1)
  have hs1 := hb1.size
  have HB1 := hide hb1
  clear hb0 hb1 hb2
  go_wp2_with fail
  refine Calls.mono (law_Short _ _ _ _ 60 _ hc (by omega) (by omega)) ?_
  rintro e w2 ⟨rfl, rfl⟩
  rw [← Hm.out]
  go_wp2_with fail
  refine Calls.mono (law_Short _ _ _ _ 60 _ hc2 (by omega) (by omega)) ?_
  rintro e w2 ⟨rfl, rfl⟩
  rw [← Hm2.out]
  go_upto_if 21 with fail
  go_cut [1] (fun s wx => s = .int .i64 mo ∧ w1 = wx)
  case first =>
    by_cases h5 : 5000 < most
    · have e5 : Hid (mo = 5000) := by have := Hmo.out; show mo = 5000; omega
      go_wp2
      go_meet
      rw [e5.out]
      exact ⟨rfl, rfl⟩
    · have e5 : Hid (mo = most) := by have := Hmo.out; show mo = most; omega
      go_wp2
      go_meet
      rw [e5.out]
      exact ⟨rfl, rfl⟩
  case rest =>
    obtain ⟨rfl, rfl⟩ := hcut
    go_wp2_with fail
    refine Calls.mono (ref_Runs _ _ _ _ _ _ L2.out hs1 (by omega)) ?_
    rintro e w3 ⟨A3, n3, c3, rfl, own3, hb3⟩
    have hn3 := Runs.enc_len 60 0 p' (by rw [Hlen2.out]; omega) (by rw [Hlen2.out]; omega)
    rw [own3.len, Hlen2.out] at hn3
    have hc3 := own3.cap
    have L3 := hide (L1.out.below (hb3.mono hs1))
    have HB3 := hide (Below_step HB1.out hb3)
    obtain ⟨l3, hl3⟩ : ∃ l, l = Runs.enc 0 p' := ⟨_, rfl⟩
    rw [← hl3] at own3
    have O3 := hide own3
    clear own3 hb3 hl3
    obtain ⟨go, hgo'⟩ : ∃ go, go = decide (0 < n3 ∧ 0 ≤ at') := ⟨_, rfl⟩
    have HGO := hide hgo'
    clear hgo'
    go_upto_region 8 with fail
    go_cut [30] (fun s wx => s = .bool go ∧ w3 = wx)
    case first =>
      by_cases h0 : 0 < n3
      · by_cases h1 : 0 ≤ at'
        · have e : Hid (go = true) := by have := HGO.out; rw [decide_eq_true ⟨h0, h1⟩] at this; exact this
          go_wp2
          go_meet
          rw [e.out]
          exact ⟨rfl, rfl⟩
        · have e : Hid (go = false) := by have := HGO.out; rw [decide_eq_false (by omega)] at this; exact this
          have h2 : decide (0 ≤ at') = false := by simp; omega
          go_wp2
          go_meet
          rw [e.out]
          exact ⟨rfl, rfl⟩
      · have e : Hid (go = false) := by have := HGO.out; rw [decide_eq_false (by omega)] at this; exact this
        have h2 : decide (0 < n3) = false := by simp; omega
        go_wp2
        go_meet
        rw [e.out]
        exact ⟨rfl, rfl⟩
    case rest =>
    obtain ⟨rfl, rfl⟩ := hcut
    go_upto_if 30 with fail
    go_cut [12] (fun s wx => s = .slice A3 n3 c3 ∧ LiesB wx w.heap.size A m b' ∧ (∃ l, OwnB wx w1.heap.size A3 n3 c3 l) ∧ Below w.heap.size w wx)
    case first =>
      cases go with
      | true =>
        obtain ⟨h0, h1⟩ := of_decide_eq_true HGO.out.symm
        obtain ⟨k, rfl⟩ : ∃ k : Nat, at' = (k : Int) := ⟨at'.toNat, by omega⟩
        obtain ⟨r, hr⟩ : ∃ r, r = k % n3 := ⟨_, rfl⟩
        have hrl : r < n3 := by rw [hr]; exact Nat.mod_lt _ h0
        have hr1 : (k : Int).tmod (n3 : Int) = (r : Int) := by rw [Int.tmod_eq_emod_of_nonneg (by omega), hr]; omega
        have hr2 : (k : Int) % (n3 : Int) = (r : Int) := by rw [hr]; omega
        have hn0 : ((n3 : Int) == 0) = false := by simp; omega
        clear hr
        have o3 := O3.out
        obtain ⟨g, rfl, hg1, hg2⟩ := o3.form h0
        obtain ⟨hl4, hc4⟩ := o3.cell hrl
        have hf4 := o3.frozen r
        have hx := bits_xor8 l3[r] z
        have HST := hide (o3.store r (l3[r] ^^^ z))
        clear o3
        go_wp2
        go_meet
        exact ⟨rfl, L3.out.below ((Below.refl _ _).setCell (p := ⟨g, r, none⟩) (Nat.le_trans hs1 hg1) _), ⟨_, HST.out⟩, HB3.out.setCell (p := ⟨g, r, none⟩) (Nat.le_trans hs1 hg1) _⟩
      | false =>
        go_wp2
        go_meet
        exact ⟨rfl, L3.out, ⟨_, O3.out⟩, HB3.out⟩
    case rest =>
      obtain ⟨rfl, LL, ⟨l4, OO⟩, HB⟩ := hcut
      have hs4 := HB.size
      have HLL := hide LL
      have HOO := hide OO
      have HHB := hide HB
      clear LL OO HB
      go_wp2_with fail
      refine Calls.mono (runs_tells _ _ _ _ _ _ M _ HLL.out hmc hs4 (by omega) lo' hi' HM.out hM5) ?_
      rintro e w5 ⟨rfl, hb5⟩
      have HO5 := hide (HOO.out.below hb5)
      have HB5 := hide (Below_step HHB.out hb5)
      clear hb5
      go_wp2_with fail
      refine Calls.mono (runs_tells _ _ _ _ _ _ M _ HO5.out.lies hc3 (Nat.le_refl _) (by omega) lo' hi' HM.out hM5) ?_
      rintro e w6 ⟨rfl, hb6⟩
      go_wp2_with fail
      go_ret
      exact ⟨rfl, Below_step HB5.out hb6⟩
end Go.Proofs.Ytobdafecgbcofaa
