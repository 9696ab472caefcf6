/-
  RunsTwins: the walk.
-/
import Derived.Test.YtobdafecgbcofaaLaw14
import Derived.Test.YtobdafecgbcofaaRegion
namespace Go.Proofs.Ytobdafecgbcofaa
open Go.RowKit
set_option linter.unusedVariables false
theorem twins_end {x y a b : List UInt8} (h : x = y ↔ a = b) : Ending.returned (.bool ((x == y) == (a == b))) = .returned (.bool true) := by
  have : (x == y) = (a == b) := by rw [Bool.eq_iff_iff]; simpa using h
  rw [this]; simp
set_option maxHeartbeats 2000000 in
set_option maxRecDepth 10000 in
theorem law_RunsTwins (A : Option Addr) (n c : Nat) (a : List UInt8) (A2 : Option Addr) (n2 c2 : Nat) (b : List UInt8) (w : World) (hA : LiesB w w.heap.size A n a) (hc : n ≤ c) (_ : c ≤ maxLen)
    (hA2 : LiesB w w.heap.size A2 n2 b) (hc2 : n2 ≤ c2) (_ : c2 ≤ maxLen) :
    Calls Try.prog 6 #[.slice A n c, .slice A2 n2 c2] w fun e w' => e = .returned (.bool true) ∧ Below w.heap.size w w' := by
  obtain ⟨m, hm⟩ : ∃ m, m = min 60 n := ⟨_, rfl⟩
  obtain ⟨a', ha'⟩ : ∃ l, l = a.take 60 := ⟨_, rfl⟩
  obtain ⟨m2, hm2⟩ : ∃ m, m = min 60 n2 := ⟨_, rfl⟩
  obtain ⟨b', hb'⟩ : ∃ l, l = b.take 60 := ⟨_, rfl⟩
  have hl1 : m ≤ 60 := by omega
  have hl2 : m2 ≤ 60 := by omega
  have hb0 := hA.take 60
  have hb2 := hA2.take 60
  rw [← hm, ← ha'] at hb0
  rw [← hm2, ← hb'] at hb2
  have Hm := hide hm
  have Hm2 := hide hm2
  have Hinj : Hid (Runs.enc 0 a' = Runs.enc 0 b' ↔ a' = b') := ⟨fun h => Runs.enc_inj (by rw [hb0.len]; omega) (by rw [hb2.len]; omega) h, fun h => by rw [h]⟩
  clear hA hA2 ha' hb' hm hm2
  go_enter Try.func6, Try.ntmps6
  go_wp2_with fail
  refine Calls.mono (begun14 _) ?_
  rintro e w1 ⟨rfl, hb1⟩
  have L1 := hide (hb0.below hb1)
  have L2 := hide (hb2.below hb1)
  have hs1 := hb1.size
  have HB1 := hide hb1
  clear hb0 hb1 hb2
  go_wp2_with fail
  refine Calls.mono (law_Short _ _ _ _ 60 _ hc (by omega) (by omega)) ?_
  rintro e w2 ⟨rfl, rfl⟩
  rw [← Hm.out]
  go_wp2_with fail
  refine Calls.mono (law_Short _ _ _ _ 60 _ hc2 (by omega) (by omega)) ?_
  rintro e w2 ⟨rfl, rfl⟩
  rw [← Hm2.out]
  have HB := HB1.out.drew
  have LA := L1.out.drew
  have LB := L2.out.drew
  go_wp2_with fail
  refine wp_region_noPanic ?_
  refine wp_region_held_drew (S := (fun w' => (convert 22 9 (.slice A m c)).run Try.prog w' = .ok (.string (strOf (a'))) w' ∧ (convert 22 9 (.slice A2 m2 c2)).run Try.prog w' = .ok (.string (strOf (b'))) w')) (by kernel_rfl) ⟨run_stringB LA, run_stringB LB⟩ (fun hHeld => ?_)
  refine wpAnyH_take (i := 0) (oi := ?_) (v := ?_) ?_ (by kernel_rfl) (by kernel_rfl) (by kernel_rfl) ?_ ?_ (by assumption) ?_
  rotate_left 2
  · (simp only [List.getElem?_toArray, List.getElem?_cons_zero]; rfl)
  · exact fun _ _ _ h => h
  · (refine Or.inl ⟨by rfl, ?_⟩; intro w hSw; (try dsimp only at hSw); go_simp <;> with_reducible rfl)
  try simp only [Act.put, List.setIfInBounds_toArray, List.set_cons_zero, List.set_cons_succ]
  refine wpAnyH_take (i := 3) (oi := ?_) (v := ?_) ?_ (by kernel_rfl) (by kernel_rfl) (by kernel_rfl) ?_ ?_ (by assumption) ?_
  rotate_left 2
  · (simp only [List.getElem?_toArray, List.getElem?_cons_succ, List.getElem?_cons_zero]; rfl)
  · exact fun _ _ _ h => h
  · (refine Or.inl ⟨by rfl, ?_⟩; intro w hSw; (try dsimp only at hSw); go_simp <;> with_reducible rfl)
  try simp only [Act.put, List.setIfInBounds_toArray, List.set_cons_zero, List.set_cons_succ]
  refine wpAnyH_take (i := 7) (oi := ?_) (v := ?_) ?_ (by kernel_rfl) (by kernel_rfl) (by kernel_rfl) ?_ ?_ (by assumption) ?_
  rotate_left 2
  · (simp only [List.getElem?_toArray, List.getElem?_cons_succ, List.getElem?_cons_zero]; rfl)
  · exact fun _ _ _ h => h
  · (refine Or.inl ⟨by rfl, ?_⟩; intro w hSw; (try dsimp only at hSw); go_simp <;> with_reducible rfl)
  try simp only [Act.put, List.setIfInBounds_toArray, List.set_cons_zero, List.set_cons_succ]
  refine wpAnyH_take (i := 8) (oi := ?_) (v := ?_) ?_ (by kernel_rfl) (by kernel_rfl) (by kernel_rfl) ?_ ?_ (by assumption) ?_
  rotate_left 2
  · (simp only [List.getElem?_toArray, List.getElem?_cons_succ, List.getElem?_cons_zero]; rfl)
  · exact fun _ _ _ h => h
  · (refine Or.inl ⟨by rfl, ?_⟩; intro w hSw; (try dsimp only at hSw); go_simp <;> with_reducible rfl)
  try simp only [Act.put, List.setIfInBounds_toArray, List.set_cons_zero, List.set_cons_succ]
  refine wpAnyH_take (i := 9) (oi := ?_) (v := ?_) ?_ (by kernel_rfl) (by kernel_rfl) (by kernel_rfl) ?_ ?_ (by assumption) ?_
  rotate_left 2
  · (simp only [List.getElem?_toArray, List.getElem?_cons_succ, List.getElem?_cons_zero]; rfl)
  · exact fun _ _ _ h => h
  · (refine Or.inl ⟨by rfl, ?_⟩; intro w hSw; (try dsimp only at hSw); go_simp <;> with_reducible rfl)
  try simp only [Act.put, List.setIfInBounds_toArray, List.set_cons_zero, List.set_cons_succ]
  refine wpAnyH_take (i := 10) (oi := ?_) (v := ?_) ?_ (by kernel_rfl) (by kernel_rfl) (by kernel_rfl) ?_ ?_ (by assumption) ?_
  rotate_left 2
  · (simp only [List.getElem?_toArray, List.getElem?_cons_succ, List.getElem?_cons_zero]; rfl)
  · exact fun _ _ _ h => h
  · (refine Or.inl ⟨by rfl, ?_⟩; intro w hSw; (try dsimp only at hSw); go_simp <;> with_reducible rfl)
  try simp only [Act.put, List.setIfInBounds_toArray, List.set_cons_zero, List.set_cons_succ]
  refine wpAnyH_take (i := 11) (oi := ?_) (v := ?_) ?_ (by kernel_rfl) (by kernel_rfl) (by kernel_rfl) ?_ ?_ (by assumption) ?_
  rotate_left 2
  · (simp only [List.getElem?_toArray, List.getElem?_cons_succ, List.getElem?_cons_zero]; rfl)
  · exact fun _ _ _ h => h
  · (refine Or.inl ⟨by rfl, ?_⟩; intro w hSw; (try dsimp only at hSw); go_simp <;> with_reducible rfl)
  try simp only [Act.put, List.setIfInBounds_toArray, List.set_cons_zero, List.set_cons_succ]
  refine wpAnyH_ready (rs := [1]) (by kernel_rfl) (by simp) ?_
  refine AllReadyH.cons (o := ?_) ?_ (fun K hK => ?_) AllReadyH.nil
  rotate_left 1
  · (simp only [List.getElem?_toArray, List.getElem?_cons_succ, List.getElem?_cons_zero]; rfl)
  go_simp
  (go_at_call_of 10 (Value.slice A m c); (refine Calls.mono (runs_Encode _ _ _ _ _ _ LA HB.size (by omega)) ?_); rintro e w4 ⟨A4, n4, c4, rfl, own4, hb4⟩)
  have L4 := own4.lies; have LA := LA.below (hb4.mono HB.size); have LB := LB.below (hb4.mono HB.size); have HB := Below_step HB hb4
  refine hK.out _ _ ⟨run_stringB LA, run_stringB LB⟩ (fun hHeld => ?_)
  clear hK K
  try simp only [Act.put, List.setIfInBounds_toArray, List.set_cons_zero, List.set_cons_succ]
  refine wpAnyH_mono (S' := (fun w' => (convert 22 9 (.slice A4 n4 c4)).run Try.prog w' = .ok (.string (strOf (Runs.enc 0 a'))) w' ∧ (fun w' => (convert 22 9 (.slice A m c)).run Try.prog w' = .ok (.string (strOf (a'))) w' ∧ (convert 22 9 (.slice A2 m2 c2)).run Try.prog w' = .ok (.string (strOf (b'))) w') w')) (fun _ h => h.2) _ _ _ _ ?_
  have hHeld2 := (⟨run_stringB L4, run_stringB LA, run_stringB LB⟩ : (fun w' => (convert 22 9 (.slice A4 n4 c4)).run Try.prog w' = .ok (.string (strOf (Runs.enc 0 a'))) w' ∧ (fun w' => (convert 22 9 (.slice A m c)).run Try.prog w' = .ok (.string (strOf (a'))) w' ∧ (convert 22 9 (.slice A2 m2 c2)).run Try.prog w' = .ok (.string (strOf (b'))) w') w') w4)
  refine wpAnyH_take (i := 2) (oi := ?_) (v := ?_) ?_ (by kernel_rfl) (by kernel_rfl) (by kernel_rfl) ?_ ?_ (by assumption) ?_
  rotate_left 2
  · (simp only [List.getElem?_toArray, List.getElem?_cons_succ, List.getElem?_cons_zero]; rfl)
  · exact fun _ _ _ h => h
  · (refine Or.inl ⟨by rfl, ?_⟩; intro w hSw; (try dsimp only at hSw); go_simp <;> with_reducible rfl)
  try simp only [Act.put, List.setIfInBounds_toArray, List.set_cons_zero, List.set_cons_succ]
  refine wpAnyH_ready (rs := [4]) (by kernel_rfl) (by simp) ?_
  refine AllReadyH.cons (o := ?_) ?_ (fun K hK => ?_) AllReadyH.nil
  rotate_left 1
  · (simp only [List.getElem?_toArray, List.getElem?_cons_succ, List.getElem?_cons_zero]; rfl)
  go_simp
  (go_at_call_of 10 (Value.slice A2 m2 c2); (refine Calls.mono (runs_Encode _ _ _ _ _ _ LB HB.size (by omega)) ?_); rintro e w5 ⟨A5, n5, c5, rfl, own5, hb5⟩)
  have L5 := own5.lies; have L4 := L4.below hb5; have LA := LA.below (hb5.mono HB.size); have LB := LB.below (hb5.mono HB.size); have HB := Below_step HB hb5
  refine hK.out _ _ ⟨run_stringB L4, run_stringB LA, run_stringB LB⟩ (fun hHeld => ?_)
  clear hK K
  try simp only [Act.put, List.setIfInBounds_toArray, List.set_cons_zero, List.set_cons_succ]
  refine wpAnyH_mono (S' := (fun w' => (convert 22 9 (.slice A5 n5 c5)).run Try.prog w' = .ok (.string (strOf (Runs.enc 0 b'))) w' ∧ (fun w' => (convert 22 9 (.slice A4 n4 c4)).run Try.prog w' = .ok (.string (strOf (Runs.enc 0 a'))) w' ∧ (fun w' => (convert 22 9 (.slice A m c)).run Try.prog w' = .ok (.string (strOf (a'))) w' ∧ (convert 22 9 (.slice A2 m2 c2)).run Try.prog w' = .ok (.string (strOf (b'))) w') w') w')) (fun _ h => h.2) _ _ _ _ ?_
  have hHeld2 := (⟨run_stringB L5, run_stringB L4, run_stringB LA, run_stringB LB⟩ : (fun w' => (convert 22 9 (.slice A5 n5 c5)).run Try.prog w' = .ok (.string (strOf (Runs.enc 0 b'))) w' ∧ (fun w' => (convert 22 9 (.slice A4 n4 c4)).run Try.prog w' = .ok (.string (strOf (Runs.enc 0 a'))) w' ∧ (fun w' => (convert 22 9 (.slice A m c)).run Try.prog w' = .ok (.string (strOf (a'))) w' ∧ (convert 22 9 (.slice A2 m2 c2)).run Try.prog w' = .ok (.string (strOf (b'))) w') w') w') w5)
  refine wpAnyH_take (i := 5) (oi := ?_) (v := ?_) ?_ (by kernel_rfl) (by kernel_rfl) (by kernel_rfl) ?_ ?_ (by assumption) ?_
  rotate_left 2
  · (simp only [List.getElem?_toArray, List.getElem?_cons_succ, List.getElem?_cons_zero]; rfl)
  · exact fun _ _ _ h => h
  · (refine Or.inl ⟨by rfl, ?_⟩; intro w hSw; (try dsimp only at hSw); go_simp <;> with_reducible rfl)
  try simp only [Act.put, List.setIfInBounds_toArray, List.set_cons_zero, List.set_cons_succ]
  refine wpAnyH_take (i := 6) (oi := ?_) (v := ?_) ?_ (by kernel_rfl) (by kernel_rfl) (by kernel_rfl) ?_ ?_ (by assumption) ?_
  rotate_left 2
  · (simp only [List.getElem?_toArray, List.getElem?_cons_succ, List.getElem?_cons_zero]; rfl)
  · exact fun _ _ _ h => h
  · (refine Or.inl ⟨by rfl, ?_⟩; intro w hSw; (try dsimp only at hSw); go_simp <;> with_reducible rfl)
  try simp only [Act.put, List.setIfInBounds_toArray, List.set_cons_zero, List.set_cons_succ]
  refine wpAnyH_take (i := 12) (oi := ?_) (v := ?_) ?_ (by kernel_rfl) (by kernel_rfl) (by kernel_rfl) ?_ ?_ (by assumption) ?_
  rotate_left 2
  · (simp only [List.getElem?_toArray, List.getElem?_cons_succ, List.getElem?_cons_zero]; rfl)
  · exact fun _ _ _ h => h
  · (refine Or.inl ⟨by rfl, ?_⟩; intro w hSw; (try dsimp only at hSw); go_simp <;> with_reducible rfl)
  try simp only [Act.put, List.setIfInBounds_toArray, List.set_cons_zero, List.set_cons_succ]
  refine wpAnyH_take (i := 13) (oi := ?_) (v := ?_) ?_ (by kernel_rfl) (by kernel_rfl) (by kernel_rfl) ?_ ?_ (by assumption) ?_
  rotate_left 2
  · (simp only [List.getElem?_toArray, List.getElem?_cons_succ, List.getElem?_cons_zero]; rfl)
  · exact fun _ _ _ h => h
  · (refine Or.inl ⟨by rfl, ?_⟩; intro w hSw; (try dsimp only at hSw); go_simp <;> with_reducible rfl)
  try simp only [Act.put, List.setIfInBounds_toArray, List.set_cons_zero, List.set_cons_succ]
  refine wpAnyH_done (by kernel_rfl) (NoPanic.normal ?_) _
  go_wp2_with fail
  go_ret
  exact ⟨twins_end Hinj.out, HB⟩
end Go.Proofs.Ytobdafecgbcofaa
