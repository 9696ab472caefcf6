/-
  quintainlaw17.begun: two players.
-/
import Derived.Test.YtbdhochdakihbaaQNew
import Derived.Test.YtbdhochdakihbaaShort
namespace Go.Proofs.Ytbdhochdakihbaa
open Go.RowKit
set_option linter.unusedVariables false
set_option maxHeartbeats 1000000 in
set_option maxRecDepth 10000 in
theorem begun17 (w : World) :
    Calls Try.prog 8 #[] w fun e w' => e = .returned (.bool true) ∧ Below w.heap.size w w' := by
  go_enter Try.func8, Try.ntmps8
  go_wp2_with fail
  refine Calls.mono (queue_New 2 1 2 1 _ (by decide) (by decide)) ?_
  rintro e w1 ⟨q, A, c, xs, rfl, hx, hq, hb⟩
  have HQ := hide hq
  have HB := hide hb
  have HX := hide hx
  have h0 : Hid (0 < xs.length) := by show 0 < _; omega
  have h2 : Hid (xs.length ≤ 1000) := by show _ ≤ 1000; omega
  obtain ⟨p, hp⟩ : ∃ p, p = (xs[0]'h0.out).1 := ⟨_, rfl⟩
  have HP := hide hp
  have hout : Hid ((2 : Int) < 0 ∨ (xs.length : Int) ≤ 2) := .inr (by omega)
  clear hq hb hx hp
  go_wp2_with fail
  refine Calls.mono (queue_Line HQ.out 0 h0.out h2.out rfl HP.out) ?_
  rintro e w2 ⟨rfl, rfl⟩
  go_wp2_with fail
  refine Calls.mono (queue_Line_out HQ.out hout.out) ?_
  rintro e w2 ⟨rfl, rfl⟩
  go_wp2_with fail
  refine Calls.mono (queue_Line HQ.out 0 h0.out h2.out rfl HP.out) ?_
  rintro e w2 ⟨rfl, rfl⟩
  have HL : Hid (LineAt w1 p (xs[0]'h0.out).2 [0]) := by
    show LineAt w1 p _ _
    rw [HP.out]
    exact HQ.out.line 0 h0.out
  go_wp2_with fail
  refine Calls.mono (line_Add_v p _ _ 5 _ _ HL.out (by decide) rfl) ?_
  rintro e w2 ⟨rfl, g2, k1, k2, k3⟩
  have HQ2 : Hid (QAt w.heap.size w2 q A c (xs.set 0 ((xs[0]'h0.out).1, g2)) [[0, 5], [0]]) := HQ.out.put HB.out.size 0 h0.out (by rw [← HP.out]; exact k1) (by rw [← HP.out]; exact k2) k3
  have HB2 : Hid (Below w.heap.size w w2) := by
    refine HB.out.trans (k2.below HB.out.size fun k hk hs => ?_)
    have := HQ.out.lbase 0 h0.out
    rcases hs with hs | hs
    · rw [HP.out] at hs; omega
    · have := this.2 k hs.symm; omega
  obtain ⟨ys, hys⟩ : ∃ ys, ys = xs.set 0 ((xs[0]'h0.out).1, g2) := ⟨_, rfl⟩
  rw [← hys] at HQ2
  have HY : Hid (ys.length = 2) := by show ys.length = 2; rw [hys, List.length_set]; exact HX.out
  have hfr : Hid (front [[0, 5], [0]] = 1) := by show _ = _; decide
  have hj : Hid (jointOf [[0, 5], [0]] 0 = [0, 0]) := by show _ = _; decide
  have hkn : Hid (knownOf [[0, 5], [0]] 1 = [.bool true, .bool false]) := by show _ = _; rfl
  clear hys k1 k2 k3
  go_wp2_with fail
  refine Calls.mono (queue_Joint HQ2.out HB2.out.size (by rw [HY.out]; omega) (by rw [HY.out]; omega) 0 (by rw [hfr.out]; omega) rfl) ?_
  rintro e w3 ⟨A3, c3, rfl, own3, hb3⟩
  rw [HY.out, hj.out] at own3
  rw [HY.out]
  have O3 := hide own3
  have HQ3 := hide (HQ2.out.below hb3)
  have HB3 := hide (Below_step HB2.out hb3)
  clear own3 hb3
  go_wp2_with fail
  refine Calls.mono (queue_Joint_out HQ3.out (by rw [HY.out]; omega) (by rw [HY.out]; omega) (.inr (by rw [hfr.out]; omega))) ?_
  rintro e w4 ⟨rfl, rfl⟩
  go_wp2_with fail
  refine Calls.mono (queue_Known HQ3.out HB3.out.size (by rw [HY.out]; omega) 1) ?_
  rintro e w5 ⟨A5, c5, rfl, own5, hb5⟩
  rw [HY.out, hkn.out] at own5
  rw [HY.out]
  have HQ5 := hide (HQ3.out.below hb5)
  have HB5 := hide (Below_step HB3.out hb5)
  have O3 := hide (O3.out.below hb5)
  obtain ⟨g5, rfl, _, _⟩ := own5.form (by omega)
  obtain ⟨_, hc0⟩ := own5.cell (j := 0) (by omega)
  obtain ⟨_, hc1⟩ := own5.cell (j := 1) (by omega)
  have hc0 : w5.cell? ⟨g5, 0, none⟩ = some (.bool true) := hc0
  have hc1 : w5.cell? ⟨g5, 1, none⟩ = some (.bool false) := hc1
  clear own5 hb5
  go_wp2_with fail
  refine Calls.mono (queue_N (n := 2) HQ5.out (by rw [HY.out]; rfl)) ?_
  rintro e w6 ⟨rfl, rfl⟩
  go_wp2_with fail
  refine Calls.mono (queue_Front (f := 1) HQ5.out (by rw [HY.out]; omega) (by rw [HY.out]; omega) (by rw [hfr.out]; rfl)) ?_
  rintro e w6 ⟨rfl, rfl⟩
  go_wp2_with fail
  rw [run_stringB O3.out.lies]
  go_wp2_with fail
  go_ret
  exact ⟨rfl, HB5.out⟩
set_option maxHeartbeats 1000000 in
set_option maxRecDepth 10000 in
theorem law_QueueNone (w : World) :
    Calls Try.prog 3 #[] w fun e w' => e = .returned (.bool true) ∧ Below w.heap.size w w' := by
  go_enter Try.func3, Try.ntmps3
  go_wp2_with fail
  refine Calls.mono (queue_Joint_nil _ _) ?_
  rintro e w1 ⟨rfl, rfl⟩
  go_wp2_with fail
  refine Calls.mono (begun17 _) ?_
  rintro e w1 ⟨rfl, hb1⟩
  have HB := hide hb1
  clear hb1
  go_wp2_with fail
  refine Calls.mono (queue_N_nil _) ?_
  rintro e w2 ⟨rfl, rfl⟩
  go_wp2_with fail
  refine Calls.mono (queue_Line_nil _ _) ?_
  rintro e w2 ⟨rfl, rfl⟩
  go_wp2_with fail
  refine Calls.mono (queue_Front_nil _) ?_
  rintro e w2 ⟨rfl, rfl⟩
  go_wp2_with fail
  refine Calls.mono (queue_Known_nil _ _) ?_
  rintro e w2 ⟨rfl, rfl⟩
  go_wp2_with fail
  go_ret
  exact ⟨rfl, HB.out⟩
end Go.Proofs.Ytbdhochdakihbaa
