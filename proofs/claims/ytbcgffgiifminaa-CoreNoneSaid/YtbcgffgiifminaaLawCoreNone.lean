/-
  CoreNone: the walk.
-/
import Derived.Test.YtbcgffgiifminaaStand
namespace Go.Proofs.Ytbcgffgiifminaa
open Go.RowKit
set_option maxRecDepth 10000
set_option linter.unusedVariables false
set_option maxHeartbeats 4000000 in
theorem law_CoreNone (w : World) : Calls Try.prog 11 #[] w fun r w' => r = .returned (.bool true) ∧ Below w.heap.size w w' := by
  go_enter Try.func11, Try.ntmps11
  go_wp2_with fail
  refine Calls.mono (core_Mark_nil 1 w) ?_
  rintro r w2 ⟨rfl, rfl⟩
  go_wp2_with fail
  refine Calls.mono (begun21 w) ?_
  rintro r w2 ⟨rfl, hb2⟩
  have HB2 := hide hb2
  clear hb2
  go_wp2_with fail
  refine Calls.mono (core_Press_nil 1 w2) ?_
  rintro r w3 ⟨rfl, rfl⟩
  go_wp2_with fail
  refine Calls.mono (core_Receive_nil none 0 0 w2) ?_
  rintro r w3 ⟨rfl, rfl⟩
  go_wp2_with fail
  refine Calls.mono (core_Tick_nil w2) ?_
  rintro r w3 ⟨rfl, rfl⟩
  go_wp2_with fail
  refine Calls.mono (core_Quit_nil w2) ?_
  rintro r w3 ⟨rfl, rfl⟩
  go_wp2_with fail
  refine Calls.mono (core_Events_nil w2) ?_
  rintro r w3 ⟨rfl, rfl⟩
  go_wp2_with fail
  refine Calls.mono (core_Closed_nil w2) ?_
  rintro r w3 ⟨rfl, rfl⟩
  go_wp2_with fail
  refine Calls.mono (core_Head_nil w2) ?_
  rintro r w3 ⟨rfl, hb3⟩
  have HB3 := hide (Below_step HB2.out hb3)
  clear hb3
  go_wp2_with fail
  refine Calls.mono (core_Marks_nil w3) ?_
  rintro r w4 ⟨rfl, rfl⟩
  go_wp2_with fail
  refine Calls.mono (core_Queue_nil w3) ?_
  rintro r w4 ⟨rfl, rfl⟩
  go_wp2_with fail
  go_ret
  exact ⟨rfl, HB3.out⟩
end Go.Proofs.Ytbcgffgiifminaa
