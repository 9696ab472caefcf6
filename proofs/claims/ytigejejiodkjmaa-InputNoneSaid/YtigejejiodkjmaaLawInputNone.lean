/-
  InputNone, InputStays: the walks.
-/
import Derived.Test.YtigejejiodkjmaaLaw13
import Derived.Test.YtigejejiodkjmaaShort
namespace Go.Proofs.Ytigejejiodkjmaa
open Go.RowKit
set_option linter.unusedVariables false
set_option maxHeartbeats 1000000 in
set_option maxRecDepth 10000 in
theorem law_InputNone (w : World) :
    Calls Try.prog 5 #[] w fun e w' => e = .returned (.bool true) ∧ Below w.heap.size w w' := by
  go_enter Try.func5, Try.ntmps5
  go_wp2_with fail
  refine Calls.mono (line_At_nil _ _) ?_
  rintro e w1 ⟨rfl, rfl⟩
  go_wp2_with fail
  refine Calls.mono (line_Put_nil _ _ _ _ _) ?_
  rintro e w1 ⟨rfl, rfl⟩
  have hb0 := hide (Below_new w (.cells #[.int .u8 1] 5))
  go_wp2_with fail
  refine Calls.mono (begun13 _) ?_
  rintro e w1 ⟨rfl, hb1⟩
  go_wp2_with fail
  refine Calls.mono (line_Len_nil _) ?_
  rintro e w2 ⟨rfl, rfl⟩
  go_wp2_with fail
  refine Calls.mono (line_Add_nil _ _) ?_
  rintro e w2 ⟨rfl, rfl⟩
  go_wp2_with fail
  refine Calls.mono (line_From_nil _ _ _) ?_
  rintro e w2 ⟨rfl, rfl⟩
  go_wp2_with fail
  refine Calls.mono (line_All_nil _) ?_
  rintro e w2 ⟨rfl, rfl⟩
  go_wp2_with fail
  go_ret
  exact ⟨rfl, Below_step hb0.out hb1⟩
end Go.Proofs.Ytigejejiodkjmaa
