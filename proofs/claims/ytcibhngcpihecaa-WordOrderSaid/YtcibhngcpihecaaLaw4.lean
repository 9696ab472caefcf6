/-
  quintainlaw4.begun: some numbers.
-/
import Derived.Test.YtcibhngcpihecaaWord
import Derived.Test.YtcibhngcpihecaaPut
namespace Go.Proofs.Ytcibhngcpihecaa
open Go.RowKit
set_option linter.unusedVariables false
theorem begun4_get : get32 (be32 (-2)) = -2 := by decide +kernel
theorem begun4_div : div32 (-7) 2 = -3 := by decide +kernel
theorem begun4_div0 : div32 5 0 = 0 := by decide +kernel
theorem begun4_mod : mod32 (-1) 8 = 7 := by decide +kernel
theorem begun4_add : wrap32 (1073741824 + 1073741824) = -2147483648 := by decide +kernel
theorem begun4_sub : wrap32 (0 - -2147483648) = -2147483648 := by decide +kernel
theorem begun4_mul : wrap32 (65536 * 65536) = 0 := by decide +kernel
set_option maxHeartbeats 1000000 in
theorem begun4 (w : World) :
    Calls Try.prog 17 #[] w fun e w' => e = .returned (.bool true) ∧ Below w.heap.size w w' := by
  go_enter Try.func17, Try.ntmps17
  go_wp2_with fail
  refine Calls.mono (word_Add _ _ _) ?_
  rintro e w1 ⟨rfl, rfl⟩
  rw [begun4_add]
  go_wp2_with fail
  refine Calls.mono (word_Sub _ _ _) ?_
  rintro e w1 ⟨rfl, rfl⟩
  rw [begun4_sub]
  go_wp2_with fail
  refine Calls.mono (word_Mul _ _ _) ?_
  rintro e w1 ⟨rfl, rfl⟩
  rw [begun4_mul]
  go_wp2_with fail
  refine Calls.mono (word_Div _ _ _) ?_
  rintro e w1 ⟨rfl, rfl⟩
  rw [begun4_div]
  go_wp2_with fail
  refine Calls.mono (word_Div _ _ _) ?_
  rintro e w1 ⟨rfl, rfl⟩
  rw [begun4_div0]
  go_wp2_with fail
  refine Calls.mono (word_Mod _ _ _ (by omega) (by omega) (by omega)) ?_
  rintro e w1 ⟨rfl, rfl⟩
  rw [begun4_mod]
  go_wp2_with fail
  refine Calls.mono (word_Put _ _) ?_
  rintro e w1 ⟨A, c, rfl, own1, hb1⟩
  go_wp2_with fail
  refine Calls.mono (word_Get _ _ _ _ _ _ own1.lies (by omega)) ?_
  rintro e w2 ⟨rfl, k, rfl⟩
  rw [begun4_get]
  go_wp2_with fail
  go_ret
  exact ⟨rfl, Below_drewN hb1 _⟩
end Go.Proofs.Ytcibhngcpihecaa
