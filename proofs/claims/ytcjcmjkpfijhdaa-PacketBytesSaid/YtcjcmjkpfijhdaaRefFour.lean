/-
  The walk of the document's Four.
-/
import Derived.Test.YtcjcmjkpfijhdaaNums
namespace Go.Proofs.Ytcjcmjkpfijhdaa
open Go.RowKit
set_option maxHeartbeats 400000 in
theorem ref_Four (a : Int) (w : World) (h1 : 0 ≤ a) (h2 : a < 4294967296) : Calls Try.prog 28 #[.int .u32 a] w fun e w' =>
    ∃ A c, e = .returned (.slice A 4 c) ∧ OwnB w' w.heap.size A 4 c (be32 a) ∧ Below w.heap.size w w' := by
  have HE := hide (Int.emod_eq_of_lt h1 h2)
  go_enter Try.func28, Try.ntmps28
  go_wp2
  go_ret
  refine ⟨_, _, rfl, OwnB.new _ _ 4 _ rfl (by simp [maxLen]) ?_, Below_new _ _⟩
  have := be32_cells a
  rw [HE.out] at this
  exact this
end Go.Proofs.Ytcjcmjkpfijhdaa
