/-
  WordRing, WordDiv: the walks.
-/
import Derived.Test.YtcibhngcpihecaaLaw4
namespace Go.Proofs.Ytcibhngcpihecaa
open Go.RowKit
set_option linter.unusedVariables false
theorem wrap32_add (x y : Int) : wrap32 (wrap32 x + y) = wrap32 (x + y) := by simp only [wrap32_eq]; omega
theorem wrap32_add' (x y : Int) : wrap32 (x + wrap32 y) = wrap32 (x + y) := by simp only [wrap32_eq]; omega
theorem wrap32_sub (x y : Int) : wrap32 (wrap32 x - y) = wrap32 (x - y) := by simp only [wrap32_eq]; omega
theorem wrap32_sub' (x y : Int) : wrap32 (x - wrap32 y) = wrap32 (x - y) := by simp only [wrap32_eq]; omega
theorem wrap32_spec (x : Int) : ∃ k : Int, wrap32 x = x + 4294967296 * k := ⟨-((x + 2147483648) / 4294967296), by rw [wrap32_eq]; omega⟩
theorem wrap32_same (x k : Int) : wrap32 (x + 4294967296 * k) = wrap32 x := by simp only [wrap32_eq]; omega
theorem wrap32_mul (x y : Int) : wrap32 (wrap32 x * y) = wrap32 (x * y) := by
  obtain ⟨k, hk⟩ := wrap32_spec x
  rw [hk, Int.add_mul, Int.mul_assoc, wrap32_same]
theorem wrap32_mul' (x y : Int) : wrap32 (x * wrap32 y) = wrap32 (x * y) := by rw [Int.mul_comm, wrap32_mul, Int.mul_comm]
set_option maxHeartbeats 1000000 in
theorem law_WordRing (a b c : Int) (w : World) (lo0 : -2147483648 ≤ a) (hi0 : a ≤ 2147483647) (lo1 : -2147483648 ≤ b) (hi1 : b ≤ 2147483647) (lo2 : -2147483648 ≤ c) (hi2 : c ≤ 2147483647) :
    Calls Try.prog 8 #[.int .i32 a, .int .i32 b, .int .i32 c] w fun e w' => e = .returned (.bool true) ∧ Below w.heap.size w w' := by
  have H1 := hide (show wrap32 (b + a) = wrap32 (a + b) from by rw [Int.add_comm])
  have H2 := hide (show wrap32 (a + wrap32 (b + c)) = wrap32 (wrap32 (a + b) + c) from by rw [wrap32_add, wrap32_add', Int.add_assoc])
  have H3 := hide (show wrap32 (wrap32 (a * b) + wrap32 (a * c)) = wrap32 (a * wrap32 (b + c)) from by rw [wrap32_add, wrap32_add', wrap32_mul', Int.mul_add])
  have H4 := hide (show wrap32 (wrap32 (a + b) - b) = a from by rw [wrap32_sub, Int.add_sub_cancel, wrap32_in lo0 hi0])
  have H5 := hide (show wrap32 (a * wrap32 (b * c)) = wrap32 (wrap32 (a * b) * c) from by rw [wrap32_mul, wrap32_mul', Int.mul_assoc])
  have H6 := hide (show wrap32 (a + 0) = a from by rw [Int.add_zero, wrap32_in lo0 hi0])
  have H7 := hide (show wrap32 (a * 1) = a from by rw [Int.mul_one, wrap32_in lo0 hi0])
  go_enter Try.func8, Try.ntmps8
  go_wp2_with (first
    | (go_at_call 17; (with_reducible refine Calls.mono (begun4 _) ?_); rintro e w1 ⟨rfl, hb1⟩)
    | (go_at_call 18; (with_reducible refine Calls.mono (word_Add _ _ _) ?_); rintro e w2 ⟨rfl, rfl⟩; (try first | rw [H1.out] | rw [H2.out] | rw [H3.out] | rw [H6.out]))
    | (go_at_call 20; (with_reducible refine Calls.mono (word_Sub _ _ _) ?_); rintro e w2 ⟨rfl, rfl⟩; (try rw [H4.out]))
    | (go_at_call 21; (with_reducible refine Calls.mono (word_Mul _ _ _) ?_); rintro e w2 ⟨rfl, rfl⟩; (try first | rw [H5.out] | rw [H7.out])))
  go_ret
  exact ⟨rfl, hb1⟩
end Go.Proofs.Ytcibhngcpihecaa
