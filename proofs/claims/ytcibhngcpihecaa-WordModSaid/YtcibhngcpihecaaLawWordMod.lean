/-
  WordMod: the walk.
-/
import Derived.Test.YtcibhngcpihecaaLaw4
namespace Go.Proofs.Ytcibhngcpihecaa
open Go.RowKit
set_option linter.unusedVariables false
theorem mod_again {a n k : Int} (h : 1 ≤ n) : mod32 (a + n * k) n = mod32 a n := by
  rw [mod32_else (by omega), mod32_else (by omega), Int.add_mul_emod_self_left]
set_option maxHeartbeats 1000000 in
theorem law_WordMod (a n k : Int) (w : World) (lo0 : -2147483648 ≤ a) (hi0 : a ≤ 2147483647) (lo1 : -9223372036854775808 ≤ n) (hi1 : n ≤ 9223372036854775807) (lo2 : -9223372036854775808 ≤ k) (hi2 : k ≤ 9223372036854775807) :
    Calls Try.prog 10 #[.int .i32 a, .int .i64 n, .int .i64 k] w fun e w' => e = .returned (.bool true) ∧ Below w.heap.size w w' := by
  go_enter Try.func10, Try.ntmps10
  go_wp2_with fail
  refine Calls.mono (begun4 _) ?_
  rintro e w1 ⟨rfl, hb1⟩
  by_cases h1 : n < 1
  · go_wp2_with fail
    go_ret
    exact ⟨rfl, hb1⟩
  by_cases h2 : 1000 < n
  · go_wp2_with fail
    go_ret
    exact ⟨rfl, hb1⟩
  by_cases h3 : k < -1000
  · go_wp2_with fail
    go_ret
    exact ⟨rfl, hb1⟩
  by_cases h4 : 1000 < k
  · go_wp2_with fail
    go_ret
    exact ⟨rfl, hb1⟩
  by_cases h5 : a < -1073741824
  · go_wp2_with fail
    go_ret
    exact ⟨rfl, hb1⟩
  by_cases h6 : 1073741824 < a
  · go_wp2_with fail
    go_ret
    exact ⟨rfl, hb1⟩
  go_wp2_with fail
  refine Calls.mono (word_Mod _ _ _ (by omega) (by omega) (by omega)) ?_
  rintro e w2 ⟨rfl, rfl⟩
  have hm : 0 ≤ mod32 a n ∧ mod32 a n < n := by
    rw [mod32_else (by omega)]; exact ⟨Int.emod_nonneg _ (by omega), Int.emod_lt_of_pos _ (by omega)⟩
  have hp : -1000000 ≤ n * k ∧ n * k ≤ 1000000 := by
    have e1 : 0 ≤ (1000 - n) * (1000 - k) ∧ 0 ≤ (1000 - n) * (1000 + k) ∧ 0 ≤ n * (1000 - k) ∧ 0 ≤ n * (1000 + k) :=
      ⟨Int.mul_nonneg (by omega) (by omega), Int.mul_nonneg (by omega) (by omega), Int.mul_nonneg (by omega) (by omega), Int.mul_nonneg (by omega) (by omega)⟩
    have e2 : n * (1000 - k) = n * 1000 - n * k := Int.mul_sub _ _ _
    have e3 : n * (1000 + k) = n * 1000 + n * k := Int.mul_add _ _ _
    omega
  have H := hide (mod_again (a := a) (n := n) (k := k) (by omega))
  have H1 := hide (show mod32 a 1 = 0 from by rw [mod32_else (by omega)]; omega)
  go_wp2_with fail
  refine Calls.mono (word_Mod _ _ _ (by omega) (by omega) (by omega)) ?_
  rintro e w2 ⟨rfl, rfl⟩
  rw [H.out]
  go_wp2_with fail
  refine Calls.mono (word_Mod _ _ _ (by omega) (by omega) (by omega)) ?_
  rintro e w2 ⟨rfl, rfl⟩
  rw [H1.out]
  go_wp2_with fail
  go_ret
  exact ⟨rfl, hb1⟩
end Go.Proofs.Ytcibhngcpihecaa
