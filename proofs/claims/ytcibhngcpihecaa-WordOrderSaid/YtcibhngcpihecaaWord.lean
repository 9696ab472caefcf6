/-
  The walks of layer 4, word, and of the document's numbers of 32 bits.
-/
import Derived.Test.YtcibhngcpihecaaNums
namespace Go.Proofs.Ytcibhngcpihecaa
open Go.RowKit

section
variable (a b : Int) (w : World)
set_option maxHeartbeats 400000 in
theorem word_Add : Calls Try.prog 18 #[.int .i32 a, .int .i32 b] w fun e w' => e = .returned (.int .i32 (wrap32 (a + b))) ∧ w = w' := by
  go_enter Try.func18, Try.ntmps18
  go_wp2
  go_ret
  exact ⟨rfl, rfl⟩
set_option maxHeartbeats 400000 in
theorem word_Sub : Calls Try.prog 20 #[.int .i32 a, .int .i32 b] w fun e w' => e = .returned (.int .i32 (wrap32 (a - b))) ∧ w = w' := by
  go_enter Try.func20, Try.ntmps20
  go_wp2
  go_ret
  exact ⟨rfl, rfl⟩
set_option maxHeartbeats 400000 in
theorem word_Mul : Calls Try.prog 21 #[.int .i32 a, .int .i32 b] w fun e w' => e = .returned (.int .i32 (wrap32 (a * b))) ∧ w = w' := by
  go_enter Try.func21, Try.ntmps21
  go_wp2
  go_ret
  exact ⟨rfl, rfl⟩
end
/-- What word.Div gives. -/
def div32 (a b : Int) : Int := if b = 0 then 0 else wrap32 (a.tdiv b)
/-- What word.Mod gives. -/
def mod32 (a n : Int) : Int := if n < 1 then 0 else a % n
theorem div32_zero {a b : Int} (h : b = 0) : div32 a b = 0 := by simp [div32, h]
theorem div32_else {a b : Int} (h : ¬ b = 0) : div32 a b = wrap32 (a.tdiv b) := by simp [div32, h]
theorem mod32_zero {a n : Int} (h : n < 1) : mod32 a n = 0 := by simp [mod32, h]
theorem mod32_else {a n : Int} (h : ¬ n < 1) : mod32 a n = a % n := by rw [mod32, if_neg h]
set_option maxHeartbeats 400000 in
theorem word_Div (a b : Int) (w : World) : Calls Try.prog 22 #[.int .i32 a, .int .i32 b] w fun e w' => e = .returned (.int .i32 (div32 a b)) ∧ w = w' := by
  by_cases h5 : b = 0
  · rw [div32_zero h5]
    subst h5
    go_enter Try.func22, Try.ntmps22
    go_wp2
    go_ret
    exact ⟨rfl, rfl⟩
  · rw [div32_else h5]
    by_cases h6 : b = -1
    · subst h6
      go_enter Try.func22, Try.ntmps22
      go_wp2
      go_ret
      exact ⟨by simp, rfl⟩
    · go_enter Try.func22, Try.ntmps22
      go_wp2
      go_ret
      exact ⟨rfl, rfl⟩
set_option maxHeartbeats 400000 in
theorem word_Mod (a n : Int) (w : World) (h1 : -2147483648 ≤ a) (h2 : a ≤ 2147483647) (h4 : n ≤ 9223372036854775807) :
    Calls Try.prog 24 #[.int .i32 a, .int .i64 n] w fun e w' => e = .returned (.int .i64 (mod32 a n)) ∧ w = w' := by
  by_cases h5 : n < 1
  · rw [mod32_zero h5]
    go_enter Try.func24, Try.ntmps24
    go_wp2
    go_ret
    exact ⟨rfl, rfl⟩
  · rw [mod32_else h5]
    obtain ⟨t1, t2⟩ := tmod_lt a n (by omega)
    by_cases h6 : a.tmod n < 0
    · have HE := hide (tmod_neg (by omega) h6)
      go_enter Try.func24, Try.ntmps24
      go_wp2
      go_ret
      rw [← HE.out]
      exact ⟨rfl, rfl⟩
    · have HE := hide (tmod_pos (a := a) (n := n) (by omega) (by omega))
      go_enter Try.func24, Try.ntmps24
      go_wp2
      go_ret
      rw [← HE.out]
      exact ⟨rfl, rfl⟩
end Go.Proofs.Ytcibhngcpihecaa
