/-
  The walks of the document's Round, Div, Mod, Four.
-/
import Derived.Test.YtcibhngcpihecaaWord
namespace Go.Proofs.Ytcibhngcpihecaa
open Go.RowKit
theorem round_neg {n : Int} (h0 : n.tmod 4294967296 < 0) : (n.tmod 4294967296 + 4294967296 < 2147483648 → wrap32 n = n.tmod 4294967296 + 4294967296) ∧ (2147483648 ≤ n.tmod 4294967296 + 4294967296 → wrap32 n = n.tmod 4294967296) := by
  have e := tmod_neg (a := n) (n := 4294967296) (by omega) h0
  rw [wrap32_eq]
  omega
theorem round_pos {n : Int} (h0 : 0 ≤ n.tmod 4294967296) : (n.tmod 4294967296 < 2147483648 → wrap32 n = n.tmod 4294967296) ∧ (2147483648 ≤ n.tmod 4294967296 → wrap32 n = n.tmod 4294967296 - 4294967296) := by
  have e := tmod_pos (a := n) (n := 4294967296) (by omega) h0
  rw [wrap32_eq]
  omega
set_option maxHeartbeats 400000 in
theorem ref_Round (n : Int) (w : World) : Calls Try.prog 19 #[.int .i64 n] w fun e w' => e = .returned (.int .i32 (wrap32 n)) ∧ w = w' := by
  obtain ⟨t1, t2⟩ := tmod_lt n 4294967296 (by omega)
  by_cases h0 : n.tmod 4294967296 < 0
  · have hr := round_neg h0
    by_cases h1 : n.tmod 4294967296 + 4294967296 < 2147483648
    · have HE := hide (hr.1 h1)
      clear hr
      go_enter Try.func19, Try.ntmps19
      go_wp2
      go_ret
      rw [HE.out]
      exact ⟨rfl, rfl⟩
    · have HE := hide (hr.2 (by omega))
      clear hr
      go_enter Try.func19, Try.ntmps19
      go_wp2
      go_ret
      rw [HE.out]
      exact ⟨by go_num, rfl⟩
  · have hr := round_pos (n := n) (by omega)
    by_cases h1 : n.tmod 4294967296 < 2147483648
    · have HE := hide (hr.1 h1)
      clear hr
      go_enter Try.func19, Try.ntmps19
      go_wp2
      go_ret
      rw [HE.out]
      exact ⟨rfl, rfl⟩
    · have HE := hide (hr.2 (by omega))
      clear hr
      go_enter Try.func19, Try.ntmps19
      go_wp2
      go_ret
      rw [HE.out]
      exact ⟨rfl, rfl⟩
set_option maxHeartbeats 400000 in
theorem ref_Div (a b : Int) (w : World) (h1 : -2147483648 ≤ a) (h2 : a ≤ 2147483647) (h3 : -2147483648 ≤ b) (h4 : b ≤ 2147483647) :
    Calls Try.prog 23 #[.int .i32 a, .int .i32 b] w fun e w' => e = .returned (.int .i32 (div32 a b)) ∧ w = w' := by
  by_cases h5 : b = 0
  · rw [div32_zero h5]
    subst h5
    go_enter Try.func23, Try.ntmps23
    go_wp2
    go_ret
    exact ⟨rfl, rfl⟩
  · rw [div32_else h5]
    go_enter Try.func23, Try.ntmps23
    go_wp2_with fail
    have hq : -2147483648 ≤ a.tdiv b ∧ a.tdiv b ≤ 2147483648 := by
      have e : (a.tdiv b).natAbs ≤ a.natAbs := by rw [Int.natAbs_tdiv]; exact Nat.div_le_self _ _
      omega
    rw [IntWalk.wrap64_in _ ⟨by omega, by omega⟩]
    clear hq
    refine Calls.mono (ref_Round _ _) ?_
    rintro e w1 ⟨rfl, rfl⟩
    go_wp2
    go_ret
    exact ⟨rfl, rfl⟩
set_option maxHeartbeats 400000 in
theorem ref_Mod (a n : Int) (w : World) (h1 : -2147483648 ≤ a) (h2 : a ≤ 2147483647) (h4 : n ≤ 9223372036854775807) :
    Calls Try.prog 25 #[.int .i32 a, .int .i64 n] w fun e w' => e = .returned (.int .i64 (mod32 a n)) ∧ w = w' := by
  by_cases h5 : n < 1
  · rw [mod32_zero h5]
    go_enter Try.func25, Try.ntmps25
    go_wp2
    go_ret
    exact ⟨rfl, rfl⟩
  · rw [mod32_else h5]
    obtain ⟨t1, t2⟩ := tmod_lt a n (by omega)
    by_cases h6 : a.tmod n < 0
    · have HE := hide (tmod_neg (by omega) h6)
      go_enter Try.func25, Try.ntmps25
      go_wp2
      go_ret
      rw [← HE.out]
      exact ⟨rfl, rfl⟩
    · have HE := hide (tmod_pos (a := a) (n := n) (by omega) (by omega))
      go_enter Try.func25, Try.ntmps25
      go_wp2
      go_ret
      rw [← HE.out]
      exact ⟨rfl, rfl⟩
end Go.Proofs.Ytcibhngcpihecaa
