/-
  WordDiv: the walk.
-/
import Derived.Test.YtcibhngcpihecaaLaw4
namespace Go.Proofs.Ytcibhngcpihecaa
open Go.RowKit
set_option linter.unusedVariables false
set_option maxHeartbeats 1000000 in
theorem law_WordDiv (a b : Int) (w : World) (lo0 : -2147483648 ≤ a) (hi0 : a ≤ 2147483647) (lo1 : -2147483648 ≤ b) (hi1 : b ≤ 2147483647) :
    Calls Try.prog 9 #[.int .i32 a, .int .i32 b] w fun e w' => e = .returned (.bool true) ∧ Below w.heap.size w w' := by
  go_enter Try.func9, Try.ntmps9
  go_wp2_with fail
  refine Calls.mono (begun4 _) ?_
  rintro e w1 ⟨rfl, hb1⟩
  go_wp2_with fail
  refine Calls.mono (word_Div _ _ _) ?_
  rintro e w2 ⟨rfl, rfl⟩
  go_wp2_with fail
  refine Calls.mono (word_Mul _ _ _) ?_
  rintro e w2 ⟨rfl, rfl⟩
  go_wp2_with fail
  refine Calls.mono (word_Sub _ _ _) ?_
  rintro e w2 ⟨rfl, rfl⟩
  by_cases h0 : b = 0
  · have H := hide (div32_zero (a := a) h0)
    subst h0
    rw [H.out]
    go_wp2_with fail
    go_ret
    exact ⟨rfl, hb1⟩
  · by_cases h1 : b = -1
    · subst h1
      have H := hide (show div32 a (-1) = wrap32 (0 - a) from by rw [div32_else (by omega)]; simp)
      rw [H.out]
      have h0' : (((-1 : Int)) == 0) = false := by decide
      have h1' : (((-1 : Int)) == -1) = true := by decide
      go_wp2_with fail
      refine Calls.mono (word_Sub _ _ _) ?_
      rintro e w2 ⟨rfl, rfl⟩
      go_wp2_with fail
      go_ret
      exact ⟨by simp, hb1⟩
    · have e := Int.mul_tdiv_add_tmod a b
      have hq : -2147483648 ≤ a.tdiv b ∧ a.tdiv b ≤ 2147483647 := by
        have e1 : (a.tdiv b).natAbs ≤ a.natAbs := by rw [Int.natAbs_tdiv]; exact Nat.div_le_self _ _
        have e2 : ¬ a.tdiv b = 2147483648 := by
          intro h
          by_cases hb : b = 1
          · rw [hb, Int.tdiv_one] at h
            omega
          · have h3 := Int.natAbs_tdiv a b
            rw [h] at h3
            have h3' : 2147483648 = a.natAbs / b.natAbs := h3
            have h4 : 2 ≤ b.natAbs := by omega
            have h5 : a.natAbs / b.natAbs ≤ a.natAbs / 2 := Nat.div_le_div_left h4 (by omega)
            have h6 : a.natAbs ≤ 2147483648 := by omega
            have h7 : a.natAbs / 2 ≤ 1073741824 := by omega
            omega
        omega
      have hd : wrap32 (div32 a b) = div32 a b ∧ wrap32 (a - wrap32 (div32 a b * b)) = a.tmod b := by
        rw [div32_else h0, wrap32_in hq.1 hq.2, wrap32_in hq.1 hq.2]
        refine ⟨rfl, ?_⟩
        have h6 : a - a.tdiv b * b = a.tmod b := by rw [Int.mul_comm]; omega
        have h7 : (a.tmod b).natAbs < b.natAbs := by rw [Int.natAbs_tmod]; exact Nat.mod_lt _ (by omega)
        have h8 : wrap32 (a - wrap32 (a.tdiv b * b)) = wrap32 (a - a.tdiv b * b) := by simp only [wrap32_eq]; omega
        rw [h8, h6]
        exact wrap32_in (by omega) (by omega)
      have h7 : (a.tmod b).natAbs < b.natAbs := by rw [Int.natAbs_tmod]; exact Nat.mod_lt _ (by omega)
      have hs : (a.tmod b = 0 ∨ (0 ≤ a ∧ 0 < a.tmod b) ∨ (a < 0 ∧ a.tmod b < 0)) := by
        rcases Int.lt_or_le a 0 with ha | ha
        · have : a.tmod b ≤ 0 := by
            have := Int.tmod_nonneg b (show 0 ≤ -a from by omega)
            rw [Int.neg_tmod] at this; omega
          omega
        · have := Int.tmod_nonneg b ha
          omega
      rw [hd.2]
      obtain ⟨r, hr⟩ : ∃ r, r = a.tmod b := ⟨_, rfl⟩
      rw [← hr] at h7 hs
      rw [← hr]
      clear hr e hd hq
      have hb0 : (b == 0) = false := by simp [h0]
      have hb1' : (b == -1) = false := by simp [h1]
      have hm : r < max b (-b) ∧ -max b (-b) < r := by omega
      rcases hs with hs | hs | hs
      · subst hs
        go_wp2_with fail
        go_ret
        exact ⟨rfl, hb1⟩
      · go_wp2_with fail
        go_ret
        exact ⟨by simp; omega, hb1⟩
      · go_wp2_with fail
        go_ret
        exact ⟨by first | (simp; done) | (simp; omega), hb1⟩
end Go.Proofs.Ytcibhngcpihecaa
