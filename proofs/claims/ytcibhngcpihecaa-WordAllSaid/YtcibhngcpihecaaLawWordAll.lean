/-
  WordAll: the walk.
-/
import Derived.Test.YtcibhngcpihecaaLaw4
import Derived.Test.YtcibhngcpihecaaRefWord
import Derived.Test.YtcibhngcpihecaaRefFour
import Derived.Test.YtcibhngcpihecaaStr
import Derived.Deep.DeepCutAuto
namespace Go.Proofs.Ytcibhngcpihecaa
open Go.RowKit
set_option linter.unusedVariables false
set_option maxHeartbeats 4000000 in
set_option maxRecDepth 100000 in
theorem law_WordAll (a b n : Int) (A : Option Addr) (m c : Nat) (raw : List UInt8) (w : World) (lo0 : -2147483648 ≤ a) (hi0 : a ≤ 2147483647) (lo1 : -2147483648 ≤ b) (hi1 : b ≤ 2147483647)
    (lo2 : -9223372036854775808 ≤ n) (hi2 : n ≤ 9223372036854775807) (hA : LiesB w w.heap.size A m raw) (hc : m ≤ c) (_ : c ≤ maxLen) :
    Calls Try.prog 7 #[.int .i32 a, .int .i32 b, .int .i64 n, .slice A m c] w fun e w' => e = .returned (.bool true) ∧ Below w.heap.size w w' := by
  have hp : -9223372036854775808 ≤ a * b ∧ a * b ≤ 9223372036854775807 := by
    have e1 : (a * b).natAbs = a.natAbs * b.natAbs := Int.natAbs_mul a b
    have e2 : a.natAbs * b.natAbs ≤ 2147483648 * 2147483648 := Nat.mul_le_mul (by omega) (by omega)
    omega
  go_enter Try.func7, Try.ntmps7
  go_wp2_with fail
  refine Calls.mono (begun4 _) ?_
  rintro e w1 ⟨rfl, hb1⟩
  go_wp2_with fail
  refine Calls.mono (word_Add _ _ _) ?_
  rintro e w2 ⟨rfl, rfl⟩
  go_wp2_with fail
  refine Calls.mono (ref_Round _ _) ?_
  rintro e w2 ⟨rfl, rfl⟩
  go_wp2_with fail
  refine Calls.mono (word_Sub _ _ _) ?_
  rintro e w2 ⟨rfl, rfl⟩
  go_wp2_with fail
  refine Calls.mono (ref_Round _ _) ?_
  rintro e w2 ⟨rfl, rfl⟩
  go_wp2_with fail
  refine Calls.mono (word_Mul _ _ _) ?_
  rintro e w2 ⟨rfl, rfl⟩
  go_wp2_with fail
  refine Calls.mono (ref_Round _ _) ?_
  rintro e w2 ⟨rfl, rfl⟩
  go_wp2_with fail
  refine Calls.mono (word_Div _ _ _) ?_
  rintro e w2 ⟨rfl, rfl⟩
  go_wp2_with fail
  refine Calls.mono (ref_Div _ _ _ lo0 hi0 lo1 hi1) ?_
  rintro e w2 ⟨rfl, rfl⟩
  go_wp2_with fail
  refine Calls.mono (word_Mod _ _ _ lo0 hi0 hi2) ?_
  rintro e w2 ⟨rfl, rfl⟩
  go_wp2_with fail
  refine Calls.mono (ref_Mod _ _ _ lo0 hi0 hi2) ?_
  rintro e w2 ⟨rfl, rfl⟩
  obtain ⟨mm, hmm⟩ : ∃ k, k = min 8 m := ⟨_, rfl⟩
  obtain ⟨r, hr⟩ : ∃ l, l = raw.take 8 := ⟨_, rfl⟩
  have hl8 : mm ≤ 8 := by omega
  have hmc : mm ≤ c := by omega
  have h1 := (hA.below hb1).take 8
  rw [← hmm, ← hr] at h1
  have Hmm := hide hmm
  clear hmm hr
  have HD := hide hp
  clear hp hA
  go_upto_if 68 with fail
  go_cut [3] (fun s wx => s = .slice A mm c ∧ w1 = wx)
  case first =>
    by_cases h8 : 8 < m
    · go_wp2_with fail
      go_meet
      exact ⟨by rw [Hmm.out, Nat.min_eq_left (Nat.le_of_lt h8)], rfl⟩
    · go_wp2_with fail
      go_meet
      exact ⟨by rw [Hmm.out, Nat.min_eq_right (by omega)], rfl⟩
  case rest =>
    obtain ⟨rfl, rfl⟩ := hcut
    go_upto_if 73 with fail
    go_cut [12] (fun s wx => s = .int .i32 (get32 r) ∧ ∃ k, wx = w1.drewN k)
    case first =>
      by_cases h4 : mm < 4
      · have he := get32_short (l := r) (by rw [h1.len]; exact h4)
        go_wp2_with fail
        go_meet
        exact ⟨by rw [he], 0, rfl⟩
      · have hl := h1.len
        match r, hl, h1 with
        | [], hl, _ => simp at hl; omega
        | [_], hl, _ => simp at hl; omega
        | [_, _], hl, _ => simp at hl; omega
        | [_, _, _], hl, _ => simp at hl; omega
        | x :: y :: z :: u :: r, hl, h1 =>
          clear hl
          obtain ⟨b1, off, rfl, -, hcc⟩ := h1.2 (by simp)
          have c0 := hcc 0 _ rfl
          have c1 := hcc 1 _ rfl
          have c2 := hcc 2 _ rfl
          have c3 := hcc 3 _ rfl
          simp only [bv, Nat.add_zero] at c0 c1 c2 c3
          clear h1 hcc
          have hx := x.toNat_lt
          have hy := y.toNat_lt
          have hz := z.toNat_lt
          have hu := u.toNat_lt
          have HN := hide (show (x.toNat : Int) * 16777216 + y.toNat * 65536 + z.toNat * 256 + u.toNat = num4 x y z u from rfl)
          go_wp2_with fail
          go_quiet ((go_at_call 19; exact Calls.quiet_of_same' (ref_Round _ _)))
          go_wp2_with fail
          go_meet
          rw [HN.out]
          exact ⟨rfl, nq, rfl⟩
    case rest =>
      obtain ⟨rfl, k, rfl⟩ := hcut
      obtain ⟨w2, hw2⟩ : ∃ w2, w2 = w1.drewN k := ⟨_, rfl⟩
      have HB := Below_drewN hb1 k
      have L0 := h1.drewN k
      rw [← hw2] at HB L0
      rw [← hw2]
      clear hw2 hb1 h1
      have hm4 : 0 ≤ a % 4294967296 ∧ a % 4294967296 < 4294967296 := by omega
      have HG := hide (show get32 (be32 a) = a from by have := get32_be32 lo0 hi0 []; rwa [List.append_nil] at this)
      go_wp2_with fail
      have HB := HB.drew
      have L0 := L0.drew
      go_region_with (first
        | (go_at_call 26; (with_reducible refine Calls.mono (word_Put a _) ?_); rintro e w3 ⟨A2, c2, rfl, own2, hb2⟩; have L0 := LiesB_step L0 HB hb2; have HB := Below_step HB hb2; have L2 := own2.lies)
        | (go_at_call 27; rw [IntKind.wrap_u32]; (with_reducible refine Calls.mono (ref_Four _ _ hm4.1 hm4.2) ?_); rintro e w3 ⟨A3, c3, rfl, own3, hb3⟩; have L0 := LiesB_step L0 HB hb3; have HB := Below_step HB hb3; have L3 := own3.lies; have L2b := L2.below hb3)
        | (go_at_call 28; (with_reducible refine Calls.mono (word_Get _ _ _ _ _ _ L2 (by omega)) ?_); rintro e w3 ⟨rfl, k2, rfl⟩; rw [HG.out]; have L0 := L0.drewN k2; have HB := Below_drewN HB k2)
        | (go_at_call 28; (with_reducible refine Calls.mono (word_Get _ _ _ _ _ _ L0 (by omega)) ?_); rintro e w3 ⟨rfl, k2, rfl⟩; have HB := Below_drewN HB k2)
        | (rw [run_stringB L2b]) | (rw [run_stringB L2]) | (rw [run_stringB L3, be32_mod]))
      all_goals
        go_wp2_with fail
        go_ret
        rw [World.drewN_drewN] at HB
        exact ⟨rfl, HB⟩
end Go.Proofs.Ytcibhngcpihecaa
