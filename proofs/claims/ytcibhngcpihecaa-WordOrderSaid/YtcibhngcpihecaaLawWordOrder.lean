/-
  WordOrder: the walk.
-/
import Derived.Test.YtcibhngcpihecaaLaw4
import Derived.Test.YtcibhngcpihecaaStr
namespace Go.Proofs.Ytcibhngcpihecaa
open Go.RowKit
set_option linter.unusedVariables false
theorem be32_less {a b : Int} (h1 : 0 ≤ a) (h2 : a ≤ 2147483647) (h3 : 0 ≤ b) (h4 : b ≤ 2147483647) : Op.bytesLess (strOf (be32 a)).toList (strOf (be32 b)).toList = decide (a < b) := by
  rw [strOf_toList, strOf_toList]
  have key : ∀ x y : Int, 0 ≤ x → x < 256 → 0 ≤ y → y < 256 → ((UInt8.ofNat x.toNat < UInt8.ofNat y.toNat ↔ x < y) ∧ (UInt8.ofNat x.toNat = UInt8.ofNat y.toNat ↔ x = y)) := by
    intro x y h1 h2 h3 h4
    rw [UInt8.lt_iff_toNat_lt, ← UInt8.toNat_inj, UInt8.toNat_ofNat_of_lt' (by show x.toNat < 256; omega), UInt8.toNat_ofNat_of_lt' (by show y.toNat < 256; omega)]
    omega
  have k1 := key (a % 4294967296 / 16777216) (b % 4294967296 / 16777216) (by omega) (by omega) (by omega) (by omega)
  have k2 := key (a % 4294967296 / 65536 % 256) (b % 4294967296 / 65536 % 256) (by omega) (by omega) (by omega) (by omega)
  have k3 := key (a % 4294967296 / 256 % 256) (b % 4294967296 / 256 % 256) (by omega) (by omega) (by omega) (by omega)
  have k4 := key (a % 256) (b % 256) (by omega) (by omega) (by omega) (by omega)
  simp only [be32, Op.bytesLess]
  rw [Bool.eq_iff_iff]
  simp [k1, k2, k3, k4]
  omega
set_option maxHeartbeats 1000000 in
theorem law_WordOrder (a b : Int) (w : World) (lo0 : -2147483648 ≤ a) (hi0 : a ≤ 2147483647) (lo1 : -2147483648 ≤ b) (hi1 : b ≤ 2147483647) :
    Calls Try.prog 11 #[.int .i32 a, .int .i32 b] w fun e w' => e = .returned (.bool true) ∧ Below w.heap.size w w' := by
  go_enter Try.func11, Try.ntmps11
  go_wp2_with fail
  refine Calls.mono (begun4 _) ?_
  rintro e w1 ⟨rfl, hb1⟩
  by_cases h1 : a < 0
  · go_wp2_with fail
    go_ret
    exact ⟨rfl, hb1⟩
  by_cases h2 : b < 0
  · go_wp2_with fail
    go_ret
    exact ⟨rfl, hb1⟩
  have HL := be32_less (a := a) (b := b) (by omega) (by omega) (by omega) (by omega)
  go_wp2_with fail
  have HB := hb1.drew
  clear hb1
  go_region_with (first
    | (go_at_call 26; (with_reducible refine Calls.mono (word_Put a _) ?_); rintro e w2 ⟨A2, c2, rfl, own2, hb2⟩; have HB := Below_step HB hb2; have L2 := own2.lies)
    | (go_at_call 26; (with_reducible refine Calls.mono (word_Put b _) ?_); rintro e w3 ⟨A3, c3, rfl, own3, hb3⟩; have HB := Below_step HB hb3; have L3 := own3.lies; have L2b := L2.below hb3)
    | (rw [run_stringB L2b]) | (rw [run_stringB L2]) | (rw [run_stringB L3]))
  all_goals
    go_wp2_with fail
    go_ret
    exact ⟨rfl, HB⟩
end Go.Proofs.Ytcibhngcpihecaa
