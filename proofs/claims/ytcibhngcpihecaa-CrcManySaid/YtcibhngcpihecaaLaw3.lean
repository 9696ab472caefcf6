/-
  quintainlaw3.begun: two sums that are known.
-/
import Derived.Test.YtcibhngcpihecaaCrc
import Derived.Lib.SlBytesConst
namespace Go.Proofs.Ytcibhngcpihecaa
open Go.RowKit
theorem crc_Sum_v (A : Option Addr) (n c B : Nat) (l : List UInt8) (v : Int) (w : World) (hA : LiesB w B A n l) (hm : n ≤ 9223372036854775807) (hv : ((Crc.sum l).toNat : Int) = v) :
    Calls Try.prog 14 #[.slice A n c] w fun e w' => e = .returned (.int .u32 v) ∧ w = w' := by
  subst hv; exact crc_Sum A n c B l w hA hm
theorem digits_sum : ((Crc.sum [49, 50, 51, 52, 53, 54, 55, 56, 57]).toNat : Int) = 3421780262 := by decide +kernel
theorem nil_sum : ((Crc.sum []).toNat : Int) = 0 := by decide
set_option maxHeartbeats 400000 in
theorem begun3 (w : World) :
    Calls Try.prog 12 #[] w fun e w' => e = .returned (.bool true) ∧ Below w.heap.size w w' := by
  have kc := fun (w : World) (C : Array Value) (n c : Nat) => Lib.run_convert_bytes_const (P := Try.prog) w 22 5 C n c Try.underlying22 Try.underlying5
  go_enter Try.func12, Try.ntmps12
  go_wp2_with (first
   | (go_at_call 14; (with_reducible refine Calls.mono (crc_Sum_v _ _ _ _ [49, 50, 51, 52, 53, 54, 55, 56, 57] 3421780262 _ (by exact LiesB.new _ _ _ _ _ _ rfl rfl) (by omega) digits_sum) ?_); rintro e w1 ⟨rfl, rfl⟩)
   | (go_at_call 14; (with_reducible refine Calls.mono (crc_Sum_v _ _ _ 0 [] 0 _ (by exact LiesB.nil _ _ _) (by omega) nil_sum) ?_); rintro e w1 ⟨rfl, rfl⟩))
  go_ret
  exact ⟨rfl, (Below.refl _ _).alloc (Nat.le_refl _) _⟩
end Go.Proofs.Ytcibhngcpihecaa
