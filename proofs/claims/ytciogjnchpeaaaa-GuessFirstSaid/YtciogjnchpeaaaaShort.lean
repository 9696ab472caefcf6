/-
  quintainlaw1.Short cuts a slice of bytes.
-/
import Derived.Test.YtciogjnchpeaaaaBase
namespace Go.Proofs.Ytciogjnchpeaaaa
open Go.RowKit
set_option maxRecDepth 10000

set_option maxHeartbeats 400000 in
theorem law_Short (A : Option Addr) (n c : Nat) (mi : Int) (m : Nat) (w : World) (hc : n ≤ c) (hmi : mi = (m : Int)) (hm2 : m ≤ 9223372036854775807) :
    Calls Try.prog 19 #[.slice A n c, .int .i64 mi] w fun e w' => e = .returned (.slice A (min m n) c) ∧ w = w' := by
  subst hmi
  by_cases h : m < n
  · have hmin : min m n = m := by omega
    rw [hmin]
    clear hmin
    have hmc : m ≤ c := by omega
    go_enter Try.func19, Try.ntmps19
    go_wp2
    go_ret
    exact ⟨rfl, rfl⟩
  · have hmin : min m n = n := by omega
    rw [hmin]
    clear hmin
    go_enter Try.func19, Try.ntmps19
    go_wp2
    go_ret
    exact ⟨rfl, rfl⟩
end Go.Proofs.Ytciogjnchpeaaaa
