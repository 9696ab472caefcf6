/-
  PacketAny: the walk.
-/
import Derived.Test.YtcjcmjkpfijhdaaPktTells
namespace Go.Proofs.Ytcjcmjkpfijhdaa
open Go.RowKit
set_option linter.unusedVariables false
set_option maxHeartbeats 1000000 in
set_option maxRecDepth 10000 in
theorem law_PacketAny (A : Option Addr) (n c : Nat) (l : List UInt8) (w : World) (hA : LiesB w w.heap.size A n l) (hc : n ≤ c) (hcm : c ≤ maxLen) :
    Calls Try.prog 4 #[.slice A n c] w fun e w' => e = .returned (.bool true) ∧ Below w.heap.size w w' := by
  have HA := hide hA
  obtain ⟨m, hm⟩ : ∃ m, m = min 80 n := ⟨_, rfl⟩
  have HM := hide hm
  have hm80 : m ≤ 80 := by omega
  have hmc : m ≤ c := by omega
  clear hA hcm hm
  go_enter Try.func4, Try.ntmps4
  go_wp2_with fail
  refine Calls.mono (begun15 _) ?_
  rintro e w1 ⟨rfl, hb1⟩
  have HB1 := hide hb1
  clear hb1
  go_wp2_with fail
  refine Calls.mono (law_Short A n c 80 80 _ hc rfl (by omega)) ?_
  rintro e w2 ⟨rfl, rfl⟩
  rw [← HM.out]
  have L1 : Hid (LiesB w1 w.heap.size A m (l.take 80)) := by show LiesB _ _ _ _ _; rw [HM.out]; exact (HA.out.below HB1.out).take 80
  go_wp2_with fail
  refine Calls.mono (law_tells L1.out HB1.out.size hmc (by omega)) ?_
  rintro e w3 ⟨rfl, hb3⟩
  have HB3 := hide (Below_step HB1.out hb3)
  have L3 := hide (L1.out.below (hb3.mono HB1.out.size))
  clear hb3
  go_wp2_with fail
  refine Calls.mono (ref_Sealed L3.out HB3.out.size (by omega)) ?_
  rintro e w4 ⟨A4, n4, c4, rfl, own4, hb4⟩
  have HB4 := hide (Below_step HB3.out hb4)
  have hl4 := own4.len
  rw [Pkt.sealB_len, L1.out.len] at hl4
  have O4 := hide own4
  have hc4 := own4.cap
  clear own4 hb4
  go_wp2_with fail
  refine Calls.mono (law_tells O4.out.lies (Nat.le_refl _) hc4 (by omega)) ?_
  rintro e w5 ⟨rfl, hb5⟩
  have HB5 := hide (Below_step HB4.out hb5)
  clear hb5
  go_wp2_with fail
  go_ret
  exact ⟨rfl, HB5.out⟩
end Go.Proofs.Ytcjcmjkpfijhdaa
