/-
  CrcAll's walk.
-/
import Derived.Test.YtcibhngcpihecaaLaw3
import Derived.Test.YtcibhngcpihecaaOwn
import Derived.Test.YtcibhngcpihecaaShort
namespace Go.Proofs.Ytcibhngcpihecaa
open Go.RowKit
set_option maxHeartbeats 400000 in
theorem law_CrcAll (A : Option Addr) (n c : Nat) (a : List UInt8) (A2 : Option Addr) (n2 c2 : Nat) (b : List UInt8) (w : World) (hA : LiesB w w.heap.size A n a) (hc : n ≤ c) (_ : c ≤ maxLen)
    (hA2 : LiesB w w.heap.size A2 n2 b) (hc2 : n2 ≤ c2) (_ : c2 ≤ maxLen) :
    Calls Try.prog 3 #[.slice A n c, .slice A2 n2 c2] w fun e w' => e = .returned (.bool true) ∧ Below w.heap.size w w' := by
  go_enter Try.func3, Try.ntmps3
  go_wp2_with fail
  refine Calls.mono (begun3 _) ?_
  rintro e w1 ⟨rfl, hb1⟩
  have ha1 := (hA.below hb1).take 300
  have ha2 := (hA2.below hb1).take 300
  obtain ⟨m1, hm1⟩ : ∃ m, m = min 300 n := ⟨_, rfl⟩
  obtain ⟨m2, hm2⟩ : ∃ m, m = min 300 n2 := ⟨_, rfl⟩
  have hl1 : m1 ≤ 300 := by omega
  have hl2 : m2 ≤ 300 := by omega
  rw [← hm1] at ha1
  rw [← hm2] at ha2
  have Hm1 := hide hm1
  have Hm2 := hide hm2
  clear hm1 hm2
  go_wp2_with fail
  refine Calls.mono (law_Short _ _ _ _ 300 _ hc (by omega) (by omega)) ?_
  rintro e w2 ⟨rfl, rfl⟩
  rw [← Hm1.out]
  go_wp2_with fail
  refine Calls.mono (law_Short _ _ _ _ 300 _ hc2 (by omega) (by omega)) ?_
  rintro e w2 ⟨rfl, rfl⟩
  rw [← Hm2.out]
  go_wp2_with (first
   | (at_builtin; refine wpB_append rfl (.const (.slice none 0 0)) (.tmp 14) rfl w.heap.size none 0 0 [] rfl (OwnB.nil _ _) w.heap.size A m1 c _ rfl ha1 m1 _ (by omega) (List.nil_append _) (by omega) hb1.size ?_; intro A3 c3 w3 own3 hb3 hg3; have ha3 := ha2.below hb3)
   | (at_builtin; refine wpB_append rfl (.tmp 15) (.tmp 16) rfl w.heap.size A3 m1 c3 _ rfl own3 w.heap.size A2 m2 c2 _ rfl ha3 (m1 + m2) _ (by omega) rfl (by omega) (Nat.le_trans hb1.size hb3.size) ?_; intro A4 c4 w4 own4 hb4 hg4)
   | (go_at_call 14; (with_reducible refine Calls.mono (crc_Sum _ _ _ _ _ _ (by exact own4.lies) (by omega)) ?_); rintro e w5 ⟨rfl, rfl⟩)
   | (go_at_call 15; (with_reducible refine Calls.mono (ref_Sum _ _ _ _ _ _ (by exact own4.lies) (by omega)) ?_); rintro e w5 ⟨rfl, rfl⟩)
   | (go_at_call 14; (with_reducible refine Calls.mono (crc_Sum _ _ _ _ _ _ (by exact (ha1.below hb3).below hb4) (by omega)) ?_); rintro e w5 ⟨rfl, rfl⟩)
   | (go_at_call 16; (with_reducible refine Calls.mono (crc_More _ _ _ _ _ _ _ (by exact ha3.below hb4) (by omega)) ?_); rintro e w5 ⟨rfl, rfl⟩))
  go_ret
  exact ⟨by simp [Crc.sum_append], (hb1.trans hb3).trans hb4⟩
end Go.Proofs.Ytcibhngcpihecaa
