/-
  The walks of layer 13: At, New.
-/
import Derived.Test.YtciogjnchpeaaaaLine
import Derived.StillTailTactics
namespace Go.Proofs.Ytciogjnchpeaaaa
open Go.RowKit
set_option maxRecDepth 10000
/-- What At tells. -/
def atLine (l : List UInt8) (f : Int) : UInt8 := if f < 0 then 0 else l.getD f.toNat 0
def inLine (l : List UInt8) (f : Int) : Bool := decide (0 ≤ f ∧ f < (l.length : Int))
set_option maxHeartbeats 400000 in
theorem line_Put_nil (f : Int) (A : Option Addr) (n c : Nat) (w : World) : Calls Try.prog 21 #[.pointer none, .int .i64 f, .slice A n c] w fun e w' => e = .returned (.tuple #[.int .i64 0, .int .i64 7]) ∧ w = w' := by
  go_enter Try.func21, Try.ntmps21
  go_wp2
  go_ret2
  exact ⟨rfl, rfl⟩
set_option maxHeartbeats 400000 in
set_option maxRecDepth 10000 in
theorem input_New (delay : Int) (w : World) : Calls Try.prog 23 #[.int .i64 delay] w fun e w' =>
    ∃ p g, e = .returned (.pointer (some ⟨p, 0, none⟩)) ∧ LineAt w' p g (List.replicate (min (max delay 0) 8).toNat 0) ∧ Below w.heap.size w w' ∧ w.heap.size ≤ p ∧ ∀ k, some k = g → w.heap.size ≤ k := by
  obtain ⟨d, hd⟩ : ∃ d : Nat, (min (max delay 0) 8) = (d : Int) := ⟨(min (max delay 0) 8).toNat, by omega⟩
  rw [hd]
  have hd8 : d ≤ 8 := by omega
  rw [Int.toNat_natCast]
  have Hd := hide hd
  clear hd
  go_enter Try.func23, Try.ntmps23
  go_wp2_with (at_make; (rw [show (min (max delay 0) 8) = (d : Int) from Hd.out]); refine wpB_make rfl _ _ rfl w.heap.size _ _ d rfl rfl rfl rfl (by omega) (Nat.le_refl _) ?_; intro g w2 own2 hb2 hg2)
  go_ret
  refine ⟨w2.heap.size, some g, rfl, ⟨by rw [List.length_replicate]; omega, some ⟨g, 0, none⟩, d, ?_, ?_, rfl⟩, hb2.alloc hb2.size _, hb2.size, ?_⟩
  · rw [List.length_replicate]; exact Blk.new _ _ _
  · rw [List.length_replicate]; exact (own2.base_le (Nat.zero_le _)).below (Below_new _ _)
  · intro k hk; injection hk with hk; subst hk; exact own2.lt.1
end Go.Proofs.Ytciogjnchpeaaaa
