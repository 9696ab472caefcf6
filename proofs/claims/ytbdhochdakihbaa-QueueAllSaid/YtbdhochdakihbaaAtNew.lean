/-
  The walks of layer 13: At, New.
-/
import Derived.Test.YtbdhochdakihbaaLine
import Derived.StillTailTactics
namespace Go.Proofs.Ytbdhochdakihbaa
open Go.RowKit
/-- What At tells. -/
def atLine (l : List UInt8) (f : Int) : UInt8 := if f < 0 then 0 else l.getD f.toNat 0
def inLine (l : List UInt8) (f : Int) : Bool := decide (0 ≤ f ∧ f < (l.length : Int))
set_option maxHeartbeats 400000 in
set_option maxRecDepth 10000 in
theorem line_At (p : Nat) (g : Option Nat) (l : List UInt8) (f : Int) (w : World) (h : LineAt w p g l) :
    Calls Try.prog 20 #[.pointer (some ⟨p, 0, none⟩), .int .i64 f] w fun e w' =>
      e = .returned (.tuple #[.int .u8 ((atLine l f).toNat : Int), .bool (inLine l f)]) ∧ w = w' := by
  by_cases c1 : f < 0
  · have e1 : atLine l f = 0 := by rw [atLine, if_pos c1]
    have e2 : inLine l f = false := by unfold inLine; simp; omega
    rw [e1, e2]
    clear h e1 e2
    go_enter Try.func20, Try.ntmps20
    go_wp2
    go_ret2
    exact ⟨rfl, rfl⟩
  · obtain ⟨k, rfl⟩ : ∃ k : Nat, f = (k : Int) := ⟨f.toNat, by omega⟩
    have HL := hide h
    obtain ⟨hl0, A, c, hb, ho, hg⟩ := h
    obtain ⟨m, hm⟩ : ∃ m, m = l.length := ⟨_, rfl⟩
    by_cases c2 : m ≤ k
    · have e1 : atLine l k = 0 := by
        rw [atLine, if_neg c1]; simp only [Int.toNat_natCast]
        rw [List.getD_eq_getElem?_getD, List.getElem?_eq_none (by omega)]; rfl
      have e2 : inLine l k = false := by unfold inLine; simp; omega
      rw [e1, e2]
      have Hm := hide hm
      clear e1 e2 hb ho hg hm hl0
      go_enter Try.func20, Try.ntmps20
      go_wp2_with (go_at_call 22; (with_reducible refine Calls.mono (line_Len _ _ _ _ HL.out) ?_); rintro e w1 ⟨rfl, rfl⟩; rw [← Hm.out])
      go_ret2
      exact ⟨rfl, rfl⟩
    · obtain ⟨b1, o1, hl1, rfl, -, hc1⟩ := ho.lies.at_ (k := k) (by omega)
      have e1 : atLine l k = l[k] := by
        rw [atLine, if_neg c1]; simp only [Int.toNat_natCast]
        rw [List.getD_eq_getElem?_getD, List.getElem?_eq_getElem hl1]; rfl
      have e2 : inLine l k = true := by unfold inLine; simp; omega
      rw [e1, e2]
      have hc := hb.cell 0
      rw [← hm] at hc hl0
      simp at hc
      obtain ⟨y, hy⟩ : ∃ y, y = l[k] := ⟨_, rfl⟩
      rw [← hy] at hc1
      rw [← hy]
      have Hm := hide hm
      clear e1 e2 hb ho hg hm hy
      go_enter Try.func20, Try.ntmps20
      go_wp2_with (go_at_call 22; (with_reducible refine Calls.mono (line_Len _ _ _ _ HL.out) ?_); rintro e w1 ⟨rfl, rfl⟩; rw [← Hm.out])
      go_ret2
      exact ⟨rfl, rfl⟩
set_option maxHeartbeats 400000 in
theorem line_At_nil (f : Int) (w : World) : Calls Try.prog 20 #[.pointer none, .int .i64 f] w fun e w' => e = .returned (.tuple #[.int .u8 0, .bool false]) ∧ w = w' := by
  by_cases c1 : f < 0
  · go_enter Try.func20, Try.ntmps20
    go_wp2
    go_ret2
    exact ⟨rfl, rfl⟩
  · go_enter Try.func20, Try.ntmps20
    go_wp2_with (go_at_call 22; (with_reducible refine Calls.mono (line_Len_nil _) ?_); rintro e w1 ⟨rfl, rfl⟩)
    go_ret2
    exact ⟨rfl, rfl⟩
set_option maxHeartbeats 400000 in
theorem line_Put_nil (f : Int) (A : Option Addr) (n c : Nat) (w : World) : Calls Try.prog 18 #[.pointer none, .int .i64 f, .slice A n c] w fun e w' => e = .returned (.tuple #[.int .i64 0, .int .i64 7]) ∧ w = w' := by
  go_enter Try.func18, Try.ntmps18
  go_wp2
  go_ret2
  exact ⟨rfl, rfl⟩
set_option maxHeartbeats 400000 in
set_option maxRecDepth 10000 in
theorem input_New (delay : Int) (w : World) : Calls Try.prog 23 #[.int .i64 delay] w fun e w' =>
    ∃ p g, e = .returned (.pointer (some ⟨p, 0, none⟩)) ∧ LineAt w' p g (List.replicate (min (max delay 0) 8).toNat 0) ∧ Below w.heap.size w w' ∧ w.heap.size ≤ p ∧ ∀ k, some k = g → w.heap.size ≤ k := by
  obtain ⟨d, hd⟩ : ∃ d : Nat, (min (max delay 0) 8) = (d : Int) := ⟨(min (max delay 0) 8).toNat, by omega⟩
  rw [hd]
  have hd8 : d ≤ 8 := by omega
  rw [Int.toNat_natCast]
  have Hd := hide hd
  clear hd
  go_enter Try.func23, Try.ntmps23
  go_wp2_with (at_make; (rw [show (min (max delay 0) 8) = (d : Int) from Hd.out]); refine wpB_make rfl _ _ rfl w.heap.size _ _ d rfl rfl rfl rfl (by omega) (Nat.le_refl _) ?_; intro g w2 own2 hb2 hg2)
  go_ret
  refine ⟨w2.heap.size, some g, rfl, ⟨by rw [List.length_replicate]; omega, some ⟨g, 0, none⟩, d, ?_, ?_, rfl⟩, hb2.alloc hb2.size _, hb2.size, ?_⟩
  · rw [List.length_replicate]; exact Blk.new _ _ _
  · rw [List.length_replicate]; exact (own2.base_le (Nat.zero_le _)).below (Below_new _ _)
  · intro k hk; injection hk with hk; subst hk; exact own2.lt.1
end Go.Proofs.Ytbdhochdakihbaa
