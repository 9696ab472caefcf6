/-
  The walks of layer 13: At, From, All, New; bytes.Clone.
-/
import Derived.Test.YtciogjnchpeaaaaAtNew
import Derived.StillTailTactics
namespace Go.Proofs.Ytciogjnchpeaaaa
open Go.RowKit
set_option maxRecDepth 10000

set_option maxHeartbeats 400000 in
set_option maxRecDepth 10000 in
theorem bytes_Clone (A : Option Addr) (n c : Nat) (l : List UInt8) (w : World) (h : LiesB w w.heap.size A n l) (hn : n ≤ 140737488355328) :
    Calls Try.prog 45 #[.slice A n c] w fun e w' => ∃ A' c', e = .returned (.slice A' n c') ∧ OwnB w' w.heap.size A' n c' l ∧ Below w.heap.size w w' := by
  rcases A with _ | ad
  · have hl : l = [] := by
      rcases l with _ | ⟨x, l⟩
      · rfl
      · obtain ⟨b, off, e, _⟩ := h.2 (by simp); cases e
    subst hl
    have h0 : n = 0 := by have := h.len; simpa using this.symm
    subst h0
    clear h
    have k1 := fun (w : World) (a : Option Addr) (n c : Nat) => Lib.run_eql_slice_nil (P := Try.prog) w 23 5 a n c 0 0 Try.underlying23
    go_enter Try.func45, Try.ntmps45
    go_wp2
    go_ret
    exact ⟨none, 0, rfl, OwnB.nil _ _, Below.refl _ _⟩
  · have H := hide (h.below (Below_new w (.cells #[] 5)))
    clear h
    have k1 := fun (w : World) (a : Option Addr) (n c : Nat) => Lib.run_eql_slice_nil (P := Try.prog) w 23 5 a n c 0 0 Try.underlying23
    go_enter Try.func45, Try.ntmps45
    have Ho := hide (OwnB.new w #[] 0 [] rfl (by simp [maxLen]) rfl)
    go_wp2_with (at_builtin; refine wpB_append rfl (.tmp 5) (.tmp 6) rfl w.heap.size _ 0 0 [] rfl Ho.out _ (some ad) n c l rfl H.out n _ (by omega) (List.nil_append _) (by omega) (by simp) ?_; intro A' c' w' own1 hb1 hg1)
    go_ret
    exact ⟨A', c', rfl, own1, (Below_new w _).trans hb1⟩
/-- What From tells. -/
def fromLine (l : List UInt8) (f n : Int) : List UInt8 := if f < 0 ∨ (l.length : Int) ≤ f ∨ n < 1 then [] else (l.drop f.toNat).take (min n.toNat 1000)
theorem fromLine_none {l : List UInt8} {f n : Int} (h : f < 0 ∨ (l.length : Int) ≤ f ∨ n < 1) : fromLine l f n = [] := by rw [fromLine, if_pos h]
theorem fromLine_some {l : List UInt8} {f : Nat} {n : Int} (h : f < l.length) (h1 : 1 ≤ n) : fromLine l f n = (l.drop f).take (min n.toNat 1000) := by
  rw [fromLine, if_neg (by omega)]; rfl
theorem fromLine_all {l : List UInt8} (h : l.length ≤ 1000) : fromLine l 0 1000 = l := by
  by_cases h0 : l = []
  · subst h0; rfl
  · have : 0 < l.length := List.length_pos_iff.2 h0
    rw [show (0 : Int) = ((0 : Nat) : Int) from rfl, fromLine_some this (by omega)]
    simp [List.take_of_length_le h]

set_option maxHeartbeats 1000000 in
set_option maxRecDepth 10000 in
theorem line_From (p : Nat) (g : Option Nat) (l : List UInt8) (f n : Int) (w : World) (h : LineAt w p g l) (h1 : -9223372036854775808 ≤ f) (h2 : f ≤ 9223372036854775807) (h3 : -9223372036854775808 ≤ n) (h4 : n ≤ 9223372036854775807) :
    Calls Try.prog 39 #[.pointer (some ⟨p, 0, none⟩), .int .i64 f, .int .i64 n] w fun e w' =>
      ∃ A c, e = .returned (.slice A (fromLine l f n).length c) ∧ OwnB w' w.heap.size A (fromLine l f n).length c (fromLine l f n) ∧ Below w.heap.size w w' := by
  by_cases hn : f < 0 ∨ (l.length : Int) ≤ f ∨ n < 1
  · rw [fromLine_none hn]
    have H := hide h
    clear h
    by_cases c1 : f < 0
    · go_enter Try.func39, Try.ntmps39
      go_wp2
      go_ret
      exact ⟨none, 0, rfl, OwnB.nil _ _, Below.refl _ _⟩
    · obtain ⟨m, hm⟩ : ∃ m, m = l.length := ⟨_, rfl⟩
      rw [← hm] at hn
      have Hm := hide hm
      clear hm
      by_cases c2 : (m : Int) ≤ f
      · go_enter Try.func39, Try.ntmps39
        go_wp2_with (go_at_call 32; (with_reducible refine Calls.mono (line_Len _ _ _ _ H.out) ?_); rintro e w1 ⟨rfl, rfl⟩; rw [← Hm.out])
        go_ret
        exact ⟨none, 0, rfl, OwnB.nil _ _, Below.refl _ _⟩
      · go_enter Try.func39, Try.ntmps39
        go_wp2_with (go_at_call 32; (with_reducible refine Calls.mono (line_Len _ _ _ _ H.out) ?_); rintro e w1 ⟨rfl, rfl⟩; rw [← Hm.out])
        go_ret
        exact ⟨none, 0, rfl, OwnB.nil _ _, Below.refl _ _⟩
  · obtain ⟨k, rfl⟩ : ∃ k : Nat, f = (k : Int) := ⟨f.toNat, by omega⟩
    rw [fromLine_some (by omega) (by omega)]
    have HL := hide h
    obtain ⟨hl0, A, c, hb, ho, hg⟩ := h
    have hc := hb.cell 0
    simp at hc
    have hmc : l.length ≤ c := by
      rcases ho.2 with ⟨hv, h0⟩ | ⟨g', cap, cur, hv, _, _, hnc, _⟩
      · omega
      · injection hv with _ _ h3; omega
    obtain ⟨m, hm⟩ : ∃ m, m = l.length := ⟨_, rfl⟩
    have hlies := (ho.lies.take (k + min n.toNat 1000)).cut (k := k) (cap := c) (by omega)
    rw [← hm] at hc ho hl0 hn hmc hlies
    have Hm := hide hm
    obtain ⟨r, hr⟩ : ∃ r, r = (l.drop k).take (min n.toNat 1000) := ⟨_, rfl⟩
    obtain ⟨N, hN⟩ : ∃ N : Nat, min n 1000 = (N : Int) := ⟨min n.toNat 1000, by omega⟩
    have hN2 : min n.toNat 1000 = N := by omega
    obtain ⟨E, hE⟩ : ∃ E : Nat, min (m : Int) ((k : Int) + (N : Int)) = (E : Int) := ⟨min m (k + N), by omega⟩
    have hE2 : min (k + N) m = E := by omega
    have hrl : r.length = E - k := by rw [hr, List.length_take, List.length_drop, ← hm]; omega
    have hr2 : (l.take (k + N)).drop k = r := by rw [hr, hN2, List.drop_take]; congr 1; omega
    rw [hN2] at hlies
    rw [hr2, hE2] at hlies
    rw [← hr, hrl]
    have hwr : IntKind.i64.wrap ((k : Int) + (N : Int)) = (k : Int) + (N : Int) := IntWalk.i64_in _ ⟨by omega, by omega⟩
    have hkE : k ≤ E := by omega
    have hEc : E ≤ c := by omega
    have hEm : E ≤ m := by omega
    have Hlies := hide hlies
    have HN2 := hide hN2
    have HE2 := hide hE2
    clear hm hlies hN2 hE2 hrl hr2 hr hb ho hg
    have hd1 : ¬ ((k : Int) < 0) := by omega
    go_enter Try.func39, Try.ntmps39
    go_wp2_with (go_at_call 32; (with_reducible refine Calls.mono (line_Len _ _ _ _ HL.out) ?_); rintro e w1 ⟨rfl, rfl⟩; rw [← Hm.out])
    go_still_tail 16, (by kernel_rfl)
    change wpList _ _ _ _ _ w.drew
    have HliesD : Hid (LiesB w.drew w.drew.heap.size (cutA A c k 1) (E - k) r) := Hlies.out.drew
    have HB0 : Hid (Below w.heap.size w w.drew ∧ w.drew.heap.size = w.heap.size) := ⟨(Below.refl _ _).drew, rfl⟩
    generalize w.drew = w2 at HliesD HB0 ⊢
    go_wp2_with (go_at_call 45; refine Calls.mono (bytes_Clone _ _ _ _ _ HliesD.out (by omega)) ?_; rintro e w1 ⟨A', c', rfl, own1, hb1⟩)
    go_ret
    obtain ⟨hb0, hs⟩ := HB0.out
    rw [hs] at own1
    exact ⟨A', c', rfl, own1, Below_step hb0 hb1⟩
set_option maxHeartbeats 400000 in
theorem line_From_nil (f n : Int) (w : World) : Calls Try.prog 39 #[.pointer none, .int .i64 f, .int .i64 n] w fun e w' => e = .returned (.slice none 0 0) ∧ w = w' := by
  by_cases c1 : f < 0
  · go_enter Try.func39, Try.ntmps39
    go_wp2
    go_ret
    exact ⟨rfl, rfl⟩
  · go_enter Try.func39, Try.ntmps39
    go_wp2_with (go_at_call 32; (with_reducible refine Calls.mono (line_Len_nil _) ?_); rintro e w1 ⟨rfl, rfl⟩)
    go_ret
    exact ⟨rfl, rfl⟩
set_option maxHeartbeats 400000 in
theorem line_All (p : Nat) (g : Option Nat) (l : List UInt8) (w : World) (h : LineAt w p g l) :
    Calls Try.prog 27 #[.pointer (some ⟨p, 0, none⟩)] w fun e w' =>
      ∃ A c, e = .returned (.slice A l.length c) ∧ OwnB w' w.heap.size A l.length c l ∧ Below w.heap.size w w' := by
  have H := hide h
  have HE := hide (fromLine_all h.1)
  clear h
  go_enter Try.func27, Try.ntmps27
  go_wp2_with fail
  refine Calls.mono (line_From p g l 0 1000 _ H.out (by omega) (by omega) (by omega) (by omega)) ?_
  rintro e w1 ⟨A, c, rfl, own1, hb1⟩
  rw [HE.out] at own1
  rw [HE.out]
  go_wp2_with fail
  go_ret
  exact ⟨A, c, rfl, own1, hb1⟩
set_option maxHeartbeats 400000 in
theorem line_All_nil (w : World) : Calls Try.prog 27 #[.pointer none] w fun e w' => e = .returned (.slice none 0 0) ∧ w = w' := by
  go_enter Try.func27, Try.ntmps27
  go_wp2_with fail
  refine Calls.mono (line_From_nil 0 1000 _) ?_
  rintro e w1 ⟨rfl, rfl⟩
  go_wp2_with fail
  go_ret
  exact ⟨rfl, rfl⟩
end Go.Proofs.Ytciogjnchpeaaaa
