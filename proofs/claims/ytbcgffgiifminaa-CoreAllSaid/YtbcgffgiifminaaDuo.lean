/-
  A player and the document's, side by side.
-/
import Derived.Test.YtbcgffgiifminaaDocG
import Derived.Test.YtbcgffgiifminaaDocI
import Derived.Test.YtbcgffgiifminaaDocK
import Derived.Test.YtbcgffgiifminaaCores
namespace Go.Proofs.Ytbcgffgiifminaa
open Go.RowKit
set_option maxRecDepth 10000
set_option linter.unusedVariables false
/-- A player and the document's, of no block in common, from B on. -/
structure Duo (B : Nat) (w0 w : World) (x : Nat) (p : CP) (s : Co) (y : Nat) (q : RP) (t : Co) : Prop where
  core : CAt B w x p s
  ref : RAt B w y q t
  apart : ∀ k, cBlocks x p k → ¬ rBlocks y q k
  bel : Below B w0 w
  base : B ≤ w.heap.size
section
variable {B : Nat} {w0 w w' : World} {x y : Nat} {p p' : CP} {q q' : RP} {s s' t t' : Co}
theorem Duo.prog (h : Duo B w0 w x p s y q t) (c : CAt B w' x p' s') (st : Stp w w' x p p') : Duo B w0 w' x p' s' y q t :=
  ⟨c, h.ref.keeps st.keeps (fun k hk hc => h.apart k hc hk), fun k hk hr => by
    rcases st.new k hk with h' | h'
    · exact h.apart k h' hr
    · have := (h.ref.blocks k hr).2; omega, h.bel.trans (st.below h.core h.base), Nat.le_trans h.base st.keeps.size⟩
theorem Duo.doc (h : Duo B w0 w x p s y q t) (c : RAt B w' y q' t') (st : RSt w w' y q q') : Duo B w0 w' x p s y q' t' :=
  ⟨h.core.keeps st.keeps (fun k hk hr => h.apart k hk hr), c, fun k hk hr => by
    rcases st.new k hr with h' | h'
    · exact h.apart k hk h'
    · have := (h.core.blocks k hk).2; omega, h.bel.trans (st.below h.ref h.base), Nat.le_trans h.base st.keeps.size⟩
theorem Duo.below (h : Duo B w0 w x p s y q t) (hb : Below w.heap.size w w') : Duo B w0 w' x p s y q t := ⟨h.core.below hb, h.ref.below hb, h.apart, h.bel.trans (hb.mono h.base), Nat.le_trans h.base hb.size⟩
end
/-- How many events more. -/
theorem hold_events (s : Co) : s.hold.events.length ≤ s.events.length + s.peers.length := (holdK_same s s.peers.length).2.2.2.2.2.2.2
theorem mark_events (s : Co) (m : Int) : (s.mark m).events.length ≤ s.events.length + s.peers.length := by
  unfold Co.mark
  split
  · exact hold_events _
  · omega
theorem tick_events (s : Co) : s.tick.events.length ≤ s.events.length + 1 := by
  unfold Co.tick
  split
  · omega
  · split
    · show (s.events ++ [_]).length ≤ _; simp
    · show s.events.length ≤ _; omega
theorem hear_events (s : Co) (k : Pkt) : (s.hear k).events.length ≤ s.events.length + 1 + s.peers.length := by
  unfold Co.hear
  split
  · show (s.events ++ [_]).length ≤ _; simp
  · refine Nat.le_trans (hold_events _) ?_
    have e1 : ∀ (a : Co) j, (a.hear1 j).events = a.events ∧ (a.hear1 j).peers.length = a.peers.length := fun a j => ⟨rfl, List.length_set⟩
    have e2 : ∀ (a : Co) j, (a.hear2 j k).events = a.events ∧ (a.hear2 j k).peers.length = a.peers.length := fun a j => ⟨rfl, rfl⟩
    have e3 : ∀ (a : Co) j, (a.hear3 j k).events = a.events ∧ (a.hear3 j k).peers.length = a.peers.length := fun a j => by
      unfold Co.hear3; split; exact ⟨rfl, List.length_set⟩; exact ⟨rfl, rfl⟩
    have e4 : ∀ (a : Co) j, (a.hear4 j k).events = a.events ∧ (a.hear4 j k).peers.length = a.peers.length := fun a j => by
      unfold Co.hear4; split; exact ⟨rfl, List.length_set⟩; exact ⟨rfl, rfl⟩
    rw [(e4 _ _).1, (e4 _ _).2, (e3 _ _).1, (e3 _ _).2, (e2 _ _).1, (e2 _ _).2, (e1 _ _).1, (e1 _ _).2]
    omega
open Classical in
/-- What a player knows behind any bytes, and what it answers. -/
noncomputable def Co.recv (s : Co) (b : List UInt8) : Co := if s.closed = true then s else if h : ∃ k, Pkt.Is b k then (if s.fits h.choose = true then s.hear h.choose else s) else s
open Classical in
noncomputable def Co.recvErr (s : Co) (b : List UInt8) : Int := if s.closed = true then 6 else if h : ∃ k, Pkt.Is b k then (if s.fits h.choose = true then 0 else 1) else 1
theorem Co.Calm.recv {s : Co} (h : s.Calm) (b : List UInt8) : (s.recv b).Calm := by
  unfold Co.recv
  split
  · exact h
  · split
    · split
      · exact h.hear _
      · exact h
    · exact h
theorem recv_events (s : Co) (b : List UInt8) : (s.recv b).events.length ≤ s.events.length + 1 + s.peers.length := by
  unfold Co.recv
  split
  · omega
  · split
    · split
      · exact hear_events _ _
      · omega
    · omega
theorem hear_now (s : Co) (k : Pkt) : (s.hear k).now = s.now := by
  unfold Co.hear
  split
  · rfl
  · have e : ∀ a : Co, a.hold.now = a.now := fun a => (holdK_same a _).2.2.2.1
    rw [e]
    have e4 : ∀ (a : Co) j, (a.hear4 j k).now = a.now := fun a j => by unfold Co.hear4; split <;> rfl
    have e3 : ∀ (a : Co) j, (a.hear3 j k).now = a.now := fun a j => by unfold Co.hear3; split <;> rfl
    rw [e4, e3]; rfl
theorem recv_now (s : Co) (b : List UInt8) : (s.recv b).now = s.now := by
  unfold Co.recv
  split
  · rfl
  · split
    · split
      · exact hear_now _ _
      · rfl
    · rfl
theorem mark_now (s : Co) (m : Int) : (s.mark m).now = s.now := by
  unfold Co.mark
  split
  · exact (holdK_same _ _).2.2.2.1
  · rfl
theorem press_now (s : Co) (b : UInt8) : (s.press b).now = s.now ∧ (s.press b).events = s.events := by
  unfold Co.press
  split <;> exact ⟨rfl, rfl⟩
theorem tick_now (s : Co) : s.tick.now ≤ s.now + 1 := by
  unfold Co.tick
  split
  · omega
  · split
    · show s.now + 1 ≤ _; omega
    · show s.now + 1 ≤ _; omega
section
variable {B : Nat} {w : World} {x : Nat} {s : Co}
theorem core_Receive_any {p : CP} (h : CAt B w x p s) (hB : B ≤ w.heap.size) (hen : s.events.length ≤ 999990000) {A : Option Addr} {n c B' : Nat} {b : List UInt8} (hA : LiesB w B' A n b) (hB' : B' ≤ w.heap.size) (hnc : n ≤ c) (hn : n ≤ 1000000) :
    Calls Try.prog 20 #[.pointer (some ⟨x, 0, none⟩), .slice A n c] w fun r w' => r = .returned (.int .i64 (s.recvErr b)) ∧ ∃ p', CAt B w' x p' (s.recv b) ∧ Stp w w' x p p' := by
  by_cases hcl : s.closed = true
  · have e1 : s.recv b = s := by unfold Co.recv; rw [if_pos hcl]
    have e2 : s.recvErr b = 6 := by unfold Co.recvErr; rw [if_pos hcl]
    rw [e1, e2]
    refine (core_Receive_closed h hcl A n c).mono ?_
    rintro r w' ⟨rfl, rfl⟩
    exact ⟨rfl, p, h, Stp.refl _ _ _⟩
  · have hcf : s.closed = false := by simpa using hcl
    by_cases hk : ∃ k, Pkt.Is b k
    · have e1 : s.recv b = if s.fits hk.choose = true then s.hear hk.choose else s := by unfold Co.recv; rw [if_neg hcl, dif_pos hk]
      have e2 : s.recvErr b = if s.fits hk.choose = true then 0 else 1 := by unfold Co.recvErr; rw [if_neg hcl, dif_pos hk]
      rw [e1, e2]
      exact core_Receive_yes h hB hcf (by have := h.en; omega) hk.choose hk.choose_spec hA hB' hnc hn
    · have e1 : s.recv b = s := by unfold Co.recv; rw [if_neg hcl, dif_neg hk]
      have e2 : s.recvErr b = 1 := by unfold Co.recvErr; rw [if_neg hcl, dif_neg hk]
      rw [e1, e2]
      refine (core_Receive_no h hcf (fun k hb => hk ⟨k, hb⟩) hA hB' hnc hn).mono ?_
      rintro r w' ⟨rfl, hb⟩
      exact ⟨rfl, p, h.below hb, Stp.of_below hb⟩
theorem ref_Receive_any {p : RP} (h : RAt B w x p s) (ok : s.Ok) (calm : s.Calm) (hB : B ≤ w.heap.size) (hen : s.events.length ≤ 999990000) {A : Option Addr} {n c B' : Nat} {b : List UInt8} (hA : LiesB w B' A n b) (hB' : B' ≤ w.heap.size) (hnc : n ≤ c) (hn : n ≤ 1000000) :
    Calls Try.prog 41 #[.pointer (some ⟨x, 0, none⟩), .slice A n c] w fun r w' => r = .returned (.int .i64 (s.recvErr b)) ∧ ∃ p', RAt B w' x p' (s.recv b) ∧ RSt w w' x p p' := by
  by_cases hcl : s.closed = true
  · have e1 : s.recv b = s := by unfold Co.recv; rw [if_pos hcl]
    have e2 : s.recvErr b = 6 := by unfold Co.recvErr; rw [if_pos hcl]
    rw [e1, e2]
    refine (ref_Receive_closed h hcl A n c).mono ?_
    rintro r w' ⟨rfl, rfl⟩
    exact ⟨rfl, p, h, RSt.refl _ _ _⟩
  · have hcf : s.closed = false := by simpa using hcl
    by_cases hk : ∃ k, Pkt.Is b k
    · have e1 : s.recv b = if s.fits hk.choose = true then s.hear hk.choose else s := by unfold Co.recv; rw [if_neg hcl, dif_pos hk]
      have e2 : s.recvErr b = if s.fits hk.choose = true then 0 else 1 := by unfold Co.recvErr; rw [if_neg hcl, dif_pos hk]
      rw [e1, e2]
      exact ref_Receive_yes h ok calm hB hcf (by have := h.en; omega) hk.choose hk.choose_spec hA hB' hnc hn
    · have e1 : s.recv b = s := by unfold Co.recv; rw [if_neg hcl, dif_neg hk]
      have e2 : s.recvErr b = 1 := by unfold Co.recvErr; rw [if_neg hcl, dif_neg hk]
      rw [e1, e2]
      refine (ref_Receive_no h hcf (fun k hb => hk ⟨k, hb⟩) hA hB' hnc hn).mono ?_
      rintro r w' ⟨rfl, hb⟩
      exact ⟨rfl, p, h.below hb, RSt.of_below hb⟩
end
end Go.Proofs.Ytbcgffgiifminaa
