/-
  Lines, their numbers handed over; a line of the call's own.
-/
import Derived.Test.YtciogjnchpeaaaaAtNew
namespace Go.Proofs.Ytciogjnchpeaaaa
open Go.RowKit
set_option maxRecDepth 10000
set_option linter.unusedVariables false

/-- Put, its numbers handed over. -/
theorem line_Put_v (p : Nat) (g : Option Nat) (l : List UInt8) (first : Int) (A2 : Option Addr) (n2 c2 : Nat) (b add : List UInt8) (N E : Int) (w : World) (h : LineAt w p g l)
    (hA : LiesB w w.heap.size A2 n2 b) (hdis : ∀ bk off, A2 = some ⟨bk, off, none⟩ → b ≠ [] → ¬ lineBlocks p g bk) (h1 : -9223372036854775808 ≤ first) (h2 : first ≤ 9223372036854775807) (hn2 : n2 ≤ 9223372036854775807)
    (hadd : putAdd l first b = add) (hN : (add.length : Int) = N) (hE : putErr l first b = E) :
    Calls Try.prog 21 #[.pointer (some ⟨p, 0, none⟩), .int .i64 first, .slice A2 n2 c2] w fun e w' =>
      e = .returned (.tuple #[.int .i64 N, .int .i64 E]) ∧
      ∃ g', LineAt w' p g' (l ++ add) ∧ Keeps (lineBlocks p g) w w' ∧ (g' = g ∨ ∃ k, g' = some k ∧ w.heap.size ≤ k) := by
  subst hadd hN hE
  exact line_Put p g l first A2 n2 c2 b w h hA hdis h1 h2 hn2
/-- Put of bytes that lie in a block that was just made. -/
theorem line_Put_lit (p : Nat) (g : Option Nat) (l : List UInt8) (first : Int) (n2 c2 : Nat) (b add : List UInt8) (N E : Int) (w : World) (cs : Array Value) (h : LineAt w p g l)
    (hn : b.length = n2) (hcs : cs.toList = b.map bv) (h1 : -9223372036854775808 ≤ first) (h2 : first ≤ 9223372036854775807) (hn2 : n2 ≤ 9223372036854775807)
    (hadd : putAdd l first b = add) (hN : (add.length : Int) = N) (hE : putErr l first b = E) :
    Calls Try.prog 21 #[.pointer (some ⟨p, 0, none⟩), .int .i64 first, .slice (some ⟨w.heap.size, 0, none⟩) n2 c2] (w.alloc (.cells cs 5)) fun e w' =>
      e = .returned (.tuple #[.int .i64 N, .int .i64 E]) ∧
      ∃ g', LineAt w' p g' (l ++ add) ∧ Keeps (lineBlocks p g) w w' ∧ (g' = g ∨ ∃ k, g' = some k ∧ w.heap.size ≤ k) := by
  have hl := LiesB.new w cs 5 (0, 0) b n2 hn hcs
  refine Calls.mono (line_Put_v p g l first _ n2 c2 b add N E _ (h.below (Below_new w _)) (by simpa using hl) ?_ h1 h2 hn2 hadd hN hE) ?_
  · intro bk off e _ hb
    injection e with e
    injection e with e _
    subst e
    rcases hb with hb | hb
    · have := h.lt.1; omega
    · have := h.lt.2 _ hb; omega
  · rintro e w' ⟨he, g', h3, h4, h5⟩
    refine ⟨he, g', h3, (Keeps.of_below (Below_new w _)).trans h4 fun _ _ h => h, ?_⟩
    rcases h5 with h5 | ⟨k, h5, h6⟩
    · exact .inl h5
    · exact .inr ⟨k, h5, by simp at h6; omega⟩
theorem line_Len_v (p : Nat) (g : Option Nat) (l : List UInt8) (m : Int) (w : World) (h : LineAt w p g l) (hm : (l.length : Int) = m) :
    Calls Try.prog 32 #[.pointer (some ⟨p, 0, none⟩)] w fun e w' => e = .returned (.int .i64 m) ∧ w = w' := by
  subst hm
  exact line_Len p g l w h
theorem line_Add_v (p : Nat) (g : Option Nat) (l : List UInt8) (b : UInt8) (x : Int) (w : World) (h : LineAt w p g l) (hl : l.length < 1000) (hx : x = (b.toNat : Int)) :
    Calls Try.prog 33 #[.pointer (some ⟨p, 0, none⟩), .int .u8 x] w fun e w' =>
      e = .returned (.int .i64 0) ∧ ∃ g', LineAt w' p g' (l ++ [b]) ∧ Keeps (lineBlocks p g) w w' ∧ (g' = g ∨ ∃ k, g' = some k ∧ w.heap.size ≤ k) := by
  subst hx
  exact line_Add p g l b w h hl
theorem line_Add_full_v (p : Nat) (g : Option Nat) (l : List UInt8) (b : UInt8) (x : Int) (w : World) (h : LineAt w p g l) (hl : 1000 ≤ l.length) (hx : x = (b.toNat : Int)) :
    Calls Try.prog 33 #[.pointer (some ⟨p, 0, none⟩), .int .u8 x] w fun e w' => e = .returned (.int .i64 4) ∧ w = w' := by
  subst hx
  exact line_Add_full p g l b w h hl
theorem input_New_v (delay : Int) (m : Nat) (w : World) (hm : (min (max delay 0) 8).toNat = m) : Calls Try.prog 23 #[.int .i64 delay] w fun e w' =>
    ∃ p g, e = .returned (.pointer (some ⟨p, 0, none⟩)) ∧ LineAt w' p g (List.replicate m 0) ∧ Below w.heap.size w w' ∧ w.heap.size ≤ p ∧ ∀ k, some k = g → w.heap.size ≤ k := by
  subst hm
  exact input_New delay w

/-- One line of the call's own: it holds l, and nothing older has changed. -/
def MyLine (w0 w : World) (p : Nat) (g : Option Nat) (l : List UInt8) : Prop := LineAt w p g l ∧ Below w0.heap.size w0 w ∧ w0.heap.size ≤ p ∧ ∀ k, some k = g → w0.heap.size ≤ k
theorem MyLine.new {w0 w w' : World} {p : Nat} {g : Option Nat} {l : List UInt8} (hb : Below w0.heap.size w0 w) (h : LineAt w' p g l) (h1 : Below w.heap.size w w') (h2 : w.heap.size ≤ p) (h3 : ∀ k, some k = g → w.heap.size ≤ k) : MyLine w0 w' p g l :=
  ⟨h, Below_step hb h1, Nat.le_trans hb.size h2, fun k hk => Nat.le_trans hb.size (h3 k hk)⟩
theorem MyLine.step {w0 w w' : World} {p : Nat} {g g' : Option Nat} {l l' : List UInt8} (h : MyLine w0 w p g l) (h1 : LineAt w' p g' l') (h2 : Keeps (lineBlocks p g) w w') (h3 : g' = g ∨ ∃ k, g' = some k ∧ w.heap.size ≤ k) : MyLine w0 w' p g' l' := by
  obtain ⟨_, hb, hp, hg⟩ := h
  refine ⟨h1, hb.trans (h2.below hb.size ?_), hp, ?_⟩
  · intro k hk hs
    rcases hs with hs | hs
    · omega
    · have := hg k hs; omega
  · intro k hk
    rcases h3 with e | ⟨k2, e, h4⟩
    · exact hg k (by rw [hk, e])
    · rw [e] at hk; injection hk with hk; have := hb.size; omega
theorem MyLine.below {w0 w w' : World} {p : Nat} {g : Option Nat} {l : List UInt8} (h : MyLine w0 w p g l) (h1 : Below w.heap.size w w') : MyLine w0 w' p g l :=
  ⟨h.1.below h1, Below_step h.2.1 h1, h.2.2.1, h.2.2.2⟩

/-- What lies below the call's own blocks is none of the line's. -/
theorem MyLine.dis {w0 w w1 : World} {p : Nat} {g : Option Nat} {l b : List UInt8} {A : Option Addr} {n : Nat} (h : MyLine w0 w p g l) (hA : LiesB w1 w0.heap.size A n b) : ∀ bk off, A = some ⟨bk, off, none⟩ → b ≠ [] → ¬ lineBlocks p g bk := by
  intro bk off e hb hs
  obtain ⟨b2, o2, e2, h2, _⟩ := hA.2 (by simpa using hb)
  rw [e2] at e
  injection e with e
  injection e with e
  subst e
  rcases hs with hs | hs
  · have := h.2.2.1; omega
  · have := h.2.2.2 _ hs; omega
theorem putAdd_zero {b : List UInt8} (h : b.length ≤ 1000) : putAdd [] 0 b = b := by
  rw [show (0 : Int) = ((0 : Nat) : Int) from rfl, putAdd_form (Nat.zero_le _)]
  simp [List.take_of_length_le h]
theorem putErr_zero {b : List UInt8} (h : b.length ≤ 1000) : putErr [] 0 b = 0 := by
  rw [show (0 : Int) = ((0 : Nat) : Int) from rfl, putErr_form (Nat.zero_le _), if_neg (by omega)]; rfl

end Go.Proofs.Ytciogjnchpeaaaa
