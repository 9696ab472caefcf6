/-
  Words for memory, used by all walks: a slice that reads as a list of values; bytes; what is owned.
-/
import Derived.Test.YtciogjnchpeaaaaRows
import Derived.WalkKit
import Derived.WalkSpells
import Derived.WalkLawsBesides
import Derived.Maps.AppendAt
import Derived.Deep.AppendLies
import Derived.Deep.Draws
import Derived.Deep.QuietTactic
import Derived.BigQuiet
namespace Go.Proofs.Ytciogjnchpeaaaa
open Go.RowKit
set_option maxRecDepth 10000

theorem hide {p : Prop} (h : p) : Hid p := h

/-- Two calls behind one another. -/
theorem Below_step {w a b : World} (h : Below w.heap.size w a) (h2 : Below a.heap.size a b) : Below w.heap.size w b := h.trans (h2.mono h.size)
theorem Below_stepd {w a b : World} (h : Below w.heap.size w a) (h2 : Below a.heap.size a.drew b) : Below w.heap.size w b := Below_step h ⟨h2.os, h2.tape, h2.output, h2.size, h2.block⟩

/-- min and max of two numbers, without a test in the walk. -/
theorem run_min_i {P : Program} {w : World} (ts : Array TypeId) (t : TypeId) (k k' : IntKind) (x y : Int) : (Builtin.min_ ts t #[.int k x, .int k' y]).run P w = .ok (.int k (min x y)) w := by
  rw [run_min_int2]
  congr 2
  split <;> omega
theorem run_max_i {P : Program} {w : World} (ts : Array TypeId) (t : TypeId) (k k' : IntKind) (x y : Int) : (Builtin.max_ ts t #[.int k x, .int k' y]).run P w = .ok (.int k (max x y)) w := by
  rw [run_max_int2]
  congr 2
  split <;> omega

attribute [go_sem high] run_min_i run_max_i

/-- The address of 's[k:]' of a slice of capacity cap and of elements of s cells. -/
def cutA (a : Option Addr) (cap k s : Nat) : Option Addr := if cap = k then a else a.map (·.add (k * s))
def slicedC (a : Option Addr) (l h cap s : Nat) : Value := sliced a l h cap s
theorem cutA_zero (a : Option Addr) (cap s : Nat) : cutA a cap 0 s = a := by
  by_cases e : cap = 0
  · simp [cutA, e]
  · cases a <;> simp [cutA, Addr.add]
theorem slicedC_eq (a : Option Addr) (l h cap s : Nat) : slicedC a l h cap s = .slice (cutA a cap l s) (h - l) (cap - l) := rfl
section
variable {P : Program} {w : World} (t : TypeId) (a : Option Addr) (len cap : Nat) (ht : P.underlying t = some (.slice (P.elem t)))
include ht
theorem run_slice_lhC (kl kh : IntKind) (l h : Int) (h0 : 0 ≤ l) (h1 : l ≤ h) (h2 : h ≤ cap) :
    (Instr.slice t (.slice a len cap) (some (.int kl l)) (some (.int kh h)) none).run P w = ((sizeOf (P.elem t)).run P w).andThen fun s w => .ok (slicedC a l.toNat h.toNat cap s) w :=
  run_slice_lh w t a len cap ht kl kh l h h0 h1 h2
theorem run_slice_lC (kl : IntKind) (l : Int) (h0 : 0 ≤ l) (h1 : l ≤ len) :
    (Instr.slice t (.slice a len cap) (some (.int kl l)) none none).run P w = ((sizeOf (P.elem t)).run P w).andThen fun s w => .ok (slicedC a l.toNat len cap s) w :=
  run_slice_l w t a len cap ht kl l h0 h1
theorem run_slice_anyC (lo hi mx : Option Value) :
    (Instr.slice t (.slice a len cap) lo hi mx).run P w =
      ((Instr.sliceBounds true len cap lo hi mx).run P w).andThen fun b w => ((sizeOf (P.elem t)).run P w).andThen fun s w => .ok (slicedC a b.1 b.2.1 b.2.2 s) w :=
  run_slice_any w t a len cap ht lo hi mx
end
attribute [go_sem high] run_slice_lhC run_slice_lC
attribute [go_sem 200] run_slice_anyC
attribute [go_sem] slicedC_eq cutA_zero

/-- A byte as a value. -/
def bv (c : UInt8) : Value := .int .u8 (c.toNat : Int)

/-- The slice with address A holds the cells xs, in blocks below B. -/
def Lies (w : World) (B : Nat) (A : Option Addr) (xs : List Value) : Prop :=
  xs ≠ [] → ∃ b off, A = some ⟨b, off, none⟩ ∧ b < B ∧ ∀ j u, xs[j]? = some u → w.cell? ⟨b, off + j, none⟩ = some u

section
variable {w w' : World} {B B' : Nat} {A : Option Addr} {xs : List Value}
theorem Lies.nil (w : World) (B : Nat) (A : Option Addr) : Lies w B A [] := fun h => absurd rfl h
theorem Lies.keep (h : Lies w B A xs) (hk : ∀ p : Addr, p.block < B → w'.cell? p = w.cell? p) : Lies w' B A xs := fun hn => by
  obtain ⟨b, off, e, hb, hc⟩ := h hn
  exact ⟨b, off, e, hb, fun j u hu => (hk _ hb).trans (hc j u hu)⟩
theorem Lies.more (h : Lies w B A xs) (hB : B ≤ B') : Lies w B' A xs := fun hn => by
  obtain ⟨b, off, e, hb, hc⟩ := h hn
  exact ⟨b, off, e, by omega, hc⟩
theorem Lies.below (h : Lies w B A xs) (hb : Below B w w') : Lies w' B A xs := h.keep fun _ hp => hb.cell hp
theorem Lies.take (h : Lies w B A xs) (n : Nat) : Lies w B A (xs.take n) := fun hn => by
  obtain ⟨b, off, e, hb, hc⟩ := h (by rintro rfl; simp at hn)
  refine ⟨b, off, e, hb, fun j u hu => hc j u ?_⟩
  rw [List.getElem?_take] at hu
  split at hu
  · exact hu
  · cases hu
theorem Lies.cut (h : Lies w B A xs) {k cap : Nat} (hc : xs.length ≤ cap) :
    Lies w B (cutA A cap k 1) (xs.drop k) := fun hne => by
  have hlt : k < xs.length := by
    rcases Nat.lt_or_ge k xs.length with h1 | h1
    · exact h1
    · exact absurd (List.drop_eq_nil_of_le h1) hne
  obtain ⟨b, off, rfl, hb, hcell⟩ := h (by rintro rfl; simp at hlt)
  unfold cutA
  rw [if_neg (by omega), Nat.mul_one]
  refine ⟨b, off + k, ?_, hb, fun j u hu => ?_⟩
  · by_cases h0 : k = 0
    · subst h0; simp [Addr.add]
    · simp [Addr.add, h0]
  · rw [Nat.add_assoc]
    exact hcell _ u (by rw [← hu, List.getElem?_drop])
theorem Lies.of_own {base : Nat} {e : TypeId} {n c : Nat} (h : w.ownsRow base e 1 (.slice A n c) n xs) : Lies w w.heap.size A xs := fun hn => by
  have hl := h.1
  have hpos : 0 < n := by
    rcases Nat.eq_zero_or_pos n with h0 | h0
    · subst h0; exact absurd (List.eq_nil_of_length_eq_zero (by simpa using hl)) hn
    · exact h0
  obtain ⟨g, cap, hv, _, hlt⟩ := h.form hpos
  have hA : A = some ⟨g, 0, none⟩ := by injection hv
  subst hA
  refine ⟨g, 0, rfl, hlt, fun j u hu => ?_⟩
  have := h.cells (g := g) rfl j u hu
  rw [Nat.zero_add]
  have hadd : (⟨g, 0, none⟩ : Addr).add j = ⟨g, j, none⟩ := by unfold Addr.add; split <;> simp_all
  rwa [hadd] at this
end

/-- Bytes: the slice of address A and length n holds the bytes l. -/
def LiesB (w : World) (B : Nat) (A : Option Addr) (n : Nat) (l : List UInt8) : Prop := l.length = n ∧ Lies w B A (l.map bv)
section
variable {w w' : World} {B B' n : Nat} {A : Option Addr} {l : List UInt8}
theorem LiesB.len (h : LiesB w B A n l) : l.length = n := h.1
theorem LiesB.nil (w : World) (B : Nat) (A : Option Addr) : LiesB w B A 0 [] := ⟨rfl, Lies.nil _ _ _⟩
theorem LiesB.at_ (h : LiesB w B A n l) {k : Nat} (hk : k < n) :
    ∃ (b off : Nat) (hl : k < l.length), A = some ⟨b, off, none⟩ ∧ b < B ∧ w.cell? ⟨b, off + k, none⟩ = some (.int .u8 (l[k].toNat : Int)) := by
  have hl : k < l.length := by rw [h.1]; exact hk
  obtain ⟨b, off, e, hb, hc⟩ := h.2 (by intro h0; have := congrArg List.length h0; simp at this; subst this; simp at hl)
  exact ⟨b, off, hl, e, hb, hc k _ (by simp [List.getElem?_map, List.getElem?_eq_getElem hl, bv])⟩
theorem LiesB.below (h : LiesB w B A n l) (hb : Below B w w') : LiesB w' B A n l := ⟨h.1, h.2.below hb⟩
theorem LiesB.more (h : LiesB w B A n l) (hB : B ≤ B') : LiesB w B' A n l := ⟨h.1, h.2.more hB⟩
theorem LiesB.take (h : LiesB w B A n l) (m : Nat) : LiesB w B A (min m n) (l.take m) :=
  ⟨by rw [List.length_take, h.1], by rw [List.map_take]; exact h.2.take m⟩
theorem LiesB.cut (h : LiesB w B A n l) {k cap : Nat} (hc : n ≤ cap) :
    LiesB w B (cutA A cap k 1) (n - k) (l.drop k) :=
  ⟨by rw [List.length_drop, h.1], by rw [List.map_drop]; exact Lies.cut (k := k) (cap := cap) h.2 (by simpa [h.1] using hc)⟩
end

/-- What lies below the call's own blocks stays where a callee has made blocks. -/
theorem LiesB_step {w a b : World} {A : Option Addr} {n : Nat} {l : List UInt8} (h : LiesB a w.heap.size A n l) (HB : Below w.heap.size w a) (h2 : Below a.heap.size a b) : LiesB b w.heap.size A n l := h.below (h2.mono HB.size)
theorem Lies.new (w : World) (cs : Array Value) (t : TypeId) (m : Nat × Nat) : Lies (w.alloc (.cells cs t m)) (w.heap.size + 1) (some ⟨w.heap.size, 0, none⟩) cs.toList := fun _ =>
  ⟨w.heap.size, 0, rfl, by omega, fun j u hu => by
    rw [Nat.zero_add, cell_of_row _ _ j cs t m (heap_alloc_new w _)]
    simpa using hu⟩
theorem LiesB.new (w : World) (cs : Array Value) (t : TypeId) (m : Nat × Nat) (l : List UInt8) (n : Nat) (hn : l.length = n) (h : cs.toList = l.map bv) :
    LiesB (w.alloc (.cells cs t m)) (w.heap.size + 1) (some ⟨w.heap.size, 0, none⟩) n l := ⟨hn, by rw [← h]; exact Lies.new w cs t m⟩

end Go.Proofs.Ytciogjnchpeaaaa
