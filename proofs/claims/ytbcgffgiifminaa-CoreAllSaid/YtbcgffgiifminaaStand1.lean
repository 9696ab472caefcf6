/-
  Words for memory, used by all walks: a slice that reads as a list of values; bytes; what is owned.
  Bytes that the call itself has made: append, whatever is appended (nil, empty or not).
  Bytes of the call's own: cells read and written; make.
  Numbers: remainders, wraps, four bytes of a number.
  Which blocks a call may change.
  The walks of layer 13, input: a line and what it holds.
  The walks of layer 13: At, New.
  Lines, their numbers handed over; a line of the call's own.
  Appending to a slice of the call's own: what it may change.
  Rows of the call's own, of elements of one cell each, whatever their type: append, cells, make.
  A slice of bytes made a string.
  Regions that draw their order: a narrower condition from a place on.
  Queues: what a queue holds.
  The walks of package queue: N, Line, Front, Joint, Known.
  queue.New.
  Arrays: a block that holds one; read and written whole, and cell by cell; results.
  The walks of layer 13: At, From, All, New; bytes.Clone.
  quintainlaw13.begun: three frames.
  A player's core: plain, and in memory.
  Events: made, told, noted.
  A core's words held against its marks.
  A core asked: is it closed, its queue, its head, its marks; events; marks and presses taken.
  A core's marks and presses taken.
  A press taken.
  Which players may be.
  Rows of several cells that grow; a player begun.
  The other players; a mail written; what a player is told.
-/
import Derived.Test.YtbcgffgiifminaaRows
import Derived.WalkKit
import Derived.WalkSpells
import Derived.WalkLawsBesides
import Derived.Maps.AppendAt
import Derived.Deep.AppendLies
import Derived.Deep.Draws
import Derived.Deep.QuietTactic
import Derived.BigQuiet
import Derived.Deep.RegionHeld3
import Derived.Deep.DeepCutAuto
import Derived.StillTailTactics
import Derived.Deep.RegionLaw
import Derived.Deep.RegionWith
import Derived.Laws.Tables
import Derived.Laws.CopyOwn
import Derived.Laws.NewBlocks
import Derived.Deep.MidRow
namespace Go.Proofs.Ytbcgffgiifminaa
open Go.RowKit
set_option maxRecDepth 10000

theorem hide {p : Prop} (h : p) : Hid p := h

/-- Two calls behind one another. -/
theorem Below_step {w a b : World} (h : Below w.heap.size w a) (h2 : Below a.heap.size a b) : Below w.heap.size w b := h.trans (h2.mono h.size)
theorem Below_stepd {w a b : World} (h : Below w.heap.size w a) (h2 : Below a.heap.size a.drew b) : Below w.heap.size w b := Below_step h ⟨h2.os, h2.tape, h2.output, h2.size, h2.block⟩

/-- min and max of two numbers, without a test in the walk. -/
theorem run_min_i {P : Program} {w : World} (ts : Array TypeId) (t : TypeId) (k k' : IntKind) (x y : Int) : (Builtin.min_ ts t #[.int k x, .int k' y]).run P w = .ok (.int k (min x y)) w := by
  rw [run_min_int2]
  congr 2
  split <;> omega
theorem run_max_i {P : Program} {w : World} (ts : Array TypeId) (t : TypeId) (k k' : IntKind) (x y : Int) : (Builtin.max_ ts t #[.int k x, .int k' y]).run P w = .ok (.int k (max x y)) w := by
  rw [run_max_int2]
  congr 2
  split <;> omega

attribute [go_sem high] run_min_i run_max_i

/-- The address of 's[k:]' of a slice of capacity cap and of elements of s cells. -/
def cutA (a : Option Addr) (cap k s : Nat) : Option Addr := if cap = k then a else a.map (·.add (k * s))
def slicedC (a : Option Addr) (l h cap s : Nat) : Value := sliced a l h cap s
theorem cutA_zero (a : Option Addr) (cap s : Nat) : cutA a cap 0 s = a := by
  by_cases e : cap = 0
  · simp [cutA, e]
  · cases a <;> simp [cutA, Addr.add]
theorem slicedC_eq (a : Option Addr) (l h cap s : Nat) : slicedC a l h cap s = .slice (cutA a cap l s) (h - l) (cap - l) := rfl
section
variable {P : Program} {w : World} (t : TypeId) (a : Option Addr) (len cap : Nat) (ht : P.underlying t = some (.slice (P.elem t)))
include ht
theorem run_slice_lhC (kl kh : IntKind) (l h : Int) (h0 : 0 ≤ l) (h1 : l ≤ h) (h2 : h ≤ cap) :
    (Instr.slice t (.slice a len cap) (some (.int kl l)) (some (.int kh h)) none).run P w = ((sizeOf (P.elem t)).run P w).andThen fun s w => .ok (slicedC a l.toNat h.toNat cap s) w :=
  run_slice_lh w t a len cap ht kl kh l h h0 h1 h2
theorem run_slice_lC (kl : IntKind) (l : Int) (h0 : 0 ≤ l) (h1 : l ≤ len) :
    (Instr.slice t (.slice a len cap) (some (.int kl l)) none none).run P w = ((sizeOf (P.elem t)).run P w).andThen fun s w => .ok (slicedC a l.toNat len cap s) w :=
  run_slice_l w t a len cap ht kl l h0 h1
theorem run_slice_anyC (lo hi mx : Option Value) :
    (Instr.slice t (.slice a len cap) lo hi mx).run P w =
      ((Instr.sliceBounds true len cap lo hi mx).run P w).andThen fun b w => ((sizeOf (P.elem t)).run P w).andThen fun s w => .ok (slicedC a b.1 b.2.1 b.2.2 s) w :=
  run_slice_any w t a len cap ht lo hi mx
end
attribute [go_sem high] run_slice_lhC run_slice_lC
attribute [go_sem 200] run_slice_anyC
attribute [go_sem] slicedC_eq cutA_zero

/-- A byte as a value. -/
def bv (c : UInt8) : Value := .int .u8 (c.toNat : Int)

/-- The slice with address A holds the cells xs, in blocks below B. -/
def Lies (w : World) (B : Nat) (A : Option Addr) (xs : List Value) : Prop :=
  xs ≠ [] → ∃ b off, A = some ⟨b, off, none⟩ ∧ b < B ∧ ∀ j u, xs[j]? = some u → w.cell? ⟨b, off + j, none⟩ = some u

section
variable {w w' : World} {B B' : Nat} {A : Option Addr} {xs : List Value}
theorem Lies.nil (w : World) (B : Nat) (A : Option Addr) : Lies w B A [] := fun h => absurd rfl h
theorem Lies.keep (h : Lies w B A xs) (hk : ∀ p : Addr, p.block < B → w'.cell? p = w.cell? p) : Lies w' B A xs := fun hn => by
  obtain ⟨b, off, e, hb, hc⟩ := h hn
  exact ⟨b, off, e, hb, fun j u hu => (hk _ hb).trans (hc j u hu)⟩
theorem Lies.more (h : Lies w B A xs) (hB : B ≤ B') : Lies w B' A xs := fun hn => by
  obtain ⟨b, off, e, hb, hc⟩ := h hn
  exact ⟨b, off, e, by omega, hc⟩
theorem Lies.below (h : Lies w B A xs) (hb : Below B w w') : Lies w' B A xs := h.keep fun _ hp => hb.cell hp
theorem Lies.take (h : Lies w B A xs) (n : Nat) : Lies w B A (xs.take n) := fun hn => by
  obtain ⟨b, off, e, hb, hc⟩ := h (by rintro rfl; simp at hn)
  refine ⟨b, off, e, hb, fun j u hu => hc j u ?_⟩
  rw [List.getElem?_take] at hu
  split at hu
  · exact hu
  · cases hu
theorem Lies.cut (h : Lies w B A xs) {k cap : Nat} (hc : xs.length ≤ cap) :
    Lies w B (cutA A cap k 1) (xs.drop k) := fun hne => by
  have hlt : k < xs.length := by
    rcases Nat.lt_or_ge k xs.length with h1 | h1
    · exact h1
    · exact absurd (List.drop_eq_nil_of_le h1) hne
  obtain ⟨b, off, rfl, hb, hcell⟩ := h (by rintro rfl; simp at hlt)
  unfold cutA
  rw [if_neg (by omega), Nat.mul_one]
  refine ⟨b, off + k, ?_, hb, fun j u hu => ?_⟩
  · by_cases h0 : k = 0
    · subst h0; simp [Addr.add]
    · simp [Addr.add, h0]
  · rw [Nat.add_assoc]
    exact hcell _ u (by rw [← hu, List.getElem?_drop])
theorem Lies.of_own {base : Nat} {e : TypeId} {n c : Nat} (h : w.ownsRow base e 1 (.slice A n c) n xs) : Lies w w.heap.size A xs := fun hn => by
  have hl := h.1
  have hpos : 0 < n := by
    rcases Nat.eq_zero_or_pos n with h0 | h0
    · subst h0; exact absurd (List.eq_nil_of_length_eq_zero (by simpa using hl)) hn
    · exact h0
  obtain ⟨g, cap, hv, _, hlt⟩ := h.form hpos
  have hA : A = some ⟨g, 0, none⟩ := by injection hv
  subst hA
  refine ⟨g, 0, rfl, hlt, fun j u hu => ?_⟩
  have := h.cells (g := g) rfl j u hu
  rw [Nat.zero_add]
  have hadd : (⟨g, 0, none⟩ : Addr).add j = ⟨g, j, none⟩ := by unfold Addr.add; split <;> simp_all
  rwa [hadd] at this
end

/-- Bytes: the slice of address A and length n holds the bytes l. -/
def LiesB (w : World) (B : Nat) (A : Option Addr) (n : Nat) (l : List UInt8) : Prop := l.length = n ∧ Lies w B A (l.map bv)
section
variable {w w' : World} {B B' n : Nat} {A : Option Addr} {l : List UInt8}
theorem LiesB.len (h : LiesB w B A n l) : l.length = n := h.1
theorem LiesB.nil (w : World) (B : Nat) (A : Option Addr) : LiesB w B A 0 [] := ⟨rfl, Lies.nil _ _ _⟩
theorem LiesB.at_ (h : LiesB w B A n l) {k : Nat} (hk : k < n) :
    ∃ (b off : Nat) (hl : k < l.length), A = some ⟨b, off, none⟩ ∧ b < B ∧ w.cell? ⟨b, off + k, none⟩ = some (.int .u8 (l[k].toNat : Int)) := by
  have hl : k < l.length := by rw [h.1]; exact hk
  obtain ⟨b, off, e, hb, hc⟩ := h.2 (by intro h0; have := congrArg List.length h0; simp at this; subst this; simp at hl)
  exact ⟨b, off, hl, e, hb, hc k _ (by simp [List.getElem?_map, List.getElem?_eq_getElem hl, bv])⟩
theorem LiesB.below (h : LiesB w B A n l) (hb : Below B w w') : LiesB w' B A n l := ⟨h.1, h.2.below hb⟩
theorem LiesB.more (h : LiesB w B A n l) (hB : B ≤ B') : LiesB w B' A n l := ⟨h.1, h.2.more hB⟩
theorem LiesB.take (h : LiesB w B A n l) (m : Nat) : LiesB w B A (min m n) (l.take m) :=
  ⟨by rw [List.length_take, h.1], by rw [List.map_take]; exact h.2.take m⟩
theorem LiesB.cut (h : LiesB w B A n l) {k cap : Nat} (hc : n ≤ cap) :
    LiesB w B (cutA A cap k 1) (n - k) (l.drop k) :=
  ⟨by rw [List.length_drop, h.1], by rw [List.map_drop]; exact Lies.cut (k := k) (cap := cap) h.2 (by simpa [h.1] using hc)⟩
end

/-- What lies below the call's own blocks stays where a callee has made blocks. -/
theorem LiesB_step {w a b : World} {A : Option Addr} {n : Nat} {l : List UInt8} (h : LiesB a w.heap.size A n l) (HB : Below w.heap.size w a) (h2 : Below a.heap.size a b) : LiesB b w.heap.size A n l := h.below (h2.mono HB.size)
theorem Lies.new (w : World) (cs : Array Value) (t : TypeId) (m : Nat × Nat) : Lies (w.alloc (.cells cs t m)) (w.heap.size + 1) (some ⟨w.heap.size, 0, none⟩) cs.toList := fun _ =>
  ⟨w.heap.size, 0, rfl, by omega, fun j u hu => by
    rw [Nat.zero_add, cell_of_row _ _ j cs t m (heap_alloc_new w _)]
    simpa using hu⟩
theorem LiesB.new (w : World) (cs : Array Value) (t : TypeId) (m : Nat × Nat) (l : List UInt8) (n : Nat) (hn : l.length = n) (h : cs.toList = l.map bv) :
    LiesB (w.alloc (.cells cs t m)) (w.heap.size + 1) (some ⟨w.heap.size, 0, none⟩) n l := ⟨hn, by rw [← h]; exact Lies.new w cs t m⟩

section
variable {P : Program} {ops : Array Oper} {Q : Exit → Act → World → Prop} {md : Region.Mode} {S : World → Prop} {oi : Oper} {v : Value} {fuel : Nat} {listed l' : Array Bool} {a a' : Act} {w : World}
/-- Steps of a region that draws its order, with their side conditions paid. -/
theorem tk (i : Nat) (h : wpAnyH P md ops Q S fuel l' a' w) (hi : ops[i]? = some oi := by (simp only [List.getElem?_toArray, List.getElem?_cons_succ, List.getElem?_cons_zero]; rfl))
    (hs : Region.noSelect ops = true := by kernel_rfl) (hf : Region.free md ops listed i = true := by kernel_rfl) (hr : (Region.ready md ops listed).contains i = true := by kernel_rfl)
    (hQ : ∀ c a w, Q (.panic c) (a.put oi.dst v) w → Q (.panic c) a w := by exact fun _ _ _ h => h)
    (hy : YieldsIf P ops S oi v a := by (refine Or.inl ⟨by rfl, ?_⟩; intro w hSw; (try dsimp only at hSw); go_simp <;> with_reducible rfl)) (hS : S w := by assumption)
    (he : a.put oi.dst v = a' := by (simp only [Act.put, List.setIfInBounds_toArray, List.set_cons_zero, List.set_cons_succ]; rfl)) (hl : listed.setIfInBounds i true = l' := by (first | (simp only [List.setIfInBounds_toArray, List.set_cons_zero, List.set_cons_succ]; rfl) | rfl)) :
    wpAnyH P md ops Q S (fuel + 1) listed a w := by
  subst he hl; exact wpAnyH_take hi hs hf hr hQ hy hS h
theorem tk0 (i : Nat) (h : wpAnyH P md ops Q S fuel l' a' w) (hi : ops[i]? = some oi := by (simp only [List.getElem?_toArray, List.getElem?_cons_zero]; rfl))
    (hs : Region.noSelect ops = true := by kernel_rfl) (hf : Region.free md ops listed i = true := by kernel_rfl) (hr : (Region.ready md ops listed).contains i = true := by kernel_rfl)
    (hQ : ∀ c a w, Q (.panic c) (a.put oi.dst v) w → Q (.panic c) a w := by exact fun _ _ _ h => h)
    (hy : YieldsIf P ops S oi v a := by (refine Or.inl ⟨by rfl, ?_⟩; intro w hSw; (try dsimp only at hSw); go_simp <;> with_reducible rfl)) (hS : S w := by assumption)
    (he : a.put oi.dst v = a' := by (simp only [Act.put, List.setIfInBounds_toArray, List.set_cons_zero, List.set_cons_succ]; rfl)) (hl : listed.setIfInBounds i true = l' := by (first | (simp only [List.setIfInBounds_toArray, List.set_cons_zero, List.set_cons_succ]; rfl) | rfl)) :
    wpAnyH P md ops Q S (fuel + 1) listed a w := by
  subst he hl; exact wpAnyH_take hi hs hf hr hQ hy hS h
theorem tku (i : Nat) (h : wpAnyH P md ops Q S fuel l' a' w) (hi : ops[i]? = some oi := by (simp only [List.getElem?_toArray, List.getElem?_cons_succ, List.getElem?_cons_zero]; rfl))
    (hs : Region.noSelect ops = true := by kernel_rfl) (hf : Region.free md ops listed i = true := by kernel_rfl) (hr : (Region.ready md ops listed).contains i = true := by kernel_rfl)
    (hQ : ∀ c a w, Q (.panic c) (a.put oi.dst undef) w → Q (.panic c) a w := by exact fun _ _ _ h => h)
    (hy : YieldsIf P ops S oi undef a := by exact Or.inr ⟨by rfl, rfl⟩) (hS : S w := by assumption)
    (he : a.put oi.dst undef = a' := by (simp only [Act.put, List.setIfInBounds_toArray, List.set_cons_zero, List.set_cons_succ]; rfl)) (hl : listed.setIfInBounds i true = l' := by (first | (simp only [List.setIfInBounds_toArray, List.set_cons_zero, List.set_cons_succ]; rfl) | rfl)) :
    wpAnyH P md ops Q S (fuel + 1) listed a w := by
  subst he hl; exact wpAnyH_take hi hs hf hr hQ hy hS h
theorem rdy (i : Nat) (h : ∀ K' : Act → World → Prop, Shut (∀ a w, S w → (S w → wpAnyH P md ops Q S fuel (listed.setIfInBounds i true) a w) → K' a w) → if Region.wanted oi (yielded ops a.tmps) = true then Oper.wp P oi a w K' Q else K' (a.put oi.dst undef) w) (hr : Region.ready md ops listed = [i] := by kernel_rfl) (ho : ops[i]? = some oi := by (simp only [List.getElem?_toArray, List.getElem?_cons_succ, List.getElem?_cons_zero]; rfl)) :
    wpAnyH P md ops Q S (fuel + 1) listed a w :=
  wpAnyH_ready hr (by simp) (AllReadyH.cons ho h AllReadyH.nil)
theorem rdy0 (i : Nat) (h : ∀ K' : Act → World → Prop, Shut (∀ a w, S w → (S w → wpAnyH P md ops Q S fuel (listed.setIfInBounds i true) a w) → K' a w) → if Region.wanted oi (yielded ops a.tmps) = true then Oper.wp P oi a w K' Q else K' (a.put oi.dst undef) w) (hr : Region.ready md ops listed = [i] := by kernel_rfl) (ho : ops[i]? = some oi := by (simp only [List.getElem?_toArray, List.getElem?_cons_zero]; rfl)) :
    wpAnyH P md ops Q S (fuel + 1) listed a w :=
  wpAnyH_ready hr (by simp) (AllReadyH.cons ho h AllReadyH.nil)
end
end Go.Proofs.Ytbcgffgiifminaa
namespace Go.Proofs.Ytbcgffgiifminaa
open Go.RowKit
set_option maxRecDepth 10000

theorem byte_info : (Try.prog.info? 5).map (fun i => (i.zero, i.size, i.bytes)) = some (some (.int .u8 0), 1, 1) := by kernel_rfl

/-- The slice value '.slice A n c' is the call's own (blocks from base on) and holds the bytes l. -/
def OwnB (w : World) (base : Nat) (A : Option Addr) (n c : Nat) (l : List UInt8) : Prop :=
  w.ownsRow base 5 1 (.slice A n c) n (l.map bv)

theorem bv_one (l : List UInt8) : ∀ u ∈ l.map bv, u.oneCell' = true := by
  intro u hu
  obtain ⟨c, _, rfl⟩ := List.mem_map.1 hu
  rfl

section
variable {w w' : World} {base B n c : Nat} {A : Option Addr} {l : List UInt8}
theorem OwnB.len (h : OwnB w base A n c l) : l.length = n := by have := h.1; simpa using this
theorem OwnB.nil (w : World) (base : Nat) : OwnB w base none 0 0 [] := World.ownsRow_nil _ _ _ _
theorem OwnB.lies (h : OwnB w base A n c l) : LiesB w w.heap.size A n l := ⟨h.len, Lies.of_own h⟩
theorem OwnB.kept {row : Option Nat} (h : OwnB w base A n c l) (hg : w.grownBy w' row) (hne : (Value.slice A n c).ownBlock = none ∨ (Value.slice A n c).ownBlock ≠ row) : OwnB w' base A n c l := World.ownsRow.kept h hg hne
theorem grownBy_of_below (hb : Below w.heap.size w w') : w.grownBy w' none := ⟨hb.os, hb.tape, hb.output, hb.size, fun k hk _ => hb.block k hk⟩
theorem OwnB.below (h : OwnB w base A n c l) (hb : Below w.heap.size w w') : OwnB w' base A n c l :=
  h.kept (grownBy_of_below hb) (by cases (Value.slice A n c).ownBlock <;> simp)
theorem OwnB.base_le {base' : Nat} (h : OwnB w base A n c l) (hb : base' ≤ base) : OwnB w base' A n c l := by
  obtain ⟨h1, h2⟩ := h
  refine ⟨h1, ?_⟩
  rcases h2 with h2 | ⟨g, cap, cur, hv, hg, r⟩
  · exact .inl h2
  · exact .inr ⟨g, cap, cur, hv, by omega, r⟩
/-- Memory of the same base that is not this row's is kept where this row grows. -/
theorem below_of_grown (h : OwnB w base A n c l) (hb : base ≤ w.heap.size) (hg : w.grownBy w' (Value.slice A n c).ownBlock) : Below base w w' :=
  (Below.refl base w).grown hg hb (fun k hk => (World.ownsRow.lt h k hk).1)
end

set_option maxRecDepth 10000 in
theorem run_appendB (w : World) (base : Nat) (ty : TypeId) (A : Option Addr) (n c : Nat) (l : List UInt8) (hown : OwnB w base A n c l)
    (B : Nat) (A2 : Option Addr) (m c2 : Nat) (l2 : List UInt8) (hr : LiesB w B A2 m l2) (hsum : n + m ≤ 140737488355328) (hbase : base ≤ w.heap.size) :
    ∃ A' c' w', (Builtin.append_ #[34, 34] ty #[.slice A n c, .slice A2 m c2]).run Try.prog w = .ok (.slice A' (n + m) c') w' ∧ OwnB w' base A' (n + m) c' (l ++ l2) ∧
      w.grownBy w' (Value.slice A n c).ownBlock ∧ ((Value.slice A' (n + m) c').ownBlock = (Value.slice A n c).ownBlock ∨ (Value.slice A' (n + m) c').ownBlock = some w.heap.size) := by
  obtain ⟨hm, hr⟩ := hr
  obtain ⟨i0, hi0, hz0, hz1, hz2⟩ := info_parts byte_info
  have hform : ∀ (W : World) (v : Value) (k : Nat) (xs : List Value), W.ownsRow base 5 1 v k xs → ∃ A c, v = .slice A k c := by
    intro W v k xs h
    rcases h.2 with ⟨rfl, rfl⟩ | ⟨g, cap, cur, rfl, _⟩
    · exact ⟨_, _, rfl⟩
    · exact ⟨_, _, rfl⟩
  by_cases h0 : l2 = []
  · subst h0
    have hm0 : m = 0 := by simpa using hm.symm
    subst hm0
    refine ⟨A, c, w, ?_, by simpa using hown, ⟨rfl, rfl, rfl, Nat.le_refl _, fun _ _ _ => rfl⟩, .inl rfl⟩
    rcases hown.2 with ⟨hv, hn⟩ | ⟨g, cap, cur, hv, _, _, hnc, _⟩
    · injection hv with h1 h2 h3
      subst h1 h2 h3
      rcases A2 with _ | ad
      · simp [Builtin.append_, run_underlying Try.underlying34, sizeOf, typeInfo, hi0, Builtin.lenOf, Builtin.firstCells]
      · simp [Builtin.append_, run_underlying Try.underlying34, sizeOf, typeInfo, hi0, Builtin.lenOf, Builtin.firstCells, loadCells, loadCellsFrom]
    · injection hv with h1 h2 h3
      subst h1 h3
      rcases A2 with _ | ad
      · simp [Builtin.append_, run_underlying Try.underlying34, sizeOf, typeInfo, hi0, Builtin.lenOf, Builtin.firstCells, hnc, storeCells]
      · simp [Builtin.append_, run_underlying Try.underlying34, sizeOf, typeInfo, hi0, Builtin.lenOf, Builtin.firstCells, hnc, storeCells, loadCells, loadCellsFrom]
  · obtain ⟨b, off, rfl, hb, hc⟩ := hr (by simpa using h0)
    have hadd : ∀ j, (⟨b, off, none⟩ : Addr).add j = ⟨b, off + j, none⟩ := fun j => by unfold Addr.add; split <;> simp_all
    obtain ⟨v', w', hrun, h2, h3, _, h5⟩ := run_append_own_at (P := Try.prog) w base 34 ty 5 i0 _ 1 1 Try.underlying34 hi0 hz0 hz1 hz2 rfl (by omega) _ n _ hown ⟨b, off, none⟩ m c2 (l2.map bv) (by simp [hm])
      (fun j u hu => by rw [hadd]; exact hc j u hu) (bv_one l2) (by simp only [maxLen]; omega) (by omega) hbase
    obtain ⟨A', c', rfl⟩ := hform _ _ _ _ h2
    exact ⟨A', c', w', hrun, by rw [OwnB, List.map_append]; exact h2, h3, h5⟩

theorem wpB_append {ops : Array Oper} {rest : List Oper} {o : Oper} {a : Act} {w : World} {Q : Exit → Act → World → Prop} (hgd : o.guard = none) (s x : Operand)
    (ho : o.op = .call { callee := .builtin .append, args := #[s, x], argTypes := #[34, 34] })
    (base : Nat) (A : Option Addr) (n c : Nat) (l : List UInt8) (hs : a.eval s = .slice A n c) (hown : OwnB w base A n c l)
    (B : Nat) (A2 : Option Addr) (m c2 : Nat) (l2 : List UInt8) (hx : a.eval x = .slice A2 m c2) (hr : LiesB w B A2 m l2) (k : Nat) (l3 : List UInt8) (hk : n + m = k) (hl3 : l ++ l2 = l3) (hsum : k ≤ 140737488355328) (hbase : base ≤ w.heap.size)
    (h : ∀ A' c' w', OwnB w' base A' k c' l3 → Below base w w' → w.grownBy w' (Value.slice A n c).ownBlock → wpList Try.prog ops Q rest (a.put o.dst (.slice A' k c')) w') : wpList Try.prog ops Q (o :: rest) a w := by
  subst hk hl3
  obtain ⟨A', c', w', hrun, h2, h3, _⟩ := run_appendB w base o.type A n c l hown B A2 m c2 l2 hr hsum hbase
  refine wpList_plain hgd fun K hK => ?_
  unfold Oper.wp execOp
  simp only [ho, resolve, invoke, builtin, Sem.run_bind, Sem.run_pure, Result.andThen_ok, List.map_toArray, List.map_cons, List.map_nil, hs, hx, hrun]
  exact hK _ _ (h A' c' w' h2 (below_of_grown hown hbase h3) h3)
end Go.Proofs.Ytbcgffgiifminaa
namespace Go.Proofs.Ytbcgffgiifminaa
open Go.RowKit
set_option maxRecDepth 10000

section
variable {w w' : World} {base B n c g : Nat} {A : Option Addr} {l : List UInt8}
theorem OwnB.form (h : OwnB w base A n c l) (hpos : 0 < n) : ∃ g, A = some ⟨g, 0, none⟩ ∧ base ≤ g ∧ g < w.heap.size := by
  obtain ⟨g, cap, hv, hb, hlt⟩ := World.ownsRow.form h hpos
  exact ⟨g, by injection hv, hb, hlt⟩
theorem OwnB.cell (h : OwnB w base (some ⟨g, 0, none⟩) n c l) {j : Nat} (hj : j < n) : ∃ hl : j < l.length, w.cell? ⟨g, j, none⟩ = some (.int .u8 (l[j].toNat : Int)) := by
  have hl : j < l.length := by rw [h.len]; exact hj
  refine ⟨hl, ?_⟩
  rw [World.ownsRow.cellAt h j (by omega), List.getElem?_map, List.getElem?_eq_getElem hl]; rfl
theorem OwnB.frozen (h : OwnB w base (some ⟨g, 0, none⟩) n c l) (j : Nat) : w.frozen? ⟨g, j, none⟩ = false := World.ownsRow.frozenAt h j
theorem OwnB.store (h : OwnB w base (some ⟨g, 0, none⟩) n c l) (j : Nat) (x : UInt8) : OwnB (w.setCell ⟨g, j, none⟩ (.int .u8 (x.toNat : Int))) base (some ⟨g, 0, none⟩) n c (l.set j x) := by
  unfold OwnB
  rw [List.map_set]
  exact (World.ownsRow.stored h j (bv x)).1
theorem OwnB.cap (h : OwnB w base A n c l) : n ≤ c := by
  rcases h.2 with ⟨hv, h0⟩ | ⟨g', cap, cur, hv, _, _, hnc, _⟩
  · omega
  · injection hv with _ _ h3; omega
theorem OwnB.drew (h : OwnB w base A n c l) : OwnB w.drew base A n c l := h
theorem OwnB.drewN (h : OwnB w base A n c l) (k : Nat) : OwnB (w.drewN k) base A n c l := h
theorem OwnB.lt (h : OwnB w base (some ⟨g, 0, none⟩) n c l) : base ≤ g ∧ g < w.heap.size := World.ownsRow.lt h g rfl
theorem Below_drewN {a w : World} (h : Below B a w) (n : Nat) : Below B a (w.drewN n) := ⟨h.os, h.tape, h.output, h.size, h.block⟩
theorem Lies.drew {xs : List Value} (h : Lies w B A xs) : Lies w.drew B A xs := h
theorem LiesB.drew (h : LiesB w B A n l) : LiesB w.drew B A n l := h
theorem LiesB.drewN (h : LiesB w B A n l) (k : Nat) : LiesB (w.drewN k) B A n l := h
end

theorem wpB_make {w : World} {ops : Array Oper} {rest : List Oper} {o : Oper} {a : Act} {Q : Exit → Act → World → Prop}
    (hg : o.guard = none) (l c : Operand) (hop : o.op = Op.makeSlice 34 l c)
    (base : Nat) (L C : Int) (n : Nat) (hl : a.eval l = .int .i64 L) (hc : a.eval c = .int .i64 C) (hL : L = (n : Int)) (hC : C = (n : Int)) (b2 : n ≤ 281474976710656) (b4 : base ≤ w.heap.size)
    (hK : ∀ g w', OwnB w' base (some ⟨g, 0, none⟩) n n (List.replicate n 0) → Below base w w' → w.grownBy w' none → wpList Try.prog ops Q rest (a.put o.dst (.slice (some ⟨g, 0, none⟩) n n)) w') :
    wpList Try.prog ops Q (o :: rest) a w := by
  obtain ⟨i0, hi0, hz0, hz1, hz2⟩ := info_parts byte_info
  refine wpList_make_full w hg l c _ hop base 5 i0 _ 1 Try.underlying34 hi0 hz0 hz1 _ _ L C n hl hc hL hC (by rw [hz2]; omega) (by simp only [maxLen]; omega) b4 fun w' h1 h2 => ?_
  refine hK _ w' ?_ ((Below.refl base w).grown h2 b4 (fun k hk => by cases hk)) h2
  unfold OwnB
  have e : (List.replicate n (0 : UInt8)).map bv = (madeCells (Value.int .u8 0).cells (n * 1)).toList := by
    rw [show (Value.int .u8 0).cells = #[Value.int .u8 0] from rfl, toList_madeCells_one, List.map_replicate, Nat.mul_one]; rfl
  rw [e]
  exact h1

/-- A contract that leaves the world as it was, met in a region that draws its order. -/
theorem Calls.quiet_of_same' {P : Program} {f : FuncId} {args : Array Value} {w : World} {n : Nat} {v : Value}
    (h : Calls P f args (w.drewN n) fun e w' => e = .returned v ∧ w.drewN n = w') : Calls P f args (w.drewN n) fun e w'' => e = .returned v ∧ ∃ m, w'' = w.drewN m :=
  h.mono fun _ _ ⟨he, hm⟩ => ⟨he, n, hm.symm⟩

theorem bits_xor8 (a b : UInt8) : bits BinOp.xor IntKind.u8 (a.toNat : Int) (b.toNat : Int) = ((a ^^^ b).toNat : Int) := by
  rw [u8_xor_nat _ _ a.toNat_lt b.toNat_lt, UInt8.toNat_xor]
end Go.Proofs.Ytbcgffgiifminaa
namespace Go.Proofs.Ytbcgffgiifminaa
open Go.RowKit
set_option maxRecDepth 10000
theorem tmod_lt (x k : Int) (hk : 0 < k) : -k < x.tmod k ∧ x.tmod k < k :=
  ⟨by have := Int.lt_tmod_of_pos x hk; omega, Int.tmod_lt_of_pos x hk⟩
theorem tmod_neg {a n : Int} (h : 1 ≤ n) (h0 : a.tmod n < 0) : a.tmod n + n = a % n := by
  have e := Int.mul_tdiv_add_tmod a n
  have h1 := (tmod_lt a n (by omega)).1
  have : (a.tmod n + n + n * (a.tdiv n - 1)) % n = a.tmod n + n := by
    rw [Int.add_mul_emod_self_left]; exact Int.emod_eq_of_lt (by omega) (by omega)
  rw [← this]
  congr 1
  rw [Int.mul_sub]; omega
theorem tmod_pos {a n : Int} (h : 1 ≤ n) (h0 : 0 ≤ a.tmod n) : a.tmod n = a % n := by
  have e := Int.mul_tdiv_add_tmod a n
  have h1 := (tmod_lt a n (by omega)).2
  have : (a.tmod n + n * a.tdiv n) % n = a.tmod n := by
    rw [Int.add_mul_emod_self_left]; exact Int.emod_eq_of_lt h0 h1
  rw [← this]
  congr 1
  omega

theorem wrap32_in {n : Int} (h1 : -2147483648 ≤ n) (h2 : n ≤ 2147483647) : wrap32 n = n := IntWalk.wrap32_in n ⟨h1, h2⟩
theorem wrap32_eq (n : Int) : wrap32 n = (n + 2147483648) % 4294967296 - 2147483648 := by unfold wrap32; rfl


/-- The four bytes of a number of 32 bits, the highest first. -/
def be32 (a : Int) : List UInt8 := [UInt8.ofNat (a % 4294967296 / 16777216).toNat, UInt8.ofNat (a % 4294967296 / 65536 % 256).toNat, UInt8.ofNat (a % 4294967296 / 256 % 256).toNat, UInt8.ofNat (a % 256).toNat]
theorem bv_ofInt {n : Int} (h0 : 0 ≤ n) (h1 : n < 256) : bv (UInt8.ofNat n.toNat) = .int .u8 n := by
  unfold bv
  rw [UInt8.toNat_ofNat_of_lt' (by show n.toNat < 256; omega)]
  congr 1
  omega
theorem be32_cells (a : Int) : [Value.int .u8 (a % 4294967296 / 16777216), .int .u8 (a % 4294967296 / 65536 % 256), .int .u8 (a % 4294967296 / 256 % 256), .int .u8 (a % 256)] = (be32 a).map bv := by
  simp only [be32, List.map_cons, List.map_nil]
  rw [bv_ofInt (by omega) (by omega), bv_ofInt (by omega) (by omega), bv_ofInt (by omega) (by omega), bv_ofInt (by omega) (by omega)]
theorem be32_mod (a : Int) : be32 (a % 4294967296) = be32 a := by
  unfold be32
  have e : a % 4294967296 % 4294967296 = a % 4294967296 := by omega
  have e2 : a % 4294967296 % 256 = a % 256 := by omega
  rw [e, e2]
theorem be32_length (a : Int) : (be32 a).length = 4 := rfl
/-- The number that four bytes are, without a sign. -/
def num4 (a b c d : UInt8) : Int := (a.toNat : Int) * 16777216 + b.toNat * 65536 + c.toNat * 256 + d.toNat
/-- The number of 32 bits that the first four bytes are; 0, if there are fewer. -/
def get32 : List UInt8 → Int
  | a :: b :: c :: d :: _ => wrap32 (num4 a b c d)
  | _ => 0
theorem get32_short {l : List UInt8} (h : l.length < 4) : get32 l = 0 := by
  match l, h with
  | [], _ => rfl
  | [_], _ => rfl
  | [_, _], _ => rfl
  | [_, _, _], _ => rfl
theorem get32_be32 {a : Int} (h1 : -2147483648 ≤ a) (h2 : a ≤ 2147483647) (r : List UInt8) : get32 (be32 a ++ r) = a := by
  simp only [be32, List.cons_append, List.nil_append, get32, num4]
  rw [UInt8.toNat_ofNat_of_lt' (by show _ < 256; omega), UInt8.toNat_ofNat_of_lt' (by show _ < 256; omega), UInt8.toNat_ofNat_of_lt' (by show _ < 256; omega), UInt8.toNat_ofNat_of_lt' (by show _ < 256; omega), wrap32_eq]
  omega
theorem be32_get32 (a b c d : UInt8) (r : List UInt8) : be32 (get32 (a :: b :: c :: d :: r)) = [a, b, c, d] := by
  have ha := a.toNat_lt
  have hb := b.toNat_lt
  have hc := c.toNat_lt
  have hd := d.toNat_lt
  have key : ∀ (x : UInt8) (n : Nat), n = x.toNat → UInt8.ofNat n = x := fun x n h => by rw [h]; exact UInt8.ofNat_toNat
  simp only [be32, get32, num4, wrap32_eq]
  rw [key a _ (by omega), key b _ (by omega), key c _ (by omega), key d _ (by omega)]
theorem or4 (a b c d : UInt8) : bits BinOp.or IntKind.u32 (bits BinOp.or IntKind.u32 (bits BinOp.or IntKind.u32 ((a.toNat : Int) * 16777216) ((b.toNat : Int) * 65536)) ((c.toNat : Int) * 256)) (d.toNat : Int) = num4 a b c d := by
  have ha := a.toNat_lt
  have hb := b.toNat_lt
  have hc := c.toNat_lt
  have hd := d.toNat_lt
  have e1 : bits BinOp.or IntKind.u32 ((a.toNat : Int) * 16777216) ((b.toNat : Int) * 65536) = ((a.toNat * 16777216 + b.toNat * 65536 : Nat) : Int) := by
    rw [show (a.toNat : Int) * 16777216 = ((a.toNat * 16777216 : Nat) : Int) from by omega, show (b.toNat : Int) * 65536 = ((b.toNat * 65536 : Nat) : Int) from by omega,
      u32_or_nat _ _ (by omega) (by omega), nat_join 24 _ _ (by omega) (by omega)]
  have e2 : bits BinOp.or IntKind.u32 ((a.toNat * 16777216 + b.toNat * 65536 : Nat) : Int) ((c.toNat : Int) * 256) = ((a.toNat * 16777216 + b.toNat * 65536 + c.toNat * 256 : Nat) : Int) := by
    rw [show (c.toNat : Int) * 256 = ((c.toNat * 256 : Nat) : Int) from by omega, u32_or_nat _ _ (by omega) (by omega), nat_join 16 _ _ (by omega) (by omega)]
  rw [e1, e2, u32_or_nat _ _ (by omega) (by omega), nat_join 8 _ _ (by omega) (by omega), num4]
  omega

theorem OwnB.new (w : World) (cs : Array Value) (n : Nat) (l : List UInt8) (hn : cs.size = n) (hm : n ≤ maxLen) (h : cs.toList = l.map bv) :
    OwnB (w.alloc (.cells cs 5)) w.heap.size (some ⟨w.heap.size, 0, none⟩) n n l := by
  unfold OwnB
  rw [← h]
  exact World.ownsRow_lit w cs n (Nat.le_refl _) hm (by omega)
theorem Below_new (w : World) (o : Obj) : Below w.heap.size w (w.alloc o) := (Below.refl _ _).alloc (Nat.le_refl _) _
end Go.Proofs.Ytbcgffgiifminaa
namespace Go.Proofs.Ytbcgffgiifminaa
open Go.RowKit
set_option maxRecDepth 10000

/-- Of the blocks that were there only those of S may have changed. -/
structure Keeps (S : Nat → Prop) (w w' : World) : Prop where
  os : w'.os = w.os
  tape : w'.tape = w.tape
  output : w'.output = w.output
  size : w.heap.size ≤ w'.heap.size
  block : ∀ k, k < w.heap.size → ¬ S k → w'.heap[k]? = w.heap[k]?

section
variable {S S' : Nat → Prop} {w w' w1 w2 : World}
theorem Keeps.refl (S : Nat → Prop) (w : World) : Keeps S w w := ⟨rfl, rfl, rfl, Nat.le_refl _, fun _ _ _ => rfl⟩
theorem Keeps.mono (h : Keeps S w w') (hS : ∀ k, k < w.heap.size → S k → S' k) : Keeps S' w w' := ⟨h.os, h.tape, h.output, h.size, fun k hk hn => h.block k hk fun hs => hn (hS k hk hs)⟩
theorem Keeps.trans (h : Keeps S w w1) (h2 : Keeps S' w1 w2) (hS : ∀ k, k < w.heap.size → S' k → S k) : Keeps S w w2 :=
  ⟨h2.os.trans h.os, h2.tape.trans h.tape, h2.output.trans h.output, Nat.le_trans h.size h2.size, fun k hk hn =>
    (h2.block k (Nat.lt_of_lt_of_le hk h.size) fun hs => hn (hS k hk hs)).trans (h.block k hk hn)⟩
theorem Keeps.of_below (h : Below w.heap.size w w') : Keeps S w w' := ⟨h.os, h.tape, h.output, h.size, fun k hk _ => h.block k hk⟩
theorem Keeps.below {B : Nat} (h : Keeps S w w') (hB : B ≤ w.heap.size) (hS : ∀ k, k < B → ¬ S k) : Below B w w' := ⟨h.os, h.tape, h.output, h.size, fun k hk => h.block k (Nat.lt_of_lt_of_le hk hB) (hS k hk)⟩
theorem Keeps.alloc (h : Keeps S w w') (o : Obj) : Keeps S w (w'.alloc o) := h.trans (S' := S) (Keeps.of_below (Below_new w' o)) fun _ _ h => h
theorem Keeps.drew (h : Keeps S w w') : Keeps S w w'.drew := ⟨h.os, h.tape, h.output, h.size, h.block⟩
theorem Keeps.drewN (h : Keeps S w w') (n : Nat) : Keeps S w (w'.drewN n) := ⟨h.os, h.tape, h.output, h.size, h.block⟩
theorem Keeps.grown {row : Option Nat} (h : w.grownBy w' row) : Keeps (fun k => some k = row) w w' := ⟨h.os, h.tape, h.output, h.size, fun k hk hn => h.block k hk hn⟩
theorem Keeps.setCell (w : World) (a : Addr) (u : Value) : Keeps (fun k => k = a.block) w (w.setCell a u) := ⟨rfl, rfl, rfl, by simp [World.setCell], fun k _ hn => Below.heap_setCell w a u k hn⟩
end

/-- Block g holds just the cells cs, of element type t, none of them frozen. -/
def Blk (w : World) (g : Nat) (t : TypeId) (cs : Array Value) : Prop := w.heap[g]? = some (.cells cs t (0, 0))
section
variable {S : Nat → Prop} {w w' : World} {g : Nat} {t : TypeId} {cs : Array Value}
theorem Blk.lt (h : Blk w g t cs) : g < w.heap.size := by
  rcases Nat.lt_or_ge g w.heap.size with hlt | hge
  · exact hlt
  · unfold Blk at h; rw [Array.getElem?_eq_none hge] at h; cases h
theorem Blk.cell (h : Blk w g t cs) (i : Nat) : w.cell? ⟨g, i, none⟩ = cs[i]? := cell_of_row w g i cs t (0, 0) h
theorem Blk.frozen (h : Blk w g t cs) (i : Nat) : w.frozen? ⟨g, i, none⟩ = false := frozen_of_row w g i cs t h
theorem Blk.new (w : World) (t : TypeId) (cs : Array Value) : Blk (w.alloc (.cells cs t)) w.heap.size t cs := heap_alloc_new w _
theorem Blk.drew (h : Blk w g t cs) : Blk w.drew g t cs := h
theorem Blk.drewN (h : Blk w g t cs) (n : Nat) : Blk (w.drewN n) g t cs := h
theorem Blk.keeps (h : Blk w g t cs) (hk : Keeps S w w') (hn : ¬ S g) : Blk w' g t cs := (hk.block g h.lt hn).trans h
theorem Blk.below {B : Nat} (h : Blk w g t cs) (hb : Below B w w') (hg : g < B) : Blk w' g t cs := (hb.block g hg).trans h
theorem Blk.set_ (h : Blk w g t cs) (i : Nat) (u : Value) : Blk (w.setCell ⟨g, i, none⟩ u) g t (cs.setIfInBounds i u) := heap_setCell_same w g i cs t u h
theorem Blk.ne_ {g' : Nat} {t' : TypeId} {cs' : Array Value} (h : Blk w g t cs) (h' : Blk w g' t' cs') (hne : t ≠ t') : g ≠ g' := by
  rintro rfl
  unfold Blk at h h'
  rw [h] at h'
  injection h' with h'
  injection h' with _ ht
  exact hne ht
end

/-- The block of a slice of bytes of the call's own differs from a block of another element type. -/
theorem OwnB.ne_blk {w : World} {base n c g : Nat} {A : Option Addr} {l : List UInt8} {t : TypeId} {cs : Array Value} (h : OwnB w base A n c l) (hb : Blk w g t cs) (ht : 5 ≠ t) : some g ≠ (Value.slice A n c).ownBlock := by
  rcases h.2 with ⟨hv, _⟩ | ⟨g', cap, cur, hv, _, hh, _⟩
  · injection hv with h1 h2 h3
    subst h1
    simp [Value.ownBlock]
  · injection hv with h1 h2 h3
    subst h1
    intro he
    have : g = g' := by simpa [Value.ownBlock] using he
    subst this
    exact Blk.ne_ (t := 5) hh hb ht rfl
theorem OwnB.keeps {S : Nat → Prop} {w w' : World} {base n c : Nat} {A : Option Addr} {l : List UInt8} (h : OwnB w base A n c l) (hk : Keeps S w w') (hn : ∀ k, some k = (Value.slice A n c).ownBlock → ¬ S k) : OwnB w' base A n c l := by
  refine ⟨h.1, ?_⟩
  rcases h.2 with h2 | ⟨g, cap, cur, hv, hb, hh, r⟩
  · exact .inl h2
  · refine .inr ⟨g, cap, cur, hv, hb, ?_, r⟩
    rw [hk.block g (Array.getElem?_eq_some_iff.1 hh).1 (hn g (by rw [hv]; rfl))]
    exact hh
theorem OwnB.rebase {w : World} {base base' n c : Nat} {A : Option Addr} {l : List UInt8} (h : OwnB w base A n c l) (hn : ∀ k, some k = (Value.slice A n c).ownBlock → base' ≤ k) : OwnB w base' A n c l := by
  refine ⟨h.1, ?_⟩
  rcases h.2 with h2 | ⟨g, cap, cur, hv, hb, r⟩
  · exact .inl h2
  · exact .inr ⟨g, cap, cur, hv, hn g (by rw [hv]; rfl), r⟩

theorem LiesB.keeps {S : Nat → Prop} {w w' : World} {B n : Nat} {A : Option Addr} {l : List UInt8} (h : LiesB w B A n l) (hk : Keeps S w w') (hn : ∀ b off, A = some ⟨b, off, none⟩ → l ≠ [] → ¬ S b) : LiesB w' B A n l := by
  refine ⟨h.1, fun hne => ?_⟩
  obtain ⟨b, off, e, hb, hc⟩ := h.2 hne
  refine ⟨b, off, e, hb, fun j u hu => ?_⟩
  have hcj := hc j u hu
  exact (World.cell?_of_block (hk.block b (World.block_lt_of_cell? w _ hcj) (hn b off e (by simpa using hne)))).trans hcj

theorem wpB_append2 {ops : Array Oper} {rest : List Oper} {o : Oper} {a : Act} {w : World} {Q : Exit → Act → World → Prop} (hgd : o.guard = none) (s x : Operand)
    (ho : o.op = .call { callee := .builtin .append, args := #[s, x], argTypes := #[34, 34] })
    (A : Option Addr) (n c : Nat) (l : List UInt8) (hs : a.eval s = .slice A n c) (hown : OwnB w 0 A n c l)
    (B : Nat) (A2 : Option Addr) (m c2 : Nat) (l2 : List UInt8) (hx : a.eval x = .slice A2 m c2) (hr : LiesB w B A2 m l2) (k : Nat) (l3 : List UInt8) (hk : n + m = k) (hl3 : l ++ l2 = l3) (hsum : k ≤ 140737488355328)
    (h : ∀ A' c' w', OwnB w' 0 A' k c' l3 → Keeps (fun i => some i = (Value.slice A n c).ownBlock) w w' →
      ((Value.slice A' k c').ownBlock = (Value.slice A n c).ownBlock ∨ (Value.slice A' k c').ownBlock = some w.heap.size) → wpList Try.prog ops Q rest (a.put o.dst (.slice A' k c')) w') : wpList Try.prog ops Q (o :: rest) a w := by
  subst hk hl3
  obtain ⟨A', c', w', hrun, h2, h3, h4⟩ := run_appendB w 0 o.type A n c l hown B A2 m c2 l2 hr hsum (Nat.zero_le _)
  refine wpList_plain hgd fun K hK => ?_
  unfold Oper.wp execOp
  simp only [ho, resolve, invoke, builtin, Sem.run_bind, Sem.run_pure, Result.andThen_ok, List.map_toArray, List.map_cons, List.map_nil, hs, hx, hrun]
  exact hK _ _ (h A' c' w' h2 (Keeps.grown h3) h4)
end Go.Proofs.Ytbcgffgiifminaa
namespace Go.Proofs.Ytbcgffgiifminaa
open Go.RowKit
set_option maxRecDepth 10000

/-- Block p is a line that holds the presses l; its row is block g (none: no row). -/
def LineAt (w : World) (p : Nat) (g : Option Nat) (l : List UInt8) : Prop :=
  l.length ≤ 1000 ∧ ∃ A c, Blk w p 109 #[.slice A l.length c] ∧ OwnB w 0 A l.length c l ∧ (Value.slice A l.length c).ownBlock = g
/-- The blocks of a line. -/
def lineBlocks (p : Nat) (g : Option Nat) (k : Nat) : Prop := k = p ∨ some k = g

section
variable {S : Nat → Prop} {w w' : World} {p : Nat} {g : Option Nat} {l : List UInt8}
theorem LineAt.keeps (h : LineAt w p g l) (hk : Keeps S w w') (hn : ∀ k, lineBlocks p g k → ¬ S k) : LineAt w' p g l := by
  obtain ⟨hl, A, c, hb, ho, hg⟩ := h
  exact ⟨hl, A, c, hb.keeps hk (hn p (.inl rfl)), ho.keeps hk fun k e => hn k (.inr (by rw [e, hg])), hg⟩
theorem LineAt.below (h : LineAt w p g l) (hb : Below w.heap.size w w') : LineAt w' p g l := h.keeps (S := fun _ => False) (Keeps.of_below hb) fun _ _ h => h
theorem LineAt.lt (h : LineAt w p g l) : p < w.heap.size ∧ ∀ k, some k = g → k < w.heap.size := by
  obtain ⟨hl, A, c, hb, ho, hg⟩ := h
  exact ⟨hb.lt, fun k e => (World.ownsRow.lt ho k (by rw [hg, e])).2⟩
end

set_option maxHeartbeats 400000 in
theorem line_Len (p : Nat) (g : Option Nat) (l : List UInt8) (w : World) (h : LineAt w p g l) :
    Calls Try.prog 25 #[.pointer (some ⟨p, 0, none⟩)] w fun e w' => e = .returned (.int .i64 (l.length : Int)) ∧ w = w' := by
  obtain ⟨hl, A, c, hb, ho, hg⟩ := h
  have hc := hb.cell 0
  obtain ⟨n, hn⟩ : ∃ n, n = l.length := ⟨_, rfl⟩
  rw [← hn] at hc
  rw [← hn]
  clear hn hb ho hg
  simp at hc
  go_enter Try.func25, Try.ntmps25
  go_wp2
  go_ret
  exact ⟨rfl, rfl⟩
set_option maxHeartbeats 400000 in
theorem line_Len_nil (w : World) : Calls Try.prog 25 #[.pointer none] w fun e w' => e = .returned (.int .i64 0) ∧ w = w' := by
  go_enter Try.func25, Try.ntmps25
  go_wp2
  go_ret
  exact ⟨rfl, rfl⟩

set_option maxHeartbeats 400000 in
set_option maxRecDepth 10000 in
theorem line_Add (p : Nat) (g : Option Nat) (l : List UInt8) (b : UInt8) (w : World) (h : LineAt w p g l) (hl : l.length < 1000) :
    Calls Try.prog 48 #[.pointer (some ⟨p, 0, none⟩), .int .u8 (b.toNat : Int)] w fun e w' =>
      e = .returned (.int .i64 0) ∧ ∃ g', LineAt w' p g' (l ++ [b]) ∧ Keeps (lineBlocks p g) w w' ∧ (g' = g ∨ ∃ k, g' = some k ∧ w.heap.size ≤ k) := by
  obtain ⟨hl0, A, c, hb, ho, hg⟩ := h
  have hc := hb.cell 0
  simp at hc
  have hp := ho.ne_blk hb (by decide)
  obtain ⟨n, hn⟩ : ∃ n, n = l.length := ⟨_, rfl⟩
  rw [← hn] at hc ho hb hl hg hp
  have Hn := hide hn
  clear hn hl0
  have ho2 := ho.below (Below_new w (.cells #[.int .u8 (b.toNat : Int)] 5))
  have hl2 := LiesB.new w #[.int .u8 (b.toNat : Int)] 5 (0, 0) [b] 1 rfl rfl
  have HB := hide hb
  have HG := hide hg
  have HP := hide hp
  have Ho2 := hide ho2
  have Hl2 := hide hl2
  clear hb hg hp ho2 hl2 ho
  go_enter Try.func48, Try.ntmps48
  go_wp2_with (at_builtin; refine wpB_append2 rfl (.tmp 19) (.tmp 21) rfl A n c l rfl Ho2.out _ _ _ _ [b] rfl Hl2.out (n + 1) _ rfl rfl (by omega) ?_; intro A' c' w1 own1 hk1 hat1; have Hat := hide hat1; clear hat1; have hb1 : Blk w1 p 109 #[.slice A n c] := (HB.out.below (Below_new w _) HB.out.lt).keeps hk1 HP.out; have hc1 := hb1.cell 0; have hf1 := hb1.frozen 0; simp at hc1; have HB1 := hide hb1; clear hb1)
  go_ret
  refine ⟨rfl, (Value.slice A' (n + 1) c').ownBlock, ⟨by rw [List.length_append, ← Hn.out]; simp; omega, A', c', ?_, ?_, ?_⟩, ?_, ?_⟩
  · rw [List.length_append, ← Hn.out]
    exact HB1.out.set_ 0 _
  · rw [List.length_append, ← Hn.out]
    exact own1.keeps (Keeps.setCell w1 ⟨p, 0, none⟩ _) fun k hk e => by subst e; exact own1.ne_blk HB1.out (by decide) hk
  · rw [List.length_append, ← Hn.out]; rfl
  · refine ((Keeps.of_below (Below_new w _)).trans hk1 ?_).trans (Keeps.setCell w1 ⟨p, 0, none⟩ _) ?_
    · intro k _ hk; exact .inr (by rw [hk, HG.out])
    · intro k _ hk; exact .inl hk
  · rcases Hat.out with e | e
    · exact .inl (by rw [e, HG.out])
    · exact .inr ⟨_, e, by simp⟩
set_option maxHeartbeats 400000 in
set_option maxRecDepth 10000 in
theorem line_Add_full (p : Nat) (g : Option Nat) (l : List UInt8) (b : UInt8) (w : World) (h : LineAt w p g l) (hl : 1000 ≤ l.length) :
    Calls Try.prog 48 #[.pointer (some ⟨p, 0, none⟩), .int .u8 (b.toNat : Int)] w fun e w' => e = .returned (.int .i64 4) ∧ w = w' := by
  obtain ⟨hl0, A, c, hb, ho, hg⟩ := h
  have hc := hb.cell 0
  obtain ⟨n, hn⟩ : ∃ n, n = l.length := ⟨_, rfl⟩
  rw [← hn] at hc hl
  clear hn hb ho hg hl0
  simp at hc
  go_enter Try.func48, Try.ntmps48
  go_wp2
  go_ret
  exact ⟨rfl, rfl⟩
set_option maxHeartbeats 400000 in
theorem line_Add_nil (b : Int) (w : World) : Calls Try.prog 48 #[.pointer none, .int .u8 b] w fun e w' => e = .returned (.int .i64 7) ∧ w = w' := by
  go_enter Try.func48, Try.ntmps48
  go_wp2
  go_ret
  exact ⟨rfl, rfl⟩

/-- What Put adds, how many presses, which error. -/
def putAdd (l : List UInt8) (first : Int) (b : List UInt8) : List UInt8 :=
  if first < 0 ∨ (l.length : Int) < first then [] else (b.drop (l.length - first.toNat)).take (1000 - l.length)
def putErr (l : List UInt8) (first : Int) (b : List UInt8) : Int :=
  if first < 0 then 1 else if (l.length : Int) < first then 2 else if 1000 < first.toNat + b.length then 4 else 0
theorem putAdd_form {l b : List UInt8} {f : Nat} (h : f ≤ l.length) : putAdd l f b = (b.drop (l.length - f)).take (1000 - l.length) := by
  rw [putAdd, if_neg (by omega)]; simp
theorem putErr_form {l b : List UInt8} {f : Nat} (h : f ≤ l.length) : putErr l f b = if 1000 < f + b.length then 4 else 0 := by
  rw [putErr, if_neg (by omega), if_neg (by omega)]; simp

set_option maxHeartbeats 1000000 in
set_option maxRecDepth 10000 in
theorem line_Put (p : Nat) (g : Option Nat) (l : List UInt8) (first : Int) (A2 : Option Addr) (n2 c2 : Nat) (b : List UInt8) (w : World) (h : LineAt w p g l)
    (hA : LiesB w w.heap.size A2 n2 b) (hdis : ∀ bk off, A2 = some ⟨bk, off, none⟩ → b ≠ [] → ¬ lineBlocks p g bk) (h1 : -9223372036854775808 ≤ first) (h2 : first ≤ 9223372036854775807) (hn2 : n2 ≤ 9223372036854775807) :
    Calls Try.prog 53 #[.pointer (some ⟨p, 0, none⟩), .int .i64 first, .slice A2 n2 c2] w fun e w' =>
      e = .returned (.tuple #[.int .i64 ((putAdd l first b).length : Int), .int .i64 (putErr l first b)]) ∧
      ∃ g', LineAt w' p g' (l ++ putAdd l first b) ∧ Keeps (lineBlocks p g) w w' ∧ (g' = g ∨ ∃ k, g' = some k ∧ w.heap.size ≤ k) := by
  obtain ⟨hl0, A, c, hb, ho, hg⟩ := id h
  have hc := hb.cell 0
  obtain ⟨n, hn⟩ : ∃ n, n = l.length := ⟨_, rfl⟩
  rw [← hn] at hc hl0
  simp at hc
  by_cases hf0 : first < 0
  · have e1 : putAdd l first b = [] := by simp [putAdd, hf0]
    have e2 : putErr l first b = 1 := by simp [putErr, hf0]
    rw [e1, e2]
    have HH := hide h
    rw [List.append_nil]
    clear hn hb ho hg h hA hdis e1 e2
    go_enter Try.func53, Try.ntmps53
    go_wp2
    go_ret2
    exact ⟨rfl, g, HH.out, Keeps.refl _ _, .inl rfl⟩
  by_cases hf1 : (n : Int) < first
  · have e1 : putAdd l first b = [] := by rw [putAdd, if_pos (.inr (by rw [← hn]; exact hf1))]
    have e2 : putErr l first b = 2 := by rw [putErr, if_neg hf0, if_pos (by rw [← hn]; exact hf1)]
    rw [e1, e2]
    have HH := hide h
    rw [List.append_nil]
    clear hn hb ho hg h hA hdis e1 e2
    go_enter Try.func53, Try.ntmps53
    go_wp2
    go_ret2
    exact ⟨rfl, g, HH.out, Keeps.refl _ _, .inl rfl⟩
  obtain ⟨f, rfl⟩ : ∃ f : Nat, first = (f : Int) := ⟨first.toNat, by omega⟩
  have hfn : f ≤ n := by omega
  rw [putAdd_form (by omega), putErr_form (by omega), ← hn]
  obtain ⟨add, hadd⟩ : ∃ a, a = (b.drop (n - f)).take (1000 - n) := ⟨_, rfl⟩
  obtain ⟨E, hE⟩ : ∃ e : Int, e = if 1000 < f + b.length then 4 else 0 := ⟨_, rfl⟩
  rw [← hadd, ← hE]
  have HH := hide h
  have HA := hide hA
  have HD := hide hdis
  have Hn := hide hn
  clear hn hb ho hg h hA hdis
  go_enter Try.func53, Try.ntmps53
  obtain ⟨s, hs⟩ : ∃ s, s = n - f := ⟨_, rfl⟩
  rw [← hs] at hadd
  have hlenA : add.length = min (1000 - n) (n2 - s) := by rw [hadd, List.length_take, List.length_drop, HA.out.len]
  rw [hlenA]
  have Hadd := hide hadd
  have HE := hide hE
  have Hs := hide hs
  obtain ⟨N, hN⟩ : ∃ N, N = min (1000 - n) (n2 - s) := ⟨_, rfl⟩
  rw [← hN]
  have HN := hide hN
  clear hs hadd hE hlenA hN
  go_wp2
  rw [show ((n : Int) - (f : Int)) = (s : Int) from by have := Hs.out; omega]
  go_loopw [8, 9] (fun t i wr => ∃ j : Nat, s + j ≤ max n2 s ∧ n + j ≤ 1000 ∧ t = .int .i64 j ∧ i = .int .i64 ((s + j : Nat) : Int) ∧ ∃ g', LineAt wr p g' (l ++ (b.drop s).take j) ∧ Keeps (lineBlocks p g) w wr ∧ (g' = g ∨ ∃ k, g' = some k ∧ w.heap.size ≤ k))
    (fun t _ _ => 1000 - (intOf t).toNat)
  case atStart => exact ⟨0, by omega, hl0, rfl, rfl, g, by simpa using HH.out, Keeps.refl _ _, .inl rfl⟩
  case round =>
    obtain ⟨j, hj, hj2, rfl, rfl, g', hline, hkeep, hg'⟩ := hrel
    have HA2 := hide (HA.out.keeps hkeep HD.out)
    have Hline := hide hline
    have Hg' := hide hg'
    clear hline hg'
    have hlen : (l ++ (b.drop s).take j).length = n + j := by
      have := HA.out.len
      rw [List.length_append, List.length_take, List.length_drop, ← Hn.out]; omega
    have Hlen := hide hlen
    clear hlen
    by_cases hlt : s + j < n2
    · obtain ⟨b1, o1, hl1, rfl, -, hc1⟩ := HA2.out.at_ hlt
      by_cases hful : n + j < 1000
      · go_wp2_with (go_at_call 48; refine Calls.mono (line_Add p g' _ (b[s + j]) _ Hline.out (by rw [Hlen.out]; exact hful)) ?_; rintro e w2 ⟨rfl, g2, hline2, hkeep2, hg2⟩; have Hline2 := hide hline2; have Hkeep2 := hide hkeep2; have Hg2 := hide hg2; clear hline2 hkeep2 hg2)
        refine ⟨⟨j + 1, by omega, by omega, by go_num, by go_num, g2, ?_, hkeep.trans Hkeep2.out ?_, ?_⟩, by simp [intOf]; omega⟩
        · have e : (b.drop s).take (j + 1) = (b.drop s).take j ++ [b[s + j]] := by
            rw [List.take_succ_eq_append_getElem (by rw [List.length_drop]; omega), List.getElem_drop]
          rw [e, ← List.append_assoc]
          exact Hline2.out
        · intro k hk hs
          rcases hs with hs | hs
          · exact .inl hs
          · rcases Hg'.out with e | ⟨k2, e, h2⟩
            · exact .inr (by rw [hs, e])
            · rw [e] at hs; injection hs with hs; omega
        · rcases Hg2.out with e | ⟨k2, e, h2⟩
          · rw [e]; exact Hg'.out
          · exact .inr ⟨k2, e, Nat.le_trans hkeep.size h2⟩
      · go_wp2_with (go_at_call 48; refine Calls.mono (line_Add_full p g' _ (b[s + j]) _ Hline.out (by rw [Hlen.out]; omega)) ?_; rintro e w2 ⟨rfl, rfl⟩)
        go_ret2
        have hjN : j = N := by have := HN.out; have := Hs.out; omega
        have hE : E = 4 := by rw [HE.out, if_pos]; have := Hs.out; rw [HA.out.len]; omega
        refine ⟨by rw [hE, ← hjN]; rfl, g', ?_, hkeep, Hg'.out⟩
        have e : add = (b.drop s).take j := by
          rw [Hadd.out]; congr 1; omega
        rw [e]; exact Hline.out
    · go_wp2
      go_ret2
      have hjN : j = N := by have := HN.out; have := Hs.out; omega
      have hE : E = 0 := by rw [HE.out, if_neg]; have := Hs.out; rw [HA.out.len]; omega
      refine ⟨by rw [hE, ← hjN]; rfl, g', ?_, hkeep, Hg'.out⟩
      have e : add = (b.drop s).take j := by
        rw [Hadd.out, List.take_of_length_le (by rw [List.length_drop, HA.out.len]; omega), List.take_of_length_le (by rw [List.length_drop, HA.out.len]; omega)]
      rw [e]; exact Hline.out
end Go.Proofs.Ytbcgffgiifminaa
namespace Go.Proofs.Ytbcgffgiifminaa
open Go.RowKit
set_option maxRecDepth 10000
/-- What At tells. -/
def atLine (l : List UInt8) (f : Int) : UInt8 := if f < 0 then 0 else l.getD f.toNat 0
def inLine (l : List UInt8) (f : Int) : Bool := decide (0 ≤ f ∧ f < (l.length : Int))
set_option maxHeartbeats 400000 in
theorem line_Put_nil (f : Int) (A : Option Addr) (n c : Nat) (w : World) : Calls Try.prog 53 #[.pointer none, .int .i64 f, .slice A n c] w fun e w' => e = .returned (.tuple #[.int .i64 0, .int .i64 7]) ∧ w = w' := by
  go_enter Try.func53, Try.ntmps53
  go_wp2
  go_ret2
  exact ⟨rfl, rfl⟩
set_option maxHeartbeats 400000 in
set_option maxRecDepth 10000 in
theorem input_New (delay : Int) (w : World) : Calls Try.prog 76 #[.int .i64 delay] w fun e w' =>
    ∃ p g, e = .returned (.pointer (some ⟨p, 0, none⟩)) ∧ LineAt w' p g (List.replicate (min (max delay 0) 8).toNat 0) ∧ Below w.heap.size w w' ∧ w.heap.size ≤ p ∧ ∀ k, some k = g → w.heap.size ≤ k := by
  obtain ⟨d, hd⟩ : ∃ d : Nat, (min (max delay 0) 8) = (d : Int) := ⟨(min (max delay 0) 8).toNat, by omega⟩
  rw [hd]
  have hd8 : d ≤ 8 := by omega
  rw [Int.toNat_natCast]
  have Hd := hide hd
  clear hd
  go_enter Try.func76, Try.ntmps76
  go_wp2_with (at_make; (rw [show (min (max delay 0) 8) = (d : Int) from Hd.out]); refine wpB_make rfl _ _ rfl w.heap.size _ _ d rfl rfl rfl rfl (by omega) (Nat.le_refl _) ?_; intro g w2 own2 hb2 hg2)
  go_ret
  refine ⟨w2.heap.size, some g, rfl, ⟨by rw [List.length_replicate]; omega, some ⟨g, 0, none⟩, d, ?_, ?_, rfl⟩, hb2.alloc hb2.size _, hb2.size, ?_⟩
  · rw [List.length_replicate]; exact Blk.new _ _ _
  · rw [List.length_replicate]; exact (own2.base_le (Nat.zero_le _)).below (Below_new _ _)
  · intro k hk; injection hk with hk; subst hk; exact own2.lt.1
end Go.Proofs.Ytbcgffgiifminaa
namespace Go.Proofs.Ytbcgffgiifminaa
open Go.RowKit
set_option maxRecDepth 10000
set_option linter.unusedVariables false

/-- Put, its numbers handed over. -/
theorem line_Put_v (p : Nat) (g : Option Nat) (l : List UInt8) (first : Int) (A2 : Option Addr) (n2 c2 : Nat) (b add : List UInt8) (N E : Int) (w : World) (h : LineAt w p g l)
    (hA : LiesB w w.heap.size A2 n2 b) (hdis : ∀ bk off, A2 = some ⟨bk, off, none⟩ → b ≠ [] → ¬ lineBlocks p g bk) (h1 : -9223372036854775808 ≤ first) (h2 : first ≤ 9223372036854775807) (hn2 : n2 ≤ 9223372036854775807)
    (hadd : putAdd l first b = add) (hN : (add.length : Int) = N) (hE : putErr l first b = E) :
    Calls Try.prog 53 #[.pointer (some ⟨p, 0, none⟩), .int .i64 first, .slice A2 n2 c2] w fun e w' =>
      e = .returned (.tuple #[.int .i64 N, .int .i64 E]) ∧
      ∃ g', LineAt w' p g' (l ++ add) ∧ Keeps (lineBlocks p g) w w' ∧ (g' = g ∨ ∃ k, g' = some k ∧ w.heap.size ≤ k) := by
  subst hadd hN hE
  exact line_Put p g l first A2 n2 c2 b w h hA hdis h1 h2 hn2
/-- Put of bytes that lie in a block that was just made. -/
theorem line_Put_lit (p : Nat) (g : Option Nat) (l : List UInt8) (first : Int) (n2 c2 : Nat) (b add : List UInt8) (N E : Int) (w : World) (cs : Array Value) (h : LineAt w p g l)
    (hn : b.length = n2) (hcs : cs.toList = b.map bv) (h1 : -9223372036854775808 ≤ first) (h2 : first ≤ 9223372036854775807) (hn2 : n2 ≤ 9223372036854775807)
    (hadd : putAdd l first b = add) (hN : (add.length : Int) = N) (hE : putErr l first b = E) :
    Calls Try.prog 53 #[.pointer (some ⟨p, 0, none⟩), .int .i64 first, .slice (some ⟨w.heap.size, 0, none⟩) n2 c2] (w.alloc (.cells cs 5)) fun e w' =>
      e = .returned (.tuple #[.int .i64 N, .int .i64 E]) ∧
      ∃ g', LineAt w' p g' (l ++ add) ∧ Keeps (lineBlocks p g) w w' ∧ (g' = g ∨ ∃ k, g' = some k ∧ w.heap.size ≤ k) := by
  have hl := LiesB.new w cs 5 (0, 0) b n2 hn hcs
  refine Calls.mono (line_Put_v p g l first _ n2 c2 b add N E _ (h.below (Below_new w _)) (by simpa using hl) ?_ h1 h2 hn2 hadd hN hE) ?_
  · intro bk off e _ hb
    injection e with e
    injection e with e _
    subst e
    rcases hb with hb | hb
    · have := h.lt.1; omega
    · have := h.lt.2 _ hb; omega
  · rintro e w' ⟨he, g', h3, h4, h5⟩
    refine ⟨he, g', h3, (Keeps.of_below (Below_new w _)).trans h4 fun _ _ h => h, ?_⟩
    rcases h5 with h5 | ⟨k, h5, h6⟩
    · exact .inl h5
    · exact .inr ⟨k, h5, by simp at h6; omega⟩
theorem line_Len_v (p : Nat) (g : Option Nat) (l : List UInt8) (m : Int) (w : World) (h : LineAt w p g l) (hm : (l.length : Int) = m) :
    Calls Try.prog 25 #[.pointer (some ⟨p, 0, none⟩)] w fun e w' => e = .returned (.int .i64 m) ∧ w = w' := by
  subst hm
  exact line_Len p g l w h
theorem line_Add_v (p : Nat) (g : Option Nat) (l : List UInt8) (b : UInt8) (x : Int) (w : World) (h : LineAt w p g l) (hl : l.length < 1000) (hx : x = (b.toNat : Int)) :
    Calls Try.prog 48 #[.pointer (some ⟨p, 0, none⟩), .int .u8 x] w fun e w' =>
      e = .returned (.int .i64 0) ∧ ∃ g', LineAt w' p g' (l ++ [b]) ∧ Keeps (lineBlocks p g) w w' ∧ (g' = g ∨ ∃ k, g' = some k ∧ w.heap.size ≤ k) := by
  subst hx
  exact line_Add p g l b w h hl
theorem line_Add_full_v (p : Nat) (g : Option Nat) (l : List UInt8) (b : UInt8) (x : Int) (w : World) (h : LineAt w p g l) (hl : 1000 ≤ l.length) (hx : x = (b.toNat : Int)) :
    Calls Try.prog 48 #[.pointer (some ⟨p, 0, none⟩), .int .u8 x] w fun e w' => e = .returned (.int .i64 4) ∧ w = w' := by
  subst hx
  exact line_Add_full p g l b w h hl
theorem input_New_v (delay : Int) (m : Nat) (w : World) (hm : (min (max delay 0) 8).toNat = m) : Calls Try.prog 76 #[.int .i64 delay] w fun e w' =>
    ∃ p g, e = .returned (.pointer (some ⟨p, 0, none⟩)) ∧ LineAt w' p g (List.replicate m 0) ∧ Below w.heap.size w w' ∧ w.heap.size ≤ p ∧ ∀ k, some k = g → w.heap.size ≤ k := by
  subst hm
  exact input_New delay w

/-- One line of the call's own: it holds l, and nothing older has changed. -/
def MyLine (w0 w : World) (p : Nat) (g : Option Nat) (l : List UInt8) : Prop := LineAt w p g l ∧ Below w0.heap.size w0 w ∧ w0.heap.size ≤ p ∧ ∀ k, some k = g → w0.heap.size ≤ k
theorem MyLine.new {w0 w w' : World} {p : Nat} {g : Option Nat} {l : List UInt8} (hb : Below w0.heap.size w0 w) (h : LineAt w' p g l) (h1 : Below w.heap.size w w') (h2 : w.heap.size ≤ p) (h3 : ∀ k, some k = g → w.heap.size ≤ k) : MyLine w0 w' p g l :=
  ⟨h, Below_step hb h1, Nat.le_trans hb.size h2, fun k hk => Nat.le_trans hb.size (h3 k hk)⟩
theorem MyLine.step {w0 w w' : World} {p : Nat} {g g' : Option Nat} {l l' : List UInt8} (h : MyLine w0 w p g l) (h1 : LineAt w' p g' l') (h2 : Keeps (lineBlocks p g) w w') (h3 : g' = g ∨ ∃ k, g' = some k ∧ w.heap.size ≤ k) : MyLine w0 w' p g' l' := by
  obtain ⟨_, hb, hp, hg⟩ := h
  refine ⟨h1, hb.trans (h2.below hb.size ?_), hp, ?_⟩
  · intro k hk hs
    rcases hs with hs | hs
    · omega
    · have := hg k hs; omega
  · intro k hk
    rcases h3 with e | ⟨k2, e, h4⟩
    · exact hg k (by rw [hk, e])
    · rw [e] at hk; injection hk with hk; have := hb.size; omega
theorem MyLine.below {w0 w w' : World} {p : Nat} {g : Option Nat} {l : List UInt8} (h : MyLine w0 w p g l) (h1 : Below w.heap.size w w') : MyLine w0 w' p g l :=
  ⟨h.1.below h1, Below_step h.2.1 h1, h.2.2.1, h.2.2.2⟩

/-- What lies below the call's own blocks is none of the line's. -/
theorem MyLine.dis {w0 w w1 : World} {p : Nat} {g : Option Nat} {l b : List UInt8} {A : Option Addr} {n : Nat} (h : MyLine w0 w p g l) (hA : LiesB w1 w0.heap.size A n b) : ∀ bk off, A = some ⟨bk, off, none⟩ → b ≠ [] → ¬ lineBlocks p g bk := by
  intro bk off e hb hs
  obtain ⟨b2, o2, e2, h2, _⟩ := hA.2 (by simpa using hb)
  rw [e2] at e
  injection e with e
  injection e with e
  subst e
  rcases hs with hs | hs
  · have := h.2.2.1; omega
  · have := h.2.2.2 _ hs; omega
theorem putAdd_zero {b : List UInt8} (h : b.length ≤ 1000) : putAdd [] 0 b = b := by
  rw [show (0 : Int) = ((0 : Nat) : Int) from rfl, putAdd_form (Nat.zero_le _)]
  simp [List.take_of_length_le h]
theorem putErr_zero {b : List UInt8} (h : b.length ≤ 1000) : putErr [] 0 b = 0 := by
  rw [show (0 : Int) = ((0 : Nat) : Int) from rfl, putErr_form (Nat.zero_le _), if_neg (by omega)]; rfl

end Go.Proofs.Ytbcgffgiifminaa
namespace Go.Proofs.Ytbcgffgiifminaa
open Go.RowKit
set_option maxRecDepth 10000
theorem OwnB.blk {w : World} {base n c : Nat} {A : Option Addr} {l : List UInt8} (h : OwnB w base A n c l) : ∀ k, some k = (Value.slice A n c).ownBlock → base ≤ k ∧ k < w.heap.size := by
  intro k hk
  rcases h.2 with ⟨hv, _⟩ | ⟨g, cap, cur, hv, hb, hh, _⟩
  · injection hv with h1 h2 h3
    subst h1
    simp [Value.ownBlock] at hk
  · rw [hv] at hk
    have e : k = g := by simpa [Value.ownBlock] using hk
    subst e
    exact ⟨hb, (Array.getElem?_eq_some_iff.1 hh).1⟩
/-- The blocks that an append may change are the slice's own. -/
abbrev Mine (A : Option Addr) (n c : Nat) : Nat → Prop := fun i => some i = (Value.slice A n c).ownBlock
theorem Keeps.belowOwn {w w0 w' : World} {base n c : Nat} {A : Option Addr} {l : List UInt8} (h : OwnB w0 base A n c l) (k : Keeps (Mine A n c) w w') (hb : base ≤ w.heap.size) : Below base w w' :=
  k.below hb fun i hi hs => by have := (h.blk i hs).1; omega
theorem wpB_append3 {ops : Array Oper} {rest : List Oper} {o : Oper} {a : Act} {w : World} {Q : Exit → Act → World → Prop} (hgd : o.guard = none) (s x : Operand)
    (ho : o.op = .call { callee := .builtin .append, args := #[s, x], argTypes := #[34, 34] })
    (base : Nat) (A : Option Addr) (n c : Nat) (l : List UInt8) (hs : a.eval s = .slice A n c) (hown : OwnB w base A n c l)
    (B : Nat) (A2 : Option Addr) (m c2 : Nat) (l2 : List UInt8) (hx : a.eval x = .slice A2 m c2) (hr : LiesB w B A2 m l2) (k : Nat) (l3 : List UInt8) (hk : n + m = k) (hl3 : l ++ l2 = l3) (hsum : k ≤ 140737488355328) (hbase : base ≤ w.heap.size)
    (h : ∀ A' c' w', OwnB w' base A' k c' l3 → Keeps (Mine A n c) w w' →
      ((Value.slice A' k c').ownBlock = (Value.slice A n c).ownBlock ∨ (Value.slice A' k c').ownBlock = some w.heap.size) → wpList Try.prog ops Q rest (a.put o.dst (.slice A' k c')) w') : wpList Try.prog ops Q (o :: rest) a w := by
  subst hk hl3
  obtain ⟨A', c', w', hrun, h2, h3, h4⟩ := run_appendB w base o.type A n c l hown B A2 m c2 l2 hr hsum hbase
  refine wpList_plain hgd fun K hK => ?_
  unfold Oper.wp execOp
  simp only [ho, resolve, invoke, builtin, Sem.run_bind, Sem.run_pure, Result.andThen_ok, List.map_toArray, List.map_cons, List.map_nil, hs, hx, hrun]
  exact hK _ _ (h A' c' w' h2 (Keeps.grown h3) h4)
/-- The same inside a region that draws. -/
theorem step_appendB {ops : Array Oper} {o : Oper} {a : Act} {w : World} {K : Act → World → Prop} {Q : Exit → Act → World → Prop} {E : Prop} (hg : o.guard = none) (s x : Operand)
    (ho : o.op = .call { callee := .builtin .append, args := #[s, x], argTypes := #[34, 34] })
    (base : Nat) (A : Option Addr) (n c : Nat) (l : List UInt8) (hs : a.eval s = .slice A n c) (hown : OwnB w base A n c l)
    (B : Nat) (A2 : Option Addr) (m c2 : Nat) (l2 : List UInt8) (hx : a.eval x = .slice A2 m c2) (hr : LiesB w B A2 m l2) (k : Nat) (l3 : List UInt8) (hk : n + m = k) (hl3 : l ++ l2 = l3) (hsum : k ≤ 140737488355328) (hbase : base ≤ w.heap.size)
    (h : ∀ A' c' w', OwnB w' base A' k c' l3 → Keeps (Mine A n c) w w' →
      ((Value.slice A' k c').ownBlock = (Value.slice A n c).ownBlock ∨ (Value.slice A' k c').ownBlock = some w.heap.size) → K (a.put o.dst (.slice A' k c')) w') :
    if Region.wanted o (yielded ops a.tmps) = true then Oper.wp Try.prog o a w K Q else E := by
  have hw : Region.wanted o (yielded ops a.tmps) = true := by simp [Region.wanted, hg]
  rw [if_pos hw]
  subst hk hl3
  obtain ⟨A', c', w', hrun, h2, h3, h4⟩ := run_appendB w base o.type A n c l hown B A2 m c2 l2 hr hsum hbase
  unfold Oper.wp execOp
  simp only [ho, resolve, invoke, builtin, Sem.run_bind, Sem.run_pure, Result.andThen_ok, List.map_toArray, List.map_cons, List.map_nil, hs, hx, hrun]
  exact h A' c' w' h2 (Keeps.grown h3) h4
/-- One append more. -/
theorem Keeps.step {w wr w1 w2 : World} {n c n' c' : Nat} {A A' : Option Addr} (hk : Keeps (Mine A n c) w wr)
    (hb : (Value.slice A' n' c').ownBlock = (Value.slice A n c).ownBlock ∨ ∃ g, (Value.slice A' n' c').ownBlock = some g ∧ w.heap.size ≤ g) (hm : Keeps (Mine A n c) wr w1) (h2 : Keeps (Mine A' n' c') w1 w2) : Keeps (Mine A n c) w w2 :=
  (hk.trans hm (fun _ _ h => h)).trans h2 fun k hlt h => by
    rcases hb with hb | ⟨g, hb, hg⟩
    · exact (show some k = _ from h).trans hb
    · have : some k = some g := (show some k = _ from h).trans hb
      injection this with this
      omega
end Go.Proofs.Ytbcgffgiifminaa
namespace Go.Proofs.Ytbcgffgiifminaa
open Go.RowKit
set_option maxRecDepth 10000

/-- The slice '.slice A n c' of elements of type e is the call's own (blocks from base on) and holds the values l. -/
def OwnV (e : TypeId) (w : World) (base : Nat) (A : Option Addr) (n c : Nat) (l : List Value) : Prop := w.ownsRow base e 1 (.slice A n c) n l
/-- A slice type's numbers: the slice type t, the element type e, its zero, its bytes. -/
structure Elem (t e : TypeId) (z : Value) (nb : Nat) : Prop where
  under : Try.prog.underlying t = some (.slice e)
  info : (Try.prog.info? e).map (fun i => (i.zero, i.size, i.bytes)) = some (some z, 1, nb)
  one : z.cells.size = 1
theorem OwnV.of_B {w : World} {base n c : Nat} {A : Option Addr} {l : List UInt8} (h : OwnB w base A n c l) : OwnV 5 w base A n c (l.map bv) := h
section
variable {e : TypeId} {w w' : World} {base base' n c g : Nat} {A : Option Addr} {l : List Value}
theorem OwnV.len (h : OwnV e w base A n c l) : l.length = n := by have := h.1; simpa using this
theorem OwnV.nil (e : TypeId) (w : World) (base : Nat) : OwnV e w base none 0 0 [] := World.ownsRow_nil _ _ _ _
theorem OwnV.lies (h : OwnV e w base A n c l) : Lies w w.heap.size A l := Lies.of_own h
theorem OwnV.kept {row : Option Nat} (h : OwnV e w base A n c l) (hg : w.grownBy w' row) (hne : (Value.slice A n c).ownBlock = none ∨ (Value.slice A n c).ownBlock ≠ row) : OwnV e w' base A n c l := World.ownsRow.kept h hg hne
theorem OwnV.below (h : OwnV e w base A n c l) (hb : Below w.heap.size w w') : OwnV e w' base A n c l :=
  h.kept (grownBy_of_below hb) (by cases (Value.slice A n c).ownBlock <;> simp)
theorem OwnV.drew (h : OwnV e w base A n c l) : OwnV e w.drew base A n c l := h
theorem OwnV.base_le (h : OwnV e w base A n c l) (hb : base' ≤ base) : OwnV e w base' A n c l := by
  obtain ⟨h1, h2⟩ := h
  refine ⟨h1, ?_⟩
  rcases h2 with h2 | ⟨g, cap, cur, hv, hg, r⟩
  · exact .inl h2
  · exact .inr ⟨g, cap, cur, hv, by omega, r⟩
theorem OwnV.blk (h : OwnV e w base A n c l) : ∀ k, some k = (Value.slice A n c).ownBlock → base ≤ k ∧ k < w.heap.size := fun k hk => World.ownsRow.lt h k hk.symm
theorem OwnV.keeps {S : Nat → Prop} (h : OwnV e w base A n c l) (hk : Keeps S w w') (hn : ∀ k, some k = (Value.slice A n c).ownBlock → ¬ S k) : OwnV e w' base A n c l := by
  refine ⟨h.1, ?_⟩
  rcases h.2 with h2 | ⟨g, cap, cur, hv, hb, hh, r⟩
  · exact .inl h2
  · refine .inr ⟨g, cap, cur, hv, hb, ?_, r⟩
    rw [hk.block g (Array.getElem?_eq_some_iff.1 hh).1 (hn g (by rw [hv]; rfl))]
    exact hh
theorem OwnV.form (h : OwnV e w base A n c l) (hpos : 0 < n) : ∃ g, A = some ⟨g, 0, none⟩ ∧ base ≤ g ∧ g < w.heap.size := by
  obtain ⟨g, cap, hv, hb, hlt⟩ := World.ownsRow.form h hpos
  exact ⟨g, by injection hv, hb, hlt⟩
theorem OwnV.cell (h : OwnV e w base (some ⟨g, 0, none⟩) n c l) {j : Nat} (hj : j < n) : ∃ hl : j < l.length, w.cell? ⟨g, j, none⟩ = some l[j] := by
  have hl : j < l.length := by rw [h.len]; exact hj
  refine ⟨hl, ?_⟩
  rw [World.ownsRow.cellAt h j (by omega), List.getElem?_eq_getElem hl]
theorem OwnV.frozen (h : OwnV e w base (some ⟨g, 0, none⟩) n c l) (j : Nat) : w.frozen? ⟨g, j, none⟩ = false := World.ownsRow.frozenAt h j
theorem OwnV.cap (h : OwnV e w base A n c l) : n ≤ c := by
  rcases h.2 with ⟨hv, h0⟩ | ⟨g', cap, cur, hv, _, _, hnc, _⟩
  · omega
  · injection hv with _ _ h3; omega
theorem OwnV.store (h : OwnV e w base (some ⟨g, 0, none⟩) n c l) (j : Nat) (x : Value) : OwnV e (w.setCell ⟨g, j, none⟩ x) base (some ⟨g, 0, none⟩) n c (l.set j x) := (World.ownsRow.stored h j x).1
/-- Two rows of the call's own of unlike element types are unlike blocks. -/
theorem OwnV.apart {e' : TypeId} {base2 n' c' : Nat} {A' : Option Addr} {l' : List Value} (h : OwnV e w base A n c l) (h' : OwnV e' w base2 A' n' c' l') (hne : e ≠ e') : ∀ k, some k = (Value.slice A n c).ownBlock → some k ≠ (Value.slice A' n' c').ownBlock := by
  intro k hk hk'
  rcases h.2 with ⟨hv, _⟩ | ⟨g, cap, cur, hv, _, hh, _⟩
  · rw [hv] at hk; simp [Value.ownBlock] at hk
  · rcases h'.2 with ⟨hv', _⟩ | ⟨g', cap', cur', hv', _, hh', _⟩
    · rw [hv'] at hk'; simp [Value.ownBlock] at hk'
    · rw [hv] at hk
      rw [hv'] at hk'
      have h1 : k = g := by simpa [Value.ownBlock] using hk
      have h2 : k = g' := by simpa [Value.ownBlock] using hk'
      subst h1
      subst h2
      rw [hh] at hh'
      injection hh' with hh'
      injection hh' with _ ht
      exact hne ht
theorem Keeps.belowV {w0 : World} (h : OwnV e w0 base A n c l) (k : Keeps (Mine A n c) w w') (hb : base ≤ w.heap.size) : Below base w w' :=
  k.below hb fun i hi hs => by have := (h.blk i hs).1; omega
end

theorem run_appendV {t e : TypeId} {z : Value} {nb : Nat} (E : Elem t e z nb) (w : World) (base : Nat) (ty : TypeId) (A : Option Addr) (n c : Nat) (l : List Value) (hown : OwnV e w base A n c l)
    (B : Nat) (A2 : Option Addr) (m c2 : Nat) (l2 : List Value) (hm : l2.length = m) (hr : Lies w B A2 l2) (h1 : ∀ u ∈ l2, u.oneCell' = true) (hsum : n + m ≤ 281474976710656) (hbytes : (n + m) * nb ≤ 140737488355328) (hbase : base ≤ w.heap.size) (hpos : 0 < m) :
    ∃ A' c' w', (Builtin.append_ #[t, t] ty #[.slice A n c, .slice A2 m c2]).run Try.prog w = .ok (.slice A' (n + m) c') w' ∧ OwnV e w' base A' (n + m) c' (l ++ l2) ∧
      w.grownBy w' (Value.slice A n c).ownBlock ∧ ((Value.slice A' (n + m) c').ownBlock = (Value.slice A n c).ownBlock ∨ (Value.slice A' (n + m) c').ownBlock = some w.heap.size) := by
  obtain ⟨i0, hi0, hz0, hz1, hz2⟩ := info_parts E.info
  have hform : ∀ (W : World) (v : Value) (k : Nat) (xs : List Value), W.ownsRow base e 1 v k xs → ∃ A c, v = .slice A k c := by
    intro W v k xs h
    rcases h.2 with ⟨rfl, rfl⟩ | ⟨g, cap, cur, rfl, _⟩
    · exact ⟨_, _, rfl⟩
    · exact ⟨_, _, rfl⟩
  obtain ⟨b, off, rfl, hb, hc⟩ := hr (by intro h; subst h; simp at hm; omega)
  have hadd : ∀ j, (⟨b, off, none⟩ : Addr).add j = ⟨b, off + j, none⟩ := fun j => by unfold Addr.add; split <;> simp_all
  obtain ⟨v', w', hrun, h2, h3, _, h5⟩ := run_append_own_at (P := Try.prog) w base t ty e i0 z 1 nb E.under hi0 hz0 hz1 hz2 E.one (by omega) _ n _ hown ⟨b, off, none⟩ m c2 l2 (by simp [hm])
    (fun j u hu => by rw [hadd]; exact hc j u hu) h1 (by simp only [maxLen]; omega) hbytes hbase
  obtain ⟨A', c', rfl⟩ := hform _ _ _ _ h2
  exact ⟨A', c', w', hrun, h2, h3, h5⟩

theorem wpV_append {t e : TypeId} {z : Value} {nb : Nat} (E : Elem t e z nb) {ops : Array Oper} {rest : List Oper} {o : Oper} {a : Act} {w : World} {Q : Exit → Act → World → Prop} (hgd : o.guard = none) (s x : Operand)
    (ho : o.op = .call { callee := .builtin .append, args := #[s, x], argTypes := #[t, t] })
    (base : Nat) (A : Option Addr) (n c : Nat) (l : List Value) (hs : a.eval s = .slice A n c) (hown : OwnV e w base A n c l)
    (B : Nat) (A2 : Option Addr) (m c2 : Nat) (l2 : List Value) (hx : a.eval x = .slice A2 m c2) (hm : l2.length = m) (hr : Lies w B A2 l2) (h1 : ∀ u ∈ l2, u.oneCell' = true) (hpos : 0 < m) (k : Nat) (l3 : List Value) (hk : n + m = k) (hl3 : l ++ l2 = l3) (hsum : k ≤ 281474976710656) (hbytes : k * nb ≤ 140737488355328) (hbase : base ≤ w.heap.size)
    (h : ∀ A' c' w', OwnV e w' base A' k c' l3 → Keeps (Mine A n c) w w' →
      ((Value.slice A' k c').ownBlock = (Value.slice A n c).ownBlock ∨ (Value.slice A' k c').ownBlock = some w.heap.size) → wpList Try.prog ops Q rest (a.put o.dst (.slice A' k c')) w') : wpList Try.prog ops Q (o :: rest) a w := by
  subst hk hl3
  obtain ⟨A', c', w', hrun, h2, h3, h4⟩ := run_appendV E w base o.type A n c l hown B A2 m c2 l2 hm hr h1 hsum hbytes hbase hpos
  refine wpList_plain hgd fun K hK => ?_
  unfold Oper.wp execOp
  simp only [ho, resolve, invoke, builtin, Sem.run_bind, Sem.run_pure, Result.andThen_ok, List.map_toArray, List.map_cons, List.map_nil, hs, hx, hrun]
  exact hK _ _ (h A' c' w' h2 (Keeps.grown h3) h4)
end Go.Proofs.Ytbcgffgiifminaa
namespace Go.Proofs.Ytbcgffgiifminaa
open Go.RowKit
set_option maxRecDepth 10000
/-- The string of these bytes. -/
def strOf (l : List UInt8) : ByteArray := ⟨l.toArray⟩
theorem strOf_inj {a b : List UInt8} : strOf a = strOf b ↔ a = b := by
  constructor
  · intro h
    have := congrArg (fun s => s.data.toList) h
    simpa [strOf] using this
  · rintro rfl; rfl
theorem strOf_toList (l : List UInt8) : (strOf l).toList = l := by
  rw [ByteArray.toList_eq]; simp [strOf]
attribute [go_sem] strOf_toList
theorem run_stringB {w : World} {B : Nat} {A : Option Addr} {n c : Nat} {l : List UInt8} (h : LiesB w B A n l) :
    (convert 34 9 (.slice A n c)).run Try.prog w = .ok (.string (strOf l)) w := by
  by_cases h0 : l = []
  · subst h0
    have hn : n = 0 := by have := h.len; simpa using this.symm
    subst hn
    rcases A with _ | ad
    · exact run_convert_bytes_nil w 34 5 Try.underlying34 Try.underlying5 0 c 9 Try.underlying9
    · rw [run_convert_bytes_string w 34 9 5 _ 0 c Try.underlying34 Try.underlying5 Try.underlying9, run_bytesToString w _ 0 c [] (by simp [loadCells, loadCellsFrom])]
      rfl
  · obtain ⟨b, off, rfl, hb, hc⟩ := h.2 (by simpa using h0)
    have hcell : ∀ i, i < n → w.cell? ⟨b, off + i, none⟩ = some (.int .u8 ((l.map fun x => (x.toNat : Int)).getD i 0)) := by
      intro i hi
      have hl : i < l.length := by rw [h.len]; exact hi
      rw [hc i (bv l[i]) (by simp [List.getElem?_map, List.getElem?_eq_getElem hl])]
      simp [bv, List.getD_eq_getElem?_getD, List.getElem?_eq_getElem hl]
    rw [run_convert_bytes_arg w 34 5 Try.underlying34 Try.underlying5 b off n c (l.map fun x => (x.toNat : Int)) (by simp [h.len]) hcell 9 Try.underlying9]
    congr 2
    have e : (strOfNums (l.map fun x => (x.toNat : Int))).data.toList = (strOf l).data.toList := by
      rw [strOfNums_data, strOf, List.map_map]
      have : (fun n : Int => UInt8.ofNat n.toNat) ∘ (fun x : UInt8 => (x.toNat : Int)) = id := by
        funext x; simp
      rw [this, List.map_id]
    have gen : ∀ a b : ByteArray, a.data.toList = b.data.toList → a = b := by
      rintro ⟨⟨x⟩⟩ ⟨⟨y⟩⟩ h
      simp at h
      rw [h]
    exact gen _ _ e
end Go.Proofs.Ytbcgffgiifminaa
namespace Go.Proofs.Ytbcgffgiifminaa
open Go.RowKit
set_option maxRecDepth 10000
theorem wpAnyH_mono {P : Program} {ops : Array Oper} {Q : Exit → Act → World → Prop} {md : Region.Mode} {S S' : World → Prop} (hs : ∀ w, S' w → S w) :
    ∀ (fuel : Nat) (listed : Array Bool) (a : Act) (w : World), wpAnyH P md ops Q S' fuel listed a w → wpAnyH P md ops Q S fuel listed a w
  | 0, _, _, _, h => h
  | fuel + 1, _, _, _, h => ⟨h.1, fun i hi => wpOp_mono (fun a' w' h' => ⟨hs _ h'.1, wpAnyH_mono hs fuel _ a' w' h'.2⟩) (h.2 i hi)⟩
/-- The slice '.slice A n c' is read as the string of the bytes l. -/
def Reads (A : Option Addr) (n c : Nat) (l : List UInt8) (w : World) : Prop := (convert 34 9 (.slice A n c)).run Try.prog w = .ok (.string (strOf l)) w
theorem LiesB.reads {w : World} {B : Nat} {A : Option Addr} {n c : Nat} {l : List UInt8} (h : LiesB w B A n l) : Reads A n c l w := run_stringB h
end Go.Proofs.Ytbcgffgiifminaa
namespace Go.Proofs.Ytbcgffgiifminaa
open Go.RowKit
set_option maxRecDepth 10000
set_option linter.unusedVariables false
theorem elem_line : Elem 88 50 (.pointer none) 8 := ⟨Try.underlying88, by kernel_rfl, rfl⟩
theorem elem_bool : Elem 117 4 (.bool false) 1 := ⟨Try.underlying117, by kernel_rfl, rfl⟩
/-- A line's address. -/
def lptr (x : Nat × Option Nat) : Value := .pointer (some ⟨x.1, 0, none⟩)
section
variable {w w' : World} {p : Nat} {g : Option Nat} {l : List UInt8}
theorem LineAt.ne_blk (h : LineAt w p g l) {k k' : Nat} {T : TypeId} {cs : Array Value} (hk : lineBlocks p g k) (hb : Blk w k' T cs) (h1 : 109 ≠ T) (h2 : 5 ≠ T) : k ≠ k' := by
  obtain ⟨hl, A, c, hp, ho, hg⟩ := h
  rcases hk with rfl | hk
  · exact Blk.ne_ hp hb h1
  · rintro rfl
    exact ho.ne_blk hb h2 (by rw [hk, hg])
theorem LineAt.ne_row (h : LineAt w p g l) {k : Nat} {e : TypeId} {base n c : Nat} {A : Option Addr} {xs : List Value} (hk : lineBlocks p g k) (hr : OwnV e w base A n c xs) (h1 : 109 ≠ e) (h2 : 5 ≠ e) : ¬ Mine A n c k := by
  obtain ⟨hl, A1, c1, hp, ho, hg⟩ := h
  intro hm
  rcases hk with rfl | hk
  · rcases hr.2 with ⟨hv, _⟩ | ⟨g', cap, cur, hv, _, hh, _⟩
    · have hm' : some k = (Value.slice A n c).ownBlock := hm
      rw [hv] at hm'; simp [Value.ownBlock] at hm'
    · have hm' : some k = (Value.slice A n c).ownBlock := hm
      rw [hv] at hm'
      have e1 : k = g' := by simpa [Value.ownBlock] using hm'
      subst e1
      exact Blk.ne_ hp (show Blk w k e cur from hh) h1 rfl
  · exact (OwnV.of_B ho).apart hr h2 k (by rw [hg]; exact hk) hm
theorem LineAt.base {B : Nat} (h : LineAt w p g l) : ∀ k, lineBlocks p g k → k < w.heap.size := by
  intro k hk
  rcases hk with rfl | hk
  · exact h.lt.1
  · exact h.lt.2 k hk
end
theorem OwnV.ne_blk {w : World} {e : TypeId} {base n c k : Nat} {A : Option Addr} {xs : List Value} {T : TypeId} {cs : Array Value} (h : OwnV e w base A n c xs) (hb : Blk w k T cs) (he : e ≠ T) : ¬ Mine A n c k := by
  intro hm
  have hm' : some k = (Value.slice A n c).ownBlock := hm
  rcases h.2 with ⟨hv, _⟩ | ⟨g', cap, cur, hv, _, hh, _⟩
  · rw [hv] at hm'; simp [Value.ownBlock] at hm'
  · rw [hv] at hm'
    have e1 : k = g' := by simpa [Value.ownBlock] using hm'
    subst e1
    exact Blk.ne_ (show Blk w k e cur from hh) hb he rfl

/-- Block q is a queue (its blocks from B on): its row of lines, the lines' blocks, what they hold. -/
structure QAt (B : Nat) (w : World) (q : Nat) (A : Option Addr) (c : Nat) (xs : List (Nat × Option Nat)) (ls : List (List UInt8)) : Prop where
  head : Blk w q 90 #[.slice A xs.length c]
  base : B ≤ q
  row : OwnV 50 w B A xs.length c (xs.map lptr)
  len : ls.length = xs.length
  line : ∀ (i : Nat) (h : i < xs.length), LineAt w xs[i].1 xs[i].2 (ls.getD i [])
  lbase : ∀ (i : Nat) (h : i < xs.length), B ≤ xs[i].1 ∧ ∀ k, xs[i].2 = some k → B ≤ k
  apart : ∀ (i j : Nat) (hi : i < xs.length) (hj : j < xs.length), i ≠ j → xs[i].1 ≠ xs[j].1 ∧ ∀ k, xs[i].2 = some k → xs[j].2 ≠ some k
section
variable {B : Nat} {w w' : World} {q c : Nat} {A : Option Addr} {xs : List (Nat × Option Nat)} {ls : List (List UInt8)}
theorem QAt.below (h : QAt B w q A c xs ls) (hb : Below w.heap.size w w') : QAt B w' q A c xs ls :=
  ⟨h.head.below hb h.head.lt, h.base, h.row.below hb, h.len, fun i hi => (h.line i hi).below hb, h.lbase, h.apart⟩
theorem QAt.drew (h : QAt B w q A c xs ls) : QAt B w.drew q A c xs ls := h.below ⟨rfl, rfl, rfl, Nat.le_refl _, fun _ _ => rfl⟩
theorem QAt.cell (h : QAt B w q A c xs ls) : w.cell? ⟨q, 0, none⟩ = some (.slice A xs.length c) := by
  have := h.head.cell 0
  simpa using this
theorem QAt.ptr (h : QAt B w q A c xs ls) (i : Nat) (hi : i < xs.length) : ∃ g, A = some ⟨g, 0, none⟩ ∧ w.cell? ⟨g, i, none⟩ = some (.pointer (some ⟨xs[i].1, 0, none⟩)) := by
  obtain ⟨g, rfl, _, _⟩ := h.row.form (by omega)
  obtain ⟨hl, hc⟩ := h.row.cell (j := i) hi
  refine ⟨g, rfl, ?_⟩
  rw [hc, List.getElem_map]; rfl
theorem QAt.cap (h : QAt B w q A c xs ls) : xs.length ≤ c := h.row.cap
/-- One line is changed. -/
theorem QAt.put (h : QAt B w q A c xs ls) (hB : B ≤ w.heap.size) (i : Nat) (hi : i < xs.length) {g' : Option Nat} {l' : List UInt8} (hl : LineAt w' xs[i].1 g' l') (hk : Keeps (lineBlocks xs[i].1 xs[i].2) w w')
    (hg : g' = xs[i].2 ∨ ∃ k, g' = some k ∧ w.heap.size ≤ k) : QAt B w' q A c (xs.set i (xs[i].1, g')) (ls.set i l') := by
  have hn : (xs.set i (xs[i].1, g')).length = xs.length := List.length_set
  have hm : (xs.set i (xs[i].1, g')).map lptr = xs.map lptr := by
    rw [List.map_set]
    apply List.ext_getElem (by simp)
    intro j h1 h2
    rw [List.getElem_set]
    split
    · subst_vars; simp [lptr]
    · rfl
  refine ⟨?_, h.base, ?_, ?_, ?_, ?_, ?_⟩
  · rw [hn]
    exact h.head.keeps hk fun hs => (h.line i hi).ne_blk hs h.head (by decide) (by decide) rfl
  · rw [hn, hm]
    exact h.row.keeps hk fun k e hs => (h.line i hi).ne_row hs h.row (by decide) (by decide) e
  · rw [hn, List.length_set]; exact h.len
  · intro j hj
    rw [hn] at hj
    rw [List.getElem_set]
    by_cases e : i = j
    · subst e
      rw [if_pos rfl]
      have : (ls.set i l').getD i [] = l' := by rw [List.getD_eq_getElem?_getD, List.getElem?_set_self (by rw [h.len]; exact hi)]; rfl
      rw [this]
      exact hl
    · rw [if_neg e]
      have : (ls.set i l').getD j [] = ls.getD j [] := by rw [List.getD_eq_getElem?_getD, List.getElem?_set_ne e, ← List.getD_eq_getElem?_getD]
      rw [this]
      refine (h.line j hj).keeps hk fun k hkj hki => ?_
      obtain ⟨a1, a2⟩ := h.apart i j hi hj e
      rcases hki with hki | hki
      · rcases hkj with hkj | hkj
        · exact a1 (by omega)
        · obtain ⟨_, A1, c1, hp1, _, _⟩ := h.line i hi
          obtain ⟨_, A2, c2, _, ho2, hg2⟩ := h.line j hj
          subst hki
          exact ho2.ne_blk hp1 (by decide) (by rw [hkj, hg2])
      · rcases hkj with hkj | hkj
        · obtain ⟨_, A1, c1, hp1, _, _⟩ := h.line j hj
          obtain ⟨_, A2, c2, _, ho2, hg2⟩ := h.line i hi
          subst hkj
          exact ho2.ne_blk hp1 (by decide) (by rw [hki, hg2])
        · exact a2 k hki.symm hkj.symm
  · intro j hj
    rw [hn] at hj
    rw [List.getElem_set]
    by_cases e : i = j
    · subst e
      rw [if_pos rfl]
      refine ⟨(h.lbase i hi).1, fun k hk' => ?_⟩
      rcases hg with hg | ⟨k2, hg, h2⟩
      · exact (h.lbase i hi).2 k (by rw [← hg]; exact hk')
      · have hk2 : g' = some k := hk'
        rw [hg] at hk2; injection hk2 with hk2; omega
    · rw [if_neg e]; exact h.lbase j hj
  · intro a b ha hb hab
    rw [hn] at ha hb
    rw [List.getElem_set, List.getElem_set]
    have fresh : ∀ j (hj : j < xs.length), i ≠ j → ∀ k, g' = some k → xs[j].2 ≠ some k := by
      intro j hj e k hk' he
      rcases hg with hg | ⟨k2, hg, h2⟩
      · exact (h.apart i j hi hj e).2 k (by rw [← hg]; exact hk') he
      · rw [hg] at hk'; injection hk' with hk'
        have := (h.line j hj).lt.2 k he.symm
        omega
    by_cases e1 : i = a
    · subst e1
      rw [if_pos rfl, if_neg hab]
      exact ⟨(h.apart i b hi hb hab).1, fun k hk' => fresh b hb hab k hk'⟩
    · rw [if_neg e1]
      by_cases e2 : i = b
      · subst e2
        rw [if_pos rfl]
        exact ⟨(h.apart a i ha hi hab).1, fun k hk' he => fresh a ha e1 k he hk'⟩
      · rw [if_neg e2]
        exact h.apart a b ha hb hab
end
/-- The least of the lengths. -/
def frontK (ls : List (List UInt8)) (k : Nat) : Nat := (ls.take k).foldl (fun n x => min n x.length) (ls.getD 0 []).length
def front (ls : List (List UInt8)) : Nat := frontK ls ls.length
theorem frontK_succ (ls : List (List UInt8)) (k : Nat) (h : k < ls.length) : frontK ls (k + 1) = min (frontK ls k) (ls.getD k []).length := by
  unfold frontK
  rw [List.take_succ_eq_append_getElem h, List.foldl_append, List.getD_eq_getElem?_getD (i := k), List.getElem?_eq_getElem h]
  rfl
theorem frontK_le (ls : List (List UInt8)) (k : Nat) (h : k ≤ ls.length) : ∀ i, i < k → frontK ls k ≤ (ls.getD i []).length := by
  induction k with
  | zero => intro i hi; omega
  | succ k ih =>
    intro i hi
    rw [frontK_succ _ _ (by omega)]
    by_cases e : i = k
    · subst e; omega
    · have := ih (by omega) i (by omega); omega
theorem frontK_mem (ls : List (List UInt8)) (k : Nat) (h : k ≤ ls.length) (h0 : 0 < ls.length) : ∃ i, i < ls.length ∧ frontK ls k = (ls.getD i []).length := by
  induction k with
  | zero => exact ⟨0, h0, rfl⟩
  | succ k ih =>
    obtain ⟨i, hi, e⟩ := ih (by omega)
    rw [frontK_succ _ _ (by omega)]
    by_cases q : frontK ls k ≤ (ls.getD k []).length
    · exact ⟨i, hi, by omega⟩
    · exact ⟨k, by omega, by omega⟩
end Go.Proofs.Ytbcgffgiifminaa
namespace Go.Proofs.Ytbcgffgiifminaa
open Go.RowKit
set_option maxRecDepth 10000
set_option linter.unusedVariables false
section
variable {B : Nat} {w : World} {q c : Nat} {A : Option Addr} {xs : List (Nat × Option Nat)} {ls : List (List UInt8)}
set_option maxHeartbeats 400000 in
theorem queue_N (h : QAt B w q A c xs ls) {n : Int} (hn : n = (xs.length : Int)) :
    Calls Try.prog 50 #[.pointer (some ⟨q, 0, none⟩)] w fun e w' => e = .returned (.int .i64 n) ∧ w = w' := by
  have hc := h.cell
  obtain ⟨m, hm⟩ : ∃ m, m = xs.length := ⟨_, rfl⟩
  rw [← hm] at hc hn
  subst hn
  clear h hm
  go_enter Try.func50, Try.ntmps50
  go_wp2
  go_ret
  exact ⟨rfl, rfl⟩
set_option maxHeartbeats 400000 in
theorem queue_N_nil (w : World) : Calls Try.prog 50 #[.pointer none] w fun e w' => e = .returned (.int .i64 0) ∧ w = w' := by
  go_enter Try.func50, Try.ntmps50
  go_wp2
  go_ret
  exact ⟨rfl, rfl⟩
set_option maxHeartbeats 400000 in
theorem queue_Line (h : QAt B w q A c xs ls) (i : Nat) (hi : i < xs.length) (hi2 : xs.length ≤ 1000) {x : Int} (hx : x = (i : Int)) {p : Nat} (hp : p = xs[i].1) :
    Calls Try.prog 24 #[.pointer (some ⟨q, 0, none⟩), .int .i64 x] w fun e w' => e = .returned (.pointer (some ⟨p, 0, none⟩)) ∧ w = w' := by
  have hc := h.cell
  obtain ⟨g, hg, hcp⟩ := h.ptr i hi
  rw [← hp] at hcp
  have H := hide h
  obtain ⟨m, hm⟩ : ∃ m, m = xs.length := ⟨_, rfl⟩
  have HM : Hid ((m : Int) = (xs.length : Int)) := by show (m : Int) = _; rw [hm]
  rw [← hm] at hc hi hi2
  subst hg hx
  clear h hm hp
  go_enter Try.func24, Try.ntmps24
  go_wp2_with (go_at_call 50; (with_reducible refine Calls.mono (queue_N H.out HM.out) ?_); rintro e w1 ⟨rfl, rfl⟩)
  go_ret
  exact ⟨rfl, rfl⟩
set_option maxHeartbeats 400000 in
theorem queue_Line_out (h : QAt B w q A c xs ls) {x : Int} (hx : x < 0 ∨ (xs.length : Int) ≤ x) :
    Calls Try.prog 24 #[.pointer (some ⟨q, 0, none⟩), .int .i64 x] w fun e w' => e = .returned (.pointer none) ∧ w = w' := by
  have H := hide h
  obtain ⟨m, hm⟩ : ∃ m, m = xs.length := ⟨_, rfl⟩
  have HM : Hid ((m : Int) = (xs.length : Int)) := by show (m : Int) = _; rw [hm]
  rw [← hm] at hx
  clear h hm
  by_cases h0 : x < 0
  · have d : decide (x < 0) = true := decide_eq_true h0
    go_enter Try.func24, Try.ntmps24
    go_wp2
    go_ret
    exact ⟨rfl, rfl⟩
  · have d : decide (x < 0) = false := decide_eq_false h0
    have h1 : (m : Int) ≤ x := by omega
    go_enter Try.func24, Try.ntmps24
    go_wp2_with (go_at_call 50; (with_reducible refine Calls.mono (queue_N H.out HM.out) ?_); rintro e w1 ⟨rfl, rfl⟩)
    go_ret
    exact ⟨rfl, rfl⟩
set_option maxHeartbeats 400000 in
theorem queue_Line_nil (x : Int) (w : World) : Calls Try.prog 24 #[.pointer none, .int .i64 x] w fun e w' => e = .returned (.pointer none) ∧ w = w' := by
  by_cases h0 : x < 0
  · have d : decide (x < 0) = true := decide_eq_true h0
    go_enter Try.func24, Try.ntmps24
    go_wp2
    go_ret
    exact ⟨rfl, rfl⟩
  · have d : decide (x < 0) = false := decide_eq_false h0
    have h1 : 0 ≤ x := by omega
    go_enter Try.func24, Try.ntmps24
    go_wp2_with (go_at_call 50; (with_reducible refine Calls.mono (queue_N_nil _) ?_); rintro e w1 ⟨rfl, rfl⟩)
    go_ret
    exact ⟨rfl, rfl⟩
set_option maxHeartbeats 1000000 in
set_option maxRecDepth 10000 in
theorem queue_Front (h : QAt B w q A c xs ls) (h0 : 0 < xs.length) (h8 : xs.length ≤ 1000) {f : Int} (hf : f = (front ls : Int)) :
    Calls Try.prog 18 #[.pointer (some ⟨q, 0, none⟩)] w fun e w' => e = .returned (.int .i64 f) ∧ w = w' := by
  have hc := h.cell
  obtain ⟨g, hg, hc0⟩ := h.ptr 0 h0
  have H := hide h
  have HP := hide (fun i hi => h.ptr i hi)
  obtain ⟨m, hm⟩ : ∃ m, m = xs.length := ⟨_, rfl⟩
  have HM : Hid ((m : Int) = (xs.length : Int)) := by show (m : Int) = _; rw [hm]
  have HMN := hide hm
  have HL : Hid (ls.length = m) := by show ls.length = m; rw [h.len, hm]
  have HF : Hid (f = ((frontK ls m : Nat) : Int)) := by show f = _; rw [hf, front, h.len, hm]
  obtain ⟨p0, hp0⟩ : ∃ p, p = xs[0].1 := ⟨_, rfl⟩
  rw [← hp0] at hc0
  have HL0 : Hid (LineAt w p0 xs[0].2 (ls.getD 0 [])) := by rw [hp0]; exact h.line 0 h0
  rw [← hm] at hc h0 h8
  subst hg
  have hm0 : ((m : Int) == 0) = false := by simp; omega
  have H1000 : Hid (∀ k, frontK ls k ≤ 1000) := by
    intro k
    induction k with
    | zero => exact (h.line 0 (by omega)).1
    | succ k ih =>
      by_cases e : k < ls.length
      · rw [frontK_succ _ _ e]; omega
      · have : frontK ls (k + 1) = frontK ls k := by unfold frontK; rw [List.take_of_length_le (by omega), List.take_of_length_le (by omega)]
        omega
  clear h hm hf hp0
  go_enter Try.func18, Try.ntmps18
  go_wp2_with (go_at_call 50; (with_reducible refine Calls.mono (queue_N H.out HM.out) ?_); rintro e w1 ⟨rfl, rfl⟩)
  refine Calls.mono (line_Len_v p0 _ _ ((frontK ls 0 : Nat) : Int) _ HL0.out rfl) ?_
  rintro e w1 ⟨rfl, rfl⟩
  go_wp2_with fail
  go_loopg [3, 21] m (fun gg n i wr => ∃ k : Nat, k ≤ m ∧ gg = m - k ∧ i = .int .i64 k ∧ n = .int .i64 ((frontK ls k : Nat) : Int) ∧ w = wr)
  case atStart => exact ⟨0, by omega, rfl, rfl, rfl, rfl⟩
  case round =>
    obtain ⟨k, hk, rfl, rfl, rfl, rfl⟩ := hrel
    obtain ⟨fk, hfk⟩ : ∃ fk, fk = frontK ls k := ⟨_, rfl⟩
    rw [← hfk]
    have HFK := hide hfk
    have hfk1 : fk ≤ 1000 := by rw [hfk]; exact H1000.out k
    clear hfk
    by_cases hlt : k < m
    · obtain ⟨g2, hg2, hck⟩ := HP.out k (by have := HMN.out; omega)
      injection hg2 with hg2
      injection hg2 with hg2
      subst hg2
      obtain ⟨p, hp⟩ : ∃ p, p = (xs[k]'(by have := HMN.out; omega)).1 := ⟨_, rfl⟩
      rw [← hp] at hck
      have HLk : Hid (LineAt w p (xs[k]'(by have := HMN.out; omega)).2 (ls.getD k [])) := by rw [hp]; exact H.out.line k _
      obtain ⟨n, hn⟩ : ∃ n, n = (ls.getD k []).length := ⟨_, rfl⟩
      have HN : Hid (((ls.getD k []).length : Int) = (n : Int)) := by show _ = (n : Int); rw [hn]
      obtain ⟨f2, hf2⟩ : ∃ f2, f2 = frontK ls (k + 1) := ⟨_, rfl⟩
      have hmin : min (fk : Int) (n : Int) = (f2 : Int) := by
        rw [hf2, frontK_succ _ _ (by rw [HL.out]; exact hlt), ← HFK.out, ← hn]; omega
      have HF2 := hide hf2
      clear hp hn hf2
      go_wp2_with fail
      refine Calls.mono (line_Len_v p _ _ (n : Int) _ HLk.out HN.out) ?_
      rintro e w1 ⟨rfl, rfl⟩
      go_wp2_with fail
      go_roundg (m - (k + 1))
      case measure => omega
      case rel => exact ⟨k + 1, by omega, rfl, by go_num, by rw [HF2.out], rfl⟩
    · obtain rfl : k = m := by omega
      have e : Hid ((fk : Int) = f) := by show (fk : Int) = f; rw [HF.out, HFK.out]
      go_wp2
      go_ret
      refine ⟨?_, rfl⟩
      show Ending.returned (.int .i64 (fk : Int)) = _
      rw [e.out]
set_option maxHeartbeats 400000 in
theorem queue_Front_nil (w : World) : Calls Try.prog 18 #[.pointer none] w fun e w' => e = .returned (.int .i64 0) ∧ w = w' := by
  go_enter Try.func18, Try.ntmps18
  go_wp2_with (go_at_call 50; (with_reducible refine Calls.mono (queue_N_nil _) ?_); rintro e w1 ⟨rfl, rfl⟩)
  go_ret
  exact ⟨rfl, rfl⟩
/-- What all pressed in a frame. -/
def jointOf (ls : List (List UInt8)) (f : Nat) : List UInt8 := ls.map fun l => l.getD f 0
theorem jointOf_snoc (ls : List (List UInt8)) (f k : Nat) (h : k < ls.length) : jointOf (ls.take (k + 1)) f = jointOf (ls.take k) f ++ [(ls.getD k []).getD f 0] := by
  unfold jointOf
  rw [List.take_succ_eq_append_getElem h, List.map_append, List.getD_eq_getElem?_getD (i := k), List.getElem?_eq_getElem h]
  rfl
theorem atLine_nat (l : List UInt8) (f : Nat) : atLine l (f : Int) = l.getD f 0 := by
  rw [atLine, if_neg (by omega)]; rfl
/-- Of whom a frame is known. -/
def knownOf (ls : List (List UInt8)) (f : Int) : List Value := ls.map fun l => .bool (inLine l f)
theorem knownOf_snoc (ls : List (List UInt8)) (f : Int) (k : Nat) (h : k < ls.length) : knownOf (ls.take (k + 1)) f = knownOf (ls.take k) f ++ [.bool (inLine (ls.getD k []) f)] := by
  unfold knownOf
  rw [List.take_succ_eq_append_getElem h, List.map_append, List.getD_eq_getElem?_getD (i := k), List.getElem?_eq_getElem h]
  rfl
end
end Go.Proofs.Ytbcgffgiifminaa
namespace Go.Proofs.Ytbcgffgiifminaa
open Go.RowKit
set_option maxRecDepth 10000
set_option linter.unusedVariables false
theorem QAt.add {B : Nat} {w w2 w4 : World} {q c c' : Nat} {A A' : Option Addr} {xs : List (Nat × Option Nat)} {ls : List (List UInt8)} {p : Nat} {g : Option Nat} {l : List UInt8} {o : Obj} (h : QAt B w q A c xs ls) (hB : B ≤ w.heap.size)
    (hb : Below w.heap.size w w2) (hl : LineAt w2 p g l) (hp : w.heap.size ≤ p) (hg : ∀ k, some k = g → w.heap.size ≤ k) (hr : OwnV 50 w4 B A' (xs.length + 1) c' (xs.map lptr ++ [lptr (p, g)])) (hk : Keeps (Mine A xs.length c) (w2.alloc o) w4) :
    QAt B (w4.setCell ⟨q, 0, none⟩ (.slice A' (xs.length + 1) c')) q A' c' (xs ++ [(p, g)]) (ls ++ [l]) := by
  have h3 := (h.below hb).below (Below_new w2 o)
  have l3 := hl.below (Below_new w2 o)
  have head4 := h3.head.keeps hk (h3.row.ne_blk h3.head (by decide))
  have line4 : ∀ (i : Nat) (hi : i < xs.length), LineAt w4 xs[i].1 xs[i].2 (ls.getD i []) := fun i hi => (h3.line i hi).keeps hk fun k hk' => (h3.line i hi).ne_row hk' h3.row (by decide) (by decide)
  have l4 : LineAt w4 p g l := l3.keeps hk fun k hk' => l3.ne_row hk' h3.row (by decide) (by decide)
  have kc := Keeps.setCell w4 ⟨q, 0, none⟩ (.slice A' (xs.length + 1) c')
  have en : (xs ++ [(p, g)]).length = xs.length + 1 := by simp
  have key : ∀ (i : Nat) (hi : i < (xs ++ [(p, g)]).length), (i < xs.length ∧ ∃ h : i < xs.length, (xs ++ [(p, g)])[i] = xs[i]) ∨ (i = xs.length ∧ (xs ++ [(p, g)])[i] = (p, g)) := by
    intro i hi
    by_cases e : i < xs.length
    · exact .inl ⟨e, e, List.getElem_append_left e⟩
    · have : i = xs.length := by omega
      subst this
      exact .inr ⟨rfl, by simp⟩
  refine ⟨?_, h.base, ?_, by rw [List.length_append, h.len, en]; rfl, ?_, ?_, ?_⟩
  · rw [en]
    exact head4.set_ 0 _
  · rw [en, List.map_append]
    exact hr.keeps kc fun k e hs => by
      have hs : k = q := hs
      subst hs
      exact hr.ne_blk head4 (by decide) e
  · intro i hi
    rcases key i hi with ⟨e, e', e2⟩ | ⟨e, e2⟩
    · rw [e2]
      have : (ls ++ [l]).getD i [] = ls.getD i [] := by rw [List.getD_eq_getElem?_getD, List.getElem?_append_left (by rw [h.len]; exact e), ← List.getD_eq_getElem?_getD]
      rw [this]
      exact (line4 i e).keeps kc fun k hk' hs => (line4 i e).ne_blk hk' head4 (by decide) (by decide) hs
    · rw [e2]
      have : (ls ++ [l]).getD i [] = l := by rw [List.getD_eq_getElem?_getD, List.getElem?_append_right (by rw [h.len, e]; exact Nat.le_refl _), h.len, e, Nat.sub_self]; rfl
      rw [this]
      exact l4.keeps kc fun k hk' hs => l4.ne_blk hk' head4 (by decide) (by decide) hs
  · intro i hi
    rcases key i hi with ⟨e, e', e2⟩ | ⟨e, e2⟩
    · rw [e2]; exact h.lbase i e
    · rw [e2]; exact ⟨by show B ≤ p; omega, fun k hk' => by have := hg k hk'.symm; omega⟩
  · intro i j hi hj hij
    rcases key i hi with ⟨e, e', e2⟩ | ⟨e, e2⟩
    · rcases key j hj with ⟨f, f', f2⟩ | ⟨f, f2⟩
      · rw [e2, f2]; exact h.apart i j e f hij
      · rw [e2, f2]
        have hlt := (h.line i e).lt
        refine ⟨by show xs[i].1 ≠ p; omega, fun k h1 h2 => ?_⟩
        have := hlt.2 k h1.symm
        have := hg k (h2 : g = some k).symm
        omega
    · rcases key j hj with ⟨f, f', f2⟩ | ⟨f, f2⟩
      · rw [e2, f2]
        have hlt := (h.line j f).lt
        refine ⟨by show p ≠ xs[j].1; omega, fun k h1 h2 => ?_⟩
        have := hlt.2 k h2.symm
        have := hg k (h1 : g = some k).symm
        omega
      · omega
/-- append to a row of the call's own, inside a region that draws. -/
theorem step_appendV {t e : TypeId} {z : Value} {nb : Nat} (E : Elem t e z nb) {ops : Array Oper} {o : Oper} {a : Act} {w : World} {K : Act → World → Prop} {Q : Exit → Act → World → Prop} {F : Prop} (hg : o.guard = none) (s x : Operand)
    (ho : o.op = .call { callee := .builtin .append, args := #[s, x], argTypes := #[t, t] })
    (base : Nat) (A : Option Addr) (n c : Nat) (l : List Value) (hs : a.eval s = .slice A n c) (hown : OwnV e w base A n c l)
    (B : Nat) (A2 : Option Addr) (m c2 : Nat) (l2 : List Value) (hx : a.eval x = .slice A2 m c2) (hm : l2.length = m) (hr : Lies w B A2 l2) (h1 : ∀ u ∈ l2, u.oneCell' = true) (hpos : 0 < m) (k : Nat) (l3 : List Value) (hk : n + m = k) (hl3 : l ++ l2 = l3) (hsum : k ≤ 281474976710656) (hbytes : k * nb ≤ 140737488355328) (hbase : base ≤ w.heap.size)
    (h : ∀ A' c' w', OwnV e w' base A' k c' l3 → Keeps (Mine A n c) w w' →
      ((Value.slice A' k c').ownBlock = (Value.slice A n c).ownBlock ∨ (Value.slice A' k c').ownBlock = some w.heap.size) → K (a.put o.dst (.slice A' k c')) w') :
    if Region.wanted o (yielded ops a.tmps) = true then Oper.wp Try.prog o a w K Q else F := by
  have hw : Region.wanted o (yielded ops a.tmps) = true := by simp [Region.wanted, hg]
  rw [if_pos hw]
  subst hk hl3
  obtain ⟨A', c', w', hrun, h2, h3, h4⟩ := run_appendV E w base o.type A n c l hown B A2 m c2 l2 hm hr h1 hsum hbytes hbase hpos
  unfold Oper.wp execOp
  simp only [ho, resolve, invoke, builtin, Sem.run_bind, Sem.run_pure, Result.andThen_ok, List.map_toArray, List.map_cons, List.map_nil, hs, hx, hrun]
  exact h A' c' w' h2 (Keeps.grown h3) h4
theorem QAt.new (w : World) : QAt w.heap.size (w.alloc (.cells #[.slice none 0 0] 90)) w.heap.size none 0 [] [] :=
  ⟨Blk.new _ _ _, Nat.le_refl _, OwnV.nil _ _ _, rfl, fun i h => by simp at h, fun i h => by simp at h, fun i j h => by simp at h⟩
set_option maxHeartbeats 1000000 in
set_option maxRecDepth 10000 in
theorem queue_New (n delay : Int) (m d : Nat) (w : World) (hm : min (max n 2) 8 = (m : Int)) (hd : (min (max delay 0) 8).toNat = d) :
    Calls Try.prog 47 #[.int .i64 n, .int .i64 delay] w fun e w' =>
      ∃ q A c xs, e = .returned (.pointer (some ⟨q, 0, none⟩)) ∧ xs.length = m ∧ QAt w.heap.size w' q A c xs (List.replicate m (List.replicate d 0)) ∧ Below w.heap.size w w' := by
  have hm8 : m ≤ 8 := by omega
  have Hd := hide hd
  clear hd
  go_enter Try.func47, Try.ntmps47
  go_wp2
  go_loopg [11] m (fun gg i wr => ∃ (k : Nat) (A : Option Addr) (c : Nat) (xs : List (Nat × Option Nat)), k ≤ m ∧ gg = m - k ∧ i = .int .i64 k ∧ xs.length = k ∧ QAt w.heap.size wr w.heap.size A c xs (List.replicate k (List.replicate d 0)) ∧ Below w.heap.size w wr)
  case atStart => exact ⟨0, none, 0, [], by omega, rfl, rfl, rfl, QAt.new w, Below_new _ _⟩
  case round =>
    obtain ⟨k, A, c, xs, hk, rfl, rfl, hx, hq, hb⟩ := hrel
    have HQ := hide hq
    have HB := hide hb
    have HX := hide hx
    have hsz := hb.size
    have hc := hq.cell
    rw [hx] at hc
    clear hq hb hx
    by_cases hlt : k < m
    · go_wp2_with fail
      refine wp_region_noPanic ?_
      refine wp_region_held_drew (S := (fun _ => True)) (by kernel_rfl) trivial (fun hHeld => ?_)
      refine tk0 0 ?_
      refine tk 1 ?_
      refine tk 2 ?_
      refine tk 3 ?_
      refine tk 5 ?_
      refine wpAnyH_ready (rs := [4, 6]) (by kernel_rfl) (by simp) ?_
      refine AllReadyH.cons (o := ?_) ?_ (fun K hK => ?_) ?_
      rotate_left 1
      · (simp only [List.getElem?_toArray, List.getElem?_cons_succ, List.getElem?_cons_zero]; rfl)
      · go_simp
        skip
        refine hK.out _ _ trivial (fun hHeld => ?_)
        clear hK K
        try simp only [Act.put, List.setIfInBounds_toArray, List.set_cons_zero, List.set_cons_succ]
        refine rdy 6 fun K hK => ?_
        go_simp
        refine Calls.mono (input_New_v delay d _ Hd.out) ?_
        rintro e w4 ⟨p, g, rfl, h1, h2, h3, h4⟩
        have h2' : Below wr.heap.size wr w4 := Below_step ((Below.refl _ _).drew) h2
        have Q4 := HQ.out.below h2'
        have hc4 := Q4.cell
        rw [HX.out] at hc4
        refine hK.out _ _ trivial (fun hHeld => ?_)
        clear hK K
        try simp only [Act.put, List.setIfInBounds_toArray, List.set_cons_zero, List.set_cons_succ]
        have hc7 := (Q4.below (Below_new w4 (.cells #[.pointer (some ⟨p, 0, none⟩)] 50))).cell
        rw [HX.out] at hc7
        refine rdy 7 fun K hK => ?_
        go_simp
        refine hK.out _ _ trivial (fun hHeld => ?_)
        clear hK K
        try simp only [Act.put, List.setIfInBounds_toArray, List.set_cons_zero, List.set_cons_succ]
        refine rdy 8 fun K hK => ?_
        refine step_appendV elem_line rfl (.tmp 17) (.tmp 20) rfl w.heap.size A k c (xs.map lptr) rfl (by have q := Q4.row.below (Below_new w4 (.cells #[.pointer (some ⟨p, 0, none⟩)] 50)); rw [HX.out] at q; exact q) _ _ 1 1 [lptr (p, g)] rfl rfl (Lies.new _ _ _ _) (by simp [Value.oneCell', lptr]) (by omega) (k + 1) _ rfl rfl (by omega) (by omega) (by have := h2'.size; simp; omega) ?_
        intro A5 c5 w5 own5 k5 hk5
        have head5 := (Q4.below (Below_new w4 (.cells #[.pointer (some ⟨p, 0, none⟩)] 50)))
        have head5 := head5.head.keeps k5 (by have q := head5.row.ne_blk head5.head (by decide); rw [HX.out] at q; exact q)
        have hc5 := head5.cell 0
        have hf5 := head5.frozen 0
        simp only [List.getElem?_toArray, List.getElem?_cons_zero] at hc5
        rw [HX.out] at hc5
        refine hK.out _ _ trivial (fun hHeld => ?_)
        clear hK K
        try simp only [Act.put, List.setIfInBounds_toArray, List.set_cons_zero, List.set_cons_succ]
        refine tk 9 ?_
        refine tk 10 ?_
        refine rdy 11 fun K hK => ?_
        go_simp
        refine hK.out _ _ trivial (fun hHeld => ?_)
        clear hK K
        try simp only [Act.put]
        refine wpAnyH_done (by kernel_rfl) (NoPanic.normal ?_) _
        have NQ := HQ.out.add hsz h2' h1 h3 h4 (by rw [HX.out]; exact own5) (by rw [HX.out]; exact k5)
        rw [HX.out] at NQ
        have hsz4 := h2'.size
        have NB := ((HB.out.trans (h2'.mono hsz)).trans (((Below_new w4 (.cells #[.pointer (some ⟨p, 0, none⟩)] 50)).mono (by omega)).trans (k5.belowV (e := 50) (l := xs.map lptr) (by have q := HQ.out.row; rw [HX.out] at q; exact q) (by simp; omega)))).setCell (p := ⟨w.heap.size, 0, none⟩) (Nat.le_refl _) (.slice A5 (k + 1) c5)
        have HNQ := hide NQ
        have HNB := hide NB
        clear NQ NB own5 k5 hk5 head5 Q4 h1 h2 h2' h3 h4 hc hc4 hc5 hf5
        go_wp2_with fail
        go_roundg (m - (k + 1))
        case measure => omega
        case rel => exact ⟨k + 1, A5, c5, xs ++ [(p, g)], by omega, rfl, by go_num, by simp; exact HX.out, by rw [List.replicate_succ']; exact HNQ.out, HNB.out⟩
      refine AllReadyH.cons (o := ?_) ?_ (fun K hK => ?_) ?_
      rotate_left 1
      · (simp only [List.getElem?_toArray, List.getElem?_cons_succ, List.getElem?_cons_zero]; rfl)
      · go_simp
        refine Calls.mono (input_New_v delay d _ Hd.out) ?_
        rintro e w4 ⟨p, g, rfl, h1, h2, h3, h4⟩
        have h2' : Below wr.heap.size wr w4 := Below_step ((Below.refl _ _).drew) h2
        have Q4 := HQ.out.below h2'
        have hc4 := Q4.cell
        rw [HX.out] at hc4
        refine hK.out _ _ trivial (fun hHeld => ?_)
        clear hK K
        try simp only [Act.put, List.setIfInBounds_toArray, List.set_cons_zero, List.set_cons_succ]
        have hc7 := (Q4.below (Below_new w4 (.cells #[.pointer (some ⟨p, 0, none⟩)] 50))).cell
        rw [HX.out] at hc7
        refine wpAnyH_ready (rs := [4, 7]) (by kernel_rfl) (by simp) ?_
        refine AllReadyH.cons (o := ?_) ?_ (fun K hK => ?_) ?_
        rotate_left 1
        · (simp only [List.getElem?_toArray, List.getElem?_cons_succ, List.getElem?_cons_zero]; rfl)
        · go_simp
          skip
          refine hK.out _ _ trivial (fun hHeld => ?_)
          clear hK K
          try simp only [Act.put, List.setIfInBounds_toArray, List.set_cons_zero, List.set_cons_succ]
          refine rdy 7 fun K hK => ?_
          go_simp
          refine hK.out _ _ trivial (fun hHeld => ?_)
          clear hK K
          try simp only [Act.put, List.setIfInBounds_toArray, List.set_cons_zero, List.set_cons_succ]
          refine rdy 8 fun K hK => ?_
          refine step_appendV elem_line rfl (.tmp 17) (.tmp 20) rfl w.heap.size A k c (xs.map lptr) rfl (by have q := Q4.row.below (Below_new w4 (.cells #[.pointer (some ⟨p, 0, none⟩)] 50)); rw [HX.out] at q; exact q) _ _ 1 1 [lptr (p, g)] rfl rfl (Lies.new _ _ _ _) (by simp [Value.oneCell', lptr]) (by omega) (k + 1) _ rfl rfl (by omega) (by omega) (by have := h2'.size; simp; omega) ?_
          intro A5 c5 w5 own5 k5 hk5
          have head5 := (Q4.below (Below_new w4 (.cells #[.pointer (some ⟨p, 0, none⟩)] 50)))
          have head5 := head5.head.keeps k5 (by have q := head5.row.ne_blk head5.head (by decide); rw [HX.out] at q; exact q)
          have hc5 := head5.cell 0
          have hf5 := head5.frozen 0
          simp only [List.getElem?_toArray, List.getElem?_cons_zero] at hc5
          rw [HX.out] at hc5
          refine hK.out _ _ trivial (fun hHeld => ?_)
          clear hK K
          try simp only [Act.put, List.setIfInBounds_toArray, List.set_cons_zero, List.set_cons_succ]
          refine tk 9 ?_
          refine tk 10 ?_
          refine rdy 11 fun K hK => ?_
          go_simp
          refine hK.out _ _ trivial (fun hHeld => ?_)
          clear hK K
          try simp only [Act.put]
          refine wpAnyH_done (by kernel_rfl) (NoPanic.normal ?_) _
          have NQ := HQ.out.add hsz h2' h1 h3 h4 (by rw [HX.out]; exact own5) (by rw [HX.out]; exact k5)
          rw [HX.out] at NQ
          have hsz4 := h2'.size
          have NB := ((HB.out.trans (h2'.mono hsz)).trans (((Below_new w4 (.cells #[.pointer (some ⟨p, 0, none⟩)] 50)).mono (by omega)).trans (k5.belowV (e := 50) (l := xs.map lptr) (by have q := HQ.out.row; rw [HX.out] at q; exact q) (by simp; omega)))).setCell (p := ⟨w.heap.size, 0, none⟩) (Nat.le_refl _) (.slice A5 (k + 1) c5)
          have HNQ := hide NQ
          have HNB := hide NB
          clear NQ NB own5 k5 hk5 head5 Q4 h1 h2 h2' h3 h4 hc hc4 hc5 hf5
          go_wp2_with fail
          go_roundg (m - (k + 1))
          case measure => omega
          case rel => exact ⟨k + 1, A5, c5, xs ++ [(p, g)], by omega, rfl, by go_num, by simp; exact HX.out, by rw [List.replicate_succ']; exact HNQ.out, HNB.out⟩
        refine AllReadyH.cons (o := ?_) ?_ (fun K hK => ?_) ?_
        rotate_left 1
        · (simp only [List.getElem?_toArray, List.getElem?_cons_succ, List.getElem?_cons_zero]; rfl)
        · go_simp
          skip
          refine hK.out _ _ trivial (fun hHeld => ?_)
          clear hK K
          try simp only [Act.put, List.setIfInBounds_toArray, List.set_cons_zero, List.set_cons_succ]
          refine rdy 4 fun K hK => ?_
          go_simp
          refine hK.out _ _ trivial (fun hHeld => ?_)
          clear hK K
          try simp only [Act.put, List.setIfInBounds_toArray, List.set_cons_zero, List.set_cons_succ]
          refine rdy 8 fun K hK => ?_
          refine step_appendV elem_line rfl (.tmp 17) (.tmp 20) rfl w.heap.size A k c (xs.map lptr) rfl (by have q := Q4.row.below (Below_new w4 (.cells #[.pointer (some ⟨p, 0, none⟩)] 50)); rw [HX.out] at q; exact q) _ _ 1 1 [lptr (p, g)] rfl rfl (Lies.new _ _ _ _) (by simp [Value.oneCell', lptr]) (by omega) (k + 1) _ rfl rfl (by omega) (by omega) (by have := h2'.size; simp; omega) ?_
          intro A5 c5 w5 own5 k5 hk5
          have head5 := (Q4.below (Below_new w4 (.cells #[.pointer (some ⟨p, 0, none⟩)] 50)))
          have head5 := head5.head.keeps k5 (by have q := head5.row.ne_blk head5.head (by decide); rw [HX.out] at q; exact q)
          have hc5 := head5.cell 0
          have hf5 := head5.frozen 0
          simp only [List.getElem?_toArray, List.getElem?_cons_zero] at hc5
          rw [HX.out] at hc5
          refine hK.out _ _ trivial (fun hHeld => ?_)
          clear hK K
          try simp only [Act.put, List.setIfInBounds_toArray, List.set_cons_zero, List.set_cons_succ]
          refine tk 9 ?_
          refine tk 10 ?_
          refine rdy 11 fun K hK => ?_
          go_simp
          refine hK.out _ _ trivial (fun hHeld => ?_)
          clear hK K
          try simp only [Act.put]
          refine wpAnyH_done (by kernel_rfl) (NoPanic.normal ?_) _
          have NQ := HQ.out.add hsz h2' h1 h3 h4 (by rw [HX.out]; exact own5) (by rw [HX.out]; exact k5)
          rw [HX.out] at NQ
          have hsz4 := h2'.size
          have NB := ((HB.out.trans (h2'.mono hsz)).trans (((Below_new w4 (.cells #[.pointer (some ⟨p, 0, none⟩)] 50)).mono (by omega)).trans (k5.belowV (e := 50) (l := xs.map lptr) (by have q := HQ.out.row; rw [HX.out] at q; exact q) (by simp; omega)))).setCell (p := ⟨w.heap.size, 0, none⟩) (Nat.le_refl _) (.slice A5 (k + 1) c5)
          have HNQ := hide NQ
          have HNB := hide NB
          clear NQ NB own5 k5 hk5 head5 Q4 h1 h2 h2' h3 h4 hc hc4 hc5 hf5
          go_wp2_with fail
          go_roundg (m - (k + 1))
          case measure => omega
          case rel => exact ⟨k + 1, A5, c5, xs ++ [(p, g)], by omega, rfl, by go_num, by simp; exact HX.out, by rw [List.replicate_succ']; exact HNQ.out, HNB.out⟩
        exact AllReadyH.nil
      exact AllReadyH.nil
    · obtain rfl : k = m := by omega
      go_wp2
      go_ret
      exact ⟨w.heap.size, A, c, xs, rfl, HX.out, HQ.out, HB.out⟩
end Go.Proofs.Ytbcgffgiifminaa
namespace Go.Proofs.Ytbcgffgiifminaa
open Go.RowKit
set_option maxRecDepth 10000

/-- A type that is an array or a struct? -/
def rowDesc : TypeDesc → Bool
  | .struct _ | .array _ _ => true
  | _ => false
/-- Block g holds just the values l, as a variable of type T. -/
def Arr (T : TypeId) (w : World) (g : Nat) (l : List Value) : Prop := Blk w g T l.toArray
section
variable {T : TypeId} {w w' : World} {g : Nat} {l : List Value}
theorem Arr.blk (h : Arr T w g l) : w.heap[g]? = some (.cells l.toArray T (0, 0)) := h
theorem Arr.lt (h : Arr T w g l) : g < w.heap.size := Blk.lt h
theorem Arr.new (T : TypeId) (w : World) (cs : Array Value) (l : List Value) (h : cs.toList = l) : Arr T (w.alloc (.cells cs T)) w.heap.size l := by
  subst h
  exact heap_alloc_new w _
theorem Arr.below {B : Nat} (h : Arr T w g l) (hb : Below B w w') (hg : g < B) : Arr T w' g l := by
  unfold Arr Blk
  rw [hb.block g hg]
  exact h
theorem Arr.belowN (h : Arr T w g l) (hb : Below w.heap.size w w') : Arr T w' g l := h.below hb h.lt
theorem Arr.keeps {S : Nat → Prop} (h : Arr T w g l) (hk : Keeps S w w') (hn : ¬ S g) : Arr T w' g l := by
  unfold Arr Blk
  rw [hk.block g h.lt hn]
  exact h
theorem Arr.drew (h : Arr T w g l) : Arr T w.drew g l := h
theorem Arr.drewN (h : Arr T w g l) (k : Nat) : Arr T (w.drewN k) g l := h
theorem Arr.cell (h : Arr T w g l) {j : Nat} (hj : j < l.length) : w.cell? ⟨g, j, none⟩ = some l[j] := by
  rw [cell_of_row w g j _ T _ h]
  simp [List.getElem?_eq_getElem hj]
theorem Arr.frozen (h : Arr T w g l) (j : Nat) : w.frozen? ⟨g, j, none⟩ = false := frozen_of_row w g j _ T h
theorem Arr.set (h : Arr T w g l) (j : Nat) (x : Value) : Arr T (w.setCell ⟨g, j, none⟩ x) g (l.set j x) := by
  unfold Arr Blk
  rw [heap_setCell_same w g j _ T x h]
  simp
theorem Arr.lies (h : Arr T w g l) : Lies w w.heap.size (some ⟨g, 0, none⟩) l := fun _ =>
  ⟨g, 0, rfl, h.lt, fun j u hu => by
    rw [Nat.zero_add, cell_of_row w g j _ T _ h]
    simpa using hu⟩
end

/-- The whole array is read. -/
theorem wpA_load {ops : Array Oper} {rest : List Oper} {o : Oper} {a : Act} {w : World} {Q : Exit → Act → World → Prop} (hgd : o.guard = none) (ty : TypeId) (x : Operand) (ho : o.op = .load ty x)
    (g : Nat) (hx : a.eval x = .pointer (some ⟨g, 0, none⟩)) (T : TypeId) (l : List Value) (hg : Arr T w g l) (n : Nat) (e : TypeId) (hu : Try.prog.underlying ty = some (.array n e))
    (hi : (Try.prog.info? ty).map (·.size) = some n) (hn : l.length = n) (h : wpList Try.prog ops Q rest (a.put o.dst (.agg l.toArray)) w) : wpList Try.prog ops Q (o :: rest) a w :=
  wpList_load_row hgd ty x ho g hx T l.toArray (0, 0) _ hg hu rfl (by rw [hi]; simp [hn]) h
/-- The whole array is written. -/
theorem wpA_store {ops : Array Oper} {rest : List Oper} {o : Oper} {a : Act} {w : World} {Q : Exit → Act → World → Prop} (hgd : o.guard = none) (ty : TypeId) (x y : Operand) (ho : o.op = .store ty x y)
    (g : Nat) (l' : List Value) (hx : a.eval x = .pointer (some ⟨g, 0, none⟩)) (hy : a.eval y = .agg l'.toArray) (T : TypeId) (l : List Value) (hg : Arr T w g l) (n : Nat)
    (hi : (Try.prog.info? ty).map (·.size) = some n) (hn : l.length = n) (hn' : l'.length = n) (h1 : ∀ u ∈ l', u.oneCell' = true)
    (h : ∀ w', Arr T w' g l' → Keeps (fun k => k = g) w w' → w'.heap.size = w.heap.size → wpList Try.prog ops Q rest (a.put o.dst undef) w') : wpList Try.prog ops Q (o :: rest) a w :=
  wpList_store_row hgd ty x y ho g l'.toArray hx hy T l.toArray hg (by rw [hi]; simp [hn']) (by simp [hn, hn']) (Array.all_eq_true_iff_forall_mem.2 fun v hv => h1 v (by simpa using hv))
    (h _ (setRow_heap w g _ _ T _ hg) ⟨rfl, rfl, rfl, by simp, fun k _ hk => setRow_other w g k _ hk⟩ (by simp))
/-- A variable that was just made is given its first value. -/
theorem wpA_init {ops : Array Oper} {rest : List Oper} {o : Oper} {a : Act} {w : World} {cs : Array Value} {T : TypeId} {Q : Exit → Act → World → Prop} (hgd : o.guard = none) (ty : TypeId) (x y : Operand) (ho : o.op = .store ty x y)
    (l' : List Value) (hx : a.eval x = .pointer (some ⟨w.heap.size, 0, none⟩)) (hy : a.eval y = .agg l'.toArray) (n : Nat)
    (hi : (Try.prog.info? ty).map (·.size) = some n) (hn : cs.size = n) (hn' : l'.length = n) (h1 : ∀ u ∈ l', u.oneCell' = true)
    (h : ∀ w', Arr T w' w.heap.size l' → Below w.heap.size w w' → w'.heap.size = w.heap.size + 1 → wpList Try.prog ops Q rest (a.put o.dst undef) w') : wpList Try.prog ops Q (o :: rest) a (w.alloc (.cells cs T)) :=
  wpA_store hgd ty x y ho w.heap.size l' hx hy T cs.toList (Arr.new T w cs _ rfl) n hi (by simpa using hn) hn' h1 fun w' h2 h3 h4 =>
    h w' h2 ((Below_new w _).trans (h3.below (by simp) fun k hk => by omega)) (by rw [h4, World.size_alloc])
/-- 'x[i]' of an array's value. -/
theorem run_indexA {ty e : TypeId} {n : Nat} (hu : Try.prog.underlying ty = some (.array n e)) (hi : (Try.prog.info? e).map (·.size) = some 1) (d : TypeDesc) (hd : Try.prog.underlying e = some d) (hnd : rowDesc d = false) (l : List Value) (k : IntKind) (i : Nat) (hn : l.length = n) (hlt : i < l.length) (w : World) :
    (Instr.index ty (.agg l.toArray) (.int k (i : Int))).run Try.prog w = .ok l[i] w := by
  cases hq : Try.prog.info? e with
  | none => simp [hq] at hi
  | some t =>
    have hs : t.size = 1 := by simpa [hq] using hi
    have hagg : (isAgg e).run Try.prog w = .ok false w := by
      unfold isAgg
      rw [Sem.run_bind, run_underlying hd w]
      cases d <;> simp_all [rowDesc]
    simp only [Instr.index, asIntOf, Sem.run_bind, Sem.run_pure, Result.andThen_ok, run_underlying hu]
    rw [if_pos ⟨by omega, by omega⟩]
    simp [part, Sem.run_bind, hagg, sizeOf, typeInfo, hq, hs, List.getElem?_eq_getElem hlt]
section
variable {fn : Func} {p q : Tmp} {ty T : TypeId} {w : World} {g n : Nat} {e : TypeId} {l : List Value} {tmps : Array Value}
theorem results_arr (h : fn.results = #[.cell p ty]) (hp : tmps.getD p undef = .pointer (some ⟨g, 0, none⟩)) (hg : Arr T w g l) (hu : Try.prog.underlying ty = some (.array n e))
    (hi : (Try.prog.info? ty).map (·.size) = some n) (hn : l.length = n) : (results fn tmps).run Try.prog w = .ok (.agg l.toArray) w :=
  results_cell_row h tmps w g T l.toArray (0, 0) _ hp hg hu rfl (by rw [hi]; simp [hn])
theorem results_arr2 (h : fn.results = #[.cell p ty, .tmp q]) (hp : tmps.getD p undef = .pointer (some ⟨g, 0, none⟩)) (v : Value) (hv : tmps.getD q undef = v) (hg : Arr T w g l) (hu : Try.prog.underlying ty = some (.array n e))
    (hi : (Try.prog.info? ty).map (·.size) = some n) (hn : l.length = n) : (results fn tmps).run Try.prog w = .ok (.tuple #[.agg l.toArray, v]) w := by
  have hp' : tmps[p]?.getD undef = .pointer (some ⟨g, 0, none⟩) := by simpa using hp
  have hv' : tmps[q]?.getD undef = v := by simpa using hv
  have hl := run_loadVar_row (P := Try.prog) w g T ty l.toArray (0, 0) _ hg hu rfl (by rw [hi]; simp [hn])
  simp [results, h, hp', hv', asAddr, hl]
end
/-- copy into an array's block, inside a region that draws. -/
theorem step_copyA {ops : Array Oper} {o : Oper} {a : Act} {w : World} {K : Act → World → Prop} {Q : Exit → Act → World → Prop} {E : Prop} (hgd : o.guard = none) (d s : Operand) (dT sT : TypeId)
    (ho : o.op = .call { callee := .builtin .copy, args := #[d, s], argTypes := #[dT, sT] }) (elem : TypeId) (hu : Try.prog.underlying dT = some (.slice elem)) (hsz : (Try.prog.info? elem).map (·.size) = some 1)
    (g off dLen dCap g' off' sLen sCap : Nat) (hd : a.eval d = .slice (some ⟨g, off, none⟩) dLen dCap) (hs : a.eval s = .slice (some ⟨g', off', none⟩) sLen sCap)
    (T : TypeId) (l : List Value) (hg : Arr T w g l) (T' : TypeId) (l' : List Value) (hg' : Arr T' w g' l') (m : Nat) (hm : m = Nat.min sLen dLen) (hfit' : off' + m ≤ l'.length) (hfit : off + m ≤ l.length) (h1 : ∀ v ∈ l', v.oneCell' = true)
    (h : ∀ w', Arr T w' g (l.take off ++ (l'.drop off').take m ++ l.drop (off + m)) → Keeps (fun k => k = g) w w' → w'.heap.size = w.heap.size → K (a.put o.dst (goInt m)) w') :
    if Region.wanted o (yielded ops a.tmps) = true then Oper.wp Try.prog o a w K Q else E := by
  have hw : Region.wanted o (yielded ops a.tmps) = true := by simp [Region.wanted, hgd]
  rw [if_pos hw]
  have hlen : ((l'.drop off').take m).length = m := by rw [List.length_take, List.length_drop]; omega
  have hadd : ∀ j, (⟨g', off', none⟩ : Addr).add j = ⟨g', off' + j, none⟩ := fun j => by unfold Addr.add; split <;> simp_all
  have hrun := run_copy_row (P := Try.prog) w dT sT o.type elem g off dLen dCap ⟨g', off', none⟩ sLen sCap l.toArray T ((l'.drop off').take m) hu hsz hg (by rw [hlen]; exact hm)
    (fun j v hv => by
      rw [hadd, cell_of_row w g' (off' + j) _ T' _ hg']
      rw [List.getElem?_take] at hv
      split at hv
      · rw [List.getElem?_drop] at hv; simpa using hv
      · cases hv) (by rw [hlen]; simpa using hfit) (fun v hv => h1 v (List.mem_of_mem_drop (List.mem_of_mem_take hv)))
  rw [hlen] at hrun
  unfold Oper.wp
  simp [execOp, ho, resolve, invoke, builtin, hd, hs, hrun, Result.andThen]
  refine h _ ?_ ⟨rfl, rfl, rfl, by simp, fun k _ hk => setRow_other w g k _ hk⟩ (by simp)
  have := setRow_heap w g _ ((l.toArray.toList.take off ++ (l'.drop off').take m ++ l.toArray.toList.drop (off + m)).toArray) T _ hg
  simpa [Arr, Blk] using this
end Go.Proofs.Ytbcgffgiifminaa
namespace Go.Proofs.Ytbcgffgiifminaa
open Go.RowKit
set_option maxRecDepth 10000

set_option maxHeartbeats 400000 in
set_option maxRecDepth 10000 in
theorem bytes_Clone (A : Option Addr) (n c : Nat) (l : List UInt8) (w : World) (h : LiesB w w.heap.size A n l) (hn : n ≤ 140737488355328) :
    Calls Try.prog 92 #[.slice A n c] w fun e w' => ∃ A' c', e = .returned (.slice A' n c') ∧ OwnB w' w.heap.size A' n c' l ∧ Below w.heap.size w w' := by
  rcases A with _ | ad
  · have hl : l = [] := by
      rcases l with _ | ⟨x, l⟩
      · rfl
      · obtain ⟨b, off, e, _⟩ := h.2 (by simp); cases e
    subst hl
    have h0 : n = 0 := by have := h.len; simpa using this.symm
    subst h0
    clear h
    have k1 := fun (w : World) (a : Option Addr) (n c : Nat) => Lib.run_eql_slice_nil (P := Try.prog) w 34 5 a n c 0 0 Try.underlying34
    go_enter Try.func92, Try.ntmps92
    go_wp2
    go_ret
    exact ⟨none, 0, rfl, OwnB.nil _ _, Below.refl _ _⟩
  · have H := hide (h.below (Below_new w (.cells #[] 5)))
    clear h
    have k1 := fun (w : World) (a : Option Addr) (n c : Nat) => Lib.run_eql_slice_nil (P := Try.prog) w 34 5 a n c 0 0 Try.underlying34
    go_enter Try.func92, Try.ntmps92
    have Ho := hide (OwnB.new w #[] 0 [] rfl (by simp [maxLen]) rfl)
    go_wp2_with (at_builtin; refine wpB_append rfl (.tmp 5) (.tmp 6) rfl w.heap.size _ 0 0 [] rfl Ho.out _ (some ad) n c l rfl H.out n _ (by omega) (List.nil_append _) (by omega) (by simp) ?_; intro A' c' w' own1 hb1 hg1)
    go_ret
    exact ⟨A', c', rfl, own1, (Below_new w _).trans hb1⟩
/-- What From tells. -/
def fromLine (l : List UInt8) (f n : Int) : List UInt8 := if f < 0 ∨ (l.length : Int) ≤ f ∨ n < 1 then [] else (l.drop f.toNat).take (min n.toNat 1000)
theorem fromLine_none {l : List UInt8} {f n : Int} (h : f < 0 ∨ (l.length : Int) ≤ f ∨ n < 1) : fromLine l f n = [] := by rw [fromLine, if_pos h]
theorem fromLine_some {l : List UInt8} {f : Nat} {n : Int} (h : f < l.length) (h1 : 1 ≤ n) : fromLine l f n = (l.drop f).take (min n.toNat 1000) := by
  rw [fromLine, if_neg (by omega)]; rfl
theorem fromLine_all {l : List UInt8} (h : l.length ≤ 1000) : fromLine l 0 1000 = l := by
  by_cases h0 : l = []
  · subst h0; rfl
  · have : 0 < l.length := List.length_pos_iff.2 h0
    rw [show (0 : Int) = ((0 : Nat) : Int) from rfl, fromLine_some this (by omega)]
    simp [List.take_of_length_le h]

set_option maxHeartbeats 1000000 in
set_option maxRecDepth 10000 in
theorem line_From (p : Nat) (g : Option Nat) (l : List UInt8) (f n : Int) (w : World) (h : LineAt w p g l) (h1 : -9223372036854775808 ≤ f) (h2 : f ≤ 9223372036854775807) (h3 : -9223372036854775808 ≤ n) (h4 : n ≤ 9223372036854775807) :
    Calls Try.prog 84 #[.pointer (some ⟨p, 0, none⟩), .int .i64 f, .int .i64 n] w fun e w' =>
      ∃ A c, e = .returned (.slice A (fromLine l f n).length c) ∧ OwnB w' w.heap.size A (fromLine l f n).length c (fromLine l f n) ∧ Below w.heap.size w w' := by
  by_cases hn : f < 0 ∨ (l.length : Int) ≤ f ∨ n < 1
  · rw [fromLine_none hn]
    have H := hide h
    clear h
    by_cases c1 : f < 0
    · go_enter Try.func84, Try.ntmps84
      go_wp2
      go_ret
      exact ⟨none, 0, rfl, OwnB.nil _ _, Below.refl _ _⟩
    · obtain ⟨m, hm⟩ : ∃ m, m = l.length := ⟨_, rfl⟩
      rw [← hm] at hn
      have Hm := hide hm
      clear hm
      by_cases c2 : (m : Int) ≤ f
      · go_enter Try.func84, Try.ntmps84
        go_wp2_with (go_at_call 25; (with_reducible refine Calls.mono (line_Len _ _ _ _ H.out) ?_); rintro e w1 ⟨rfl, rfl⟩; rw [← Hm.out])
        go_ret
        exact ⟨none, 0, rfl, OwnB.nil _ _, Below.refl _ _⟩
      · go_enter Try.func84, Try.ntmps84
        go_wp2_with (go_at_call 25; (with_reducible refine Calls.mono (line_Len _ _ _ _ H.out) ?_); rintro e w1 ⟨rfl, rfl⟩; rw [← Hm.out])
        go_ret
        exact ⟨none, 0, rfl, OwnB.nil _ _, Below.refl _ _⟩
  · obtain ⟨k, rfl⟩ : ∃ k : Nat, f = (k : Int) := ⟨f.toNat, by omega⟩
    rw [fromLine_some (by omega) (by omega)]
    have HL := hide h
    obtain ⟨hl0, A, c, hb, ho, hg⟩ := h
    have hc := hb.cell 0
    simp at hc
    have hmc : l.length ≤ c := by
      rcases ho.2 with ⟨hv, h0⟩ | ⟨g', cap, cur, hv, _, _, hnc, _⟩
      · omega
      · injection hv with _ _ h3; omega
    obtain ⟨m, hm⟩ : ∃ m, m = l.length := ⟨_, rfl⟩
    have hlies := (ho.lies.take (k + min n.toNat 1000)).cut (k := k) (cap := c) (by omega)
    rw [← hm] at hc ho hl0 hn hmc hlies
    have Hm := hide hm
    obtain ⟨r, hr⟩ : ∃ r, r = (l.drop k).take (min n.toNat 1000) := ⟨_, rfl⟩
    obtain ⟨N, hN⟩ : ∃ N : Nat, min n 1000 = (N : Int) := ⟨min n.toNat 1000, by omega⟩
    have hN2 : min n.toNat 1000 = N := by omega
    obtain ⟨E, hE⟩ : ∃ E : Nat, min (m : Int) ((k : Int) + (N : Int)) = (E : Int) := ⟨min m (k + N), by omega⟩
    have hE2 : min (k + N) m = E := by omega
    have hrl : r.length = E - k := by rw [hr, List.length_take, List.length_drop, ← hm]; omega
    have hr2 : (l.take (k + N)).drop k = r := by rw [hr, hN2, List.drop_take]; congr 1; omega
    rw [hN2] at hlies
    rw [hr2, hE2] at hlies
    rw [← hr, hrl]
    have hwr : IntKind.i64.wrap ((k : Int) + (N : Int)) = (k : Int) + (N : Int) := IntWalk.i64_in _ ⟨by omega, by omega⟩
    have hkE : k ≤ E := by omega
    have hEc : E ≤ c := by omega
    have hEm : E ≤ m := by omega
    have Hlies := hide hlies
    have HN2 := hide hN2
    have HE2 := hide hE2
    clear hm hlies hN2 hE2 hrl hr2 hr hb ho hg
    have hd1 : ¬ ((k : Int) < 0) := by omega
    go_enter Try.func84, Try.ntmps84
    go_wp2_with (go_at_call 25; (with_reducible refine Calls.mono (line_Len _ _ _ _ HL.out) ?_); rintro e w1 ⟨rfl, rfl⟩; rw [← Hm.out])
    go_still_tail 16, (by kernel_rfl)
    change wpList _ _ _ _ _ w.drew
    have HliesD : Hid (LiesB w.drew w.drew.heap.size (cutA A c k 1) (E - k) r) := Hlies.out.drew
    have HB0 : Hid (Below w.heap.size w w.drew ∧ w.drew.heap.size = w.heap.size) := ⟨(Below.refl _ _).drew, rfl⟩
    generalize w.drew = w2 at HliesD HB0 ⊢
    go_wp2_with (go_at_call 92; refine Calls.mono (bytes_Clone _ _ _ _ _ HliesD.out (by omega)) ?_; rintro e w1 ⟨A', c', rfl, own1, hb1⟩)
    go_ret
    obtain ⟨hb0, hs⟩ := HB0.out
    rw [hs] at own1
    exact ⟨A', c', rfl, own1, Below_step hb0 hb1⟩
set_option maxHeartbeats 400000 in
theorem line_From_nil (f n : Int) (w : World) : Calls Try.prog 84 #[.pointer none, .int .i64 f, .int .i64 n] w fun e w' => e = .returned (.slice none 0 0) ∧ w = w' := by
  by_cases c1 : f < 0
  · go_enter Try.func84, Try.ntmps84
    go_wp2
    go_ret
    exact ⟨rfl, rfl⟩
  · go_enter Try.func84, Try.ntmps84
    go_wp2_with (go_at_call 25; (with_reducible refine Calls.mono (line_Len_nil _) ?_); rintro e w1 ⟨rfl, rfl⟩)
    go_ret
    exact ⟨rfl, rfl⟩
set_option maxHeartbeats 400000 in
theorem line_All (p : Nat) (g : Option Nat) (l : List UInt8) (w : World) (h : LineAt w p g l) :
    Calls Try.prog 75 #[.pointer (some ⟨p, 0, none⟩)] w fun e w' =>
      ∃ A c, e = .returned (.slice A l.length c) ∧ OwnB w' w.heap.size A l.length c l ∧ Below w.heap.size w w' := by
  have H := hide h
  have HE := hide (fromLine_all h.1)
  clear h
  go_enter Try.func75, Try.ntmps75
  go_wp2_with fail
  refine Calls.mono (line_From p g l 0 1000 _ H.out (by omega) (by omega) (by omega) (by omega)) ?_
  rintro e w1 ⟨A, c, rfl, own1, hb1⟩
  rw [HE.out] at own1
  rw [HE.out]
  go_wp2_with fail
  go_ret
  exact ⟨A, c, rfl, own1, hb1⟩
set_option maxHeartbeats 400000 in
theorem line_All_nil (w : World) : Calls Try.prog 75 #[.pointer none] w fun e w' => e = .returned (.slice none 0 0) ∧ w = w' := by
  go_enter Try.func75, Try.ntmps75
  go_wp2_with fail
  refine Calls.mono (line_From_nil 0 1000 _) ?_
  rintro e w1 ⟨rfl, rfl⟩
  go_wp2_with fail
  go_ret
  exact ⟨rfl, rfl⟩
end Go.Proofs.Ytbcgffgiifminaa
namespace Go.Proofs.Ytbcgffgiifminaa
open Go.RowKit
set_option maxRecDepth 10000
set_option linter.unusedVariables false

theorem line_From_v (p : Nat) (g : Option Nat) (l r : List UInt8) (f n : Int) (m : Nat) (w : World) (h : LineAt w p g l) (h1 : -9223372036854775808 ≤ f) (h2 : f ≤ 9223372036854775807) (h3 : -9223372036854775808 ≤ n) (h4 : n ≤ 9223372036854775807)
    (hr : fromLine l f n = r) (hm : r.length = m) :
    Calls Try.prog 84 #[.pointer (some ⟨p, 0, none⟩), .int .i64 f, .int .i64 n] w fun e w' =>
      ∃ A c, e = .returned (.slice A m c) ∧ OwnB w' w.heap.size A m c r ∧ Below w.heap.size w w' := by
  subst hr hm
  exact line_From p g l f n w h h1 h2 h3 h4
theorem line_All_v (p : Nat) (g : Option Nat) (l : List UInt8) (m : Nat) (w : World) (h : LineAt w p g l) (hm : l.length = m) :
    Calls Try.prog 75 #[.pointer (some ⟨p, 0, none⟩)] w fun e w' =>
      ∃ A c, e = .returned (.slice A m c) ∧ OwnB w' w.heap.size A m c l ∧ Below w.heap.size w w' := by
  subst hm
  exact line_All p g l w h
end Go.Proofs.Ytbcgffgiifminaa
namespace Go.Proofs.Ytbcgffgiifminaa
open Go.RowKit
set_option maxRecDepth 10000
set_option linter.unusedVariables false
/-- How a player plays. -/
structure Cfg where
  n : Int
  me : Int
  id : Int
  delay : Int
  window : Int
  guess : Int
  order : Int
  branches : Int
  workers : Int
  room : Int
def Cfg.row (c : Cfg) : List Value := [.int .i64 c.n, .int .i64 c.me, .int .i64 c.id, .int .i64 c.delay, .int .i64 c.window, .int .i64 c.guess, .int .i64 c.order, .int .i64 c.branches, .int .i64 c.workers, .int .i64 c.room]
@[reducible] def Cfg.val (c : Cfg) : Value := .agg #[.int .i64 c.n, .int .i64 c.me, .int .i64 c.id, .int .i64 c.delay, .int .i64 c.window, .int .i64 c.guess, .int .i64 c.order, .int .i64 c.branches, .int .i64 c.workers, .int .i64 c.room]
structure Cfg.Fine (c : Cfg) : Prop where
  n : 2 ≤ c.n ∧ c.n ≤ 8
  me : 0 ≤ c.me ∧ c.me ≤ c.n - 1
  id : 0 ≤ c.id ∧ c.id ≤ 1099511627776
  delay : 0 ≤ c.delay ∧ c.delay ≤ 8
  window : 1 ≤ c.window ∧ c.window ≤ 16
  guess : 1 ≤ c.guess ∧ c.guess ≤ 3
  order : 0 ≤ c.order ∧ c.order ≤ 3
  kind : c.order = 0 ∨ c.guess = 2
  branches : 0 ≤ c.branches ∧ c.branches ≤ 8
  workers : 0 ≤ c.workers ∧ c.workers ≤ 4
  room : 3 ≤ c.room ∧ c.room ≤ 50
/-- What is known of a player. -/
structure Peer where
  has : Int
  heard : Int
  frame : Int
  sum : Int
  apart : Bool
def Peer.row (p : Peer) : List Value := [.int .i64 p.has, .int .i64 p.heard, .int .i64 p.frame, .int .u32 p.sum, .bool p.apart]
/-- What happened: to whom, and when. -/
inductive Ev where
  | quit (p : Int)
  | late (p : Int)
  | apart (p f : Int)
def Ev.val : Ev → Value
  | .quit p => .iface 143 (.agg #[.int .i64 p])
  | .late p => .iface 144 (.agg #[.int .i64 p])
  | .apart p f => .iface 146 (.agg #[.int .i64 p, .int .i64 f])
/-- What a player knows. -/
structure Co where
  cfg : Cfg
  ls : List (List UInt8)
  peers : List Peer
  marks : List Int
  events : List Ev
  now : Int
  closed : Bool
/-- Where it lies. -/
structure CP where
  q : Nat
  qA : Option Addr
  qc : Nat
  xs : List (Nat × Option Nat)
  g : Nat
  pc : Nat
  mA : Option Addr
  mn : Nat
  mc : Nat
  eA : Option Addr
  en : Nat
  ec : Nat
def mv (x : Int) : Value := .int .u32 x
def coRow (s : Co) (p : CP) : List Value := s.cfg.row ++ [.pointer (some ⟨p.q, 0, none⟩), .slice (some ⟨p.g, 0, none⟩) s.peers.length p.pc, .slice p.mA p.mn p.mc, .slice p.eA p.en p.ec, .int .i64 s.now, .bool s.closed]
theorem elem_marks : Elem 62 39 (.int .u32 0) 4 := ⟨Try.underlying62, by kernel_rfl, rfl⟩
theorem elem_events : Elem 52 114 (.agg #[.nilIface]) 16 := ⟨Try.underlying52, by kernel_rfl, rfl⟩
/-- The plain facts that hold of each core. -/
structure Co.Ok (s : Co) : Prop where
  cfg : s.cfg.Fine
  np : (s.peers.length : Int) = s.cfg.n
  nl : (s.ls.length : Int) = s.cfg.n
  short : ∀ i, (s.ls.getD i []).length ≤ 1000
  head : s.cfg.delay ≤ ((s.ls.getD s.cfg.me.toNat []).length : Int)
  has : ∀ p ∈ s.peers, 0 ≤ p.has ∧ p.has ≤ ((s.ls.getD s.cfg.me.toNat []).length : Int)
  heard : ∀ p ∈ s.peers, 0 ≤ p.heard ∧ p.heard ≤ s.now
  frame : ∀ p ∈ s.peers, 0 ≤ p.frame ∧ p.frame ≤ 1000
  sum : ∀ p ∈ s.peers, 0 ≤ p.sum ∧ p.sum < 4294967296
  marks : s.marks.length ≤ 1000
  mark : ∀ m ∈ s.marks, 0 ≤ m ∧ m < 4294967296
  now : 0 ≤ s.now ∧ s.now ≤ 1000000000
  events : s.events.length ≤ 1000000000
/-- A core in memory, all its blocks from B on. -/
structure CAt (B : Nat) (w : World) (x : Nat) (p : CP) (s : Co) : Prop where
  head : Arr 84 w x (coRow s p)
  base : B ≤ x
  q : QAt B w p.q p.qA p.qc p.xs s.ls
  nx : p.xs.length = s.peers.length
  peers : w.ownsRow B 86 5 (.slice (some ⟨p.g, 0, none⟩) s.peers.length p.pc) s.peers.length (s.peers.flatMap Peer.row)
  marks : OwnV 39 w B p.mA p.mn p.mc (s.marks.map mv)
  events : OwnV 114 w B p.eA p.en p.ec (s.events.map Ev.val)
  ok : s.Ok
/-- The blocks that are a core's. -/
def cBlocks (x : Nat) (p : CP) (k : Nat) : Prop := k = x ∨ k = p.q ∨ Mine p.qA p.xs.length p.qc k ∨ (∃ (i : Nat) (h : i < p.xs.length), lineBlocks p.xs[i].1 p.xs[i].2 k) ∨ k = p.g ∨ Mine p.mA p.mn p.mc k ∨ Mine p.eA p.en p.ec k
section
variable {B B' : Nat} {w w' : World} {x : Nat} {p : CP} {s : Co}
theorem ownsRow_below {e : TypeId} {z : Nat} {v : Value} {n : Nat} {l : List Value} (h : w.ownsRow B e z v n l) (hb : Below w.heap.size w w') : w'.ownsRow B e z v n l := h.kept (grownBy_of_below hb) (by cases v.ownBlock <;> simp)
theorem CAt.below (h : CAt B w x p s) (hb : Below w.heap.size w w') : CAt B w' x p s :=
  ⟨h.head.belowN hb, h.base, h.q.below hb, h.nx, ownsRow_below h.peers hb, h.marks.below hb, h.events.below hb, h.ok⟩
theorem CAt.drew (h : CAt B w x p s) : CAt B w.drew x p s := h.below ⟨rfl, rfl, rfl, Nat.le_refl _, fun _ _ => rfl⟩
theorem CAt.drewN (h : CAt B w x p s) (k : Nat) : CAt B (w.drewN k) x p s := h.below ⟨rfl, rfl, rfl, Nat.le_refl _, fun _ _ => rfl⟩
theorem CAt.mn (h : CAt B w x p s) : s.marks.length = p.mn := by have := h.marks.len; rwa [List.length_map] at this
theorem CAt.en (h : CAt B w x p s) : s.events.length = p.en := by have := h.events.len; rwa [List.length_map] at this
/-- A cell of the head. -/
theorem CAt.cell (h : CAt B w x p s) {j : Nat} {v : Value} (hv : (coRow s p)[j]? = some v) : w.cell? ⟨x, j, none⟩ = some v := by
  obtain ⟨hj, e⟩ := List.getElem?_eq_some_iff.1 hv
  rw [h.head.cell hj, e]
end
/-- Block k is of type T. -/
def TB (w : World) (k : Nat) (T : TypeId) : Prop := ∃ cs fz, w.heap[k]? = some (.cells cs T fz)
section
variable {S : Nat → Prop} {w w' : World} {T T' : TypeId} {k : Nat} {Ts : List TypeId}
theorem TB.one (h : TB w k T) (h' : TB w k T') : T = T' := by
  obtain ⟨cs, fz, h⟩ := h
  obtain ⟨cs', fz', h'⟩ := h'
  rw [h] at h'
  injection h' with h'
  injection h' with _ h'
theorem Arr.tb {g : Nat} {l : List Value} (h : Arr T w g l) : TB w g T := ⟨_, _, h⟩
theorem Blk.tb {g : Nat} {cs : Array Value} (h : Blk w g T cs) : TB w g T := ⟨_, _, h⟩
theorem owns_tb {B z n : Nat} {e : TypeId} {v : Value} {l : List Value} (h : w.ownsRow B e z v n l) : ∀ k, some k = v.ownBlock → TB w k e := by
  intro k hk
  rcases h.2 with ⟨hv, _⟩ | ⟨g, cap, cur, hv, _, hh, _⟩
  · rw [hv] at hk; simp [Value.ownBlock] at hk
  · rw [hv] at hk
    have e1 : k = g := by simpa [Value.ownBlock] using hk
    subst e1
    exact ⟨_, _, hh⟩
theorem LineAt.tb {p : Nat} {g : Option Nat} {l : List UInt8} (h : LineAt w p g l) : ∀ k, lineBlocks p g k → TB w k 109 ∨ TB w k 5 := by
  obtain ⟨_, A, c, hp, ho, hg⟩ := h
  intro k hk
  rcases hk with rfl | hk
  · exact .inl ⟨_, _, hp⟩
  · exact .inr (owns_tb ho k (by rw [hk, hg]))
/-- Nothing of these types is among the blocks S. -/
def Off (S : Nat → Prop) (w : World) (Ts : List TypeId) : Prop := ∀ k, S k → ∀ T ∈ Ts, ¬ TB w k T
theorem Off.of (h : ∀ k, S k → TB w k T) (hn : T ∉ Ts) : Off S w Ts := fun k hk T' hT' h' => by
  rw [(h k hk).one h'] at hn
  exact hn hT'
theorem Off.of2 (h : ∀ k, S k → TB w k T ∨ TB w k T') (hn : T ∉ Ts) (hn' : T' ∉ Ts) : Off S w Ts := fun k hk T2 hT2 h2 => by
  rcases h k hk with h | h
  · rw [h.one h2] at hn; exact hn hT2
  · rw [h.one h2] at hn'; exact hn' hT2
theorem Arr.off {g : Nat} {l : List Value} (h : Arr T w g l) (hk : Keeps S w w') (ho : Off S w Ts) (hT : T ∈ Ts) : Arr T w' g l := h.keeps hk fun hs => ho g hs T hT h.tb
theorem owns_off {B z n : Nat} {e : TypeId} {v : Value} {l : List Value} (h : w.ownsRow B e z v n l) (hk : Keeps S w w') (ho : Off S w Ts) (hT : e ∈ Ts) : w'.ownsRow B e z v n l := by
  refine ⟨h.1, ?_⟩
  rcases h.2 with h2 | ⟨g, cap, cur, hv, hb, hh, r⟩
  · exact .inl h2
  · refine .inr ⟨g, cap, cur, hv, hb, ?_, r⟩
    rw [hk.block g (Array.getElem?_eq_some_iff.1 hh).1 (fun hs => ho g hs e hT ⟨_, _, hh⟩)]
    exact hh
/-- The types of a queue's blocks. -/
def tQ : List TypeId := [90, 50, 109, 5]
theorem LineAt.off {p : Nat} {g : Option Nat} {l : List UInt8} (h : LineAt w p g l) (hk : Keeps S w w') (ho : Off S w Ts) (hT : ∀ T ∈ tQ, T ∈ Ts) : LineAt w' p g l := h.keeps hk fun k hkb hs => by
  rcases h.tb k hkb with h1 | h1
  · exact ho k hs _ (hT _ (by simp [tQ])) h1
  · exact ho k hs _ (hT _ (by simp [tQ])) h1
theorem QAt.off {B : Nat} {q c : Nat} {A : Option Addr} {xs : List (Nat × Option Nat)} {ls : List (List UInt8)} (h : QAt B w q A c xs ls) (hk : Keeps S w w') (ho : Off S w Ts) (hT : ∀ T ∈ tQ, T ∈ Ts) : QAt B w' q A c xs ls :=
  ⟨h.head.keeps hk (fun hs => ho q hs _ (hT _ (by simp [tQ])) h.head.tb), h.base, owns_off h.row hk ho (hT _ (by simp [tQ])), h.len, fun i hi => (h.line i hi).off hk ho hT, h.lbase, h.apart⟩
end
/-- One step of a core: what it may change, where its new blocks lie. -/
structure Stp (w w' : World) (x : Nat) (p p' : CP) : Prop where
  keeps : Keeps (cBlocks x p) w w'
  new : ∀ k, cBlocks x p' k → cBlocks x p k ∨ w.heap.size ≤ k
section
variable {B : Nat} {w w' w1 w2 : World} {x : Nat} {p p1 p2 : CP} {s : Co}
theorem Stp.refl (w : World) (x : Nat) (p : CP) : Stp w w x p p := ⟨Keeps.refl _ _, fun k h => .inl h⟩
theorem Stp.of_below (h : Below w.heap.size w w') : Stp w w' x p p := ⟨Keeps.of_below h, fun k h => .inl h⟩
theorem Stp.trans (h : Stp w w1 x p p1) (h2 : Stp w1 w2 x p1 p2) : Stp w w2 x p p2 := by
  refine ⟨h.keeps.trans h2.keeps fun k hk hb => ?_, fun k hk => ?_⟩
  · rcases h.new k hb with h' | h'
    · exact h'
    · omega
  · rcases h2.new k hk with h' | h'
    · exact h.new k h'
    · exact .inr (Nat.le_trans h.keeps.size h')
theorem CAt.blocks (h : CAt B w x p s) : ∀ k, cBlocks x p k → B ≤ k ∧ k < w.heap.size := by
  intro k hk
  rcases hk with rfl | rfl | hk | ⟨i, hi, hk⟩ | rfl | hk | hk
  · exact ⟨h.base, h.head.lt⟩
  · exact ⟨h.q.base, h.q.head.lt⟩
  · exact h.q.row.blk k hk
  · have hb := h.q.lbase i hi
    have hl := (h.q.line i hi).lt
    rcases hk with rfl | hk
    · exact ⟨hb.1, hl.1⟩
    · exact ⟨hb.2 k hk.symm, hl.2 k hk⟩
  · exact World.ownsRow.lt h.peers _ rfl
  · exact h.marks.blk k hk
  · exact h.events.blk k hk
theorem Stp.below (h : Stp w w' x p p1) (hc : CAt B w x p s) (hB : B ≤ w.heap.size) : Below B w w' := h.keeps.below hB fun k hk hb => by have := (hc.blocks k hb).1; omega
end
/-- Rows of one length, laid behind one another. -/
theorem flat_get {α : Type} {f : α → List Value} {m : Nat} (hf : ∀ a, (f a).length = m) : ∀ (l : List α) (i j : Nat) (hi : i < l.length), j < m → (l.flatMap f)[i * m + j]? = (f l[i])[j]?
  | a :: l, 0, j, _, hj => by
    rw [List.flatMap_cons, Nat.zero_mul, Nat.zero_add, List.getElem?_append_left (by rw [hf]; exact hj)]; rfl
  | a :: l, i + 1, j, hi, hj => by
    have := flat_get hf l i j (by simpa using hi) hj
    rw [List.flatMap_cons, List.getElem?_append_right (by rw [hf, Nat.succ_mul]; omega), hf, show (i + 1) * m + j - m = i * m + j by rw [Nat.succ_mul]; omega, this]
    rfl
theorem flat_set {α : Type} {f : α → List Value} {m : Nat} (hf : ∀ a, (f a).length = m) : ∀ (l : List α) (i j : Nat) (v : Value) (b : α) (hi : i < l.length), j < m → f b = (f l[i]).set j v → (l.flatMap f).set (i * m + j) v = (l.set i b).flatMap f
  | a :: l, 0, j, v, b, _, hj, hb => by
    rw [List.flatMap_cons, Nat.zero_mul, Nat.zero_add, List.set_append_left _ _ (by rw [hf]; exact hj), List.set_cons_zero, List.flatMap_cons, hb]; rfl
  | a :: l, i + 1, j, v, b, hi, hj, hb => by
    have := flat_set hf l i j v b (by simpa using hi) hj (by simpa using hb)
    rw [List.flatMap_cons, List.set_append_right _ _ (by rw [hf, Nat.succ_mul]; omega), hf, show (i + 1) * m + j - m = i * m + j by rw [Nat.succ_mul]; omega, this, List.set_cons_succ, List.flatMap_cons]
theorem flat_len {α : Type} {f : α → List Value} {m : Nat} (hf : ∀ a, (f a).length = m) (l : List α) : (l.flatMap f).length = l.length * m := by
  induction l with
  | nil => simp
  | cons a l ih => rw [List.flatMap_cons, List.length_append, ih, hf, List.length_cons, Nat.succ_mul]; omega
theorem Peer.row_len (p : Peer) : p.row.length = 5 := rfl
section
variable {B : Nat} {w : World} {x : Nat} {p : CP} {s : Co}
theorem CAt.pcell (h : CAt B w x p s) {i j : Nat} (hi : i < s.peers.length) (hj : j < 5) {v : Value} (hv : s.peers[i].row[j]? = some v) : w.cell? ⟨p.g, i * 5 + j, none⟩ = some v := by
  have hlt : i * 5 + j < s.peers.length * 5 := by omega
  rw [World.ownsRow.cellAt h.peers (i * 5 + j) hlt, flat_get Peer.row_len _ i j hi hj, hv]
theorem CAt.pfrozen (h : CAt B w x p s) (j : Nat) : w.frozen? ⟨p.g, j, none⟩ = false := World.ownsRow.frozenAt h.peers j
theorem CAt.hfrozen (h : CAt B w x p s) (j : Nat) : w.frozen? ⟨x, j, none⟩ = false := h.head.frozen j
end
theorem below_cell {w w' : World} {a : Addr} {u : Value} (h : Below w.heap.size w w') (hc : w.cell? a = some u) : w'.cell? a = some u := (h.cell (World.block_lt_of_cell? w _ hc)).trans hc
theorem keeps_cell' {S : Nat → Prop} {w w' : World} {a : Addr} {u : Value} (h : Keeps S w w') (hc : w.cell? a = some u) (hn : ¬ S a.block) : w'.cell? a = some u := (World.cell?_of_block (h.block a.block (World.block_lt_of_cell? w _ hc) hn)).trans hc
theorem mine_next {A A' : Option Addr} {n c n' c' N k : Nat} (h : (Value.slice A' n' c').ownBlock = (Value.slice A n c).ownBlock ∨ (Value.slice A' n' c').ownBlock = some N) (hk : Mine A' n' c' k) : Mine A n c k ∨ N ≤ k := by
  have hk' : some k = (Value.slice A' n' c').ownBlock := hk
  rcases h with h | h
  · rw [h] at hk'; exact .inl hk'
  · rw [h] at hk'; injection hk' with hk'; exact .inr (by omega)
section
variable {B : Nat} {w w' : World} {x : Nat} {p : CP} {s : Co}
/-- The head alone is written. -/
theorem CAt.setHead (h : CAt B w x p s) (j : Nat) (v : Value) (s' : Co) (hr : coRow s' p = (coRow s p).set j v) (h1 : s'.ls = s.ls) (h2 : s'.peers = s.peers) (h3 : s'.marks = s.marks) (h4 : s'.events = s.events) (hok : s'.Ok) :
    CAt B (w.setCell ⟨x, j, none⟩ v) x p s' ∧ Stp w (w.setCell ⟨x, j, none⟩ v) x p p := by
  have ks := Keeps.setCell w ⟨x, j, none⟩ v
  have off : Off (fun k => k = (⟨x, j, none⟩ : Addr).block) w (tQ ++ [86, 39, 114]) := Off.of (T := 84) (fun k hk => by rw [hk]; exact h.head.tb) (by decide)
  refine ⟨⟨?_, h.base, ?_, by rw [h2]; exact h.nx, ?_, ?_, ?_, hok⟩, ⟨ks.mono fun k _ hk => .inl hk, fun k hk => .inl hk⟩⟩
  · rw [hr]; exact h.head.set j v
  · rw [h1]; exact h.q.off ks off (by decide)
  · rw [h2]; exact owns_off h.peers ks off (by decide)
  · rw [h3]; exact owns_off h.marks ks off (by decide)
  · rw [h4]; exact owns_off h.events ks off (by decide)
/-- The row of events has grown. -/
theorem CAt.setEvents (h : CAt B w x p s) {A5 : Option Addr} {c5 : Nat} {e : Ev} (k5 : Keeps (Mine p.eA p.en p.ec) w w') (own5 : OwnV 114 w' B A5 (p.en + 1) c5 (s.events.map Ev.val ++ [e.val]))
    (hk5 : (Value.slice A5 (p.en + 1) c5).ownBlock = (Value.slice p.eA p.en p.ec).ownBlock ∨ (Value.slice A5 (p.en + 1) c5).ownBlock = some w.heap.size) (hok : ({ s with events := s.events ++ [e] } : Co).Ok) :
    Arr 84 w' x (coRow s p) ∧ CAt B (w'.setCell ⟨x, 13, none⟩ (.slice A5 (p.en + 1) c5)) x { p with eA := A5, en := p.en + 1, ec := c5 } { s with events := s.events ++ [e] } ∧ Stp w (w'.setCell ⟨x, 13, none⟩ (.slice A5 (p.en + 1) c5)) x p { p with eA := A5, en := p.en + 1, ec := c5 } := by
  have off : Off (Mine p.eA p.en p.ec) w (tQ ++ [84, 86, 39]) := Off.of (T := 114) (owns_tb h.events) (by decide)
  have hh := h.head.off k5 off (by decide)
  have ks := Keeps.setCell w' ⟨x, 13, none⟩ (.slice A5 (p.en + 1) c5)
  have off2 : Off (fun k => k = (⟨x, 13, none⟩ : Addr).block) w' (tQ ++ [86, 39, 114]) := Off.of (T := 84) (fun k hk => by rw [hk]; exact hh.tb) (by decide)
  refine ⟨hh, ⟨?_, h.base, (h.q.off k5 off (by decide)).off ks off2 (by decide), h.nx, owns_off (owns_off h.peers k5 off (by decide)) ks off2 (by decide), owns_off (owns_off h.marks k5 off (by decide)) ks off2 (by decide), ?_, hok⟩, ⟨?_, ?_⟩⟩
  · exact hh.set 13 _
  · show OwnV _ _ _ _ _ _ _
    rw [List.map_append]
    exact owns_off own5 ks off2 (by decide)
  · refine (k5.mono fun k _ hk => .inr (.inr (.inr (.inr (.inr (.inr hk)))))).trans ks fun k _ hk => .inl hk
  · intro k hk
    rcases hk with hk | hk | hk | hk | hk | hk | hk
    · exact .inl (.inl hk)
    · exact .inl (.inr (.inl hk))
    · exact .inl (.inr (.inr (.inl hk)))
    · exact .inl (.inr (.inr (.inr (.inl hk))))
    · exact .inl (.inr (.inr (.inr (.inr (.inl hk)))))
    · exact .inl (.inr (.inr (.inr (.inr (.inr (.inl hk))))))
    · rcases mine_next hk5 hk with h' | h'
      · exact .inl (.inr (.inr (.inr (.inr (.inr (.inr h'))))))
      · exact .inr h'
/-- The row of marks has grown. -/
theorem CAt.setMarks (h : CAt B w x p s) {A5 : Option Addr} {c5 : Nat} {m : Int} (k5 : Keeps (Mine p.mA p.mn p.mc) w w') (own5 : OwnV 39 w' B A5 (p.mn + 1) c5 (s.marks.map mv ++ [mv m]))
    (hk5 : (Value.slice A5 (p.mn + 1) c5).ownBlock = (Value.slice p.mA p.mn p.mc).ownBlock ∨ (Value.slice A5 (p.mn + 1) c5).ownBlock = some w.heap.size) (hok : ({ s with marks := s.marks ++ [m] } : Co).Ok) :
    Arr 84 w' x (coRow s p) ∧ CAt B (w'.setCell ⟨x, 12, none⟩ (.slice A5 (p.mn + 1) c5)) x { p with mA := A5, mn := p.mn + 1, mc := c5 } { s with marks := s.marks ++ [m] } ∧ Stp w (w'.setCell ⟨x, 12, none⟩ (.slice A5 (p.mn + 1) c5)) x p { p with mA := A5, mn := p.mn + 1, mc := c5 } := by
  have off : Off (Mine p.mA p.mn p.mc) w (tQ ++ [84, 86, 114]) := Off.of (T := 39) (owns_tb h.marks) (by decide)
  have hh := h.head.off k5 off (by decide)
  have ks := Keeps.setCell w' ⟨x, 12, none⟩ (.slice A5 (p.mn + 1) c5)
  have off2 : Off (fun k => k = (⟨x, 12, none⟩ : Addr).block) w' (tQ ++ [86, 39, 114]) := Off.of (T := 84) (fun k hk => by rw [hk]; exact hh.tb) (by decide)
  refine ⟨hh, ⟨?_, h.base, (h.q.off k5 off (by decide)).off ks off2 (by decide), h.nx, owns_off (owns_off h.peers k5 off (by decide)) ks off2 (by decide), ?_, owns_off (owns_off h.events k5 off (by decide)) ks off2 (by decide), hok⟩, ⟨?_, ?_⟩⟩
  · exact hh.set 12 _
  · show OwnV _ _ _ _ _ _ _
    rw [List.map_append]
    exact owns_off own5 ks off2 (by decide)
  · refine (k5.mono fun k _ hk => .inr (.inr (.inr (.inr (.inr (.inl hk)))))).trans ks fun k _ hk => .inl hk
  · intro k hk
    rcases hk with hk | hk | hk | hk | hk | hk | hk
    · exact .inl (.inl hk)
    · exact .inl (.inr (.inl hk))
    · exact .inl (.inr (.inr (.inl hk)))
    · exact .inl (.inr (.inr (.inr (.inl hk))))
    · exact .inl (.inr (.inr (.inr (.inr (.inl hk)))))
    · rcases mine_next hk5 hk with h' | h'
      · exact .inl (.inr (.inr (.inr (.inr (.inr (.inl h'))))))
      · exact .inr h'
    · exact .inl (.inr (.inr (.inr (.inr (.inr (.inr hk))))))
/-- One cell of a peer is written. -/
theorem CAt.setPeer (h : CAt B w x p s) (i j : Nat) (v : Value) (b : Peer) (hi : i < s.peers.length) (hj : j < 5) (hb : b.row = (s.peers[i].row).set j v) (hok : ({ s with peers := s.peers.set i b } : Co).Ok) :
    CAt B (w.setCell ⟨p.g, i * 5 + j, none⟩ v) x p { s with peers := s.peers.set i b } ∧ Stp w (w.setCell ⟨p.g, i * 5 + j, none⟩ v) x p p := by
  have ks := Keeps.setCell w ⟨p.g, i * 5 + j, none⟩ v
  have off : Off (fun k => k = (⟨p.g, i * 5 + j, none⟩ : Addr).block) w (tQ ++ [84, 39, 114]) := Off.of (T := 86) (fun k hk => by rw [hk]; exact owns_tb h.peers _ rfl) (by decide)
  refine ⟨⟨?_, h.base, h.q.off ks off (by decide), ?_, ?_, owns_off h.marks ks off (by decide), owns_off h.events ks off (by decide), hok⟩, ⟨ks.mono fun k _ hk => .inr (.inr (.inr (.inr (.inl hk)))), fun k hk => .inl hk⟩⟩
  · have := h.head.off ks off (by decide)
    have e : coRow { s with peers := s.peers.set i b } p = coRow s p := by unfold coRow; rw [List.length_set]
    rw [e]; exact this
  · rw [List.length_set]; exact h.nx
  · have h1 := (World.ownsRow.stored h.peers (i * 5 + j) v).1
    rw [flat_set Peer.row_len s.peers i j v b hi hj hb] at h1
    rw [List.length_set]; exact h1
end
end Go.Proofs.Ytbcgffgiifminaa
namespace Go.Proofs.Ytbcgffgiifminaa
open Go.RowKit
set_option maxRecDepth 10000
set_option linter.unusedVariables false
theorem info_ev : (Try.prog.info? 114).map (·.size) = some 1 := by kernel_rfl
theorem info_raw : (Try.prog.info? 59).map (·.size) = some 3 := by kernel_rfl
/-- An event as it is. -/
def Ev.kind : Ev → Int
  | .quit _ => 1
  | .late _ => 2
  | .apart _ _ => 3
def Ev.player : Ev → Int
  | .quit p => p
  | .late p => p
  | .apart p _ => p
def Ev.frame : Ev → Int
  | .quit _ => 0
  | .late _ => 0
  | .apart _ f => f
def Ev.row (e : Ev) : List Value := [.int .i64 e.kind, .int .i64 e.player, .int .i64 e.frame]
structure Ev.Fine (e : Ev) : Prop where
  player : 0 ≤ e.player ∧ e.player < 8
  frame : 0 ≤ e.frame ∧ e.frame ≤ 1000
theorem results_Ev2 {fn : Func} {p q : Tmp} (h : fn.results = #[.cell p 114, .tmp q]) (tmps : Array Value) (w : World) (g : Nat) (hp : tmps.getD p undef = .pointer (some ⟨g, 0, none⟩)) (u : Value) (hv : tmps.getD q undef = u) (v : Value) (hg : Arr 114 w g [v]) :
    (results fn tmps).run Try.prog w = .ok (.tuple #[.agg #[v], u]) w := by
  have hp' : tmps[p]?.getD undef = .pointer (some ⟨g, 0, none⟩) := by simpa using hp
  have hv' : tmps[q]?.getD undef = u := by simpa using hv
  have hl := run_loadVar_row (P := Try.prog) w g 114 114 #[v] (0, 0) _ hg Try.underlying114 rfl info_ev
  simp [results, h, hp', hv', asAddr, hl]
theorem results_Raw {fn : Func} {p : Tmp} (h : fn.results = #[.cell p 59]) (tmps : Array Value) (w : World) (g : Nat) (hp : tmps.getD p undef = .pointer (some ⟨g, 0, none⟩)) (l : List Value) (hl : l.length = 3) (hg : Arr 59 w g l) :
    (results fn tmps).run Try.prog w = .ok (.agg l.toArray) w :=
  results_cell_row h tmps w g 59 l.toArray (0, 0) _ hp hg Try.underlying59 rfl (by rw [info_raw]; simp [hl])
set_option maxHeartbeats 2000000 in
theorem event_Of (e : Ev) (he : e.Fine) (w : World) : Calls Try.prog 82 #[.agg e.row.toArray] w fun r w' => r = .returned (.tuple #[.agg #[e.val], .bool true]) ∧ Below w.heap.size w w' := by
  obtain ⟨⟨p1, p2⟩, ⟨f1, f2⟩⟩ := he
  cases e with
  | quit p =>
    simp only [Ev.player, Ev.frame] at p1 p2 f1 f2
    show Calls _ _ #[.agg #[.int .i64 1, .int .i64 p, .int .i64 0]] _ _
    have d1 : decide (p < 0) = false := decide_eq_false (by omega)
    have d2 : decide (p ≥ 8) = false := decide_eq_false (by omega)
    go_enter Try.func82, Try.ntmps82
    go_wp2_with fail
    have a2 := Arr.new 114 (World.alloc w (.cells #[.int .i64 1, .int .i64 p, .int .i64 0] 59)) #[Ev.val (.quit p)] _ rfl
    rw [World.size_alloc] at a2
    exact bodyPost_ret (results_Ev2 (fn := Try.f82) rfl _ _ _ rfl _ rfl _ a2) rfl ⟨rfl, Below_step (Below_new _ _) (Below_new _ _)⟩
  | late p =>
    simp only [Ev.player, Ev.frame] at p1 p2 f1 f2
    show Calls _ _ #[.agg #[.int .i64 2, .int .i64 p, .int .i64 0]] _ _
    have d1 : decide (p < 0) = false := decide_eq_false (by omega)
    have d2 : decide (p ≥ 8) = false := decide_eq_false (by omega)
    go_enter Try.func82, Try.ntmps82
    go_wp2_with fail
    have a2 := Arr.new 114 (World.alloc w (.cells #[.int .i64 2, .int .i64 p, .int .i64 0] 59)) #[Ev.val (.late p)] _ rfl
    rw [World.size_alloc] at a2
    exact bodyPost_ret (results_Ev2 (fn := Try.f82) rfl _ _ _ rfl _ rfl _ a2) rfl ⟨rfl, Below_step (Below_new _ _) (Below_new _ _)⟩
  | apart p f =>
    simp only [Ev.player, Ev.frame] at p1 p2 f1 f2
    show Calls _ _ #[.agg #[.int .i64 3, .int .i64 p, .int .i64 f]] _ _
    have d1 : decide (p < 0) = false := decide_eq_false (by omega)
    have d2 : decide (p ≥ 8) = false := decide_eq_false (by omega)
    have d3 : decide (f < 0) = false := decide_eq_false (by omega)
    have d4 : decide (f > 1000) = false := decide_eq_false (by omega)
    by_cases hf : f > 0
    · have d5 : decide (f > 0) = true := decide_eq_true hf
      clear hf
      go_enter Try.func82, Try.ntmps82
      go_wp2_with fail
      have a2 := Arr.new 114 (World.alloc w (.cells #[.int .i64 3, .int .i64 p, .int .i64 f] 59)) #[Ev.val (.apart p f)] _ rfl
      rw [World.size_alloc] at a2
      exact bodyPost_ret (results_Ev2 (fn := Try.f82) rfl _ _ _ rfl _ rfl _ a2) rfl ⟨rfl, Below_step (Below_new _ _) (Below_new _ _)⟩
    · have d5 : decide (f > 0) = false := decide_eq_false hf
      clear hf
      go_enter Try.func82, Try.ntmps82
      go_wp2_with fail
      have a2 := Arr.new 114 (World.alloc w (.cells #[.int .i64 3, .int .i64 p, .int .i64 f] 59)) #[Ev.val (.apart p f)] _ rfl
      rw [World.size_alloc] at a2
      exact bodyPost_ret (results_Ev2 (fn := Try.f82) rfl _ _ _ rfl _ rfl _ a2) rfl ⟨rfl, Below_step (Below_new _ _) (Below_new _ _)⟩
theorem run_assert_same {t xT : TypeId} {v : Value} {fs : Array Field} (hu : Try.prog.underlying t = some (.struct fs)) (w : World) : (Instr.typeAssert (.iface t v) xT t true).run Try.prog w = .ok (.tuple #[v, .bool true]) w := by
  simp [Instr.typeAssert, Sem.run_bind, run_underlying hu]
theorem run_assert_other {t t' xT : TypeId} {v z : Value} {fs : Array Field} (hu : Try.prog.underlying t' = some (.struct fs)) (hne : t ≠ t') (hz : (Try.prog.info? t').map (·.zero) = some (some z)) (w : World) : (Instr.typeAssert (.iface t v) xT t' true).run Try.prog w = .ok (.tuple #[z, .bool false]) w := by
  cases hq : Try.prog.info? t' with
  | none => simp [hq] at hz
  | some i =>
    have hs : i.zero = some z := by simpa [hq] using hz
    simp [Instr.typeAssert, Sem.run_bind, run_underlying hu, hne, zeroValue, typeInfo, hq, hs]
set_option maxHeartbeats 2000000 in
theorem event_Raw (e : Ev) (w : World) : Calls Try.prog 64 #[.agg #[e.val]] w fun r w' => r = .returned (.agg e.row.toArray) ∧ Below w.heap.size w w' := by
  cases e with
  | quit p =>
    show Calls _ _ #[.agg #[.iface 143 (.agg #[.int .i64 p])]] _ _
    go_enter Try.func64, Try.ntmps64
    go_wp2_with fail
    rw [run_assert_same Try.underlying143]
    go_wp2_with fail
    have a2 := Arr.new 59 (World.alloc w (.cells #[.iface 143 (.agg #[.int .i64 p])] 114)) #[.int .i64 1, .int .i64 p, .int .i64 0] _ rfl
    rw [World.size_alloc] at a2
    have b3 := Below_new (World.alloc (World.alloc w (.cells #[.iface 143 (.agg #[.int .i64 p])] 114)) (.cells #[.int .i64 1, .int .i64 p, .int .i64 0] 59)) (.cells #[.int .i64 p] 143)
    exact bodyPost_ret (results_Raw (fn := Try.f64) rfl _ _ _ rfl _ rfl (a2.belowN b3)) rfl ⟨rfl, Below_step (Below_step (Below_new _ _) (Below_new _ _)) b3⟩
  | late p =>
    show Calls _ _ #[.agg #[.iface 144 (.agg #[.int .i64 p])]] _ _
    go_enter Try.func64, Try.ntmps64
    go_wp2_with fail
    rw [run_assert_other (z := .agg #[.int .i64 0]) Try.underlying143 (by decide) (by kernel_rfl)]
    go_wp2_with fail
    rw [run_assert_same Try.underlying144]
    go_wp2_with fail
    have a2 := Arr.new 59 (World.alloc w (.cells #[.iface 144 (.agg #[.int .i64 p])] 114)) #[.int .i64 2, .int .i64 p, .int .i64 0] _ rfl
    rw [World.size_alloc] at a2
    have b3 := Below_new (World.alloc (World.alloc w (.cells #[.iface 144 (.agg #[.int .i64 p])] 114)) (.cells #[.int .i64 2, .int .i64 p, .int .i64 0] 59)) (.cells #[.int .i64 p] 144)
    exact bodyPost_ret (results_Raw (fn := Try.f64) rfl _ _ _ rfl _ rfl (a2.belowN b3)) rfl ⟨rfl, Below_step (Below_step (Below_new _ _) (Below_new _ _)) b3⟩
  | apart p f =>
    show Calls _ _ #[.agg #[.iface 146 (.agg #[.int .i64 p, .int .i64 f])]] _ _
    go_enter Try.func64, Try.ntmps64
    go_wp2_with fail
    rw [run_assert_other (z := .agg #[.int .i64 0]) Try.underlying143 (by decide) (by kernel_rfl)]
    go_wp2_with fail
    rw [run_assert_other (z := .agg #[.int .i64 0]) Try.underlying144 (by decide) (by kernel_rfl)]
    go_wp2_with fail
    rw [run_assert_same Try.underlying146]
    go_wp2_with fail
    have a2 := Arr.new 59 (World.alloc w (.cells #[.iface 146 (.agg #[.int .i64 p, .int .i64 f])] 114)) #[.int .i64 3, .int .i64 p, .int .i64 f] _ rfl
    rw [World.size_alloc] at a2
    have b3 := Below_new (World.alloc (World.alloc w (.cells #[.iface 146 (.agg #[.int .i64 p, .int .i64 f])] 114)) (.cells #[.int .i64 3, .int .i64 p, .int .i64 f] 59)) (.cells #[.int .i64 p, .int .i64 f] 146)
    exact bodyPost_ret (results_Raw (fn := Try.f64) rfl _ _ _ rfl _ rfl (a2.belowN b3)) rfl ⟨rfl, Below_step (Below_step (Below_new _ _) (Below_new _ _)) b3⟩
theorem coRow_ev (s : Co) (p : CP) : (coRow s p)[13]? = some (.slice p.eA p.en p.ec) := rfl
set_option maxHeartbeats 2000000 in
theorem core_note {B : Nat} {w : World} {x : Nat} {p : CP} {s : Co} (h : CAt B w x p s) (hB : B ≤ w.heap.size) (e : Ev) (he : e.Fine) (hen : p.en < 1000000000) :
    Calls Try.prog 52 #[.pointer (some ⟨x, 0, none⟩), .agg e.row.toArray] w fun r w' => r = .returned (.tuple #[]) ∧ ∃ p', CAt B w' x p' { s with events := s.events ++ [e] } ∧ Stp w w' x p p' := by
  have H := hide h
  have HE := hide he
  have HOK : Hid (({ s with events := s.events ++ [e] } : Co).Ok) := ⟨h.ok.cfg, h.ok.np, h.ok.nl, h.ok.short, h.ok.head, h.ok.has, h.ok.heard, h.ok.frame, h.ok.sum, h.ok.marks, h.ok.mark, h.ok.now, by show (s.events ++ [e]).length ≤ _; rw [List.length_append, h.en]; simp; omega⟩
  rw [show Value.agg e.row.toArray = .agg #[.int .i64 e.kind, .int .i64 e.player, .int .i64 e.frame] from rfl]
  obtain ⟨k0, hk0⟩ : ∃ k, k = e.kind := ⟨_, rfl⟩
  obtain ⟨k1, hk1⟩ : ∃ k, k = e.player := ⟨_, rfl⟩
  obtain ⟨k2, hk2⟩ : ∃ k, k = e.frame := ⟨_, rfl⟩
  have HEV : Hid (Value.agg #[.int .i64 k0, .int .i64 k1, .int .i64 k2] = .agg e.row.toArray) := by show _ = _; rw [hk0, hk1, hk2]; rfl
  rw [← hk0, ← hk1, ← hk2]
  clear h he hk0 hk1 hk2
  go_enter Try.func52, Try.ntmps52
  have HB := hide hB
  go_wp2_with fail
  rw [HEV.out]
  refine Calls.mono (event_Of e HE.out _) ?_
  rintro r w2 ⟨rfl, hb2⟩
  obtain ⟨v, hv⟩ : ∃ v, v = e.val := ⟨_, rfl⟩
  have hv1 : v.oneCell' = true := by rw [hv]; cases e <;> rfl
  have HV := hide hv
  rw [← hv]
  have H2 := hide (H.out.below (Below_step (Below_new _ _) hb2))
  have HB2 := hide (Below_step (Below_new w (.cells #[.int .i64 k0, .int .i64 k1, .int .i64 k2] 59)) hb2)
  clear hv hb2 H hB
  go_upto_region 3 with (refine wpA_init rfl 114 (.tmp 4) (.tmp 9) rfl [v] rfl rfl 1 info_ev rfl rfl (by simpa using hv1) ?_; intro w3 ha3 hb3 hs3)
  obtain ⟨g4, hg4⟩ : ∃ g, g = w2.heap.size := ⟨_, rfl⟩
  have HGN : Hid (¬ Mine p.eA p.en p.ec g4) := fun hm => by have := (H2.out.events.blk g4 hm).2; omega
  have HGX : Hid (¬ g4 = (⟨x, 13, none⟩ : Addr).block) := fun hm => by have := H2.out.head.lt; simp only at hm; omega
  rw [← hg4] at ha3 ⊢
  have HA3 := hide ha3
  have H3 := hide (H2.out.below hb3)
  have HB3 := hide (Below_step HB2.out hb3)
  have hsw3 := HB3.out.size
  have hB3 : B ≤ w3.heap.size := Nat.le_trans HB.out hsw3
  have cE := H3.out.cell (coRow_ev s p)
  have cV : w3.cell? ⟨g4, 0, none⟩ = some v := HA3.out.cell (j := 0) (by simp)
  have bn := Below_new w3.drew (.cells #[v] 114)
  have H4 := hide (H3.out.drew.below bn)
  have HB4 := hide (Below_step HB3.out.drew bn)
  have cE4 := H4.out.cell (coRow_ev s p)
  have cE4 : (World.alloc w3 (.cells #[v] 114)).cell? ⟨x, 13, none⟩ = some (.slice p.eA p.en p.ec) := cE4
  have cV4 := below_cell bn cV
  have HL4 := hide (Lies.new w3.drew #[v] 114 (0, 0))
  have hB4 : B ≤ (World.alloc w3.drew (.cells #[v] 114)).heap.size := by simp; omega
  clear bn ha3 hb3 hs3 hg4 H2 HB2
  refine wp_region_noPanic ?_
  refine wp_region_held_drew (S := (fun w' => w'.cell? ⟨g4, 0, none⟩ = some v)) (by kernel_rfl) cV (fun hHeld => ?_)
  refine tk0 0 ?_
  refine tk 1 ?_
  refine tk 2 ?_
  refine tk 3 ?_
  refine tk 5 ?_
  refine wpAnyH_ready (rs := [4, 6]) (by kernel_rfl) (by simp) ?_
  refine AllReadyH.cons (o := ?_) ?_ (fun K hK => ?_) ?_
  rotate_left 1
  · (simp only [List.getElem?_toArray, List.getElem?_cons_succ, List.getElem?_cons_zero]; rfl)
  · go_simp
    skip
    refine hK.out _ _ cV (fun hHeld => ?_)
    clear hK K
    try simp only [Act.put, List.setIfInBounds_toArray, List.set_cons_zero, List.set_cons_succ]
    refine rdy 6 fun K hK => ?_
    go_simp
    refine hK.out _ _ cV4 (fun hHeld => ?_)
    clear hK K
    try simp only [Act.put, List.setIfInBounds_toArray, List.set_cons_zero, List.set_cons_succ]
    refine rdy 7 fun K hK => ?_
    (refine step_appendV elem_events rfl (.tmp 16) (.tmp 18) rfl B p.eA p.en p.ec _ rfl H4.out.events _ _ 1 1 [v] rfl rfl HL4.out (by simpa using hv1) (by omega) (p.en + 1) _ rfl rfl (by omega) (by omega) hB4 ?_; intro A5 c5 w5 own5 k5 hk5)
    rw [HV.out] at own5
    have HC5 := hide (CAt.setEvents H4.out k5 own5 hk5 HOK.out)
    have cV5 := keeps_cell' k5 cV4 HGN.out
    have f5 := HC5.out.1.frozen 13
    have c5' := HC5.out.1.cell (j := 13) (by simp [coRow, Cfg.row])
    refine hK.out _ _ cV5 (fun hHeld => ?_)
    clear hK K
    try simp only [Act.put, List.setIfInBounds_toArray, List.set_cons_zero, List.set_cons_succ]
    refine tk 8 ?_
    refine tk 9 ?_
    refine rdy 10 fun K hK => ?_
    go_simp
    refine hK.out _ _ (keeps_cell' (Keeps.setCell w5 ⟨x, 13, none⟩ _) cV5 HGX.out) (fun hHeld => ?_)
    clear hK K
    try simp only [Act.put]
    refine wpAnyH_done (by kernel_rfl) (NoPanic.normal ?_) _
    go_wp2_with fail
    exact bodyPost_end (v := .tuple #[]) (by simp [results, go_sem]) rfl ⟨rfl, _, HC5.out.2.1, (Stp.of_below HB4.out).trans HC5.out.2.2⟩
  refine AllReadyH.cons (o := ?_) ?_ (fun K hK => ?_) ?_
  rotate_left 1
  · (simp only [List.getElem?_toArray, List.getElem?_cons_succ, List.getElem?_cons_zero]; rfl)
  · go_simp
    skip
    refine hK.out _ _ cV4 (fun hHeld => ?_)
    clear hK K
    try simp only [Act.put, List.setIfInBounds_toArray, List.set_cons_zero, List.set_cons_succ]
    refine rdy 4 fun K hK => ?_
    go_simp
    refine hK.out _ _ cV4 (fun hHeld => ?_)
    clear hK K
    try simp only [Act.put, List.setIfInBounds_toArray, List.set_cons_zero, List.set_cons_succ]
    refine rdy 7 fun K hK => ?_
    (refine step_appendV elem_events rfl (.tmp 16) (.tmp 18) rfl B p.eA p.en p.ec _ rfl H4.out.events _ _ 1 1 [v] rfl rfl HL4.out (by simpa using hv1) (by omega) (p.en + 1) _ rfl rfl (by omega) (by omega) hB4 ?_; intro A5 c5 w5 own5 k5 hk5)
    rw [HV.out] at own5
    have HC5 := hide (CAt.setEvents H4.out k5 own5 hk5 HOK.out)
    have cV5 := keeps_cell' k5 cV4 HGN.out
    have f5 := HC5.out.1.frozen 13
    have c5' := HC5.out.1.cell (j := 13) (by simp [coRow, Cfg.row])
    refine hK.out _ _ cV5 (fun hHeld => ?_)
    clear hK K
    try simp only [Act.put, List.setIfInBounds_toArray, List.set_cons_zero, List.set_cons_succ]
    refine tk 8 ?_
    refine tk 9 ?_
    refine rdy 10 fun K hK => ?_
    go_simp
    refine hK.out _ _ (keeps_cell' (Keeps.setCell w5 ⟨x, 13, none⟩ _) cV5 HGX.out) (fun hHeld => ?_)
    clear hK K
    try simp only [Act.put]
    refine wpAnyH_done (by kernel_rfl) (NoPanic.normal ?_) _
    go_wp2_with fail
    exact bodyPost_end (v := .tuple #[]) (by simp [results, go_sem]) rfl ⟨rfl, _, HC5.out.2.1, (Stp.of_below HB4.out).trans HC5.out.2.2⟩
  exact AllReadyH.nil
end Go.Proofs.Ytbcgffgiifminaa
namespace Go.Proofs.Ytbcgffgiifminaa
open Go.RowKit
set_option maxRecDepth 10000
set_option linter.unusedVariables false
/-- Is a player's word another one than the mark's, and was not told? -/
def Peer.bad (p : Peer) (marks : List Int) : Bool := decide (1 ≤ p.frame) && decide (p.frame ≤ (marks.length : Int)) && !p.apart && !(p.sum == marks.getD (p.frame - 1).toNat 0)
def Co.hold1 (s : Co) (i : Nat) : Co :=
  match s.peers[i]? with
  | some p => if p.bad s.marks = true then { s with peers := s.peers.set i { p with apart := true }, events := s.events ++ [.apart i p.frame] } else s
  | none => s
def Co.holdK (s : Co) : Nat → Co
  | 0 => s
  | k + 1 => (s.holdK k).hold1 k
def Co.hold (s : Co) : Co := s.holdK s.peers.length
theorem hold1_same (s : Co) (i : Nat) : (s.hold1 i).cfg = s.cfg ∧ (s.hold1 i).ls = s.ls ∧ (s.hold1 i).marks = s.marks ∧ (s.hold1 i).now = s.now ∧ (s.hold1 i).closed = s.closed ∧ (s.hold1 i).peers.length = s.peers.length ∧ s.events.length ≤ (s.hold1 i).events.length ∧ (s.hold1 i).events.length ≤ s.events.length + 1 := by
  unfold Co.hold1
  split
  · split
    · refine ⟨rfl, rfl, rfl, rfl, rfl, List.length_set, ?_, ?_⟩ <;> simp
    · exact ⟨rfl, rfl, rfl, rfl, rfl, rfl, Nat.le_refl _, Nat.le_succ _⟩
  · exact ⟨rfl, rfl, rfl, rfl, rfl, rfl, Nat.le_refl _, Nat.le_succ _⟩
theorem holdK_same (s : Co) : ∀ k, (s.holdK k).cfg = s.cfg ∧ (s.holdK k).ls = s.ls ∧ (s.holdK k).marks = s.marks ∧ (s.holdK k).now = s.now ∧ (s.holdK k).closed = s.closed ∧ (s.holdK k).peers.length = s.peers.length ∧ s.events.length ≤ (s.holdK k).events.length ∧ (s.holdK k).events.length ≤ s.events.length + k
  | 0 => ⟨rfl, rfl, rfl, rfl, rfl, rfl, Nat.le_refl _, Nat.le_refl _⟩
  | k + 1 => by
    obtain ⟨a, b, c, d, e, f, g, h⟩ := holdK_same s k
    obtain ⟨a', b', c', d', e', f', g', h'⟩ := hold1_same (s.holdK k) k
    exact ⟨a'.trans a, b'.trans b, c'.trans c, d'.trans d, e'.trans e, f'.trans f, Nat.le_trans g g', by show ((s.holdK k).hold1 k).events.length ≤ _; omega⟩
theorem Co.Ok.setPeer {s : Co} (h : s.Ok) (i : Nat) (b : Peer) (h1 : 0 ≤ b.has ∧ b.has ≤ ((s.ls.getD s.cfg.me.toNat []).length : Int)) (h2 : 0 ≤ b.heard ∧ b.heard ≤ s.now) (h3 : 0 ≤ b.frame ∧ b.frame ≤ 1000) (h4 : 0 ≤ b.sum ∧ b.sum < 4294967296) : ({ s with peers := s.peers.set i b } : Co).Ok := by
  have hm : ∀ q ∈ s.peers.set i b, q ∈ s.peers ∨ q = b := fun q hq => List.mem_or_eq_of_mem_set hq
  refine ⟨h.cfg, by rw [List.length_set]; exact h.np, h.nl, h.short, h.head, ?_, ?_, ?_, ?_, h.marks, h.mark, h.now, h.events⟩
  · intro q hq; rcases hm q hq with h' | rfl; exact h.has q h'; exact h1
  · intro q hq; rcases hm q hq with h' | rfl; exact h.heard q h'; exact h2
  · intro q hq; rcases hm q hq with h' | rfl; exact h.frame q h'; exact h3
  · intro q hq; rcases hm q hq with h' | rfl; exact h.sum q h'; exact h4
theorem coRow_peers (s : Co) (p : CP) : (coRow s p)[11]? = some (.slice (some ⟨p.g, 0, none⟩) s.peers.length p.pc) := rfl
theorem coRow_marks (s : Co) (p : CP) : (coRow s p)[12]? = some (.slice p.mA p.mn p.mc) := rfl
set_option maxHeartbeats 4000000 in
theorem core_hold {B : Nat} {w : World} {x : Nat} {p : CP} {s : Co} (h : CAt B w x p s) (hB : B ≤ w.heap.size) (hen : p.en ≤ 999999000) :
    Calls Try.prog 54 #[.pointer (some ⟨x, 0, none⟩)] w fun r w' => r = .returned (.tuple #[]) ∧ ∃ p', CAt B w' x p' s.hold ∧ Stp w w' x p p' := by
  have H := hide h
  have HB := hide hB
  obtain ⟨n, hn⟩ : ∃ n, n = s.peers.length := ⟨_, rfl⟩
  have HN := hide hn
  have hn8 : n ≤ 8 := by have := h.ok.np; have := h.ok.cfg.n; omega
  have cP := h.cell (coRow_peers s p)
  rw [← hn] at cP
  obtain ⟨S, hS⟩ : ∃ S, S = s.hold := ⟨_, rfl⟩
  rw [← hS]
  have HS := hide hS
  clear h hB hn hS
  go_enter Try.func54, Try.ntmps54
  go_wp2_with fail
  go_loopg [2, 3, 9] n (fun gg s2 s3 s9 wr => ∃ (i : Nat) (p1 : CP), i ≤ n ∧ gg = n - i ∧ s9 = .int .i64 (i : Int) ∧ Hid (CAt B wr x p1 (s.holdK i)) ∧ Hid (Stp w wr x p p1))
  case atStart => exact ⟨0, p, by omega, rfl, rfl, H.out, Stp.refl _ _ _⟩
  case round =>
    obtain ⟨W1, hW1⟩ : ∃ W1, W1 = wr := ⟨_, rfl⟩
    subst hW1
    obtain ⟨i, p1, hin, rfl, rfl, HC, HST⟩ := hrel
    by_cases hlt : i < n
    · obtain ⟨s1, hs1⟩ : ∃ s1, s1 = s.holdK i := ⟨_, rfl⟩
      rw [← hs1] at HC
      have HS1 := hide hs1
      have hsame := holdK_same s i
      rw [← hs1] at hsame
      obtain ⟨-, -, -, -, -, hl1, -, he1⟩ := hsame
      have hil : i < s1.peers.length := by rw [hl1, ← HN.out]; exact hlt
      have hen1 : p1.en < 1000000000 := by
        have := HC.out.en
        have := H.out.en
        omega
      have cP1 := HC.out.cell (coRow_peers s1 p1)
      have cM1 := HC.out.cell (coRow_marks s1 p1)
      rw [hl1, ← HN.out] at cP1
      obtain ⟨pr, hpr⟩ : ∃ pr, pr = s1.peers[i] := ⟨_, rfl⟩
      have HPR : Hid (s1.peers[i]? = some pr) := by show _ = _; rw [List.getElem?_eq_getElem hil, hpr]
      have HPR2 : Hid (pr ∈ s1.peers) := by rw [hpr]; exact List.getElem_mem hil
      have c2 := HC.out.pcell (j := 2) (v := .int .i64 pr.frame) hil (by omega) (by rw [← hpr]; rfl)
      have c3 := HC.out.pcell (j := 3) (v := .int .u32 pr.sum) hil (by omega) (by rw [← hpr]; rfl)
      have c4 := HC.out.pcell (j := 4) (v := .bool pr.apart) hil (by omega) (by rw [← hpr]; rfl)
      obtain ⟨fr, hfr⟩ : ∃ fr, fr = pr.frame := ⟨_, rfl⟩
      obtain ⟨sm, hsm⟩ : ∃ sm, sm = pr.sum := ⟨_, rfl⟩
      obtain ⟨ap, hap⟩ : ∃ ap, ap = pr.apart := ⟨_, rfl⟩
      rw [← hfr] at c2
      rw [← hsm] at c3
      rw [← hap] at c4
      obtain ⟨bad, hbad⟩ : ∃ bad, bad = pr.bad s1.marks := ⟨_, rfl⟩
      have HBAD := hide hbad
      have HFS := hide (And.intro hfr (And.intro hsm hap))
      have hfr0 : 0 ≤ fr ∧ fr ≤ 1000 := by rw [hfr]; exact HC.out.ok.frame pr HPR2.out
      have HML : Hid (s1.marks.length = p1.mn) := HC.out.mn
      have hii : (i : Int) < (n : Int) := by omega
      have HIL := hide hil
      clear hs1 hl1 he1 hpr hfr hsm hap hbad hil
      go_upto_region 4 with fail
      go_cut [58] from 10 to 70 (fun s wx => s = .bool (!bad) ∧ ∃ nd, wx = W1.drewN nd)
      case first =>
        have hb : bad = (decide (1 ≤ fr) && decide (fr ≤ (p1.mn : Int)) && !ap && !(sm == s1.marks.getD (fr - 1).toNat 0)) := by
          rw [HBAD.out, Peer.bad, ← HFS.out.1, ← HFS.out.2.1, ← HFS.out.2.2, HML.out]
        by_cases h1 : fr < 1
        · have d1 : decide (fr < 1) = true := decide_eq_true h1
          have e : Hid (bad = false) := by show _ = _; rw [hb, decide_eq_false (by omega)]; rfl
          clear hb h1
          go_quiet (fail)
          go_wp2_with fail
          go_meet
          exact ⟨by rw [e.out]; rfl, _, rfl⟩
        have d1 : decide (fr < 1) = false := decide_eq_false h1
        have e1 : decide (1 ≤ fr) = true := decide_eq_true (by omega)
        by_cases h2 : fr > (p1.mn : Int)
        · have d2 : decide (fr > (p1.mn : Int)) = true := decide_eq_true h2
          have e : Hid (bad = false) := by show _ = _; rw [hb, decide_eq_false (show ¬ fr ≤ (p1.mn : Int) by omega), Bool.and_false]; rfl
          clear hb h1 h2
          go_quiet (fail)
          go_wp2_with fail
          go_meet
          exact ⟨by rw [e.out]; rfl, _, rfl⟩
        have d2 : decide (fr > (p1.mn : Int)) = false := decide_eq_false h2
        have e2 : decide (fr ≤ (p1.mn : Int)) = true := decide_eq_true (by omega)
        cases ap
        · obtain ⟨k, hk⟩ : ∃ k : Nat, fr - 1 = (k : Int) := ⟨(fr - 1).toNat, by omega⟩
          have hkm : k < p1.mn := by omega
          obtain ⟨gm, hmA, -, -⟩ := HC.out.marks.form (by omega)
          have hmk := HC.out.marks
          rw [hmA] at hmk cM1
          obtain ⟨hl9, c9⟩ := hmk.cell hkm
          obtain ⟨mk, hmk2⟩ : ∃ mk, mk = s1.marks.getD k 0 := ⟨_, rfl⟩
          have hc9 : W1.cell? ⟨gm, k, none⟩ = some (.int .u32 mk) := by
            rw [c9, List.getElem_map, hmk2]
            have hl10 : k < s1.marks.length := by rw [HML.out]; exact hkm
            rw [List.getD_eq_getElem?_getD, List.getElem?_eq_getElem hl10]; rfl
          obtain ⟨z, hz⟩ : ∃ z : Bool, (sm == mk) = z := ⟨_, rfl⟩
          have e : Hid (bad = !z) := by
            show _ = _
            rw [hb, e1, e2, hk, Int.toNat_natCast, ← hmk2, hz]; cases z <;> rfl
          have hki : (k : Int) < (p1.mn : Int) := by omega
          clear hb e1 e2 hmk hmA hl9 c9 hmk2
          go_quiet (fail)
          go_wp2_with fail
          go_meet
          exact ⟨by rw [e.out, Bool.not_not], _, rfl⟩
        · have e : Hid (bad = false) := by show _ = _; rw [hb]; simp
          clear hb h1 h2
          go_quiet (fail)
          go_wp2_with fail
          go_meet
          exact ⟨by rw [e.out]; rfl, _, rfl⟩
      case rest =>
      obtain ⟨rfl, nd, hnd⟩ := hcut
      obtain ⟨W2, hW2⟩ : ∃ W2, W2 = wc := ⟨_, rfl⟩
      subst hW2
      have HC2 : Hid (CAt B W2 x p1 s1) := by show CAt _ _ _ _ _; rw [hnd]; exact HC.out.drewN nd
      have HST2 : Hid (Stp w W2 x p p1) := by
        show Stp _ _ _ _ _
        rw [hnd]
        exact HST.out.trans (Stp.of_below (Below_drewN (Below.refl _ _) nd))
      clear hnd cP1 cM1 c2 c3 c4 HC HST
      cases bad with
      | false =>
        have HNX : Hid (s.holdK (i + 1) = s1) := by
          show _ = _
          rw [Co.holdK, ← HS1.out, Co.hold1, HPR.out]
          simp only
          rw [← HBAD.out, if_neg (by decide)]
        go_wp2_with fail
        go_roundg (n - (i + 1))
        case measure => omega
        case rel => exact ⟨i + 1, p1, by omega, rfl, by go_num, by rw [HNX.out]; exact HC2, HST2⟩
      | true =>
        have HNX : Hid (s.holdK (i + 1) = { s1 with peers := s1.peers.set i { pr with apart := true }, events := s1.events ++ [.apart (i : Int) fr] }) := by
          show _ = _
          rw [Co.holdK, ← HS1.out, Co.hold1, HPR.out]
          simp only
          rw [← HBAD.out, if_pos rfl, HFS.out.1]
        have hpe : s1.peers[i]'HIL.out = pr := by
          have := HPR.out
          rw [List.getElem?_eq_getElem HIL.out] at this
          injection this
        have hfz := HC2.out.pfrozen (i * 5 + 4)
        have c4 := HC2.out.pcell (j := 4) (v := .bool pr.apart) HIL.out (by omega) (by rw [hpe]; rfl)
        have HPS := hide (HC2.out.setPeer i 4 (.bool true) { pr with apart := true } HIL.out (by omega) (by rw [hpe]; rfl) (HC2.out.ok.setPeer i _ (HC2.out.ok.has pr HPR2.out) (HC2.out.ok.heard pr HPR2.out) (HC2.out.ok.frame pr HPR2.out) (HC2.out.ok.sum pr HPR2.out)))
        go_upto_region 6 with fail
        generalize World.setCell W2 _ _ = W3 at HPS ⊢
        obtain ⟨HC3', HST3⟩ := HPS.out
        have HC3 := hide HC3'
        have c2 := HC3.out.pcell (i := i) (j := 2) (v := .int .i64 fr) (by rw [List.length_set]; exact HIL.out) (by omega) (by rw [List.getElem_set_self]; rw [HFS.out.1]; rfl)
        have HST4 := hide (HST2.out.trans HST3)
        have hB3 := Nat.le_trans HB.out HST4.out.keeps.size
        clear HC3' HST3 HPS hfz c4 HST2 HC2
        go_wp2_with fail
        refine Calls.mono (core_note HC3.out hB3 (.apart (i : Int) fr) ⟨⟨by show 0 ≤ (i : Int); omega, by show (i : Int) < 8; omega⟩, hfr0⟩ hen1) ?_
        rintro r w5 ⟨rfl, p5, hc5, hst5⟩
        have HC5 := hide hc5
        have HST5 := hide (HST4.out.trans hst5)
        clear hc5 hst5
        go_wp2_with fail
        go_roundg (n - (i + 1))
        case measure => omega
        case rel => exact ⟨i + 1, p5, by omega, rfl, by go_num, by rw [HNX.out]; exact HC5, HST5⟩
    · obtain rfl : i = n := by omega
      go_wp2_with fail
      refine bodyPost_end (v := .tuple #[]) (by simp [results, go_sem]) rfl ⟨rfl, p1, ?_, HST.out⟩
      rw [HS.out, Co.hold, ← HN.out]
      exact HC.out
end Go.Proofs.Ytbcgffgiifminaa
namespace Go.Proofs.Ytbcgffgiifminaa
open Go.RowKit
set_option maxRecDepth 10000
set_option linter.unusedVariables false
theorem info_cfg : (Try.prog.info? 28).map (·.size) = some 10 := by kernel_rfl
theorem coRow_closed (s : Co) (p : CP) : (coRow s p)[15]? = some (.bool s.closed) := rfl
theorem coRow_now (s : Co) (p : CP) : (coRow s p)[14]? = some (.int .i64 s.now) := rfl
theorem coRow_q (s : Co) (p : CP) : (coRow s p)[10]? = some (.pointer (some ⟨p.q, 0, none⟩)) := rfl
theorem coRow_me (s : Co) (p : CP) : (coRow s p)[1]? = some (.int .i64 s.cfg.me) := rfl
theorem coRow_id (s : Co) (p : CP) : (coRow s p)[2]? = some (.int .i64 s.cfg.id) := rfl
theorem coRow_n (s : Co) (p : CP) : (coRow s p)[0]? = some (.int .i64 s.cfg.n) := rfl
theorem coRow_window (s : Co) (p : CP) : (coRow s p)[4]? = some (.int .i64 s.cfg.window) := rfl
theorem results_Cfg {fn : Func} {p : Tmp} (h : fn.results = #[.cell p 28]) (tmps : Array Value) (w : World) (g : Nat) (hp : tmps.getD p undef = .pointer (some ⟨g, 0, none⟩)) (c : Cfg) (hg : Arr 28 w g c.row) :
    (results fn tmps).run Try.prog w = .ok c.val w :=
  results_cell_row h tmps w g 28 c.row.toArray (0, 0) _ hp hg Try.underlying28 rfl info_cfg
theorem Cfg.row_one (c : Cfg) : ∀ u ∈ c.row, u.oneCell' = true := by
  intro u hu
  simp only [Cfg.row, List.mem_cons, List.not_mem_nil, or_false] at hu
  rcases hu with rfl | rfl | rfl | rfl | rfl | rfl | rfl | rfl | rfl | rfl <;> rfl
section
variable {B : Nat} {w : World} {x : Nat} {p : CP} {s : Co}
/-- The row of events is given away. -/
theorem CAt.dropEvents (h : CAt B w x p s) : OwnV 114 (w.setCell ⟨x, 13, none⟩ (.slice none 0 0)) B p.eA p.en p.ec (s.events.map Ev.val) ∧ CAt B (w.setCell ⟨x, 13, none⟩ (.slice none 0 0)) x { p with eA := none, en := 0, ec := 0 } { s with events := [] } ∧ Stp w (w.setCell ⟨x, 13, none⟩ (.slice none 0 0)) x p { p with eA := none, en := 0, ec := 0 } := by
  have ks := Keeps.setCell w ⟨x, 13, none⟩ (.slice none 0 0)
  have off : Off (fun k => k = (⟨x, 13, none⟩ : Addr).block) w (tQ ++ [86, 39, 114]) := Off.of (T := 84) (fun k hk => by rw [hk]; exact h.head.tb) (by decide)
  refine ⟨owns_off h.events ks off (by decide), ⟨h.head.set 13 _, h.base, h.q.off ks off (by decide), h.nx, owns_off h.peers ks off (by decide), owns_off h.marks ks off (by decide), World.ownsRow_nil _ _ _ _, ⟨h.ok.cfg, h.ok.np, h.ok.nl, h.ok.short, h.ok.head, h.ok.has, h.ok.heard, h.ok.frame, h.ok.sum, h.ok.marks, h.ok.mark, h.ok.now, Nat.zero_le _⟩⟩, ⟨ks.mono fun k _ hk => .inl hk, ?_⟩⟩
  intro k hk
  rcases hk with hk | hk | hk | hk | hk | hk | hk
  · exact .inl (.inl hk)
  · exact .inl (.inr (.inl hk))
  · exact .inl (.inr (.inr (.inl hk)))
  · exact .inl (.inr (.inr (.inr (.inl hk))))
  · exact .inl (.inr (.inr (.inr (.inr (.inl hk)))))
  · exact .inl (.inr (.inr (.inr (.inr (.inr (.inl hk))))))
  · simp [Mine, Value.ownBlock] at hk
theorem core_Closed (h : CAt B w x p s) : Calls Try.prog 26 #[.pointer (some ⟨x, 0, none⟩)] w fun r w' => r = .returned (.bool s.closed) ∧ w = w' := by
  have c := h.cell (coRow_closed s p)
  obtain ⟨b, hb⟩ : ∃ b, b = s.closed := ⟨_, rfl⟩
  rw [← hb] at c ⊢
  clear h hb
  go_enter Try.func26, Try.ntmps26
  go_wp2_with fail
  go_ret
  exact ⟨rfl, rfl⟩
theorem core_Closed_nil (w : World) : Calls Try.prog 26 #[.pointer none] w fun r w' => r = .returned (.bool true) ∧ w = w' := by
  go_enter Try.func26, Try.ntmps26
  go_wp2_with fail
  go_ret
  exact ⟨rfl, rfl⟩
theorem core_Queue (h : CAt B w x p s) : Calls Try.prog 17 #[.pointer (some ⟨x, 0, none⟩)] w fun r w' => r = .returned (.pointer (some ⟨p.q, 0, none⟩)) ∧ w = w' := by
  have c := h.cell (coRow_q s p)
  clear h
  go_enter Try.func17, Try.ntmps17
  go_wp2_with fail
  go_ret
  exact ⟨rfl, rfl⟩
theorem core_Queue_nil (w : World) : Calls Try.prog 17 #[.pointer none] w fun r w' => r = .returned (.pointer none) ∧ w = w' := by
  go_enter Try.func17, Try.ntmps17
  go_wp2_with fail
  go_ret
  exact ⟨rfl, rfl⟩
theorem core_Marks (h : CAt B w x p s) : Calls Try.prog 31 #[.pointer (some ⟨x, 0, none⟩)] w fun r w' => r = .returned (.int .i64 (p.mn : Int)) ∧ w = w' := by
  have c := h.cell (coRow_marks s p)
  clear h
  go_enter Try.func31, Try.ntmps31
  go_wp2_with fail
  go_ret
  exact ⟨rfl, rfl⟩
theorem core_Marks_nil (w : World) : Calls Try.prog 31 #[.pointer none] w fun r w' => r = .returned (.int .i64 0) ∧ w = w' := by
  go_enter Try.func31, Try.ntmps31
  go_wp2_with fail
  go_ret
  exact ⟨rfl, rfl⟩
set_option maxHeartbeats 1000000 in
theorem core_Conf (h : CAt B w x p s) : Calls Try.prog 49 #[.pointer (some ⟨x, 0, none⟩)] w fun r w' => r = .returned s.cfg.val ∧ Below w.heap.size w w' := by
  obtain ⟨c, hc⟩ : ∃ c, c = s.cfg := ⟨_, rfl⟩
  have hr : w.rangeAt x 0 c.row := by
    intro j v hv
    rw [Nat.zero_add]
    refine h.cell (v := v) ?_
    unfold coRow
    rw [← hc, List.getElem?_append_left (List.getElem?_eq_some_iff.1 hv).1]
    exact hv
  rw [← hc]
  have HR := hide (fun j v hv => (below_cell (Below_new w (.cells (Cfg.row ⟨0, 0, 0, 0, 0, 0, 0, 0, 0, 0⟩).toArray 28)) (hr j v hv)))
  clear h hc hr
  go_enter Try.func49, Try.ntmps49
  go_wp2_with (first
    | (refine wpList_load_mid rfl 28 (.tmp 8) rfl x 0 rfl c.row _ HR.out Try.underlying28 rfl info_cfg ?_)
    | (refine wpA_init rfl 28 (.tmp 2) (.tmp 9) rfl c.row rfl rfl 10 info_cfg rfl rfl c.row_one ?_; intro w3 ha3 hb3 hs3))
  exact bodyPost_ret (results_Cfg (fn := Try.f49) rfl _ _ _ rfl c ha3) rfl ⟨rfl, hb3⟩
end
set_option maxHeartbeats 1000000 in
theorem core_Conf_nil (w : World) : Calls Try.prog 49 #[.pointer none] w fun r w' => r = .returned (Cfg.val ⟨0, 0, 0, 0, 0, 0, 0, 0, 0, 0⟩) ∧ Below w.heap.size w w' := by
  go_enter Try.func49, Try.ntmps49
  go_wp2_with fail
  exact bodyPost_ret (results_Cfg (fn := Try.f49) rfl _ _ _ rfl ⟨0, 0, 0, 0, 0, 0, 0, 0, 0, 0⟩ (Arr.new _ w _ _ rfl)) rfl ⟨rfl, Below_new _ _⟩
/-- 'x.f' of a struct's value, the field an int. -/
theorem run_fieldI {ty : TypeId} {fs : Array Field} {i : Nat} {f : Field} (hu : Try.prog.underlying ty = some (.struct fs)) (hf : fs[i]? = some f) (hi : (Try.prog.info? f.type).map (·.size) = some 1) {d : TypeDesc} (hd : Try.prog.underlying f.type = some d) (hnd : rowDesc d = false) (cs : Array Value) {v : Value} (hv : cs[f.offset]? = some v) (w : World) :
    (Instr.field ty (.agg cs) i).run Try.prog w = .ok v w := by
  cases hq : Try.prog.info? f.type with
  | none => simp [hq] at hi
  | some t =>
    have hs : t.size = 1 := by simpa [hq] using hi
    have hagg : (isAgg f.type).run Try.prog w = .ok false w := by
      unfold isAgg
      rw [Sem.run_bind, run_underlying hd w]
      cases d <;> simp_all [rowDesc]
    simp [Instr.field, Sem.run_bind, run_underlying hu, hf, asAgg, part, hagg, sizeOf, typeInfo, hq, hs, hv]
theorem int_info : (Try.prog.info? 3).map (·.size) = some 1 := by kernel_rfl
@[go_sem] theorem run_cfg_me (a0 a1 a2 a3 a4 a5 a6 a7 a8 a9 : Value) (w : World) : Sem.run Try.prog (Instr.field 28 (.agg #[a0, a1, a2, a3, a4, a5, a6, a7, a8, a9]) 1) w = .ok a1 w :=
  run_fieldI Try.underlying28 rfl int_info Try.underlying3 rfl _ rfl w
/-- The player's own line. -/
def Co.mine (s : Co) : List UInt8 := s.ls.getD s.cfg.me.toNat []
section
variable {B : Nat} {w : World} {x : Nat} {p : CP} {s : Co}
theorem CAt.me (h : CAt B w x p s) : ∃ i : Nat, s.cfg.me = (i : Int) ∧ i < p.xs.length ∧ i < s.ls.length ∧ s.ls.length = p.xs.length ∧ p.xs.length ≤ 8 := by
  have h1 := h.ok.cfg.me
  have h2 := h.ok.np
  have h3 := h.ok.nl
  have h4 := h.nx
  have h5 := h.ok.cfg.n
  exact ⟨s.cfg.me.toNat, by omega, by omega, by omega, by omega, by omega⟩
theorem CAt.line (h : CAt B w x p s) (i : Nat) (hi : i < p.xs.length) : LineAt w p.xs[i].1 p.xs[i].2 (s.ls.getD i []) := by
  have := h.q.line i hi
  exact this
theorem core_Head (h : CAt B w x p s) : Calls Try.prog 16 #[.pointer (some ⟨x, 0, none⟩)] w fun r w' => r = .returned (.int .i64 (s.mine.length : Int)) ∧ Below w.heap.size w w' := by
  obtain ⟨i, hme, hi, hil, hll, h8⟩ := h.me
  obtain ⟨l, hl⟩ : ∃ l, l = s.mine := ⟨_, rfl⟩
  have HL : Hid (s.ls.getD i [] = l) := by show _ = _; rw [hl, Co.mine, hme, Int.toNat_natCast]
  have H := hide h
  have HM := hide hme
  rw [← hl]
  clear h hl hme hll hil
  go_enter Try.func16, Try.ntmps16
  go_wp2_with fail
  refine Calls.mono (core_Queue H.out) ?_
  rintro r w2 ⟨rfl, rfl⟩
  go_wp2_with fail
  refine Calls.mono (core_Conf H.out) ?_
  rintro r w2 ⟨rfl, hb⟩
  have HB := hide hb
  have H2 := hide (H.out.below hb)
  clear hb
  unfold Cfg.val
  go_wp2_with fail
  refine Calls.mono (queue_Line H2.out.q i hi (by omega) HM.out rfl) ?_
  rintro r w3 ⟨rfl, rfl⟩
  go_wp2_with fail
  refine Calls.mono (line_Len _ _ l _ (by rw [← HL.out]; exact H2.out.line i hi)) ?_
  rintro r w3 ⟨rfl, rfl⟩
  go_wp2_with fail
  go_ret
  exact ⟨rfl, HB.out⟩
theorem core_Head_nil (w : World) : Calls Try.prog 16 #[.pointer none] w fun r w' => r = .returned (.int .i64 0) ∧ Below w.heap.size w w' := by
  go_enter Try.func16, Try.ntmps16
  go_wp2_with fail
  refine Calls.mono (core_Queue_nil w) ?_
  rintro r w2 ⟨rfl, rfl⟩
  go_wp2_with fail
  refine Calls.mono (core_Conf_nil w) ?_
  rintro r w2 ⟨rfl, hb⟩
  have HB := hide hb
  clear hb
  unfold Cfg.val
  go_wp2_with fail
  refine Calls.mono (queue_Line_nil _ w2) ?_
  rintro r w3 ⟨rfl, rfl⟩
  go_wp2_with fail
  refine Calls.mono (line_Len_nil _) ?_
  rintro r w3 ⟨rfl, rfl⟩
  go_wp2_with fail
  go_ret
  exact ⟨rfl, HB.out⟩
set_option maxHeartbeats 1000000 in
theorem core_Events (h : CAt B w x p s) : Calls Try.prog 27 #[.pointer (some ⟨x, 0, none⟩)] w fun r w' => r = .returned (.slice p.eA p.en p.ec) ∧ OwnV 114 w' B p.eA p.en p.ec (s.events.map Ev.val) ∧ CAt B w' x { p with eA := none, en := 0, ec := 0 } { s with events := [] } ∧ Stp w w' x p { p with eA := none, en := 0, ec := 0 } := by
  have c := h.cell (coRow_ev s p)
  have f := h.hfrozen 13
  have HS := hide h.dropEvents
  clear h
  go_enter Try.func27, Try.ntmps27
  go_wp2_with fail
  go_ret
  exact ⟨rfl, HS.out⟩
theorem core_Events_nil (w : World) : Calls Try.prog 27 #[.pointer none] w fun r w' => r = .returned (.slice none 0 0) ∧ w = w' := by
  go_enter Try.func27, Try.ntmps27
  go_wp2_with fail
  go_ret
  exact ⟨rfl, rfl⟩
end
end Go.Proofs.Ytbcgffgiifminaa
namespace Go.Proofs.Ytbcgffgiifminaa
open Go.RowKit
set_option maxRecDepth 10000
set_option linter.unusedVariables false
section
variable {B : Nat} {w w' : World} {x : Nat} {p : CP} {s : Co}
/-- One line has grown. -/
theorem Co.Ok.setLine {s : Co} (h : s.Ok) (i : Nat) (l : List UInt8) (h1 : l.length ≤ 1000) (h2 : (s.ls.getD i []).length ≤ l.length) : ({ s with ls := s.ls.set i l } : Co).Ok := by
  have hg : ∀ j, ((s.ls.set i l).getD j []).length ≤ 1000 ∧ (s.ls.getD j []).length ≤ ((s.ls.set i l).getD j []).length := by
    intro j
    by_cases hj : j < s.ls.length
    · simp only [List.getD_eq_getElem?_getD, List.getElem?_set]
      split
      · rename_i e
        subst e
        rw [if_pos hj]
        have := h.short i
        simp only [List.getD_eq_getElem?_getD] at h2 this
        exact ⟨h1, h2⟩
      · have := h.short j
        simp only [List.getD_eq_getElem?_getD] at this
        exact ⟨this, Nat.le_refl _⟩
    · simp only [List.getD_eq_getElem?_getD]
      rw [List.getElem?_eq_none (l := s.ls.set i l) (by rw [List.length_set]; omega), List.getElem?_eq_none (l := s.ls) (by omega)]
      exact ⟨Nat.zero_le _, Nat.le_refl _⟩
  have hm := (hg s.cfg.me.toNat).2
  refine ⟨h.cfg, h.np, by rw [List.length_set]; exact h.nl, fun j => (hg j).1, ?_, ?_, h.heard, h.frame, h.sum, h.marks, h.mark, h.now, h.events⟩
  · have := h.head; show s.cfg.delay ≤ (((s.ls.set i l).getD s.cfg.me.toNat []).length : Int); omega
  · intro q hq; have := h.has q hq; show _ ∧ q.has ≤ (((s.ls.set i l).getD s.cfg.me.toNat []).length : Int); omega
theorem CAt.setLine (h : CAt B w x p s) (hB : B ≤ w.heap.size) (i : Nat) (hi : i < p.xs.length) {g' : Option Nat} {l' : List UInt8} (hl : LineAt w' p.xs[i].1 g' l') (hk : Keeps (lineBlocks p.xs[i].1 p.xs[i].2) w w')
    (hg : g' = p.xs[i].2 ∨ ∃ k, g' = some k ∧ w.heap.size ≤ k) (h1 : l'.length ≤ 1000) (h2 : (s.ls.getD i []).length ≤ l'.length) :
    CAt B w' x { p with xs := p.xs.set i (p.xs[i].1, g') } { s with ls := s.ls.set i l' } ∧ Stp w w' x p { p with xs := p.xs.set i (p.xs[i].1, g') } := by
  have off : Off (lineBlocks p.xs[i].1 p.xs[i].2) w [84, 86, 39, 114] := Off.of2 (h.line i hi).tb (by decide) (by decide)
  refine ⟨⟨h.head.off hk off (by decide), h.base, h.q.put hB i hi hl hk hg, ?_, owns_off h.peers hk off (by decide), owns_off h.marks hk off (by decide), owns_off h.events hk off (by decide), h.ok.setLine i l' h1 h2⟩, ⟨hk.mono fun k _ hk => .inr (.inr (.inr (.inl ⟨i, hi, hk⟩))), ?_⟩⟩
  · show (p.xs.set i _).length = _
    rw [List.length_set]; exact h.nx
  · intro k hk
    rcases hk with hk | hk | hk | ⟨j, hj, hk⟩ | hk | hk | hk
    · exact .inl (.inl hk)
    · exact .inl (.inr (.inl hk))
    · have hk2 : Mine p.qA (p.xs.set i (p.xs[i].1, g')).length p.qc k := hk
      rw [List.length_set] at hk2
      exact .inl (.inr (.inr (.inl hk2)))
    · have hj2 : j < p.xs.length := by simpa using hj
      have hk2 : lineBlocks (p.xs.set i (p.xs[i].1, g'))[j].1 (p.xs.set i (p.xs[i].1, g'))[j].2 k := hk
      rw [List.getElem_set] at hk2
      split at hk2
      · rename_i e
        subst e
        rcases hk2 with hk2 | hk2
        · exact .inl (.inr (.inr (.inr (.inl ⟨i, hi, .inl hk2⟩))))
        · rcases hg with hg | ⟨k2, hg, hge⟩
          · rw [hg] at hk2
            exact .inl (.inr (.inr (.inr (.inl ⟨i, hi, .inr hk2⟩))))
          · rw [hg] at hk2
            injection hk2 with hk2
            exact .inr (by omega)
      · exact .inl (.inr (.inr (.inr (.inl ⟨j, hj2, hk2⟩))))
    · exact .inl (.inr (.inr (.inr (.inr (.inl hk)))))
    · exact .inl (.inr (.inr (.inr (.inr (.inr (.inl hk))))))
    · exact .inl (.inr (.inr (.inr (.inr (.inr (.inr hk))))))
end
/-- A mark taken. -/
def Co.mark (s : Co) (m : Int) : Co := if s.marks.length < 1000 then ({ s with marks := s.marks ++ [m] } : Co).hold else s
set_option maxHeartbeats 2000000 in
theorem core_Mark {B : Nat} {w : World} {x : Nat} {p : CP} {s : Co} (h : CAt B w x p s) (hB : B ≤ w.heap.size) (hen : p.en ≤ 999999000) (m : Int) (hm : 0 ≤ m ∧ m < 4294967296) :
    Calls Try.prog 30 #[.pointer (some ⟨x, 0, none⟩), .int .u32 m] w fun r w' => r = .returned (.tuple #[]) ∧ ∃ p', CAt B w' x p' (s.mark m) ∧ Stp w w' x p p' := by
  have H := hide h
  have HB := hide hB
  have HML : Hid (s.marks.length = p.mn) := h.mn
  have cM := h.cell (coRow_marks s p)
  obtain ⟨S, hS⟩ : ∃ S, S = s.mark m := ⟨_, rfl⟩
  rw [← hS]
  have HS := hide hS
  have HMM := hide hm
  clear h hB hS
  by_cases hlt : p.mn < 1000
  · have HS2 : Hid (S = ({ s with marks := s.marks ++ [m] } : Co).hold) := by
      show _ = _
      rw [HS.out, Co.mark, if_pos (by rw [HML.out]; exact hlt)]
    have d1 : decide ((p.mn : Int) ≥ 1000) = false := decide_eq_false (by omega)
    have HOK : Hid (({ s with marks := s.marks ++ [m] } : Co).Ok) := ⟨H.out.ok.cfg, H.out.ok.np, H.out.ok.nl, H.out.ok.short, H.out.ok.head, H.out.ok.has, H.out.ok.heard, H.out.ok.frame, H.out.ok.sum, by show (s.marks ++ [m]).length ≤ _; rw [List.length_append, HML.out]; simp; omega, by
      intro q hq
      rcases List.mem_append.1 hq with hq | hq
      · exact H.out.ok.mark q hq
      · rw [List.mem_singleton.1 hq]; exact hm, H.out.ok.now, H.out.ok.events⟩
    have bn := Below_new w (.cells #[.int .u32 m] 39)
    have H2 := hide (H.out.below bn)
    have HB2 := hide bn
    have HL2 := hide (Lies.new w #[.int .u32 m] 39 (0, 0))
    have hB2 : B ≤ (World.alloc w (.cells #[.int .u32 m] 39)).heap.size := by have := HB.out; rw [World.size_alloc]; omega
    clear bn
    go_enter Try.func30, Try.ntmps30
    go_upto_region 1 with fail
    go_wp2_with (refine wpV_append elem_marks rfl (.tmp 18) (.tmp 20) rfl B p.mA p.mn p.mc _ rfl H2.out.marks _ _ 1 1 [.int .u32 m] rfl rfl HL2.out (by simp [Value.oneCell']) (by omega) (p.mn + 1) _ rfl rfl (by omega) (by omega) hB2 ?_; intro A5 c5 w5 own5 k5 hk5; have HC5 := hide (CAt.setMarks H2.out k5 own5 hk5 HOK.out); have f5 := HC5.out.1.frozen 12; have c5' := HC5.out.1.cell (j := 12) (by simp [coRow, Cfg.row]))
    have HC6 := hide HC5.out.2.1
    have HST := hide ((Stp.of_below HB2.out).trans HC5.out.2.2)
    refine Calls.mono (core_hold HC6.out (Nat.le_trans HB.out HST.out.keeps.size) hen) ?_
    rintro r w7 ⟨rfl, p7, hc7, hst7⟩
    go_wp2_with fail
    refine bodyPost_end (v := .tuple #[]) (by simp [results, go_sem]) rfl ⟨rfl, p7, by rw [HS2.out]; exact hc7, HST.out.trans hst7⟩
  · have HS2 : Hid (S = s) := by
      show _ = _
      rw [HS.out, Co.mark, if_neg (by rw [HML.out]; exact hlt)]
    have d1 : decide ((p.mn : Int) ≥ 1000) = true := decide_eq_true (by omega)
    go_enter Try.func30, Try.ntmps30
    go_wp2_with fail
    refine bodyPost_ret (v := .tuple #[]) (by simp [results, go_sem]) rfl ⟨rfl, p, by rw [HS2.out]; exact H.out, Stp.refl _ _ _⟩
/-- What a press answers, and the lines behind it. -/
def Co.pressErr (s : Co) : Int := if s.closed = true then 6 else if 1000 ≤ s.mine.length then 4 else if s.cfg.window ≤ (s.mine.length : Int) - (front s.ls : Int) then 5 else 0
def Co.press (s : Co) (b : UInt8) : Co := if s.pressErr = 0 then { s with ls := s.ls.set s.cfg.me.toNat (s.mine ++ [b]) } else s
end Go.Proofs.Ytbcgffgiifminaa
namespace Go.Proofs.Ytbcgffgiifminaa
open Go.RowKit
set_option maxRecDepth 10000
set_option linter.unusedVariables false
theorem core_Press_nil (b : Int) (w : World) : Calls Try.prog 15 #[.pointer none, .int .u8 b] w fun r w' => r = .returned (.int .i64 6) ∧ w = w' := by
  go_enter Try.func15, Try.ntmps15
  go_wp2_with fail
  refine Calls.mono (core_Closed_nil w) ?_
  rintro r w2 ⟨rfl, rfl⟩
  go_wp2_with fail
  go_ret
  exact ⟨rfl, rfl⟩
theorem front_le {ls : List (List UInt8)} (i : Nat) (h : i < ls.length) : front ls ≤ (ls.getD i []).length := frontK_le ls ls.length (Nat.le_refl _) i h
set_option maxHeartbeats 4000000 in
theorem core_Press {B : Nat} {w : World} {x : Nat} {p : CP} {s : Co} (h : CAt B w x p s) (hB : B ≤ w.heap.size) (b : UInt8) {v : Int} (hv : v = (b.toNat : Int)) :
    Calls Try.prog 15 #[.pointer (some ⟨x, 0, none⟩), .int .u8 v] w fun r w' => r = .returned (.int .i64 s.pressErr) ∧ ∃ p', CAt B w' x p' (s.press b) ∧ Stp w w' x p p' := by
  have H := hide h
  have HB := hide hB
  have HV := hide hv
  obtain ⟨S, hS⟩ : ∃ S, S = s.press b := ⟨_, rfl⟩
  obtain ⟨E, hE⟩ : ∃ E, E = s.pressErr := ⟨_, rfl⟩
  rw [← hS, ← hE]
  have HS := hide hS
  have HE := hide hE
  obtain ⟨cl, hcl⟩ : ∃ cl, cl = s.closed := ⟨_, rfl⟩
  have HCL := hide hcl
  obtain ⟨i, hme, hi, hil, hll, h8⟩ := h.me
  obtain ⟨m, hm⟩ : ∃ m, m = s.mine.length := ⟨_, rfl⟩
  obtain ⟨F, hF⟩ : ∃ F, F = front s.ls := ⟨_, rfl⟩
  have hmF : F ≤ m := by rw [hF, hm, Co.mine, hme, Int.toNat_natCast]; exact front_le i hil
  have hm1 : m ≤ 1000 := by rw [hm]; exact h.ok.short _
  have HMI : Hid (s.ls.getD i [] = s.mine) := by show _ = _; rw [Co.mine, hme, Int.toNat_natCast]
  have HM := hide hm
  have HF := hide hF
  have HME := hide hme
  obtain ⟨wd, hwd⟩ : ∃ wd, wd = s.cfg.window := ⟨_, rfl⟩
  have HWD := hide hwd
  have hwd2 : 1 ≤ wd ∧ wd ≤ 16 := by rw [hwd]; exact h.ok.cfg.window
  clear h hB hv hS hE hcl hme hm hF hll hwd
  go_enter Try.func15, Try.ntmps15
  go_wp2_with fail
  refine Calls.mono (core_Closed H.out) ?_
  rintro r w2 ⟨rfl, rfl⟩
  rw [← HCL.out]
  cases cl with
  | true =>
    go_wp2_with fail
    go_ret
    have e1 : E = 6 := by rw [HE.out, Co.pressErr, if_pos HCL.out.symm]
    refine ⟨by rw [e1]; rfl, p, ?_, Stp.refl _ _ _⟩
    rw [HS.out, Co.press, ← HE.out, e1, if_neg (by decide)]
    exact H.out
  | false =>
    have HEF : Hid (E = if 1000 ≤ m then 4 else if wd ≤ (m : Int) - (F : Int) then 5 else 0) := by
      show _ = _
      rw [HE.out, Co.pressErr, if_neg (by rw [← HCL.out]; decide), ← HM.out, ← HF.out, ← HWD.out]
    go_wp2_with fail
    refine Calls.mono (core_Head H.out) ?_
    rw [← HM.out]
    rintro r w2 ⟨rfl, hb2⟩
    have HB2 := hide hb2
    have H2 := hide (H.out.below hb2)
    have hs2 := hb2.size
    clear hb2
    by_cases hge : 1000 ≤ m
    · have d1 : decide ((m : Int) ≥ 1000) = true := decide_eq_true (by omega)
      have e1 : Hid (E = 4) := by show _ = _; rw [HEF.out, if_pos hge]
      go_wp2_with fail
      go_ret
      refine ⟨by rw [e1.out]; rfl, p, ?_, Stp.of_below HB2.out⟩
      rw [HS.out, Co.press, ← HE.out, e1.out, if_neg (by decide)]
      exact H2.out
    have d1 : decide ((m : Int) ≥ 1000) = false := decide_eq_false (by omega)
    have c10 := H2.out.cell (coRow_q s p)
    have c4 := H2.out.cell (coRow_window s p)
    have c1 := H2.out.cell (coRow_me s p)
    rw [← HWD.out] at c4
    have HGE := hide hge
    have hww : IntKind.i64.wrap ((m : Int) - (F : Int)) = (m : Int) - (F : Int) := IntWalk.i64_in _ ⟨by omega, by omega⟩
    obtain ⟨bw, hbw⟩ : ∃ bw, bw = decide ((m : Int) - (F : Int) ≥ wd) := ⟨_, rfl⟩
    have HBW := hide hbw
    clear hbw hge
    go_upto_region 5 with fail
    go_cut [12] (fun s12 wx => s12 = .bool bw ∧ Below w2.heap.size w2 wx)
    case first =>
      refine wp_region_noPanic ?_
      refine wp_region_held_drew (S := (fun w' => w'.cell? ⟨x, 10, none⟩ = some (.pointer (some ⟨p.q, 0, none⟩)) ∧ w'.cell? ⟨x, 4, none⟩ = some (.int .i64 wd))) (by kernel_rfl) ⟨c10, c4⟩ (fun hHeld => ?_)
      refine tk0 0 ?_
      refine tk 2 ?_
      refine tk 3 ?_
      refine tk 4 ?_
      refine tk 5 ?_
      refine tk 8 ?_
      refine tk 9 ?_
      refine tk 10 ?_
      refine tk 11 ?_
      refine tk 12 ?_
      refine rdy 1 fun K hK => ?_
      go_simp
      refine Calls.mono (core_Head H2.out.drew) ?_
      rw [← HM.out]
      rintro r w3 ⟨rfl, hb3⟩
      refine hK.out _ _ ⟨below_cell hb3 c10, below_cell hb3 c4⟩ (fun hHeld => ?_)
      clear hK K
      try simp only [Act.put, List.setIfInBounds_toArray, List.set_cons_zero, List.set_cons_succ]
      have H3 := hide (H2.out.drew.below hb3)
      refine rdy 6 fun K hK => ?_
      go_simp
      refine Calls.mono (queue_Front H3.out.q (by omega) (by omega) (f := (F : Int)) (by rw [HF.out])) ?_
      rintro r w4 ⟨rfl, rfl⟩
      refine hK.out _ _ ⟨below_cell hb3 c10, below_cell hb3 c4⟩ (fun hHeld => ?_)
      clear hK K
      try simp only [Act.put, List.setIfInBounds_toArray, List.set_cons_zero, List.set_cons_succ]
      refine tk 7 ?_
      refine tk 13 (v := .bool bw) (hy := by refine Or.inl ⟨by rfl, ?_⟩; intro w hSw; (try dsimp only at hSw); (rw [HBW.out]; go_simp <;> with_reducible rfl)) ?_
      refine tk 14 ?_
      refine wpAnyH_done (by kernel_rfl) (NoPanic.normal ?_) _
      go_wp2_with fail
      go_meet
      exact ⟨rfl, ⟨hb3.os, hb3.tape, hb3.output, hb3.size, hb3.block⟩⟩
    case rest =>
    obtain ⟨rfl, hb3⟩ := hcut
    obtain ⟨W3, hW3⟩ : ∃ W3, W3 = wc := ⟨_, rfl⟩
    subst hW3
    have H3 := hide (H2.out.below hb3)
    have HB3 := hide (Below_step HB2.out hb3)
    have c10 := below_cell hb3 c10
    have c1 := below_cell hb3 c1
    clear hb3 c4 H2 HB2 hs2
    cases bw with
    | true =>
      have e1 : Hid (E = 5) := by
        show _ = _
        rw [HEF.out, if_neg HGE.out, if_pos]
        have := HBW.out
        have := of_decide_eq_true this.symm
        omega
      go_wp2_with fail
      go_ret
      refine ⟨by rw [e1.out]; rfl, p, ?_, Stp.of_below HB3.out⟩
      rw [HS.out, Co.press, ← HE.out, e1.out, if_neg (by decide)]
      exact H3.out
    | false =>
      have e1 : Hid (E = 0) := by
        show _ = _
        rw [HEF.out, if_neg HGE.out, if_neg]
        have := HBW.out
        have := of_decide_eq_false this.symm
        omega
      have hm2 : m < 1000 := by have := HGE.out; omega
      have HSS : Hid (S = { s with ls := s.ls.set i (s.mine ++ [b]) }) := by
        show _ = _
        rw [HS.out, Co.press, ← HE.out, e1.out, if_pos rfl, HME.out, Int.toNat_natCast]
      have hsz := HB3.out.size
      go_upto_region 7 with fail
      refine wp_region_noPanic ?_
      refine wp_region_held_drew (S := (fun w' => w'.cell? ⟨x, 10, none⟩ = some (.pointer (some ⟨p.q, 0, none⟩)) ∧ w'.cell? ⟨x, 1, none⟩ = some (.int .i64 s.cfg.me))) (by kernel_rfl) ⟨c10, c1⟩ (fun hHeld => ?_)
      refine tk0 0 ?_
      refine tk 1 ?_
      refine tk 2 ?_
      refine tk 3 ?_
      refine tk 4 ?_
      refine tk 5 ?_
      refine tk 6 ?_
      refine tk 7 ?_
      refine tk 8 ?_
      refine tk 10 ?_
      refine rdy 9 fun K hK => ?_
      go_simp
      refine Calls.mono (queue_Line H3.out.drew.q i hi (by omega) HME.out rfl) ?_
      rintro r w3 ⟨rfl, rfl⟩
      refine hK.out _ _ ⟨c10, c1⟩ (fun hHeld => ?_)
      clear hK K
      try simp only [Act.put, List.setIfInBounds_toArray, List.set_cons_zero, List.set_cons_succ]
      refine rdy 11 fun K hK => ?_
      go_simp
      refine Calls.mono (line_Add_v _ _ s.mine b _ _ (by rw [← HMI.out]; exact H3.out.drew.line i hi) (by rw [← HM.out]; exact hm2) HV.out) ?_
      rintro r w4 ⟨rfl, g', hl4, hk4, hg4⟩
      have HC4 := hide (H3.out.drew.setLine (Nat.le_trans HB.out hsz) i hi hl4 hk4 hg4 (by rw [List.length_append, ← HM.out]; simp; omega) (by rw [HMI.out, List.length_append]; omega))
      clear hl4 hk4 hg4
      refine hK.out _ _ ⟨HC4.out.1.cell (coRow_q _ _), HC4.out.1.cell (coRow_me _ _)⟩ (fun hHeld => ?_)
      clear hK K
      try simp only [Act.put]
      refine tk 12 ?_
      refine wpAnyH_done (by kernel_rfl) (NoPanic.normal ?_) _
      go_wp2_with fail
      go_ret
      exact ⟨by rw [e1.out]; rfl, _, by rw [HSS.out]; exact HC4.out.1, (Stp.of_below HB3.out.drew).trans HC4.out.2⟩
end Go.Proofs.Ytbcgffgiifminaa
namespace Go.Proofs.Ytbcgffgiifminaa
open Go.RowKit
set_option maxRecDepth 10000
set_option linter.unusedVariables false
def inn (n a b : Int) : Bool := decide (a ≤ n) && decide (n ≤ b)
theorem inn_iff {n a b : Int} : inn n a b = true ↔ a ≤ n ∧ n ≤ b := by simp [inn]
theorem core_in (n a b : Int) (w : World) {r : Bool} (hr : inn n a b = r) : Calls Try.prog 66 #[.int .i64 n, .int .i64 a, .int .i64 b] w fun e w' => e = .returned (.bool r) ∧ w = w' := by
  by_cases h1 : a ≤ n
  · have d1 : decide (n ≥ a) = true := decide_eq_true h1
    obtain ⟨z, hz⟩ : ∃ z : Bool, decide (n ≤ b) = z := ⟨_, rfl⟩
    have HR : Hid (z = r) := by show _ = _; rw [← hr, inn, decide_eq_true h1, hz]; rfl
    clear h1 hr
    cases z
    all_goals
      go_enter Try.func66, Try.ntmps66
      go_wp2_with fail
      go_ret
      exact ⟨by rw [← HR.out]; rfl, rfl⟩
  · have d1 : decide (n ≥ a) = false := decide_eq_false h1
    have HR : Hid (false = r) := by show _ = _; rw [← hr, inn, decide_eq_false h1]; rfl
    clear h1 hr
    go_enter Try.func66, Try.ntmps66
    go_wp2_with fail
    go_ret
    exact ⟨by rw [← HR.out]; rfl, rfl⟩
def Cfg.may (c : Cfg) : Bool := inn c.n 2 8 && inn c.me 0 (c.n - 1) && decide (0 ≤ c.id) && decide (c.id ≤ 1099511627776) && (inn c.delay 0 8 && inn c.window 1 16 && inn c.guess 1 3 && inn c.order 0 3) && (decide (c.order = 0) || decide (c.guess = 2)) && inn c.branches 0 8 && inn c.workers 0 4 && inn c.room 3 50
theorem Cfg.may_iff (c : Cfg) : c.may = true ↔ c.Fine := by
  simp only [Cfg.may, inn, Bool.and_eq_true, Bool.or_eq_true, decide_eq_true_eq]
  constructor
  · rintro ⟨⟨⟨⟨⟨⟨⟨⟨h1, h2⟩, h3⟩, h4⟩, ⟨⟨h5, h6⟩, h7⟩, h8⟩, h9⟩, h10⟩, h11⟩, h12⟩
    exact ⟨h1, h2, ⟨h3, h4⟩, h5, h6, h7, h8, h9, h10, h11, h12⟩
  · rintro ⟨h1, h2, ⟨h3, h4⟩, h5, h6, h7, h8, h9, h10, h11, h12⟩
    exact ⟨⟨⟨⟨⟨⟨⟨⟨h1, h2⟩, h3⟩, h4⟩, ⟨⟨h5, h6⟩, h7⟩, h8⟩, h9⟩, h10⟩, h11⟩, h12⟩
set_option maxHeartbeats 8000000 in
theorem core_May (c : Cfg) {w : World} {r : Bool} (hr : r = c.may) :
    Calls Try.prog 33 #[c.val] w fun e w' => e = .returned (.bool r) ∧ Below w.heap.size w w' := by
  obtain ⟨n, me, id, delay, window, guess, order, branches, workers, room⟩ := c
  obtain ⟨z1, hz1⟩ : ∃ z, inn n 2 8 = z := ⟨_, rfl⟩
  obtain ⟨z2, hz2⟩ : ∃ z, inn me 0 (n - 1) = z := ⟨_, rfl⟩
  obtain ⟨z3, hz3⟩ : ∃ z : Bool, decide (id ≥ 0) = z := ⟨_, rfl⟩
  obtain ⟨z4, hz4⟩ : ∃ z : Bool, decide (id ≤ 1099511627776) = z := ⟨_, rfl⟩
  obtain ⟨z5, hz5⟩ : ∃ z, inn delay 0 8 = z := ⟨_, rfl⟩
  obtain ⟨z6, hz6⟩ : ∃ z, inn window 1 16 = z := ⟨_, rfl⟩
  obtain ⟨z7, hz7⟩ : ∃ z, inn guess 1 3 = z := ⟨_, rfl⟩
  obtain ⟨z8, hz8⟩ : ∃ z, inn order 0 3 = z := ⟨_, rfl⟩
  obtain ⟨z9, hz9⟩ : ∃ z : Bool, (order == 0) = z := ⟨_, rfl⟩
  obtain ⟨z10, hz10⟩ : ∃ z : Bool, (guess == 2) = z := ⟨_, rfl⟩
  obtain ⟨z11, hz11⟩ : ∃ z, inn branches 0 8 = z := ⟨_, rfl⟩
  obtain ⟨z12, hz12⟩ : ∃ z, inn workers 0 4 = z := ⟨_, rfl⟩
  obtain ⟨z13, hz13⟩ : ∃ z, inn room 3 50 = z := ⟨_, rfl⟩
  have HR : Hid (r = (z1 && z2 && z3 && z4 && (z5 && z6 && z7 && z8) && (z9 || z10) && z11 && z12 && z13)) := by
    show _ = _
    rw [hr, Cfg.may, ← hz1, ← hz2, ← hz3, ← hz4, ← hz5, ← hz6, ← hz7, ← hz8, ← hz9, ← hz10, ← hz11, ← hz12, ← hz13]
    rfl
  have HZ1 := hide hz1
  have HZ2 := hide hz2
  have HZ5 := hide hz5
  have HZ6 := hide hz6
  have HZ7 := hide hz7
  have HZ8 := hide hz8
  have HZ11 := hide hz11
  have HZ12 := hide hz12
  have HZ13 := hide hz13
  clear hr hz1 hz2 hz5 hz6 hz7 hz8 hz11 hz12 hz13
  go_enter Try.func33, Try.ntmps33
  go_upto_region 1 with fail
  have HP : Hid (Arr 28 (w.alloc (.cells (Cfg.row ⟨n, me, id, delay, window, guess, order, branches, workers, room⟩).toArray 28)) w.heap.size (Cfg.row ⟨n, me, id, delay, window, guess, order, branches, workers, room⟩)) := Arr.new 28 w _ _ rfl
  have HB : Hid (Below w.heap.size w (w.alloc (.cells (Cfg.row ⟨n, me, id, delay, window, guess, order, branches, workers, room⟩).toArray 28))) := Below_new _ _
  simp only [Cfg.row] at HP HB
  generalize World.alloc w _ = w1 at HP HB ⊢
  obtain ⟨g1, hg1⟩ : ∃ g, g = w.heap.size := ⟨_, rfl⟩
  rw [← hg1] at HP ⊢
  clear hg1
  have c0 := HP.out.cell (j := 0) (by simp)
  have c1 := HP.out.cell (j := 1) (by simp)
  have c2 := HP.out.cell (j := 2) (by simp)
  have c3 := HP.out.cell (j := 3) (by simp)
  have c4 := HP.out.cell (j := 4) (by simp)
  have c5 := HP.out.cell (j := 5) (by simp)
  have c6 := HP.out.cell (j := 6) (by simp)
  have c7 := HP.out.cell (j := 7) (by simp)
  have c8 := HP.out.cell (j := 8) (by simp)
  have c9 := HP.out.cell (j := 9) (by simp)
  simp only [List.getElem_cons_zero, List.getElem_cons_succ] at c0 c1 c2 c3 c4 c5 c6 c7 c8 c9
  go_cut [3] (fun s wx => s = .bool (z1 && z2 && z3 && z4) ∧ Below w1.heap.size w1 wx)
  case first =>
    cases z1 with
    | false =>
      go_wp2_with (go_at_call 66; (first | (with_reducible refine Calls.mono (core_in _ _ _ _ HZ1.out) ?_) | (with_reducible refine Calls.mono (core_in _ _ _ _ HZ2.out) ?_)); rintro e w2 ⟨rfl, rfl⟩)
      go_meet
      exact ⟨rfl, Below.refl _ _⟩
    | true =>
      have hww : IntKind.i64.wrap (n - 1) = n - 1 := IntWalk.i64_in _ ⟨by have := inn_iff.1 HZ1.out; omega, by have := inn_iff.1 HZ1.out; omega⟩
      cases z2 with
      | false =>
        go_wp2_with (go_at_call 66; (first | (with_reducible refine Calls.mono (core_in _ _ _ _ HZ1.out) ?_) | (with_reducible refine Calls.mono (core_in _ _ _ _ HZ2.out) ?_)); rintro e w2 ⟨rfl, rfl⟩)
        go_meet
        exact ⟨rfl, Below.refl _ _⟩
      | true =>
        cases z3 with
        | false =>
          go_wp2_with (go_at_call 66; (first | (with_reducible refine Calls.mono (core_in _ _ _ _ HZ1.out) ?_) | (with_reducible refine Calls.mono (core_in _ _ _ _ HZ2.out) ?_)); rintro e w2 ⟨rfl, rfl⟩)
          go_meet
          exact ⟨rfl, Below.refl _ _⟩
        | true =>
          cases z4 with
          | false =>
            go_wp2_with (go_at_call 66; (first | (with_reducible refine Calls.mono (core_in _ _ _ _ HZ1.out) ?_) | (with_reducible refine Calls.mono (core_in _ _ _ _ HZ2.out) ?_)); rintro e w2 ⟨rfl, rfl⟩)
            go_meet
            exact ⟨rfl, Below.refl _ _⟩
          | true =>
            go_wp2_with (go_at_call 66; (first | (with_reducible refine Calls.mono (core_in _ _ _ _ HZ1.out) ?_) | (with_reducible refine Calls.mono (core_in _ _ _ _ HZ2.out) ?_)); rintro e w2 ⟨rfl, rfl⟩)
            go_meet
            exact ⟨rfl, Below.refl _ _⟩
  case rest =>
  obtain ⟨rfl, hb1⟩ := hcut
  obtain ⟨y1, hy1⟩ : ∃ y, y = (z1 && z2 && z3 && z4) := ⟨_, rfl⟩
  rw [← hy1] at HR ⊢
  have HB2 := hide (Below_step HB.out hb1)
  have c3 := below_cell hb1 c3
  have c4 := below_cell hb1 c4
  have c5 := below_cell hb1 c5
  have c6 := below_cell hb1 c6
  have c7 := below_cell hb1 c7
  have c8 := below_cell hb1 c8
  have c9 := below_cell hb1 c9
  obtain ⟨w2, hw2⟩ : ∃ w2, w2 = wc := ⟨_, rfl⟩
  subst hw2
  clear hb1 hy1 hz3 hz4 c0 c1 c2 HB HP
  have HB := HB2
  clear HB2
  go_upto_region 2 with fail
  go_cut [4] (fun s wy => s = .bool (z5 && z6 && z7 && z8) ∧ Below w2.heap.size w2 wy)
  case first =>
    cases z5 with
    | false =>
      go_wp2_with (go_at_call 66; (first | (with_reducible refine Calls.mono (core_in _ _ _ _ HZ5.out) ?_) | (with_reducible refine Calls.mono (core_in _ _ _ _ HZ6.out) ?_) | (with_reducible refine Calls.mono (core_in _ _ _ _ HZ7.out) ?_) | (with_reducible refine Calls.mono (core_in _ _ _ _ HZ8.out) ?_)); rintro e w2 ⟨rfl, rfl⟩)
      go_meet
      exact ⟨rfl, Below.refl _ _⟩
    | true =>
      cases z6 with
      | false =>
        go_wp2_with (go_at_call 66; (first | (with_reducible refine Calls.mono (core_in _ _ _ _ HZ5.out) ?_) | (with_reducible refine Calls.mono (core_in _ _ _ _ HZ6.out) ?_) | (with_reducible refine Calls.mono (core_in _ _ _ _ HZ7.out) ?_) | (with_reducible refine Calls.mono (core_in _ _ _ _ HZ8.out) ?_)); rintro e w2 ⟨rfl, rfl⟩)
        go_meet
        exact ⟨rfl, Below.refl _ _⟩
      | true =>
        cases z7 with
        | false =>
          go_wp2_with (go_at_call 66; (first | (with_reducible refine Calls.mono (core_in _ _ _ _ HZ5.out) ?_) | (with_reducible refine Calls.mono (core_in _ _ _ _ HZ6.out) ?_) | (with_reducible refine Calls.mono (core_in _ _ _ _ HZ7.out) ?_) | (with_reducible refine Calls.mono (core_in _ _ _ _ HZ8.out) ?_)); rintro e w2 ⟨rfl, rfl⟩)
          go_meet
          exact ⟨rfl, Below.refl _ _⟩
        | true =>
          cases z8 with
          | false =>
            go_wp2_with (go_at_call 66; (first | (with_reducible refine Calls.mono (core_in _ _ _ _ HZ5.out) ?_) | (with_reducible refine Calls.mono (core_in _ _ _ _ HZ6.out) ?_) | (with_reducible refine Calls.mono (core_in _ _ _ _ HZ7.out) ?_) | (with_reducible refine Calls.mono (core_in _ _ _ _ HZ8.out) ?_)); rintro e w2 ⟨rfl, rfl⟩)
            go_meet
            exact ⟨rfl, Below.refl _ _⟩
          | true =>
            go_wp2_with (go_at_call 66; (first | (with_reducible refine Calls.mono (core_in _ _ _ _ HZ5.out) ?_) | (with_reducible refine Calls.mono (core_in _ _ _ _ HZ6.out) ?_) | (with_reducible refine Calls.mono (core_in _ _ _ _ HZ7.out) ?_) | (with_reducible refine Calls.mono (core_in _ _ _ _ HZ8.out) ?_)); rintro e w2 ⟨rfl, rfl⟩)
            go_meet
            exact ⟨rfl, Below.refl _ _⟩
  case rest =>
  obtain ⟨rfl, hb1⟩ := hcut
  obtain ⟨y2, hy2⟩ : ∃ y, y = (z5 && z6 && z7 && z8) := ⟨_, rfl⟩
  rw [← hy2] at HR ⊢
  have HB2 := hide (Below_step HB.out hb1)
  have c5 := below_cell hb1 c5
  have c6 := below_cell hb1 c6
  have c7 := below_cell hb1 c7
  have c8 := below_cell hb1 c8
  have c9 := below_cell hb1 c9
  obtain ⟨w3, hw3⟩ : ∃ w3, w3 = wc := ⟨_, rfl⟩
  subst hw3
  clear hb1 hy2 c3 c4 HB
  have HB := HB2
  clear HB2
  go_upto_region 3 with fail
  cases y1 with
  | false =>
    go_wp2_with (go_at_call 66; (first | (with_reducible refine Calls.mono (core_in _ _ _ _ HZ11.out) ?_) | (with_reducible refine Calls.mono (core_in _ _ _ _ HZ12.out) ?_) | (with_reducible refine Calls.mono (core_in _ _ _ _ HZ13.out) ?_)); rintro e w2 ⟨rfl, rfl⟩)
    go_ret
    exact ⟨by rw [HR.out]; rfl, HB.out⟩
  | true =>
    cases y2 with
    | false =>
      go_wp2_with (go_at_call 66; (first | (with_reducible refine Calls.mono (core_in _ _ _ _ HZ11.out) ?_) | (with_reducible refine Calls.mono (core_in _ _ _ _ HZ12.out) ?_) | (with_reducible refine Calls.mono (core_in _ _ _ _ HZ13.out) ?_)); rintro e w2 ⟨rfl, rfl⟩)
      go_ret
      exact ⟨by rw [HR.out]; rfl, HB.out⟩
    | true =>
      cases z9 with
      | true =>
        cases z11 with
        | false =>
          go_wp2_with (go_at_call 66; (first | (with_reducible refine Calls.mono (core_in _ _ _ _ HZ11.out) ?_) | (with_reducible refine Calls.mono (core_in _ _ _ _ HZ12.out) ?_) | (with_reducible refine Calls.mono (core_in _ _ _ _ HZ13.out) ?_)); rintro e w2 ⟨rfl, rfl⟩)
          go_ret
          exact ⟨by rw [HR.out]; rfl, HB.out⟩
        | true =>
          cases z12 with
          | false =>
            go_wp2_with (go_at_call 66; (first | (with_reducible refine Calls.mono (core_in _ _ _ _ HZ11.out) ?_) | (with_reducible refine Calls.mono (core_in _ _ _ _ HZ12.out) ?_) | (with_reducible refine Calls.mono (core_in _ _ _ _ HZ13.out) ?_)); rintro e w2 ⟨rfl, rfl⟩)
            go_ret
            exact ⟨by rw [HR.out]; rfl, HB.out⟩
          | true =>
            cases z13 with
            | false =>
              go_wp2_with (go_at_call 66; (first | (with_reducible refine Calls.mono (core_in _ _ _ _ HZ11.out) ?_) | (with_reducible refine Calls.mono (core_in _ _ _ _ HZ12.out) ?_) | (with_reducible refine Calls.mono (core_in _ _ _ _ HZ13.out) ?_)); rintro e w2 ⟨rfl, rfl⟩)
              go_ret
              exact ⟨by rw [HR.out]; rfl, HB.out⟩
            | true =>
              go_wp2_with (go_at_call 66; (first | (with_reducible refine Calls.mono (core_in _ _ _ _ HZ11.out) ?_) | (with_reducible refine Calls.mono (core_in _ _ _ _ HZ12.out) ?_) | (with_reducible refine Calls.mono (core_in _ _ _ _ HZ13.out) ?_)); rintro e w2 ⟨rfl, rfl⟩)
              go_ret
              exact ⟨by rw [HR.out]; rfl, HB.out⟩
      | false =>
        cases z10 with
        | false =>
          go_wp2_with (go_at_call 66; (first | (with_reducible refine Calls.mono (core_in _ _ _ _ HZ11.out) ?_) | (with_reducible refine Calls.mono (core_in _ _ _ _ HZ12.out) ?_) | (with_reducible refine Calls.mono (core_in _ _ _ _ HZ13.out) ?_)); rintro e w2 ⟨rfl, rfl⟩)
          go_ret
          exact ⟨by rw [HR.out]; rfl, HB.out⟩
        | true =>
          cases z11 with
          | false =>
            go_wp2_with (go_at_call 66; (first | (with_reducible refine Calls.mono (core_in _ _ _ _ HZ11.out) ?_) | (with_reducible refine Calls.mono (core_in _ _ _ _ HZ12.out) ?_) | (with_reducible refine Calls.mono (core_in _ _ _ _ HZ13.out) ?_)); rintro e w2 ⟨rfl, rfl⟩)
            go_ret
            exact ⟨by rw [HR.out]; rfl, HB.out⟩
          | true =>
            cases z12 with
            | false =>
              go_wp2_with (go_at_call 66; (first | (with_reducible refine Calls.mono (core_in _ _ _ _ HZ11.out) ?_) | (with_reducible refine Calls.mono (core_in _ _ _ _ HZ12.out) ?_) | (with_reducible refine Calls.mono (core_in _ _ _ _ HZ13.out) ?_)); rintro e w2 ⟨rfl, rfl⟩)
              go_ret
              exact ⟨by rw [HR.out]; rfl, HB.out⟩
            | true =>
              cases z13 with
              | false =>
                go_wp2_with (go_at_call 66; (first | (with_reducible refine Calls.mono (core_in _ _ _ _ HZ11.out) ?_) | (with_reducible refine Calls.mono (core_in _ _ _ _ HZ12.out) ?_) | (with_reducible refine Calls.mono (core_in _ _ _ _ HZ13.out) ?_)); rintro e w2 ⟨rfl, rfl⟩)
                go_ret
                exact ⟨by rw [HR.out]; rfl, HB.out⟩
              | true =>
                go_wp2_with (go_at_call 66; (first | (with_reducible refine Calls.mono (core_in _ _ _ _ HZ11.out) ?_) | (with_reducible refine Calls.mono (core_in _ _ _ _ HZ12.out) ?_) | (with_reducible refine Calls.mono (core_in _ _ _ _ HZ13.out) ?_)); rintro e w2 ⟨rfl, rfl⟩)
                go_ret
                exact ⟨by rw [HR.out]; rfl, HB.out⟩
end Go.Proofs.Ytbcgffgiifminaa
namespace Go.Proofs.Ytbcgffgiifminaa
open Go.RowKit
set_option maxRecDepth 10000
set_option linter.unusedVariables false
/-- A slice's type, its elements' type, their zero value, cells and bytes. -/
structure ElemN (t e : TypeId) (z : Value) (sz nb : Nat) : Prop where
  under : Try.prog.underlying t = some (.slice e)
  info : (Try.prog.info? e).map (fun i => (i.zero, i.size, i.bytes)) = some (some z, sz, nb)
  zs : z.cells.size = sz
  pos : 0 < sz
theorem run_appendN {t e : TypeId} {z : Value} {sz nb : Nat} (E : ElemN t e z sz nb) (w : World) (base : Nat) (ty : TypeId) (A : Option Addr) (n c : Nat) (l : List Value) (hown : w.ownsRow base e sz (.slice A n c) n l)
    (B : Nat) (A2 : Option Addr) (c2 : Nat) (l2 : List Value) (hm : l2.length = sz) (hr : Lies w B A2 l2) (h1 : ∀ u ∈ l2, u.oneCell' = true) (hsum : n + 1 ≤ 281474976710656) (hbytes : (n + 1) * nb ≤ 140737488355328) (hbase : base ≤ w.heap.size) :
    ∃ g' c' w', (Builtin.append_ #[t, t] ty #[.slice A n c, .slice A2 1 c2]).run Try.prog w = .ok (.slice (some ⟨g', 0, none⟩) (n + 1) c') w' ∧ w'.ownsRow base e sz (.slice (some ⟨g', 0, none⟩) (n + 1) c') (n + 1) (l ++ l2) ∧
      w.grownBy w' (Value.slice A n c).ownBlock ∧ (some g' = (Value.slice A n c).ownBlock ∨ g' = w.heap.size) := by
  have hpos := E.pos
  cases hq : Try.prog.info? e with
  | none => have := E.info; simp [hq] at this
  | some i =>
    have hi := E.info
    rw [hq] at hi
    simp only [Option.map_some, Option.some.injEq, Prod.mk.injEq] at hi
    obtain ⟨hz, hs, hb⟩ := hi
    obtain ⟨b, off, rfl, hb2, hc⟩ := hr (by intro h; subst h; simp at hm; omega)
    have hadd : ∀ j, (⟨b, off, none⟩ : Addr).add j = ⟨b, off + j, none⟩ := fun j => by unfold Addr.add; split <;> simp_all
    obtain ⟨v', w', hrun, h2, h3, _, h5⟩ := run_append_own_at (P := Try.prog) w base t ty e i z sz nb E.under hq hz hs hb E.zs E.pos _ n _ hown ⟨b, off, none⟩ 1 c2 l2 (by rw [hm, Nat.one_mul])
      (fun j u hu => by rw [hadd]; exact hc j u hu) h1 (by simp only [maxLen]; omega) hbytes hbase
    rcases h2.2 with ⟨hv, hx⟩ | ⟨g, cap, cur, hv, _⟩
    · omega
    · subst hv
      refine ⟨g, cap, w', hrun, h2, h3, ?_⟩
      rcases h5 with h5 | h5
      · exact .inl h5
      · right; simpa [Value.ownBlock] using h5
theorem wpN_append {t e : TypeId} {z : Value} {sz nb : Nat} (E : ElemN t e z sz nb) {ops : Array Oper} {rest : List Oper} {o : Oper} {a : Act} {w : World} {Q : Exit → Act → World → Prop} (hgd : o.guard = none) (s x : Operand)
    (ho : o.op = .call { callee := .builtin .append, args := #[s, x], argTypes := #[t, t] })
    (base : Nat) (A : Option Addr) (n c : Nat) (l : List Value) (hs : a.eval s = .slice A n c) (hown : w.ownsRow base e sz (.slice A n c) n l)
    (B : Nat) (A2 : Option Addr) (c2 : Nat) (l2 : List Value) (hx : a.eval x = .slice A2 1 c2) (hm : l2.length = sz) (hr : Lies w B A2 l2) (h1 : ∀ u ∈ l2, u.oneCell' = true) (hsum : n + 1 ≤ 281474976710656) (hbytes : (n + 1) * nb ≤ 140737488355328) (hbase : base ≤ w.heap.size)
    (h : ∀ g' c' w', w'.ownsRow base e sz (.slice (some ⟨g', 0, none⟩) (n + 1) c') (n + 1) (l ++ l2) → Keeps (Mine A n c) w w' → (some g' = (Value.slice A n c).ownBlock ∨ g' = w.heap.size) →
      wpList Try.prog ops Q rest (a.put o.dst (.slice (some ⟨g', 0, none⟩) (n + 1) c')) w') : wpList Try.prog ops Q (o :: rest) a w := by
  obtain ⟨g', c', w', hrun, h2, h3, h4⟩ := run_appendN E w base o.type A n c l hown B A2 c2 l2 hm hr h1 hsum hbytes hbase
  refine wpList_plain hgd fun K hK => ?_
  unfold Oper.wp execOp
  simp only [ho, resolve, invoke, builtin, Sem.run_bind, Sem.run_pure, Result.andThen_ok, List.map_toArray, List.map_cons, List.map_nil, hs, hx, hrun]
  exact hK _ _ (h g' c' w' h2 (Keeps.grown h3) h4)
theorem step_appendN {t e : TypeId} {z : Value} {sz nb : Nat} (E : ElemN t e z sz nb) {ops : Array Oper} {o : Oper} {a : Act} {w : World} {K : Act → World → Prop} {Q : Exit → Act → World → Prop} {F : Prop} (hg : o.guard = none) (s x : Operand)
    (ho : o.op = .call { callee := .builtin .append, args := #[s, x], argTypes := #[t, t] })
    (base : Nat) (A : Option Addr) (n c : Nat) (l : List Value) (hs : a.eval s = .slice A n c) (hown : w.ownsRow base e sz (.slice A n c) n l)
    (B : Nat) (A2 : Option Addr) (c2 : Nat) (l2 : List Value) (hx : a.eval x = .slice A2 1 c2) (hm : l2.length = sz) (hr : Lies w B A2 l2) (h1 : ∀ u ∈ l2, u.oneCell' = true) (hsum : n + 1 ≤ 281474976710656) (hbytes : (n + 1) * nb ≤ 140737488355328) (hbase : base ≤ w.heap.size)
    (h : ∀ g' c' w', w'.ownsRow base e sz (.slice (some ⟨g', 0, none⟩) (n + 1) c') (n + 1) (l ++ l2) → Keeps (Mine A n c) w w' → (some g' = (Value.slice A n c).ownBlock ∨ g' = w.heap.size) →
      K (a.put o.dst (.slice (some ⟨g', 0, none⟩) (n + 1) c')) w') :
    if Region.wanted o (yielded ops a.tmps) = true then Oper.wp Try.prog o a w K Q else F := by
  have hw : Region.wanted o (yielded ops a.tmps) = true := by simp [Region.wanted, hg]
  rw [if_pos hw]
  obtain ⟨g', c', w', hrun, h2, h3, h4⟩ := run_appendN E w base o.type A n c l hown B A2 c2 l2 hm hr h1 hsum hbytes hbase
  unfold Oper.wp execOp
  simp only [ho, resolve, invoke, builtin, Sem.run_bind, Sem.run_pure, Result.andThen_ok, List.map_toArray, List.map_cons, List.map_nil, hs, hx, hrun]
  exact h g' c' w' h2 (Keeps.grown h3) h4
theorem elem_peers : ElemN 82 86 (.agg #[.int .i64 0, .int .i64 0, .int .i64 0, .int .u32 0, .bool false]) 5 32 := ⟨Try.underlying82, by kernel_rfl, rfl, by omega⟩
/-- A conf's block, read whole. -/
theorem wpC_load {ops : Array Oper} {rest : List Oper} {o : Oper} {a : Act} {w : World} {Q : Exit → Act → World → Prop} (hgd : o.guard = none) (x : Operand) (ho : o.op = .load 28 x)
    (g : Nat) (hx : a.eval x = .pointer (some ⟨g, 0, none⟩)) (c : Cfg) (hg : Arr 28 w g c.row) (h : wpList Try.prog ops Q rest (a.put o.dst c.val) w) : wpList Try.prog ops Q (o :: rest) a w :=
  wpList_load_row hgd 28 x ho g hx 28 c.row.toArray (0, 0) _ hg Try.underlying28 rfl info_cfg h
def WholeC (g : Nat) (v : Value) (w : World) : Prop := (Instr.loadAt 28 (.pointer (some ⟨g, 0, none⟩))).run Try.prog w = .ok v w
theorem Arr.wholeC {w : World} {g : Nat} {c : Cfg} (h : Arr 28 w g c.row) : WholeC g c.val w := by
  have := run_loadVar_row (P := Try.prog) w g 28 28 c.row.toArray (0, 0) _ h Try.underlying28 rfl info_cfg
  unfold WholeC
  simp only [Instr.loadAt, Instr.sureAddr, Sem.run_bind, Sem.run_pure, Result.andThen_ok, this]
  rfl
theorem exec_wholeC {o : Oper} {a : Act} {x : Operand} {g : Nat} {v : Value} {w : World} (h : WholeC g v w) (ho : o.op = .load 28 x) (hx : a.eval x = .pointer (some ⟨g, 0, none⟩)) :
    (execOp a.eval o).run Try.prog w = .ok (.value v) w := by
  unfold execOp
  unfold WholeC at h
  simp only [ho, hx, Sem.run_bind, h, Result.andThen_ok, Sem.run_pure]
theorem QAt.base_le' {B B' : Nat} {w : World} {q c : Nat} {A : Option Addr} {xs : List (Nat × Option Nat)} {ls : List (List UInt8)} (h : QAt B w q A c xs ls) (hb : B' ≤ B) : QAt B' w q A c xs ls :=
  ⟨h.head, Nat.le_trans hb h.base, OwnV.base_le h.row hb, h.len, h.line, fun i hi => ⟨Nat.le_trans hb (h.lbase i hi).1, fun k hk => Nat.le_trans hb ((h.lbase i hi).2 k hk)⟩, h.apart⟩
/-- A player that begins. -/
def Co.new (c : Cfg) : Co := ⟨c, List.replicate c.n.toNat (List.replicate c.delay.toNat 0), List.replicate c.n.toNat ⟨c.delay, 0, 0, 0, false⟩, [], [], 0, false⟩
def newRow (c : Cfg) (q : Nat) (A : Option Addr) (k cap : Nat) : List Value := c.row ++ [.pointer (some ⟨q, 0, none⟩), .slice A k cap, .slice none 0 0, .slice none 0 0, .int .i64 0, .bool false]
/-- A player while it is made: k of its peers are there. -/
structure NewAt (B : Nat) (w : World) (x g1 : Nat) (c : Cfg) (q : Nat) (qA : Option Addr) (qc : Nat) (xs : List (Nat × Option Nat)) (m d : Nat) (A : Option Addr) (k cap : Nat) : Prop where
  head : Arr 84 w x (newRow c q A k cap)
  base : B ≤ x
  q : QAt B w q qA qc xs (List.replicate m (List.replicate d 0))
  peers : w.ownsRow B 86 5 (.slice A k cap) k ((List.replicate k (⟨c.delay, 0, 0, 0, false⟩ : Peer)).flatMap Peer.row)
  conf : Arr 28 w g1 c.row
section
variable {B : Nat} {w w' : World} {x g1 q qc m d k cap : Nat} {c : Cfg} {qA A : Option Addr} {xs : List (Nat × Option Nat)}
theorem NewAt.below (h : NewAt B w x g1 c q qA qc xs m d A k cap) (hb : Below w.heap.size w w') : NewAt B w' x g1 c q qA qc xs m d A k cap :=
  ⟨h.head.belowN hb, h.base, h.q.below hb, ownsRow_below h.peers hb, h.conf.belowN hb⟩
theorem NewAt.drew (h : NewAt B w x g1 c q qA qc xs m d A k cap) : NewAt B w.drew x g1 c q qA qc xs m d A k cap := h.below ⟨rfl, rfl, rfl, Nat.le_refl _, fun _ _ => rfl⟩
theorem NewAt.add (h : NewAt B w x g1 c q qA qc xs m d A k cap) {g' c' : Nat} (own5 : w'.ownsRow B 86 5 (.slice (some ⟨g', 0, none⟩) (k + 1) c') (k + 1) ((List.replicate k (⟨c.delay, 0, 0, 0, false⟩ : Peer)).flatMap Peer.row ++ (⟨c.delay, 0, 0, 0, false⟩ : Peer).row)) (k5 : Keeps (Mine A k cap) w w') :
    Arr 84 w' x (newRow c q A k cap) ∧ Arr 28 w' g1 c.row ∧
    NewAt B (w'.setCell ⟨x, 11, none⟩ (.slice (some ⟨g', 0, none⟩) (k + 1) c')) x g1 c q qA qc xs m d (some ⟨g', 0, none⟩) (k + 1) c' := by
  have off : Off (Mine A k cap) w (tQ ++ [84, 28]) := Off.of (T := 86) (owns_tb h.peers) (by decide)
  have hh := h.head.off k5 off (by decide)
  have hc := h.conf.off k5 off (by decide)
  have ks := Keeps.setCell w' ⟨x, 11, none⟩ (.slice (some ⟨g', 0, none⟩) (k + 1) c')
  have off2 : Off (fun j => j = (⟨x, 11, none⟩ : Addr).block) w' (tQ ++ [86, 28]) := Off.of (T := 84) (fun j hj => by rw [hj]; exact hh.tb) (by decide)
  refine ⟨hh, hc, ⟨hh.set 11 _, h.base, (h.q.off k5 off (by decide)).off ks off2 (by decide), ?_, hc.off ks off2 (by decide)⟩⟩
  rw [List.replicate_succ', List.flatMap_append, List.flatMap_singleton]
  exact owns_off own5 ks off2 (by decide)
end
theorem core_New_no (c : Cfg) (hc : c.may = false) (w : World) : Calls Try.prog 14 #[c.val] w fun e w' => e = .returned (.tuple #[.pointer none, .int .i64 1]) ∧ Below w.heap.size w w' := by
  have HC := hide hc
  clear hc
  go_enter Try.func14, Try.ntmps14
  go_upto_region 1 with fail
  have HP : Hid (Arr 28 (w.alloc (.cells c.row.toArray 28)) w.heap.size c.row) := Arr.new 28 w _ _ rfl
  have HB : Hid (Below w.heap.size w (w.alloc (.cells c.row.toArray 28))) := Below_new _ _
  simp only [Cfg.row] at HP HB
  generalize World.alloc w _ = w1 at HP HB ⊢
  go_wp2_with (refine wpC_load rfl (.tmp 1) rfl w.heap.size rfl c HP.out ?_)
  refine Calls.mono (core_May c HC.out.symm) ?_
  rintro r w2 ⟨rfl, hb2⟩
  go_wp2_with fail
  go_ret2
  exact ⟨rfl, Below_step HB.out hb2⟩
set_option maxHeartbeats 4000000 in
theorem core_New (c : Cfg) (hf : c.Fine) (w : World) : Calls Try.prog 14 #[c.val] w fun e w' => ∃ x p, e = .returned (.tuple #[.pointer (some ⟨x, 0, none⟩), .int .i64 0]) ∧ CAt w.heap.size w' x p (Co.new c) ∧ Below w.heap.size w w' := by
  have HC : Hid (true = c.may) := (c.may_iff.2 hf).symm
  obtain ⟨m, hm⟩ : ∃ m : Nat, c.n = (m : Int) := ⟨c.n.toNat, by have := hf.n; omega⟩
  obtain ⟨d, hd⟩ : ∃ d : Nat, c.delay = (d : Int) := ⟨c.delay.toNat, by have := hf.delay; omega⟩
  have hm2 : 2 ≤ m ∧ m ≤ 8 := by have := hf.n; omega
  have hd2 : d ≤ 8 := by have := hf.delay; omega
  have HF := hide hf
  have HM := hide hm
  have HD := hide hd
  obtain ⟨S, hS⟩ : ∃ S, S = Co.new c := ⟨_, rfl⟩
  rw [← hS]
  have HS := hide hS
  clear hS hf hm hd
  go_enter Try.func14, Try.ntmps14
  go_upto_region 1 with fail
  have HP : Hid (Arr 28 (w.alloc (.cells c.row.toArray 28)) w.heap.size c.row) := Arr.new 28 w _ _ rfl
  have HB : Hid (Below w.heap.size w (w.alloc (.cells c.row.toArray 28))) := Below_new _ _
  simp only [Cfg.row] at HP HB
  generalize World.alloc w _ = w1 at HP HB ⊢
  obtain ⟨g1, hg1⟩ : ∃ g, g = w.heap.size := ⟨_, rfl⟩
  have HG1 := hide hg1
  rw [← hg1] at HP ⊢
  clear hg1
  go_wp2_with (refine wpC_load rfl (.tmp 1) rfl g1 rfl c HP.out ?_)
  refine Calls.mono (core_May _ HC.out) ?_
  rintro r w2 ⟨rfl, hb2⟩
  have HP2 := hide (HP.out.belowN hb2)
  have HB2 := hide (Below_step HB.out hb2)
  have HW2 := hide (Arr.wholeC (c := c) HP2.out)
  have c0 := HP2.out.cell (j := 0) (by simp)
  have c3 := HP2.out.cell (j := 3) (by simp)
  simp only [List.getElem_cons_zero, List.getElem_cons_succ] at c0 c3
  rw [HM.out] at c0
  rw [HD.out] at c3
  clear hb2 HP HB
  have e1 : Hid (min (max (m : Int) 2) 8 = (m : Int)) := by show _ = _; omega
  have e2 : Hid ((min (max (d : Int) 0) 8).toNat = d) := by show _ = _; omega
  go_upto_region 3 with fail
  refine wp_region_noPanic ?_
  refine wp_region_held_drew (S := (fun w' => WholeC g1 c.val w' ∧ w'.cell? ⟨g1, 0, none⟩ = some (.int .i64 (m : Int)) ∧ w'.cell? ⟨g1, 3, none⟩ = some (.int .i64 (d : Int)))) (by kernel_rfl) ⟨HP2.out.drew.wholeC, c0, c3⟩ (fun hHeld => ?_)
  refine tk0 0 (v := c.val) (hy := by refine Or.inl ⟨by rfl, ?_⟩; intro w hSw; (try dsimp only at hSw); exact exec_wholeC (x := .tmp 1) hSw.1 rfl rfl) ?_
  refine tk 1 ?_
  refine tk 2 ?_
  refine tk 3 ?_
  refine tk 4 ?_
  refine rdy 5 fun K hK => ?_
  go_simp
  refine Calls.mono (queue_New m d m d _ e1.out e2.out) ?_
  rintro e w4 ⟨q, qA, qc, xs, rfl, hx4, hq4, hb4⟩
  have HP4 := hide (HP2.out.drew.belowN hb4)
  have HB4 := hide (Below_step HB2.out.drew hb4)
  have HQ4 := hide (hq4.base_le' (B' := w.heap.size) HB2.out.size)
  have HX4 := hide hx4
  refine hK.out _ _ ⟨HP4.out.wholeC, below_cell hb4 c0, below_cell hb4 c3⟩ (fun hHeld => ?_)
  clear hK K
  try simp only [Act.put, List.setIfInBounds_toArray, List.set_cons_zero, List.set_cons_succ]
  refine tk 6 (v := .agg #[.int .i64 c.n, .int .i64 c.me, .int .i64 c.id, .int .i64 c.delay, .int .i64 c.window, .int .i64 c.guess, .int .i64 c.order, .int .i64 c.branches, .int .i64 c.workers, .int .i64 c.room, .pointer (some ⟨q, 0, none⟩), .slice none 0 0, .slice none 0 0, .slice none 0 0, .int .i64 0, .bool false]) (hy := by refine Or.inl ⟨by rfl, ?_⟩; intro w hSw; (try dsimp only at hSw); (go_simp <;> with_reducible rfl)) ?_
  refine rdy 7 fun K hK => ?_
  go_simp
  have HN0 : Hid (NewAt w.heap.size (w4.alloc (.cells (newRow c q none 0 0).toArray 84)) w4.heap.size g1 c q qA qc xs m d none 0 0) := ⟨Arr.new _ _ _ _ rfl, HB4.out.size, HQ4.out.below (Below_new _ _), World.ownsRow_nil _ _ _ _, HP4.out.belowN (Below_new _ _)⟩
  have HB5 := hide (Below_step HB4.out (Below_new w4 (.cells (newRow c q none 0 0).toArray 84)))
  simp only [newRow, Cfg.row, List.cons_append, List.nil_append] at HN0 HB5
  generalize World.alloc w4 _ = w5 at HN0 HB5 ⊢
  generalize w4.heap.size = x at HN0 ⊢
  have c0 := HN0.out.conf.cell (j := 0) (by simp [Cfg.row])
  have c3 := HN0.out.conf.cell (j := 3) (by simp [Cfg.row])
  simp only [Cfg.row, List.getElem_cons_zero, List.getElem_cons_succ] at c0 c3
  rw [HM.out] at c0
  rw [HD.out] at c3
  refine hK.out _ _ ⟨HN0.out.conf.wholeC, c0, c3⟩ (fun hHeld => ?_)
  clear hK K
  try simp only [Act.put, List.setIfInBounds_toArray, List.set_cons_zero, List.set_cons_succ]
  refine tk 8 ?_
  refine wpAnyH_done (by kernel_rfl) (NoPanic.normal ?_) _
  go_wp2_with fail
  clear c3 hq4 hb4
  go_loopg [18] m (fun gg s18 wr => ∃ (k : Nat) (A : Option Addr) (cap : Nat), k ≤ m ∧ gg = m - k ∧ s18 = .int .i64 (k : Int) ∧ Hid (NewAt w.heap.size wr x g1 c q qA qc xs m d A k cap) ∧ Hid (Below w.heap.size w wr))
  case atStart => exact ⟨0, none, 0, by omega, rfl, rfl, HN0, HB5⟩
  case round =>
    obtain ⟨W1, hW1⟩ : ∃ W1, W1 = wr := ⟨_, rfl⟩
    subst hW1
    obtain ⟨k, A, cap, hkm, rfl, rfl, HN, HBW⟩ := hrel
    by_cases hlt : k < m
    · have c3 := HN.out.conf.cell (j := 3) (by simp [Cfg.row])
      have c11 := HN.out.head.cell (j := 11) (by simp [newRow, Cfg.row])
      simp only [newRow, Cfg.row, List.cons_append, List.nil_append, List.getElem_cons_zero, List.getElem_cons_succ] at c3 c11
      rw [HD.out] at c3
      have bn := Below_new W1.drew (.cells #[.int .i64 (d : Int), .int .i64 0, .int .i64 0, .int .u32 0, .bool false] 86)
      have HN4 := hide (HN.out.drew.below bn)
      have HB4 := hide (Below_step HBW.out.drew bn)
      have c34 := HN4.out.conf.cell (j := 3) (by simp [Cfg.row])
      have c114 := HN4.out.head.cell (j := 11) (by simp [newRow, Cfg.row])
      simp only [newRow, Cfg.row, List.cons_append, List.nil_append, List.getElem_cons_zero, List.getElem_cons_succ] at c34 c114
      rw [HD.out] at c34
      have c114 : (World.alloc W1 (.cells #[.int .i64 (d : Int), .int .i64 0, .int .i64 0, .int .u32 0, .bool false] 86)).cell? ⟨x, 11, none⟩ = some (.slice A k cap) := c114
      have HL4 := hide (Lies.new W1.drew #[.int .i64 (d : Int), .int .i64 0, .int .i64 0, .int .u32 0, .bool false] 86 (0, 0))
      have hB4 : w.heap.size ≤ (World.alloc W1.drew (.cells #[.int .i64 (d : Int), .int .i64 0, .int .i64 0, .int .u32 0, .bool false] 86)).heap.size := HB4.out.size
      have hcx : x < W1.heap.size := HN.out.head.lt
      clear bn
      go_upto_region 6 with fail
      refine wp_region_noPanic ?_
      refine wp_region_held_drew (S := (fun w' => w'.cell? ⟨g1, 3, none⟩ = some (.int .i64 (d : Int)))) (by kernel_rfl) c3 (fun hHeld => ?_)
      refine tk0 0 ?_
      refine tk 1 ?_
      refine tk 2 ?_
      refine tk 3 ?_
      refine tk 5 ?_
      refine tk 6 ?_
      refine tk 7 ?_
      refine wpAnyH_ready (rs := [4, 8]) (by kernel_rfl) (by simp) ?_
      refine AllReadyH.cons (o := ?_) ?_ (fun K hK => ?_) ?_
      rotate_left 1
      · (simp only [List.getElem?_toArray, List.getElem?_cons_succ, List.getElem?_cons_zero]; rfl)
      · go_simp
        skip
        refine hK.out _ _ c3 (fun hHeld => ?_)
        clear hK K
        try simp only [Act.put, List.setIfInBounds_toArray, List.set_cons_zero, List.set_cons_succ]
        refine rdy 8 fun K hK => ?_
        go_simp
        refine hK.out _ _ c34 (fun hHeld => ?_)
        clear hK K
        try simp only [Act.put, List.setIfInBounds_toArray, List.set_cons_zero, List.set_cons_succ]
        refine rdy 9 fun K hK => ?_
        (refine step_appendN elem_peers rfl (.tmp 24) (.tmp 28) rfl w.heap.size A k cap _ rfl HN4.out.peers _ _ 1 [.int .i64 (d : Int), .int .i64 0, .int .i64 0, .int .u32 0, .bool false] rfl rfl HL4.out (by simp [Value.oneCell']) (by omega) (by omega) hB4 ?_; intro g5 c5 w5 own5 k5 hk5)
        have HC5 := hide (HN4.out.add (by rw [← HD.out] at own5; exact own5) k5)
        have HK5 := hide (((HB4.out.trans (k5.below hB4 (fun j hj hm => by have hl := World.ownsRow.lt HN4.out.peers _ hm.symm; omega)))).setCell (p := ⟨x, 11, none⟩) HN4.out.base (.slice (some ⟨g5, 0, none⟩) (k + 1) c5))
        have cc := HC5.out.2.1.cell (j := 3) (by simp [Cfg.row])
        have f5 := HC5.out.1.frozen 11
        have c11 := HC5.out.1.cell (j := 11) (by simp [newRow, Cfg.row])
        simp only [newRow, Cfg.row, List.cons_append, List.nil_append, List.getElem_cons_zero, List.getElem_cons_succ] at cc c11
        rw [HD.out] at cc
        refine hK.out _ _ cc (fun hHeld => ?_)
        clear hK K
        try simp only [Act.put, List.setIfInBounds_toArray, List.set_cons_zero, List.set_cons_succ]
        refine tk 10 ?_
        refine tk 11 ?_
        refine rdy 12 fun K hK => ?_
        go_simp
        refine hK.out _ _ (by have := HC5.out.2.2.conf.cell (j := 3) (by simp [Cfg.row]); simp only [Cfg.row, List.getElem_cons_zero, List.getElem_cons_succ] at this; rw [HD.out] at this; exact this) (fun hHeld => ?_)
        clear hK K
        try simp only [Act.put]
        refine wpAnyH_done (by kernel_rfl) (NoPanic.normal ?_) _
        go_wp2_with fail
        go_roundg (m - (k + 1))
        case measure => omega
        case rel => exact ⟨k + 1, _, c5, by omega, rfl, by go_num, HC5.out.2.2, HK5⟩
      refine AllReadyH.cons (o := ?_) ?_ (fun K hK => ?_) ?_
      rotate_left 1
      · (simp only [List.getElem?_toArray, List.getElem?_cons_succ, List.getElem?_cons_zero]; rfl)
      · go_simp
        skip
        refine hK.out _ _ c34 (fun hHeld => ?_)
        clear hK K
        try simp only [Act.put, List.setIfInBounds_toArray, List.set_cons_zero, List.set_cons_succ]
        refine rdy 4 fun K hK => ?_
        go_simp
        refine hK.out _ _ c34 (fun hHeld => ?_)
        clear hK K
        try simp only [Act.put, List.setIfInBounds_toArray, List.set_cons_zero, List.set_cons_succ]
        refine rdy 9 fun K hK => ?_
        (refine step_appendN elem_peers rfl (.tmp 24) (.tmp 28) rfl w.heap.size A k cap _ rfl HN4.out.peers _ _ 1 [.int .i64 (d : Int), .int .i64 0, .int .i64 0, .int .u32 0, .bool false] rfl rfl HL4.out (by simp [Value.oneCell']) (by omega) (by omega) hB4 ?_; intro g5 c5 w5 own5 k5 hk5)
        have HC5 := hide (HN4.out.add (by rw [← HD.out] at own5; exact own5) k5)
        have HK5 := hide (((HB4.out.trans (k5.below hB4 (fun j hj hm => by have hl := World.ownsRow.lt HN4.out.peers _ hm.symm; omega)))).setCell (p := ⟨x, 11, none⟩) HN4.out.base (.slice (some ⟨g5, 0, none⟩) (k + 1) c5))
        have cc := HC5.out.2.1.cell (j := 3) (by simp [Cfg.row])
        have f5 := HC5.out.1.frozen 11
        have c11 := HC5.out.1.cell (j := 11) (by simp [newRow, Cfg.row])
        simp only [newRow, Cfg.row, List.cons_append, List.nil_append, List.getElem_cons_zero, List.getElem_cons_succ] at cc c11
        rw [HD.out] at cc
        refine hK.out _ _ cc (fun hHeld => ?_)
        clear hK K
        try simp only [Act.put, List.setIfInBounds_toArray, List.set_cons_zero, List.set_cons_succ]
        refine tk 10 ?_
        refine tk 11 ?_
        refine rdy 12 fun K hK => ?_
        go_simp
        refine hK.out _ _ (by have := HC5.out.2.2.conf.cell (j := 3) (by simp [Cfg.row]); simp only [Cfg.row, List.getElem_cons_zero, List.getElem_cons_succ] at this; rw [HD.out] at this; exact this) (fun hHeld => ?_)
        clear hK K
        try simp only [Act.put]
        refine wpAnyH_done (by kernel_rfl) (NoPanic.normal ?_) _
        go_wp2_with fail
        go_roundg (m - (k + 1))
        case measure => omega
        case rel => exact ⟨k + 1, _, c5, by omega, rfl, by go_num, HC5.out.2.2, HK5⟩
      exact AllReadyH.nil
    · obtain rfl : k = m := by omega
      have hp := HN.out.peers
      obtain ⟨g, cap', hA⟩ : ∃ g cap', (Value.slice A k cap) = .slice (some ⟨g, 0, none⟩) k cap' := by
        rcases hp.2 with ⟨hv, hx⟩ | ⟨g, cap', cur, hv, _⟩
        · injection hv with _ h2 _; omega
        · exact ⟨g, cap', hv⟩
      injection hA with hA1 _ hA3
      subst hA1 hA3
      have hnn : c.n.toNat = k := by rw [HM.out]; rfl
      have hdd : c.delay.toNat = d := by rw [HD.out]; rfl
      have hok : Hid (CAt w.heap.size W1 x ⟨q, qA, qc, xs, g, cap, none, 0, 0, none, 0, 0⟩ S) := by
        show CAt _ _ _ _ _
        rw [HS.out]
        have hlen : (Co.new c).peers.length = k := by simp [Co.new, hnn]
        have hpm : ∀ q ∈ (Co.new c).peers, q = ⟨c.delay, 0, 0, 0, false⟩ := fun q hq => (List.mem_replicate.1 hq).2
        have hls : ∀ i, ((Co.new c).ls.getD i []).length = if i < k then d else 0 := by
          intro i
          simp only [Co.new, List.getD_eq_getElem?_getD, hnn, hdd, List.getElem?_replicate]
          split <;> simp
        have hme : (c.me.toNat : Int) = c.me ∧ c.me.toNat < k := by have := HF.out.me; have := HM.out; omega
        have hmine : ((Co.new c).ls.getD (Co.new c).cfg.me.toNat []).length = d := by rw [hls]; exact if_pos hme.2
        refine ⟨?_, HN.out.base, ?_, by rw [hlen]; exact HX4.out, ?_, OwnV.nil _ _ _, OwnV.nil _ _ _, ?_⟩
        · have := HN.out.head
          unfold coRow
          rw [hlen]
          exact this
        · have := HN.out.q
          simp only [Co.new, hnn, hdd]
          exact this
        · rw [hlen]
          have := HN.out.peers
          simp only [Co.new, hnn]
          exact this
        · refine ⟨HF.out, ?_, ?_, ?_, ?_, ?_, ?_, ?_, ?_, Nat.zero_le _, ?_, ⟨Int.le_refl _, by show (0 : Int) ≤ _; omega⟩, Nat.zero_le _⟩
          · rw [hlen]; exact HM.out.symm
          · simp only [Co.new, List.length_replicate, hnn]; exact HM.out.symm
          · intro i; rw [hls]; split <;> omega
          · rw [hmine]; have : (Co.new c).cfg.delay = (d : Int) := HD.out; omega
          · intro q hq; rw [hpm q hq, hmine]; have := HD.out; simp only; omega
          · intro q hq; rw [hpm q hq]; exact ⟨Int.le_refl _, Int.le_refl _⟩
          · intro q hq; rw [hpm q hq]; exact ⟨Int.le_refl _, by show (0 : Int) ≤ _; omega⟩
          · intro q hq; rw [hpm q hq]; exact ⟨Int.le_refl _, by show (0 : Int) < _; omega⟩
          · intro q hq; simp [Co.new] at hq
      clear hp hnn hdd
      go_wp2_with fail
      go_ret2
      exact ⟨x, rfl, ⟨_, hok.out⟩, HBW.out⟩
end Go.Proofs.Ytbcgffgiifminaa
namespace Go.Proofs.Ytbcgffgiifminaa
open Go.RowKit
set_option maxRecDepth 10000
set_option linter.unusedVariables false
theorem elem_int : Elem 35 3 (.int .i64 0) 8 := ⟨Try.underlying35, by kernel_rfl, rfl⟩
/-- All players but one. -/
def othersOf (n me : Nat) : List Nat := (List.range n).filter fun i => i != me
theorem othersOf_succ_eq (k : Nat) : othersOf (k + 1) k = othersOf k k := by
  unfold othersOf; rw [List.range_succ, List.filter_append]; simp
theorem othersOf_succ_ne {k i : Nat} (h : k ≠ i) : othersOf (k + 1) i = othersOf k i ++ [k] := by
  unfold othersOf; rw [List.range_succ, List.filter_append]; simp [h]
theorem othersOf_len (n me : Nat) : (othersOf n me).length ≤ n := by
  unfold othersOf; exact Nat.le_trans (List.length_filter_le _ _) (by simp)
def iv (k : Nat) : Value := .int .i64 (k : Int)
set_option maxHeartbeats 2000000 in
theorem core_others {B : Nat} {w : World} {x : Nat} {p : CP} {s : Co} (h : CAt B w x p s) (i : Nat) (hi : s.cfg.me = (i : Int)) :
    Calls Try.prog 60 #[.pointer (some ⟨x, 0, none⟩)] w fun r w' => ∃ A c, r = .returned (.slice A (othersOf s.peers.length i).length c) ∧ OwnV 3 w' w.heap.size A (othersOf s.peers.length i).length c ((othersOf s.peers.length i).map iv) ∧ Below w.heap.size w w' := by
  have H := hide h
  obtain ⟨n, hn⟩ : ∃ n, n = s.peers.length := ⟨_, rfl⟩
  have HN := hide hn
  have hn8 : n ≤ 8 := by have := h.ok.np; have := h.ok.cfg.n; omega
  have cP := h.cell (coRow_peers s p)
  rw [← hn] at cP ⊢
  obtain ⟨me, hme⟩ : ∃ me, me = s.cfg.me := ⟨_, rfl⟩
  have HME : Hid (me = (i : Int)) := by show _ = _; rw [hme, hi]
  have HMS := hide hme
  clear h hn hi hme
  go_enter Try.func60, Try.ntmps60
  go_wp2_with fail
  go_loopg [3, 10] n (fun gg s3 s10 wr => ∃ (k : Nat) (A : Option Addr) (c : Nat), k ≤ n ∧ gg = n - k ∧ s10 = .int .i64 (k : Int) ∧ s3 = .slice A (othersOf k i).length c ∧ Hid (OwnV 3 wr w.heap.size A (othersOf k i).length c ((othersOf k i).map iv)) ∧ Hid (Below w.heap.size w wr))
  case atStart => exact ⟨0, none, 0, by omega, rfl, rfl, rfl, OwnV.nil _ _ _, Below.refl _ _⟩
  case round =>
    obtain ⟨W1, hW1⟩ : ∃ W1, W1 = wr := ⟨_, rfl⟩
    subst hW1
    obtain ⟨k, A, c, hkn, rfl, rfl, rfl, HO, HB⟩ := hrel
    by_cases hlt : k < n
    · have c1 := (H.out.below HB.out).cell (coRow_me s p)
      rw [← HMS.out] at c1
      have hll := othersOf_len k i
      obtain ⟨m, hm⟩ : ∃ m, m = (othersOf k i).length := ⟨_, rfl⟩
      rw [← hm] at HO hll ⊢
      have HMM := hide hm
      clear hm
      by_cases hki : k = i
      · have d1 : ((k : Int) == me) = true := by rw [HME.out]; simp [hki]
        have HNX : Hid (othersOf (k + 1) i = othersOf k i) := by show _ = _; rw [← hki]; exact othersOf_succ_eq k
        clear hki
        go_wp2_with fail
        go_roundg (n - (k + 1))
        case measure => omega
        case rel => exact ⟨k + 1, A, c, by omega, rfl, by go_num, by rw [HNX.out, ← HMM.out], by rw [HNX.out, ← HMM.out]; exact HO, HB⟩
      · have d1 : ((k : Int) == me) = false := by rw [HME.out]; simp; omega
        have HNX : Hid (othersOf (k + 1) i = othersOf k i ++ [k]) := othersOf_succ_ne hki
        have bn := Below_new W1 (.cells #[.int .i64 (k : Int)] 3)
        have HO2 := hide (HO.out.below bn)
        have HB2 := hide (Below_step HB.out bn)
        have HL2 := hide (Lies.new W1 #[.int .i64 (k : Int)] 3 (0, 0))
        have hB2 : w.heap.size ≤ (World.alloc W1 (.cells #[.int .i64 (k : Int)] 3)).heap.size := HB2.out.size
        clear bn hki
        go_upto_region 6 with fail
        go_wp2_with (refine wpV_append elem_int rfl (.tmp 20) (.tmp 22) rfl w.heap.size A m c _ rfl HO2.out _ _ 1 1 [.int .i64 (k : Int)] rfl rfl HL2.out (by simp [Value.oneCell']) (by omega) (m + 1) _ rfl rfl (by omega) (by omega) hB2 ?_; intro A5 c5 w5 own5 k5 hk5; have HO5 := hide own5; have HB5 := hide (HB2.out.trans (k5.belowV HO2.out hB2)); clear own5 k5 hk5)
        go_roundg (n - (k + 1))
        case measure => omega
        case rel => exact ⟨k + 1, A5, c5, by omega, rfl, by go_num, by rw [HNX.out, List.length_append, ← HMM.out]; rfl, by rw [HNX.out, List.length_append, List.map_append, ← HMM.out]; exact HO5, HB5⟩
    · obtain rfl : k = n := by omega
      go_wp2_with fail
      go_ret
      exact ⟨A, c, rfl, HO.out, HB.out⟩
end Go.Proofs.Ytbcgffgiifminaa
