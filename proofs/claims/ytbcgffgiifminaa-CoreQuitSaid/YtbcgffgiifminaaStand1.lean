/-
  Words for memory, used by all walks: a slice that reads as a list of values; bytes; what is owned.
  Bytes that the call itself has made: append, whatever is appended (nil, empty or not).
  Bytes of the call's own: cells read and written; make.
  Numbers: remainders, wraps, four bytes of a number.
  Which blocks a call may change.
  The walks of layer 13, input: a line and what it holds.
  The walks of layer 13: At, New.
  Lines, their numbers handed over; a line of the call's own.
  Appending to a slice of the call's own: what it may change.
  Rows of the call's own, of elements of one cell each, whatever their type: append, cells, make.
  A slice of bytes made a string.
  Regions that draw their order: a narrower condition from a place on.
  Queues: what a queue holds.
  The walks of package queue: N, Line, Front, Joint, Known.
-/
import Derived.Test.YtbcgffgiifminaaRows
import Derived.WalkKit
import Derived.WalkSpells
import Derived.WalkLawsBesides
import Derived.Maps.AppendAt
import Derived.Deep.AppendLies
import Derived.Deep.Draws
import Derived.Deep.QuietTactic
import Derived.BigQuiet
import Derived.StillTailTactics
import Derived.Deep.RegionLaw
import Derived.Deep.RegionWith
import Derived.Deep.RegionHeld3
import Derived.Deep.DeepCutAuto
namespace Go.Proofs.Ytbcgffgiifminaa
open Go.RowKit
set_option maxRecDepth 10000

theorem hide {p : Prop} (h : p) : Hid p := h

/-- Two calls behind one another. -/
theorem Below_step {w a b : World} (h : Below w.heap.size w a) (h2 : Below a.heap.size a b) : Below w.heap.size w b := h.trans (h2.mono h.size)
theorem Below_stepd {w a b : World} (h : Below w.heap.size w a) (h2 : Below a.heap.size a.drew b) : Below w.heap.size w b := Below_step h ⟨h2.os, h2.tape, h2.output, h2.size, h2.block⟩

/-- min and max of two numbers, without a test in the walk. -/
theorem run_min_i {P : Program} {w : World} (ts : Array TypeId) (t : TypeId) (k k' : IntKind) (x y : Int) : (Builtin.min_ ts t #[.int k x, .int k' y]).run P w = .ok (.int k (min x y)) w := by
  rw [run_min_int2]
  congr 2
  split <;> omega
theorem run_max_i {P : Program} {w : World} (ts : Array TypeId) (t : TypeId) (k k' : IntKind) (x y : Int) : (Builtin.max_ ts t #[.int k x, .int k' y]).run P w = .ok (.int k (max x y)) w := by
  rw [run_max_int2]
  congr 2
  split <;> omega

attribute [go_sem high] run_min_i run_max_i

/-- The address of 's[k:]' of a slice of capacity cap and of elements of s cells. -/
def cutA (a : Option Addr) (cap k s : Nat) : Option Addr := if cap = k then a else a.map (·.add (k * s))
def slicedC (a : Option Addr) (l h cap s : Nat) : Value := sliced a l h cap s
theorem cutA_zero (a : Option Addr) (cap s : Nat) : cutA a cap 0 s = a := by
  by_cases e : cap = 0
  · simp [cutA, e]
  · cases a <;> simp [cutA, Addr.add]
theorem slicedC_eq (a : Option Addr) (l h cap s : Nat) : slicedC a l h cap s = .slice (cutA a cap l s) (h - l) (cap - l) := rfl
section
variable {P : Program} {w : World} (t : TypeId) (a : Option Addr) (len cap : Nat) (ht : P.underlying t = some (.slice (P.elem t)))
include ht
theorem run_slice_lhC (kl kh : IntKind) (l h : Int) (h0 : 0 ≤ l) (h1 : l ≤ h) (h2 : h ≤ cap) :
    (Instr.slice t (.slice a len cap) (some (.int kl l)) (some (.int kh h)) none).run P w = ((sizeOf (P.elem t)).run P w).andThen fun s w => .ok (slicedC a l.toNat h.toNat cap s) w :=
  run_slice_lh w t a len cap ht kl kh l h h0 h1 h2
theorem run_slice_lC (kl : IntKind) (l : Int) (h0 : 0 ≤ l) (h1 : l ≤ len) :
    (Instr.slice t (.slice a len cap) (some (.int kl l)) none none).run P w = ((sizeOf (P.elem t)).run P w).andThen fun s w => .ok (slicedC a l.toNat len cap s) w :=
  run_slice_l w t a len cap ht kl l h0 h1
theorem run_slice_anyC (lo hi mx : Option Value) :
    (Instr.slice t (.slice a len cap) lo hi mx).run P w =
      ((Instr.sliceBounds true len cap lo hi mx).run P w).andThen fun b w => ((sizeOf (P.elem t)).run P w).andThen fun s w => .ok (slicedC a b.1 b.2.1 b.2.2 s) w :=
  run_slice_any w t a len cap ht lo hi mx
end
attribute [go_sem high] run_slice_lhC run_slice_lC
attribute [go_sem 200] run_slice_anyC
attribute [go_sem] slicedC_eq cutA_zero

/-- A byte as a value. -/
def bv (c : UInt8) : Value := .int .u8 (c.toNat : Int)

/-- The slice with address A holds the cells xs, in blocks below B. -/
def Lies (w : World) (B : Nat) (A : Option Addr) (xs : List Value) : Prop :=
  xs ≠ [] → ∃ b off, A = some ⟨b, off, none⟩ ∧ b < B ∧ ∀ j u, xs[j]? = some u → w.cell? ⟨b, off + j, none⟩ = some u

section
variable {w w' : World} {B B' : Nat} {A : Option Addr} {xs : List Value}
theorem Lies.nil (w : World) (B : Nat) (A : Option Addr) : Lies w B A [] := fun h => absurd rfl h
theorem Lies.keep (h : Lies w B A xs) (hk : ∀ p : Addr, p.block < B → w'.cell? p = w.cell? p) : Lies w' B A xs := fun hn => by
  obtain ⟨b, off, e, hb, hc⟩ := h hn
  exact ⟨b, off, e, hb, fun j u hu => (hk _ hb).trans (hc j u hu)⟩
theorem Lies.more (h : Lies w B A xs) (hB : B ≤ B') : Lies w B' A xs := fun hn => by
  obtain ⟨b, off, e, hb, hc⟩ := h hn
  exact ⟨b, off, e, by omega, hc⟩
theorem Lies.below (h : Lies w B A xs) (hb : Below B w w') : Lies w' B A xs := h.keep fun _ hp => hb.cell hp
theorem Lies.take (h : Lies w B A xs) (n : Nat) : Lies w B A (xs.take n) := fun hn => by
  obtain ⟨b, off, e, hb, hc⟩ := h (by rintro rfl; simp at hn)
  refine ⟨b, off, e, hb, fun j u hu => hc j u ?_⟩
  rw [List.getElem?_take] at hu
  split at hu
  · exact hu
  · cases hu
theorem Lies.cut (h : Lies w B A xs) {k cap : Nat} (hc : xs.length ≤ cap) :
    Lies w B (cutA A cap k 1) (xs.drop k) := fun hne => by
  have hlt : k < xs.length := by
    rcases Nat.lt_or_ge k xs.length with h1 | h1
    · exact h1
    · exact absurd (List.drop_eq_nil_of_le h1) hne
  obtain ⟨b, off, rfl, hb, hcell⟩ := h (by rintro rfl; simp at hlt)
  unfold cutA
  rw [if_neg (by omega), Nat.mul_one]
  refine ⟨b, off + k, ?_, hb, fun j u hu => ?_⟩
  · by_cases h0 : k = 0
    · subst h0; simp [Addr.add]
    · simp [Addr.add, h0]
  · rw [Nat.add_assoc]
    exact hcell _ u (by rw [← hu, List.getElem?_drop])
theorem Lies.of_own {base : Nat} {e : TypeId} {n c : Nat} (h : w.ownsRow base e 1 (.slice A n c) n xs) : Lies w w.heap.size A xs := fun hn => by
  have hl := h.1
  have hpos : 0 < n := by
    rcases Nat.eq_zero_or_pos n with h0 | h0
    · subst h0; exact absurd (List.eq_nil_of_length_eq_zero (by simpa using hl)) hn
    · exact h0
  obtain ⟨g, cap, hv, _, hlt⟩ := h.form hpos
  have hA : A = some ⟨g, 0, none⟩ := by injection hv
  subst hA
  refine ⟨g, 0, rfl, hlt, fun j u hu => ?_⟩
  have := h.cells (g := g) rfl j u hu
  rw [Nat.zero_add]
  have hadd : (⟨g, 0, none⟩ : Addr).add j = ⟨g, j, none⟩ := by unfold Addr.add; split <;> simp_all
  rwa [hadd] at this
end

/-- Bytes: the slice of address A and length n holds the bytes l. -/
def LiesB (w : World) (B : Nat) (A : Option Addr) (n : Nat) (l : List UInt8) : Prop := l.length = n ∧ Lies w B A (l.map bv)
section
variable {w w' : World} {B B' n : Nat} {A : Option Addr} {l : List UInt8}
theorem LiesB.len (h : LiesB w B A n l) : l.length = n := h.1
theorem LiesB.nil (w : World) (B : Nat) (A : Option Addr) : LiesB w B A 0 [] := ⟨rfl, Lies.nil _ _ _⟩
theorem LiesB.at_ (h : LiesB w B A n l) {k : Nat} (hk : k < n) :
    ∃ (b off : Nat) (hl : k < l.length), A = some ⟨b, off, none⟩ ∧ b < B ∧ w.cell? ⟨b, off + k, none⟩ = some (.int .u8 (l[k].toNat : Int)) := by
  have hl : k < l.length := by rw [h.1]; exact hk
  obtain ⟨b, off, e, hb, hc⟩ := h.2 (by intro h0; have := congrArg List.length h0; simp at this; subst this; simp at hl)
  exact ⟨b, off, hl, e, hb, hc k _ (by simp [List.getElem?_map, List.getElem?_eq_getElem hl, bv])⟩
theorem LiesB.below (h : LiesB w B A n l) (hb : Below B w w') : LiesB w' B A n l := ⟨h.1, h.2.below hb⟩
theorem LiesB.more (h : LiesB w B A n l) (hB : B ≤ B') : LiesB w B' A n l := ⟨h.1, h.2.more hB⟩
theorem LiesB.take (h : LiesB w B A n l) (m : Nat) : LiesB w B A (min m n) (l.take m) :=
  ⟨by rw [List.length_take, h.1], by rw [List.map_take]; exact h.2.take m⟩
theorem LiesB.cut (h : LiesB w B A n l) {k cap : Nat} (hc : n ≤ cap) :
    LiesB w B (cutA A cap k 1) (n - k) (l.drop k) :=
  ⟨by rw [List.length_drop, h.1], by rw [List.map_drop]; exact Lies.cut (k := k) (cap := cap) h.2 (by simpa [h.1] using hc)⟩
end

/-- What lies below the call's own blocks stays where a callee has made blocks. -/
theorem LiesB_step {w a b : World} {A : Option Addr} {n : Nat} {l : List UInt8} (h : LiesB a w.heap.size A n l) (HB : Below w.heap.size w a) (h2 : Below a.heap.size a b) : LiesB b w.heap.size A n l := h.below (h2.mono HB.size)
theorem Lies.new (w : World) (cs : Array Value) (t : TypeId) (m : Nat × Nat) : Lies (w.alloc (.cells cs t m)) (w.heap.size + 1) (some ⟨w.heap.size, 0, none⟩) cs.toList := fun _ =>
  ⟨w.heap.size, 0, rfl, by omega, fun j u hu => by
    rw [Nat.zero_add, cell_of_row _ _ j cs t m (heap_alloc_new w _)]
    simpa using hu⟩
theorem LiesB.new (w : World) (cs : Array Value) (t : TypeId) (m : Nat × Nat) (l : List UInt8) (n : Nat) (hn : l.length = n) (h : cs.toList = l.map bv) :
    LiesB (w.alloc (.cells cs t m)) (w.heap.size + 1) (some ⟨w.heap.size, 0, none⟩) n l := ⟨hn, by rw [← h]; exact Lies.new w cs t m⟩

end Go.Proofs.Ytbcgffgiifminaa
namespace Go.Proofs.Ytbcgffgiifminaa
open Go.RowKit
set_option maxRecDepth 10000

theorem byte_info : (Try.prog.info? 5).map (fun i => (i.zero, i.size, i.bytes)) = some (some (.int .u8 0), 1, 1) := by kernel_rfl

/-- The slice value '.slice A n c' is the call's own (blocks from base on) and holds the bytes l. -/
def OwnB (w : World) (base : Nat) (A : Option Addr) (n c : Nat) (l : List UInt8) : Prop :=
  w.ownsRow base 5 1 (.slice A n c) n (l.map bv)

theorem bv_one (l : List UInt8) : ∀ u ∈ l.map bv, u.oneCell' = true := by
  intro u hu
  obtain ⟨c, _, rfl⟩ := List.mem_map.1 hu
  rfl

section
variable {w w' : World} {base B n c : Nat} {A : Option Addr} {l : List UInt8}
theorem OwnB.len (h : OwnB w base A n c l) : l.length = n := by have := h.1; simpa using this
theorem OwnB.nil (w : World) (base : Nat) : OwnB w base none 0 0 [] := World.ownsRow_nil _ _ _ _
theorem OwnB.lies (h : OwnB w base A n c l) : LiesB w w.heap.size A n l := ⟨h.len, Lies.of_own h⟩
theorem OwnB.kept {row : Option Nat} (h : OwnB w base A n c l) (hg : w.grownBy w' row) (hne : (Value.slice A n c).ownBlock = none ∨ (Value.slice A n c).ownBlock ≠ row) : OwnB w' base A n c l := World.ownsRow.kept h hg hne
theorem grownBy_of_below (hb : Below w.heap.size w w') : w.grownBy w' none := ⟨hb.os, hb.tape, hb.output, hb.size, fun k hk _ => hb.block k hk⟩
theorem OwnB.below (h : OwnB w base A n c l) (hb : Below w.heap.size w w') : OwnB w' base A n c l :=
  h.kept (grownBy_of_below hb) (by cases (Value.slice A n c).ownBlock <;> simp)
theorem OwnB.base_le {base' : Nat} (h : OwnB w base A n c l) (hb : base' ≤ base) : OwnB w base' A n c l := by
  obtain ⟨h1, h2⟩ := h
  refine ⟨h1, ?_⟩
  rcases h2 with h2 | ⟨g, cap, cur, hv, hg, r⟩
  · exact .inl h2
  · exact .inr ⟨g, cap, cur, hv, by omega, r⟩
/-- Memory of the same base that is not this row's is kept where this row grows. -/
theorem below_of_grown (h : OwnB w base A n c l) (hb : base ≤ w.heap.size) (hg : w.grownBy w' (Value.slice A n c).ownBlock) : Below base w w' :=
  (Below.refl base w).grown hg hb (fun k hk => (World.ownsRow.lt h k hk).1)
end

set_option maxRecDepth 10000 in
theorem run_appendB (w : World) (base : Nat) (ty : TypeId) (A : Option Addr) (n c : Nat) (l : List UInt8) (hown : OwnB w base A n c l)
    (B : Nat) (A2 : Option Addr) (m c2 : Nat) (l2 : List UInt8) (hr : LiesB w B A2 m l2) (hsum : n + m ≤ 140737488355328) (hbase : base ≤ w.heap.size) :
    ∃ A' c' w', (Builtin.append_ #[34, 34] ty #[.slice A n c, .slice A2 m c2]).run Try.prog w = .ok (.slice A' (n + m) c') w' ∧ OwnB w' base A' (n + m) c' (l ++ l2) ∧
      w.grownBy w' (Value.slice A n c).ownBlock ∧ ((Value.slice A' (n + m) c').ownBlock = (Value.slice A n c).ownBlock ∨ (Value.slice A' (n + m) c').ownBlock = some w.heap.size) := by
  obtain ⟨hm, hr⟩ := hr
  obtain ⟨i0, hi0, hz0, hz1, hz2⟩ := info_parts byte_info
  have hform : ∀ (W : World) (v : Value) (k : Nat) (xs : List Value), W.ownsRow base 5 1 v k xs → ∃ A c, v = .slice A k c := by
    intro W v k xs h
    rcases h.2 with ⟨rfl, rfl⟩ | ⟨g, cap, cur, rfl, _⟩
    · exact ⟨_, _, rfl⟩
    · exact ⟨_, _, rfl⟩
  by_cases h0 : l2 = []
  · subst h0
    have hm0 : m = 0 := by simpa using hm.symm
    subst hm0
    refine ⟨A, c, w, ?_, by simpa using hown, ⟨rfl, rfl, rfl, Nat.le_refl _, fun _ _ _ => rfl⟩, .inl rfl⟩
    rcases hown.2 with ⟨hv, hn⟩ | ⟨g, cap, cur, hv, _, _, hnc, _⟩
    · injection hv with h1 h2 h3
      subst h1 h2 h3
      rcases A2 with _ | ad
      · simp [Builtin.append_, run_underlying Try.underlying34, sizeOf, typeInfo, hi0, Builtin.lenOf, Builtin.firstCells]
      · simp [Builtin.append_, run_underlying Try.underlying34, sizeOf, typeInfo, hi0, Builtin.lenOf, Builtin.firstCells, loadCells, loadCellsFrom]
    · injection hv with h1 h2 h3
      subst h1 h3
      rcases A2 with _ | ad
      · simp [Builtin.append_, run_underlying Try.underlying34, sizeOf, typeInfo, hi0, Builtin.lenOf, Builtin.firstCells, hnc, storeCells]
      · simp [Builtin.append_, run_underlying Try.underlying34, sizeOf, typeInfo, hi0, Builtin.lenOf, Builtin.firstCells, hnc, storeCells, loadCells, loadCellsFrom]
  · obtain ⟨b, off, rfl, hb, hc⟩ := hr (by simpa using h0)
    have hadd : ∀ j, (⟨b, off, none⟩ : Addr).add j = ⟨b, off + j, none⟩ := fun j => by unfold Addr.add; split <;> simp_all
    obtain ⟨v', w', hrun, h2, h3, _, h5⟩ := run_append_own_at (P := Try.prog) w base 34 ty 5 i0 _ 1 1 Try.underlying34 hi0 hz0 hz1 hz2 rfl (by omega) _ n _ hown ⟨b, off, none⟩ m c2 (l2.map bv) (by simp [hm])
      (fun j u hu => by rw [hadd]; exact hc j u hu) (bv_one l2) (by simp only [maxLen]; omega) (by omega) hbase
    obtain ⟨A', c', rfl⟩ := hform _ _ _ _ h2
    exact ⟨A', c', w', hrun, by rw [OwnB, List.map_append]; exact h2, h3, h5⟩

theorem wpB_append {ops : Array Oper} {rest : List Oper} {o : Oper} {a : Act} {w : World} {Q : Exit → Act → World → Prop} (hgd : o.guard = none) (s x : Operand)
    (ho : o.op = .call { callee := .builtin .append, args := #[s, x], argTypes := #[34, 34] })
    (base : Nat) (A : Option Addr) (n c : Nat) (l : List UInt8) (hs : a.eval s = .slice A n c) (hown : OwnB w base A n c l)
    (B : Nat) (A2 : Option Addr) (m c2 : Nat) (l2 : List UInt8) (hx : a.eval x = .slice A2 m c2) (hr : LiesB w B A2 m l2) (k : Nat) (l3 : List UInt8) (hk : n + m = k) (hl3 : l ++ l2 = l3) (hsum : k ≤ 140737488355328) (hbase : base ≤ w.heap.size)
    (h : ∀ A' c' w', OwnB w' base A' k c' l3 → Below base w w' → w.grownBy w' (Value.slice A n c).ownBlock → wpList Try.prog ops Q rest (a.put o.dst (.slice A' k c')) w') : wpList Try.prog ops Q (o :: rest) a w := by
  subst hk hl3
  obtain ⟨A', c', w', hrun, h2, h3, _⟩ := run_appendB w base o.type A n c l hown B A2 m c2 l2 hr hsum hbase
  refine wpList_plain hgd fun K hK => ?_
  unfold Oper.wp execOp
  simp only [ho, resolve, invoke, builtin, Sem.run_bind, Sem.run_pure, Result.andThen_ok, List.map_toArray, List.map_cons, List.map_nil, hs, hx, hrun]
  exact hK _ _ (h A' c' w' h2 (below_of_grown hown hbase h3) h3)
end Go.Proofs.Ytbcgffgiifminaa
namespace Go.Proofs.Ytbcgffgiifminaa
open Go.RowKit
set_option maxRecDepth 10000

section
variable {w w' : World} {base B n c g : Nat} {A : Option Addr} {l : List UInt8}
theorem OwnB.form (h : OwnB w base A n c l) (hpos : 0 < n) : ∃ g, A = some ⟨g, 0, none⟩ ∧ base ≤ g ∧ g < w.heap.size := by
  obtain ⟨g, cap, hv, hb, hlt⟩ := World.ownsRow.form h hpos
  exact ⟨g, by injection hv, hb, hlt⟩
theorem OwnB.cell (h : OwnB w base (some ⟨g, 0, none⟩) n c l) {j : Nat} (hj : j < n) : ∃ hl : j < l.length, w.cell? ⟨g, j, none⟩ = some (.int .u8 (l[j].toNat : Int)) := by
  have hl : j < l.length := by rw [h.len]; exact hj
  refine ⟨hl, ?_⟩
  rw [World.ownsRow.cellAt h j (by omega), List.getElem?_map, List.getElem?_eq_getElem hl]; rfl
theorem OwnB.frozen (h : OwnB w base (some ⟨g, 0, none⟩) n c l) (j : Nat) : w.frozen? ⟨g, j, none⟩ = false := World.ownsRow.frozenAt h j
theorem OwnB.store (h : OwnB w base (some ⟨g, 0, none⟩) n c l) (j : Nat) (x : UInt8) : OwnB (w.setCell ⟨g, j, none⟩ (.int .u8 (x.toNat : Int))) base (some ⟨g, 0, none⟩) n c (l.set j x) := by
  unfold OwnB
  rw [List.map_set]
  exact (World.ownsRow.stored h j (bv x)).1
theorem OwnB.cap (h : OwnB w base A n c l) : n ≤ c := by
  rcases h.2 with ⟨hv, h0⟩ | ⟨g', cap, cur, hv, _, _, hnc, _⟩
  · omega
  · injection hv with _ _ h3; omega
theorem OwnB.drew (h : OwnB w base A n c l) : OwnB w.drew base A n c l := h
theorem OwnB.drewN (h : OwnB w base A n c l) (k : Nat) : OwnB (w.drewN k) base A n c l := h
theorem OwnB.lt (h : OwnB w base (some ⟨g, 0, none⟩) n c l) : base ≤ g ∧ g < w.heap.size := World.ownsRow.lt h g rfl
theorem Below_drewN {a w : World} (h : Below B a w) (n : Nat) : Below B a (w.drewN n) := ⟨h.os, h.tape, h.output, h.size, h.block⟩
theorem Lies.drew {xs : List Value} (h : Lies w B A xs) : Lies w.drew B A xs := h
theorem LiesB.drew (h : LiesB w B A n l) : LiesB w.drew B A n l := h
theorem LiesB.drewN (h : LiesB w B A n l) (k : Nat) : LiesB (w.drewN k) B A n l := h
end

theorem wpB_make {w : World} {ops : Array Oper} {rest : List Oper} {o : Oper} {a : Act} {Q : Exit → Act → World → Prop}
    (hg : o.guard = none) (l c : Operand) (hop : o.op = Op.makeSlice 34 l c)
    (base : Nat) (L C : Int) (n : Nat) (hl : a.eval l = .int .i64 L) (hc : a.eval c = .int .i64 C) (hL : L = (n : Int)) (hC : C = (n : Int)) (b2 : n ≤ 281474976710656) (b4 : base ≤ w.heap.size)
    (hK : ∀ g w', OwnB w' base (some ⟨g, 0, none⟩) n n (List.replicate n 0) → Below base w w' → w.grownBy w' none → wpList Try.prog ops Q rest (a.put o.dst (.slice (some ⟨g, 0, none⟩) n n)) w') :
    wpList Try.prog ops Q (o :: rest) a w := by
  obtain ⟨i0, hi0, hz0, hz1, hz2⟩ := info_parts byte_info
  refine wpList_make_full w hg l c _ hop base 5 i0 _ 1 Try.underlying34 hi0 hz0 hz1 _ _ L C n hl hc hL hC (by rw [hz2]; omega) (by simp only [maxLen]; omega) b4 fun w' h1 h2 => ?_
  refine hK _ w' ?_ ((Below.refl base w).grown h2 b4 (fun k hk => by cases hk)) h2
  unfold OwnB
  have e : (List.replicate n (0 : UInt8)).map bv = (madeCells (Value.int .u8 0).cells (n * 1)).toList := by
    rw [show (Value.int .u8 0).cells = #[Value.int .u8 0] from rfl, toList_madeCells_one, List.map_replicate, Nat.mul_one]; rfl
  rw [e]
  exact h1

/-- A contract that leaves the world as it was, met in a region that draws its order. -/
theorem Calls.quiet_of_same' {P : Program} {f : FuncId} {args : Array Value} {w : World} {n : Nat} {v : Value}
    (h : Calls P f args (w.drewN n) fun e w' => e = .returned v ∧ w.drewN n = w') : Calls P f args (w.drewN n) fun e w'' => e = .returned v ∧ ∃ m, w'' = w.drewN m :=
  h.mono fun _ _ ⟨he, hm⟩ => ⟨he, n, hm.symm⟩

theorem bits_xor8 (a b : UInt8) : bits BinOp.xor IntKind.u8 (a.toNat : Int) (b.toNat : Int) = ((a ^^^ b).toNat : Int) := by
  rw [u8_xor_nat _ _ a.toNat_lt b.toNat_lt, UInt8.toNat_xor]
end Go.Proofs.Ytbcgffgiifminaa
namespace Go.Proofs.Ytbcgffgiifminaa
open Go.RowKit
set_option maxRecDepth 10000
theorem tmod_lt (x k : Int) (hk : 0 < k) : -k < x.tmod k ∧ x.tmod k < k :=
  ⟨by have := Int.lt_tmod_of_pos x hk; omega, Int.tmod_lt_of_pos x hk⟩
theorem tmod_neg {a n : Int} (h : 1 ≤ n) (h0 : a.tmod n < 0) : a.tmod n + n = a % n := by
  have e := Int.mul_tdiv_add_tmod a n
  have h1 := (tmod_lt a n (by omega)).1
  have : (a.tmod n + n + n * (a.tdiv n - 1)) % n = a.tmod n + n := by
    rw [Int.add_mul_emod_self_left]; exact Int.emod_eq_of_lt (by omega) (by omega)
  rw [← this]
  congr 1
  rw [Int.mul_sub]; omega
theorem tmod_pos {a n : Int} (h : 1 ≤ n) (h0 : 0 ≤ a.tmod n) : a.tmod n = a % n := by
  have e := Int.mul_tdiv_add_tmod a n
  have h1 := (tmod_lt a n (by omega)).2
  have : (a.tmod n + n * a.tdiv n) % n = a.tmod n := by
    rw [Int.add_mul_emod_self_left]; exact Int.emod_eq_of_lt h0 h1
  rw [← this]
  congr 1
  omega

theorem wrap32_in {n : Int} (h1 : -2147483648 ≤ n) (h2 : n ≤ 2147483647) : wrap32 n = n := IntWalk.wrap32_in n ⟨h1, h2⟩
theorem wrap32_eq (n : Int) : wrap32 n = (n + 2147483648) % 4294967296 - 2147483648 := by unfold wrap32; rfl


/-- The four bytes of a number of 32 bits, the highest first. -/
def be32 (a : Int) : List UInt8 := [UInt8.ofNat (a % 4294967296 / 16777216).toNat, UInt8.ofNat (a % 4294967296 / 65536 % 256).toNat, UInt8.ofNat (a % 4294967296 / 256 % 256).toNat, UInt8.ofNat (a % 256).toNat]
theorem bv_ofInt {n : Int} (h0 : 0 ≤ n) (h1 : n < 256) : bv (UInt8.ofNat n.toNat) = .int .u8 n := by
  unfold bv
  rw [UInt8.toNat_ofNat_of_lt' (by show n.toNat < 256; omega)]
  congr 1
  omega
theorem be32_cells (a : Int) : [Value.int .u8 (a % 4294967296 / 16777216), .int .u8 (a % 4294967296 / 65536 % 256), .int .u8 (a % 4294967296 / 256 % 256), .int .u8 (a % 256)] = (be32 a).map bv := by
  simp only [be32, List.map_cons, List.map_nil]
  rw [bv_ofInt (by omega) (by omega), bv_ofInt (by omega) (by omega), bv_ofInt (by omega) (by omega), bv_ofInt (by omega) (by omega)]
theorem be32_mod (a : Int) : be32 (a % 4294967296) = be32 a := by
  unfold be32
  have e : a % 4294967296 % 4294967296 = a % 4294967296 := by omega
  have e2 : a % 4294967296 % 256 = a % 256 := by omega
  rw [e, e2]
theorem be32_length (a : Int) : (be32 a).length = 4 := rfl
/-- The number that four bytes are, without a sign. -/
def num4 (a b c d : UInt8) : Int := (a.toNat : Int) * 16777216 + b.toNat * 65536 + c.toNat * 256 + d.toNat
/-- The number of 32 bits that the first four bytes are; 0, if there are fewer. -/
def get32 : List UInt8 → Int
  | a :: b :: c :: d :: _ => wrap32 (num4 a b c d)
  | _ => 0
theorem get32_short {l : List UInt8} (h : l.length < 4) : get32 l = 0 := by
  match l, h with
  | [], _ => rfl
  | [_], _ => rfl
  | [_, _], _ => rfl
  | [_, _, _], _ => rfl
theorem get32_be32 {a : Int} (h1 : -2147483648 ≤ a) (h2 : a ≤ 2147483647) (r : List UInt8) : get32 (be32 a ++ r) = a := by
  simp only [be32, List.cons_append, List.nil_append, get32, num4]
  rw [UInt8.toNat_ofNat_of_lt' (by show _ < 256; omega), UInt8.toNat_ofNat_of_lt' (by show _ < 256; omega), UInt8.toNat_ofNat_of_lt' (by show _ < 256; omega), UInt8.toNat_ofNat_of_lt' (by show _ < 256; omega), wrap32_eq]
  omega
theorem be32_get32 (a b c d : UInt8) (r : List UInt8) : be32 (get32 (a :: b :: c :: d :: r)) = [a, b, c, d] := by
  have ha := a.toNat_lt
  have hb := b.toNat_lt
  have hc := c.toNat_lt
  have hd := d.toNat_lt
  have key : ∀ (x : UInt8) (n : Nat), n = x.toNat → UInt8.ofNat n = x := fun x n h => by rw [h]; exact UInt8.ofNat_toNat
  simp only [be32, get32, num4, wrap32_eq]
  rw [key a _ (by omega), key b _ (by omega), key c _ (by omega), key d _ (by omega)]
theorem or4 (a b c d : UInt8) : bits BinOp.or IntKind.u32 (bits BinOp.or IntKind.u32 (bits BinOp.or IntKind.u32 ((a.toNat : Int) * 16777216) ((b.toNat : Int) * 65536)) ((c.toNat : Int) * 256)) (d.toNat : Int) = num4 a b c d := by
  have ha := a.toNat_lt
  have hb := b.toNat_lt
  have hc := c.toNat_lt
  have hd := d.toNat_lt
  have e1 : bits BinOp.or IntKind.u32 ((a.toNat : Int) * 16777216) ((b.toNat : Int) * 65536) = ((a.toNat * 16777216 + b.toNat * 65536 : Nat) : Int) := by
    rw [show (a.toNat : Int) * 16777216 = ((a.toNat * 16777216 : Nat) : Int) from by omega, show (b.toNat : Int) * 65536 = ((b.toNat * 65536 : Nat) : Int) from by omega,
      u32_or_nat _ _ (by omega) (by omega), nat_join 24 _ _ (by omega) (by omega)]
  have e2 : bits BinOp.or IntKind.u32 ((a.toNat * 16777216 + b.toNat * 65536 : Nat) : Int) ((c.toNat : Int) * 256) = ((a.toNat * 16777216 + b.toNat * 65536 + c.toNat * 256 : Nat) : Int) := by
    rw [show (c.toNat : Int) * 256 = ((c.toNat * 256 : Nat) : Int) from by omega, u32_or_nat _ _ (by omega) (by omega), nat_join 16 _ _ (by omega) (by omega)]
  rw [e1, e2, u32_or_nat _ _ (by omega) (by omega), nat_join 8 _ _ (by omega) (by omega), num4]
  omega

theorem OwnB.new (w : World) (cs : Array Value) (n : Nat) (l : List UInt8) (hn : cs.size = n) (hm : n ≤ maxLen) (h : cs.toList = l.map bv) :
    OwnB (w.alloc (.cells cs 5)) w.heap.size (some ⟨w.heap.size, 0, none⟩) n n l := by
  unfold OwnB
  rw [← h]
  exact World.ownsRow_lit w cs n (Nat.le_refl _) hm (by omega)
theorem Below_new (w : World) (o : Obj) : Below w.heap.size w (w.alloc o) := (Below.refl _ _).alloc (Nat.le_refl _) _
end Go.Proofs.Ytbcgffgiifminaa
namespace Go.Proofs.Ytbcgffgiifminaa
open Go.RowKit
set_option maxRecDepth 10000

/-- Of the blocks that were there only those of S may have changed. -/
structure Keeps (S : Nat → Prop) (w w' : World) : Prop where
  os : w'.os = w.os
  tape : w'.tape = w.tape
  output : w'.output = w.output
  size : w.heap.size ≤ w'.heap.size
  block : ∀ k, k < w.heap.size → ¬ S k → w'.heap[k]? = w.heap[k]?

section
variable {S S' : Nat → Prop} {w w' w1 w2 : World}
theorem Keeps.refl (S : Nat → Prop) (w : World) : Keeps S w w := ⟨rfl, rfl, rfl, Nat.le_refl _, fun _ _ _ => rfl⟩
theorem Keeps.mono (h : Keeps S w w') (hS : ∀ k, k < w.heap.size → S k → S' k) : Keeps S' w w' := ⟨h.os, h.tape, h.output, h.size, fun k hk hn => h.block k hk fun hs => hn (hS k hk hs)⟩
theorem Keeps.trans (h : Keeps S w w1) (h2 : Keeps S' w1 w2) (hS : ∀ k, k < w.heap.size → S' k → S k) : Keeps S w w2 :=
  ⟨h2.os.trans h.os, h2.tape.trans h.tape, h2.output.trans h.output, Nat.le_trans h.size h2.size, fun k hk hn =>
    (h2.block k (Nat.lt_of_lt_of_le hk h.size) fun hs => hn (hS k hk hs)).trans (h.block k hk hn)⟩
theorem Keeps.of_below (h : Below w.heap.size w w') : Keeps S w w' := ⟨h.os, h.tape, h.output, h.size, fun k hk _ => h.block k hk⟩
theorem Keeps.below {B : Nat} (h : Keeps S w w') (hB : B ≤ w.heap.size) (hS : ∀ k, k < B → ¬ S k) : Below B w w' := ⟨h.os, h.tape, h.output, h.size, fun k hk => h.block k (Nat.lt_of_lt_of_le hk hB) (hS k hk)⟩
theorem Keeps.alloc (h : Keeps S w w') (o : Obj) : Keeps S w (w'.alloc o) := h.trans (S' := S) (Keeps.of_below (Below_new w' o)) fun _ _ h => h
theorem Keeps.drew (h : Keeps S w w') : Keeps S w w'.drew := ⟨h.os, h.tape, h.output, h.size, h.block⟩
theorem Keeps.drewN (h : Keeps S w w') (n : Nat) : Keeps S w (w'.drewN n) := ⟨h.os, h.tape, h.output, h.size, h.block⟩
theorem Keeps.grown {row : Option Nat} (h : w.grownBy w' row) : Keeps (fun k => some k = row) w w' := ⟨h.os, h.tape, h.output, h.size, fun k hk hn => h.block k hk hn⟩
theorem Keeps.setCell (w : World) (a : Addr) (u : Value) : Keeps (fun k => k = a.block) w (w.setCell a u) := ⟨rfl, rfl, rfl, by simp [World.setCell], fun k _ hn => Below.heap_setCell w a u k hn⟩
end

/-- Block g holds just the cells cs, of element type t, none of them frozen. -/
def Blk (w : World) (g : Nat) (t : TypeId) (cs : Array Value) : Prop := w.heap[g]? = some (.cells cs t (0, 0))
section
variable {S : Nat → Prop} {w w' : World} {g : Nat} {t : TypeId} {cs : Array Value}
theorem Blk.lt (h : Blk w g t cs) : g < w.heap.size := by
  rcases Nat.lt_or_ge g w.heap.size with hlt | hge
  · exact hlt
  · unfold Blk at h; rw [Array.getElem?_eq_none hge] at h; cases h
theorem Blk.cell (h : Blk w g t cs) (i : Nat) : w.cell? ⟨g, i, none⟩ = cs[i]? := cell_of_row w g i cs t (0, 0) h
theorem Blk.frozen (h : Blk w g t cs) (i : Nat) : w.frozen? ⟨g, i, none⟩ = false := frozen_of_row w g i cs t h
theorem Blk.new (w : World) (t : TypeId) (cs : Array Value) : Blk (w.alloc (.cells cs t)) w.heap.size t cs := heap_alloc_new w _
theorem Blk.drew (h : Blk w g t cs) : Blk w.drew g t cs := h
theorem Blk.drewN (h : Blk w g t cs) (n : Nat) : Blk (w.drewN n) g t cs := h
theorem Blk.keeps (h : Blk w g t cs) (hk : Keeps S w w') (hn : ¬ S g) : Blk w' g t cs := (hk.block g h.lt hn).trans h
theorem Blk.below {B : Nat} (h : Blk w g t cs) (hb : Below B w w') (hg : g < B) : Blk w' g t cs := (hb.block g hg).trans h
theorem Blk.set_ (h : Blk w g t cs) (i : Nat) (u : Value) : Blk (w.setCell ⟨g, i, none⟩ u) g t (cs.setIfInBounds i u) := heap_setCell_same w g i cs t u h
theorem Blk.ne_ {g' : Nat} {t' : TypeId} {cs' : Array Value} (h : Blk w g t cs) (h' : Blk w g' t' cs') (hne : t ≠ t') : g ≠ g' := by
  rintro rfl
  unfold Blk at h h'
  rw [h] at h'
  injection h' with h'
  injection h' with _ ht
  exact hne ht
end

/-- The block of a slice of bytes of the call's own differs from a block of another element type. -/
theorem OwnB.ne_blk {w : World} {base n c g : Nat} {A : Option Addr} {l : List UInt8} {t : TypeId} {cs : Array Value} (h : OwnB w base A n c l) (hb : Blk w g t cs) (ht : 5 ≠ t) : some g ≠ (Value.slice A n c).ownBlock := by
  rcases h.2 with ⟨hv, _⟩ | ⟨g', cap, cur, hv, _, hh, _⟩
  · injection hv with h1 h2 h3
    subst h1
    simp [Value.ownBlock]
  · injection hv with h1 h2 h3
    subst h1
    intro he
    have : g = g' := by simpa [Value.ownBlock] using he
    subst this
    exact Blk.ne_ (t := 5) hh hb ht rfl
theorem OwnB.keeps {S : Nat → Prop} {w w' : World} {base n c : Nat} {A : Option Addr} {l : List UInt8} (h : OwnB w base A n c l) (hk : Keeps S w w') (hn : ∀ k, some k = (Value.slice A n c).ownBlock → ¬ S k) : OwnB w' base A n c l := by
  refine ⟨h.1, ?_⟩
  rcases h.2 with h2 | ⟨g, cap, cur, hv, hb, hh, r⟩
  · exact .inl h2
  · refine .inr ⟨g, cap, cur, hv, hb, ?_, r⟩
    rw [hk.block g (Array.getElem?_eq_some_iff.1 hh).1 (hn g (by rw [hv]; rfl))]
    exact hh
theorem OwnB.rebase {w : World} {base base' n c : Nat} {A : Option Addr} {l : List UInt8} (h : OwnB w base A n c l) (hn : ∀ k, some k = (Value.slice A n c).ownBlock → base' ≤ k) : OwnB w base' A n c l := by
  refine ⟨h.1, ?_⟩
  rcases h.2 with h2 | ⟨g, cap, cur, hv, hb, r⟩
  · exact .inl h2
  · exact .inr ⟨g, cap, cur, hv, hn g (by rw [hv]; rfl), r⟩

theorem LiesB.keeps {S : Nat → Prop} {w w' : World} {B n : Nat} {A : Option Addr} {l : List UInt8} (h : LiesB w B A n l) (hk : Keeps S w w') (hn : ∀ b off, A = some ⟨b, off, none⟩ → l ≠ [] → ¬ S b) : LiesB w' B A n l := by
  refine ⟨h.1, fun hne => ?_⟩
  obtain ⟨b, off, e, hb, hc⟩ := h.2 hne
  refine ⟨b, off, e, hb, fun j u hu => ?_⟩
  have hcj := hc j u hu
  exact (World.cell?_of_block (hk.block b (World.block_lt_of_cell? w _ hcj) (hn b off e (by simpa using hne)))).trans hcj

theorem wpB_append2 {ops : Array Oper} {rest : List Oper} {o : Oper} {a : Act} {w : World} {Q : Exit → Act → World → Prop} (hgd : o.guard = none) (s x : Operand)
    (ho : o.op = .call { callee := .builtin .append, args := #[s, x], argTypes := #[34, 34] })
    (A : Option Addr) (n c : Nat) (l : List UInt8) (hs : a.eval s = .slice A n c) (hown : OwnB w 0 A n c l)
    (B : Nat) (A2 : Option Addr) (m c2 : Nat) (l2 : List UInt8) (hx : a.eval x = .slice A2 m c2) (hr : LiesB w B A2 m l2) (k : Nat) (l3 : List UInt8) (hk : n + m = k) (hl3 : l ++ l2 = l3) (hsum : k ≤ 140737488355328)
    (h : ∀ A' c' w', OwnB w' 0 A' k c' l3 → Keeps (fun i => some i = (Value.slice A n c).ownBlock) w w' →
      ((Value.slice A' k c').ownBlock = (Value.slice A n c).ownBlock ∨ (Value.slice A' k c').ownBlock = some w.heap.size) → wpList Try.prog ops Q rest (a.put o.dst (.slice A' k c')) w') : wpList Try.prog ops Q (o :: rest) a w := by
  subst hk hl3
  obtain ⟨A', c', w', hrun, h2, h3, h4⟩ := run_appendB w 0 o.type A n c l hown B A2 m c2 l2 hr hsum (Nat.zero_le _)
  refine wpList_plain hgd fun K hK => ?_
  unfold Oper.wp execOp
  simp only [ho, resolve, invoke, builtin, Sem.run_bind, Sem.run_pure, Result.andThen_ok, List.map_toArray, List.map_cons, List.map_nil, hs, hx, hrun]
  exact hK _ _ (h A' c' w' h2 (Keeps.grown h3) h4)
end Go.Proofs.Ytbcgffgiifminaa
namespace Go.Proofs.Ytbcgffgiifminaa
open Go.RowKit
set_option maxRecDepth 10000

/-- Block p is a line that holds the presses l; its row is block g (none: no row). -/
def LineAt (w : World) (p : Nat) (g : Option Nat) (l : List UInt8) : Prop :=
  l.length ≤ 1000 ∧ ∃ A c, Blk w p 109 #[.slice A l.length c] ∧ OwnB w 0 A l.length c l ∧ (Value.slice A l.length c).ownBlock = g
/-- The blocks of a line. -/
def lineBlocks (p : Nat) (g : Option Nat) (k : Nat) : Prop := k = p ∨ some k = g

section
variable {S : Nat → Prop} {w w' : World} {p : Nat} {g : Option Nat} {l : List UInt8}
theorem LineAt.keeps (h : LineAt w p g l) (hk : Keeps S w w') (hn : ∀ k, lineBlocks p g k → ¬ S k) : LineAt w' p g l := by
  obtain ⟨hl, A, c, hb, ho, hg⟩ := h
  exact ⟨hl, A, c, hb.keeps hk (hn p (.inl rfl)), ho.keeps hk fun k e => hn k (.inr (by rw [e, hg])), hg⟩
theorem LineAt.below (h : LineAt w p g l) (hb : Below w.heap.size w w') : LineAt w' p g l := h.keeps (S := fun _ => False) (Keeps.of_below hb) fun _ _ h => h
theorem LineAt.lt (h : LineAt w p g l) : p < w.heap.size ∧ ∀ k, some k = g → k < w.heap.size := by
  obtain ⟨hl, A, c, hb, ho, hg⟩ := h
  exact ⟨hb.lt, fun k e => (World.ownsRow.lt ho k (by rw [hg, e])).2⟩
end

set_option maxHeartbeats 400000 in
theorem line_Len (p : Nat) (g : Option Nat) (l : List UInt8) (w : World) (h : LineAt w p g l) :
    Calls Try.prog 25 #[.pointer (some ⟨p, 0, none⟩)] w fun e w' => e = .returned (.int .i64 (l.length : Int)) ∧ w = w' := by
  obtain ⟨hl, A, c, hb, ho, hg⟩ := h
  have hc := hb.cell 0
  obtain ⟨n, hn⟩ : ∃ n, n = l.length := ⟨_, rfl⟩
  rw [← hn] at hc
  rw [← hn]
  clear hn hb ho hg
  simp at hc
  go_enter Try.func25, Try.ntmps25
  go_wp2
  go_ret
  exact ⟨rfl, rfl⟩
set_option maxHeartbeats 400000 in
theorem line_Len_nil (w : World) : Calls Try.prog 25 #[.pointer none] w fun e w' => e = .returned (.int .i64 0) ∧ w = w' := by
  go_enter Try.func25, Try.ntmps25
  go_wp2
  go_ret
  exact ⟨rfl, rfl⟩

set_option maxHeartbeats 400000 in
set_option maxRecDepth 10000 in
theorem line_Add (p : Nat) (g : Option Nat) (l : List UInt8) (b : UInt8) (w : World) (h : LineAt w p g l) (hl : l.length < 1000) :
    Calls Try.prog 48 #[.pointer (some ⟨p, 0, none⟩), .int .u8 (b.toNat : Int)] w fun e w' =>
      e = .returned (.int .i64 0) ∧ ∃ g', LineAt w' p g' (l ++ [b]) ∧ Keeps (lineBlocks p g) w w' ∧ (g' = g ∨ ∃ k, g' = some k ∧ w.heap.size ≤ k) := by
  obtain ⟨hl0, A, c, hb, ho, hg⟩ := h
  have hc := hb.cell 0
  simp at hc
  have hp := ho.ne_blk hb (by decide)
  obtain ⟨n, hn⟩ : ∃ n, n = l.length := ⟨_, rfl⟩
  rw [← hn] at hc ho hb hl hg hp
  have Hn := hide hn
  clear hn hl0
  have ho2 := ho.below (Below_new w (.cells #[.int .u8 (b.toNat : Int)] 5))
  have hl2 := LiesB.new w #[.int .u8 (b.toNat : Int)] 5 (0, 0) [b] 1 rfl rfl
  have HB := hide hb
  have HG := hide hg
  have HP := hide hp
  have Ho2 := hide ho2
  have Hl2 := hide hl2
  clear hb hg hp ho2 hl2 ho
  go_enter Try.func48, Try.ntmps48
  go_wp2_with (at_builtin; refine wpB_append2 rfl (.tmp 19) (.tmp 21) rfl A n c l rfl Ho2.out _ _ _ _ [b] rfl Hl2.out (n + 1) _ rfl rfl (by omega) ?_; intro A' c' w1 own1 hk1 hat1; have Hat := hide hat1; clear hat1; have hb1 : Blk w1 p 109 #[.slice A n c] := (HB.out.below (Below_new w _) HB.out.lt).keeps hk1 HP.out; have hc1 := hb1.cell 0; have hf1 := hb1.frozen 0; simp at hc1; have HB1 := hide hb1; clear hb1)
  go_ret
  refine ⟨rfl, (Value.slice A' (n + 1) c').ownBlock, ⟨by rw [List.length_append, ← Hn.out]; simp; omega, A', c', ?_, ?_, ?_⟩, ?_, ?_⟩
  · rw [List.length_append, ← Hn.out]
    exact HB1.out.set_ 0 _
  · rw [List.length_append, ← Hn.out]
    exact own1.keeps (Keeps.setCell w1 ⟨p, 0, none⟩ _) fun k hk e => by subst e; exact own1.ne_blk HB1.out (by decide) hk
  · rw [List.length_append, ← Hn.out]; rfl
  · refine ((Keeps.of_below (Below_new w _)).trans hk1 ?_).trans (Keeps.setCell w1 ⟨p, 0, none⟩ _) ?_
    · intro k _ hk; exact .inr (by rw [hk, HG.out])
    · intro k _ hk; exact .inl hk
  · rcases Hat.out with e | e
    · exact .inl (by rw [e, HG.out])
    · exact .inr ⟨_, e, by simp⟩
set_option maxHeartbeats 400000 in
set_option maxRecDepth 10000 in
theorem line_Add_full (p : Nat) (g : Option Nat) (l : List UInt8) (b : UInt8) (w : World) (h : LineAt w p g l) (hl : 1000 ≤ l.length) :
    Calls Try.prog 48 #[.pointer (some ⟨p, 0, none⟩), .int .u8 (b.toNat : Int)] w fun e w' => e = .returned (.int .i64 4) ∧ w = w' := by
  obtain ⟨hl0, A, c, hb, ho, hg⟩ := h
  have hc := hb.cell 0
  obtain ⟨n, hn⟩ : ∃ n, n = l.length := ⟨_, rfl⟩
  rw [← hn] at hc hl
  clear hn hb ho hg hl0
  simp at hc
  go_enter Try.func48, Try.ntmps48
  go_wp2
  go_ret
  exact ⟨rfl, rfl⟩
set_option maxHeartbeats 400000 in
theorem line_Add_nil (b : Int) (w : World) : Calls Try.prog 48 #[.pointer none, .int .u8 b] w fun e w' => e = .returned (.int .i64 7) ∧ w = w' := by
  go_enter Try.func48, Try.ntmps48
  go_wp2
  go_ret
  exact ⟨rfl, rfl⟩

/-- What Put adds, how many presses, which error. -/
def putAdd (l : List UInt8) (first : Int) (b : List UInt8) : List UInt8 :=
  if first < 0 ∨ (l.length : Int) < first then [] else (b.drop (l.length - first.toNat)).take (1000 - l.length)
def putErr (l : List UInt8) (first : Int) (b : List UInt8) : Int :=
  if first < 0 then 1 else if (l.length : Int) < first then 2 else if 1000 < first.toNat + b.length then 4 else 0
theorem putAdd_form {l b : List UInt8} {f : Nat} (h : f ≤ l.length) : putAdd l f b = (b.drop (l.length - f)).take (1000 - l.length) := by
  rw [putAdd, if_neg (by omega)]; simp
theorem putErr_form {l b : List UInt8} {f : Nat} (h : f ≤ l.length) : putErr l f b = if 1000 < f + b.length then 4 else 0 := by
  rw [putErr, if_neg (by omega), if_neg (by omega)]; simp

set_option maxHeartbeats 1000000 in
set_option maxRecDepth 10000 in
theorem line_Put (p : Nat) (g : Option Nat) (l : List UInt8) (first : Int) (A2 : Option Addr) (n2 c2 : Nat) (b : List UInt8) (w : World) (h : LineAt w p g l)
    (hA : LiesB w w.heap.size A2 n2 b) (hdis : ∀ bk off, A2 = some ⟨bk, off, none⟩ → b ≠ [] → ¬ lineBlocks p g bk) (h1 : -9223372036854775808 ≤ first) (h2 : first ≤ 9223372036854775807) (hn2 : n2 ≤ 9223372036854775807) :
    Calls Try.prog 53 #[.pointer (some ⟨p, 0, none⟩), .int .i64 first, .slice A2 n2 c2] w fun e w' =>
      e = .returned (.tuple #[.int .i64 ((putAdd l first b).length : Int), .int .i64 (putErr l first b)]) ∧
      ∃ g', LineAt w' p g' (l ++ putAdd l first b) ∧ Keeps (lineBlocks p g) w w' ∧ (g' = g ∨ ∃ k, g' = some k ∧ w.heap.size ≤ k) := by
  obtain ⟨hl0, A, c, hb, ho, hg⟩ := id h
  have hc := hb.cell 0
  obtain ⟨n, hn⟩ : ∃ n, n = l.length := ⟨_, rfl⟩
  rw [← hn] at hc hl0
  simp at hc
  by_cases hf0 : first < 0
  · have e1 : putAdd l first b = [] := by simp [putAdd, hf0]
    have e2 : putErr l first b = 1 := by simp [putErr, hf0]
    rw [e1, e2]
    have HH := hide h
    rw [List.append_nil]
    clear hn hb ho hg h hA hdis e1 e2
    go_enter Try.func53, Try.ntmps53
    go_wp2
    go_ret2
    exact ⟨rfl, g, HH.out, Keeps.refl _ _, .inl rfl⟩
  by_cases hf1 : (n : Int) < first
  · have e1 : putAdd l first b = [] := by rw [putAdd, if_pos (.inr (by rw [← hn]; exact hf1))]
    have e2 : putErr l first b = 2 := by rw [putErr, if_neg hf0, if_pos (by rw [← hn]; exact hf1)]
    rw [e1, e2]
    have HH := hide h
    rw [List.append_nil]
    clear hn hb ho hg h hA hdis e1 e2
    go_enter Try.func53, Try.ntmps53
    go_wp2
    go_ret2
    exact ⟨rfl, g, HH.out, Keeps.refl _ _, .inl rfl⟩
  obtain ⟨f, rfl⟩ : ∃ f : Nat, first = (f : Int) := ⟨first.toNat, by omega⟩
  have hfn : f ≤ n := by omega
  rw [putAdd_form (by omega), putErr_form (by omega), ← hn]
  obtain ⟨add, hadd⟩ : ∃ a, a = (b.drop (n - f)).take (1000 - n) := ⟨_, rfl⟩
  obtain ⟨E, hE⟩ : ∃ e : Int, e = if 1000 < f + b.length then 4 else 0 := ⟨_, rfl⟩
  rw [← hadd, ← hE]
  have HH := hide h
  have HA := hide hA
  have HD := hide hdis
  have Hn := hide hn
  clear hn hb ho hg h hA hdis
  go_enter Try.func53, Try.ntmps53
  obtain ⟨s, hs⟩ : ∃ s, s = n - f := ⟨_, rfl⟩
  rw [← hs] at hadd
  have hlenA : add.length = min (1000 - n) (n2 - s) := by rw [hadd, List.length_take, List.length_drop, HA.out.len]
  rw [hlenA]
  have Hadd := hide hadd
  have HE := hide hE
  have Hs := hide hs
  obtain ⟨N, hN⟩ : ∃ N, N = min (1000 - n) (n2 - s) := ⟨_, rfl⟩
  rw [← hN]
  have HN := hide hN
  clear hs hadd hE hlenA hN
  go_wp2
  rw [show ((n : Int) - (f : Int)) = (s : Int) from by have := Hs.out; omega]
  go_loopw [8, 9] (fun t i wr => ∃ j : Nat, s + j ≤ max n2 s ∧ n + j ≤ 1000 ∧ t = .int .i64 j ∧ i = .int .i64 ((s + j : Nat) : Int) ∧ ∃ g', LineAt wr p g' (l ++ (b.drop s).take j) ∧ Keeps (lineBlocks p g) w wr ∧ (g' = g ∨ ∃ k, g' = some k ∧ w.heap.size ≤ k))
    (fun t _ _ => 1000 - (intOf t).toNat)
  case atStart => exact ⟨0, by omega, hl0, rfl, rfl, g, by simpa using HH.out, Keeps.refl _ _, .inl rfl⟩
  case round =>
    obtain ⟨j, hj, hj2, rfl, rfl, g', hline, hkeep, hg'⟩ := hrel
    have HA2 := hide (HA.out.keeps hkeep HD.out)
    have Hline := hide hline
    have Hg' := hide hg'
    clear hline hg'
    have hlen : (l ++ (b.drop s).take j).length = n + j := by
      have := HA.out.len
      rw [List.length_append, List.length_take, List.length_drop, ← Hn.out]; omega
    have Hlen := hide hlen
    clear hlen
    by_cases hlt : s + j < n2
    · obtain ⟨b1, o1, hl1, rfl, -, hc1⟩ := HA2.out.at_ hlt
      by_cases hful : n + j < 1000
      · go_wp2_with (go_at_call 48; refine Calls.mono (line_Add p g' _ (b[s + j]) _ Hline.out (by rw [Hlen.out]; exact hful)) ?_; rintro e w2 ⟨rfl, g2, hline2, hkeep2, hg2⟩; have Hline2 := hide hline2; have Hkeep2 := hide hkeep2; have Hg2 := hide hg2; clear hline2 hkeep2 hg2)
        refine ⟨⟨j + 1, by omega, by omega, by go_num, by go_num, g2, ?_, hkeep.trans Hkeep2.out ?_, ?_⟩, by simp [intOf]; omega⟩
        · have e : (b.drop s).take (j + 1) = (b.drop s).take j ++ [b[s + j]] := by
            rw [List.take_succ_eq_append_getElem (by rw [List.length_drop]; omega), List.getElem_drop]
          rw [e, ← List.append_assoc]
          exact Hline2.out
        · intro k hk hs
          rcases hs with hs | hs
          · exact .inl hs
          · rcases Hg'.out with e | ⟨k2, e, h2⟩
            · exact .inr (by rw [hs, e])
            · rw [e] at hs; injection hs with hs; omega
        · rcases Hg2.out with e | ⟨k2, e, h2⟩
          · rw [e]; exact Hg'.out
          · exact .inr ⟨k2, e, Nat.le_trans hkeep.size h2⟩
      · go_wp2_with (go_at_call 48; refine Calls.mono (line_Add_full p g' _ (b[s + j]) _ Hline.out (by rw [Hlen.out]; omega)) ?_; rintro e w2 ⟨rfl, rfl⟩)
        go_ret2
        have hjN : j = N := by have := HN.out; have := Hs.out; omega
        have hE : E = 4 := by rw [HE.out, if_pos]; have := Hs.out; rw [HA.out.len]; omega
        refine ⟨by rw [hE, ← hjN]; rfl, g', ?_, hkeep, Hg'.out⟩
        have e : add = (b.drop s).take j := by
          rw [Hadd.out]; congr 1; omega
        rw [e]; exact Hline.out
    · go_wp2
      go_ret2
      have hjN : j = N := by have := HN.out; have := Hs.out; omega
      have hE : E = 0 := by rw [HE.out, if_neg]; have := Hs.out; rw [HA.out.len]; omega
      refine ⟨by rw [hE, ← hjN]; rfl, g', ?_, hkeep, Hg'.out⟩
      have e : add = (b.drop s).take j := by
        rw [Hadd.out, List.take_of_length_le (by rw [List.length_drop, HA.out.len]; omega), List.take_of_length_le (by rw [List.length_drop, HA.out.len]; omega)]
      rw [e]; exact Hline.out
end Go.Proofs.Ytbcgffgiifminaa
namespace Go.Proofs.Ytbcgffgiifminaa
open Go.RowKit
set_option maxRecDepth 10000
/-- What At tells. -/
def atLine (l : List UInt8) (f : Int) : UInt8 := if f < 0 then 0 else l.getD f.toNat 0
def inLine (l : List UInt8) (f : Int) : Bool := decide (0 ≤ f ∧ f < (l.length : Int))
set_option maxHeartbeats 400000 in
theorem line_Put_nil (f : Int) (A : Option Addr) (n c : Nat) (w : World) : Calls Try.prog 53 #[.pointer none, .int .i64 f, .slice A n c] w fun e w' => e = .returned (.tuple #[.int .i64 0, .int .i64 7]) ∧ w = w' := by
  go_enter Try.func53, Try.ntmps53
  go_wp2
  go_ret2
  exact ⟨rfl, rfl⟩
set_option maxHeartbeats 400000 in
set_option maxRecDepth 10000 in
theorem input_New (delay : Int) (w : World) : Calls Try.prog 76 #[.int .i64 delay] w fun e w' =>
    ∃ p g, e = .returned (.pointer (some ⟨p, 0, none⟩)) ∧ LineAt w' p g (List.replicate (min (max delay 0) 8).toNat 0) ∧ Below w.heap.size w w' ∧ w.heap.size ≤ p ∧ ∀ k, some k = g → w.heap.size ≤ k := by
  obtain ⟨d, hd⟩ : ∃ d : Nat, (min (max delay 0) 8) = (d : Int) := ⟨(min (max delay 0) 8).toNat, by omega⟩
  rw [hd]
  have hd8 : d ≤ 8 := by omega
  rw [Int.toNat_natCast]
  have Hd := hide hd
  clear hd
  go_enter Try.func76, Try.ntmps76
  go_wp2_with (at_make; (rw [show (min (max delay 0) 8) = (d : Int) from Hd.out]); refine wpB_make rfl _ _ rfl w.heap.size _ _ d rfl rfl rfl rfl (by omega) (Nat.le_refl _) ?_; intro g w2 own2 hb2 hg2)
  go_ret
  refine ⟨w2.heap.size, some g, rfl, ⟨by rw [List.length_replicate]; omega, some ⟨g, 0, none⟩, d, ?_, ?_, rfl⟩, hb2.alloc hb2.size _, hb2.size, ?_⟩
  · rw [List.length_replicate]; exact Blk.new _ _ _
  · rw [List.length_replicate]; exact (own2.base_le (Nat.zero_le _)).below (Below_new _ _)
  · intro k hk; injection hk with hk; subst hk; exact own2.lt.1
end Go.Proofs.Ytbcgffgiifminaa
namespace Go.Proofs.Ytbcgffgiifminaa
open Go.RowKit
set_option maxRecDepth 10000
set_option linter.unusedVariables false

/-- Put, its numbers handed over. -/
theorem line_Put_v (p : Nat) (g : Option Nat) (l : List UInt8) (first : Int) (A2 : Option Addr) (n2 c2 : Nat) (b add : List UInt8) (N E : Int) (w : World) (h : LineAt w p g l)
    (hA : LiesB w w.heap.size A2 n2 b) (hdis : ∀ bk off, A2 = some ⟨bk, off, none⟩ → b ≠ [] → ¬ lineBlocks p g bk) (h1 : -9223372036854775808 ≤ first) (h2 : first ≤ 9223372036854775807) (hn2 : n2 ≤ 9223372036854775807)
    (hadd : putAdd l first b = add) (hN : (add.length : Int) = N) (hE : putErr l first b = E) :
    Calls Try.prog 53 #[.pointer (some ⟨p, 0, none⟩), .int .i64 first, .slice A2 n2 c2] w fun e w' =>
      e = .returned (.tuple #[.int .i64 N, .int .i64 E]) ∧
      ∃ g', LineAt w' p g' (l ++ add) ∧ Keeps (lineBlocks p g) w w' ∧ (g' = g ∨ ∃ k, g' = some k ∧ w.heap.size ≤ k) := by
  subst hadd hN hE
  exact line_Put p g l first A2 n2 c2 b w h hA hdis h1 h2 hn2
/-- Put of bytes that lie in a block that was just made. -/
theorem line_Put_lit (p : Nat) (g : Option Nat) (l : List UInt8) (first : Int) (n2 c2 : Nat) (b add : List UInt8) (N E : Int) (w : World) (cs : Array Value) (h : LineAt w p g l)
    (hn : b.length = n2) (hcs : cs.toList = b.map bv) (h1 : -9223372036854775808 ≤ first) (h2 : first ≤ 9223372036854775807) (hn2 : n2 ≤ 9223372036854775807)
    (hadd : putAdd l first b = add) (hN : (add.length : Int) = N) (hE : putErr l first b = E) :
    Calls Try.prog 53 #[.pointer (some ⟨p, 0, none⟩), .int .i64 first, .slice (some ⟨w.heap.size, 0, none⟩) n2 c2] (w.alloc (.cells cs 5)) fun e w' =>
      e = .returned (.tuple #[.int .i64 N, .int .i64 E]) ∧
      ∃ g', LineAt w' p g' (l ++ add) ∧ Keeps (lineBlocks p g) w w' ∧ (g' = g ∨ ∃ k, g' = some k ∧ w.heap.size ≤ k) := by
  have hl := LiesB.new w cs 5 (0, 0) b n2 hn hcs
  refine Calls.mono (line_Put_v p g l first _ n2 c2 b add N E _ (h.below (Below_new w _)) (by simpa using hl) ?_ h1 h2 hn2 hadd hN hE) ?_
  · intro bk off e _ hb
    injection e with e
    injection e with e _
    subst e
    rcases hb with hb | hb
    · have := h.lt.1; omega
    · have := h.lt.2 _ hb; omega
  · rintro e w' ⟨he, g', h3, h4, h5⟩
    refine ⟨he, g', h3, (Keeps.of_below (Below_new w _)).trans h4 fun _ _ h => h, ?_⟩
    rcases h5 with h5 | ⟨k, h5, h6⟩
    · exact .inl h5
    · exact .inr ⟨k, h5, by simp at h6; omega⟩
theorem line_Len_v (p : Nat) (g : Option Nat) (l : List UInt8) (m : Int) (w : World) (h : LineAt w p g l) (hm : (l.length : Int) = m) :
    Calls Try.prog 25 #[.pointer (some ⟨p, 0, none⟩)] w fun e w' => e = .returned (.int .i64 m) ∧ w = w' := by
  subst hm
  exact line_Len p g l w h
theorem line_Add_v (p : Nat) (g : Option Nat) (l : List UInt8) (b : UInt8) (x : Int) (w : World) (h : LineAt w p g l) (hl : l.length < 1000) (hx : x = (b.toNat : Int)) :
    Calls Try.prog 48 #[.pointer (some ⟨p, 0, none⟩), .int .u8 x] w fun e w' =>
      e = .returned (.int .i64 0) ∧ ∃ g', LineAt w' p g' (l ++ [b]) ∧ Keeps (lineBlocks p g) w w' ∧ (g' = g ∨ ∃ k, g' = some k ∧ w.heap.size ≤ k) := by
  subst hx
  exact line_Add p g l b w h hl
theorem line_Add_full_v (p : Nat) (g : Option Nat) (l : List UInt8) (b : UInt8) (x : Int) (w : World) (h : LineAt w p g l) (hl : 1000 ≤ l.length) (hx : x = (b.toNat : Int)) :
    Calls Try.prog 48 #[.pointer (some ⟨p, 0, none⟩), .int .u8 x] w fun e w' => e = .returned (.int .i64 4) ∧ w = w' := by
  subst hx
  exact line_Add_full p g l b w h hl
theorem input_New_v (delay : Int) (m : Nat) (w : World) (hm : (min (max delay 0) 8).toNat = m) : Calls Try.prog 76 #[.int .i64 delay] w fun e w' =>
    ∃ p g, e = .returned (.pointer (some ⟨p, 0, none⟩)) ∧ LineAt w' p g (List.replicate m 0) ∧ Below w.heap.size w w' ∧ w.heap.size ≤ p ∧ ∀ k, some k = g → w.heap.size ≤ k := by
  subst hm
  exact input_New delay w

/-- One line of the call's own: it holds l, and nothing older has changed. -/
def MyLine (w0 w : World) (p : Nat) (g : Option Nat) (l : List UInt8) : Prop := LineAt w p g l ∧ Below w0.heap.size w0 w ∧ w0.heap.size ≤ p ∧ ∀ k, some k = g → w0.heap.size ≤ k
theorem MyLine.new {w0 w w' : World} {p : Nat} {g : Option Nat} {l : List UInt8} (hb : Below w0.heap.size w0 w) (h : LineAt w' p g l) (h1 : Below w.heap.size w w') (h2 : w.heap.size ≤ p) (h3 : ∀ k, some k = g → w.heap.size ≤ k) : MyLine w0 w' p g l :=
  ⟨h, Below_step hb h1, Nat.le_trans hb.size h2, fun k hk => Nat.le_trans hb.size (h3 k hk)⟩
theorem MyLine.step {w0 w w' : World} {p : Nat} {g g' : Option Nat} {l l' : List UInt8} (h : MyLine w0 w p g l) (h1 : LineAt w' p g' l') (h2 : Keeps (lineBlocks p g) w w') (h3 : g' = g ∨ ∃ k, g' = some k ∧ w.heap.size ≤ k) : MyLine w0 w' p g' l' := by
  obtain ⟨_, hb, hp, hg⟩ := h
  refine ⟨h1, hb.trans (h2.below hb.size ?_), hp, ?_⟩
  · intro k hk hs
    rcases hs with hs | hs
    · omega
    · have := hg k hs; omega
  · intro k hk
    rcases h3 with e | ⟨k2, e, h4⟩
    · exact hg k (by rw [hk, e])
    · rw [e] at hk; injection hk with hk; have := hb.size; omega
theorem MyLine.below {w0 w w' : World} {p : Nat} {g : Option Nat} {l : List UInt8} (h : MyLine w0 w p g l) (h1 : Below w.heap.size w w') : MyLine w0 w' p g l :=
  ⟨h.1.below h1, Below_step h.2.1 h1, h.2.2.1, h.2.2.2⟩

/-- What lies below the call's own blocks is none of the line's. -/
theorem MyLine.dis {w0 w w1 : World} {p : Nat} {g : Option Nat} {l b : List UInt8} {A : Option Addr} {n : Nat} (h : MyLine w0 w p g l) (hA : LiesB w1 w0.heap.size A n b) : ∀ bk off, A = some ⟨bk, off, none⟩ → b ≠ [] → ¬ lineBlocks p g bk := by
  intro bk off e hb hs
  obtain ⟨b2, o2, e2, h2, _⟩ := hA.2 (by simpa using hb)
  rw [e2] at e
  injection e with e
  injection e with e
  subst e
  rcases hs with hs | hs
  · have := h.2.2.1; omega
  · have := h.2.2.2 _ hs; omega
theorem putAdd_zero {b : List UInt8} (h : b.length ≤ 1000) : putAdd [] 0 b = b := by
  rw [show (0 : Int) = ((0 : Nat) : Int) from rfl, putAdd_form (Nat.zero_le _)]
  simp [List.take_of_length_le h]
theorem putErr_zero {b : List UInt8} (h : b.length ≤ 1000) : putErr [] 0 b = 0 := by
  rw [show (0 : Int) = ((0 : Nat) : Int) from rfl, putErr_form (Nat.zero_le _), if_neg (by omega)]; rfl

end Go.Proofs.Ytbcgffgiifminaa
namespace Go.Proofs.Ytbcgffgiifminaa
open Go.RowKit
set_option maxRecDepth 10000
theorem OwnB.blk {w : World} {base n c : Nat} {A : Option Addr} {l : List UInt8} (h : OwnB w base A n c l) : ∀ k, some k = (Value.slice A n c).ownBlock → base ≤ k ∧ k < w.heap.size := by
  intro k hk
  rcases h.2 with ⟨hv, _⟩ | ⟨g, cap, cur, hv, hb, hh, _⟩
  · injection hv with h1 h2 h3
    subst h1
    simp [Value.ownBlock] at hk
  · rw [hv] at hk
    have e : k = g := by simpa [Value.ownBlock] using hk
    subst e
    exact ⟨hb, (Array.getElem?_eq_some_iff.1 hh).1⟩
/-- The blocks that an append may change are the slice's own. -/
abbrev Mine (A : Option Addr) (n c : Nat) : Nat → Prop := fun i => some i = (Value.slice A n c).ownBlock
theorem Keeps.belowOwn {w w0 w' : World} {base n c : Nat} {A : Option Addr} {l : List UInt8} (h : OwnB w0 base A n c l) (k : Keeps (Mine A n c) w w') (hb : base ≤ w.heap.size) : Below base w w' :=
  k.below hb fun i hi hs => by have := (h.blk i hs).1; omega
theorem wpB_append3 {ops : Array Oper} {rest : List Oper} {o : Oper} {a : Act} {w : World} {Q : Exit → Act → World → Prop} (hgd : o.guard = none) (s x : Operand)
    (ho : o.op = .call { callee := .builtin .append, args := #[s, x], argTypes := #[34, 34] })
    (base : Nat) (A : Option Addr) (n c : Nat) (l : List UInt8) (hs : a.eval s = .slice A n c) (hown : OwnB w base A n c l)
    (B : Nat) (A2 : Option Addr) (m c2 : Nat) (l2 : List UInt8) (hx : a.eval x = .slice A2 m c2) (hr : LiesB w B A2 m l2) (k : Nat) (l3 : List UInt8) (hk : n + m = k) (hl3 : l ++ l2 = l3) (hsum : k ≤ 140737488355328) (hbase : base ≤ w.heap.size)
    (h : ∀ A' c' w', OwnB w' base A' k c' l3 → Keeps (Mine A n c) w w' →
      ((Value.slice A' k c').ownBlock = (Value.slice A n c).ownBlock ∨ (Value.slice A' k c').ownBlock = some w.heap.size) → wpList Try.prog ops Q rest (a.put o.dst (.slice A' k c')) w') : wpList Try.prog ops Q (o :: rest) a w := by
  subst hk hl3
  obtain ⟨A', c', w', hrun, h2, h3, h4⟩ := run_appendB w base o.type A n c l hown B A2 m c2 l2 hr hsum hbase
  refine wpList_plain hgd fun K hK => ?_
  unfold Oper.wp execOp
  simp only [ho, resolve, invoke, builtin, Sem.run_bind, Sem.run_pure, Result.andThen_ok, List.map_toArray, List.map_cons, List.map_nil, hs, hx, hrun]
  exact hK _ _ (h A' c' w' h2 (Keeps.grown h3) h4)
/-- The same inside a region that draws. -/
theorem step_appendB {ops : Array Oper} {o : Oper} {a : Act} {w : World} {K : Act → World → Prop} {Q : Exit → Act → World → Prop} {E : Prop} (hg : o.guard = none) (s x : Operand)
    (ho : o.op = .call { callee := .builtin .append, args := #[s, x], argTypes := #[34, 34] })
    (base : Nat) (A : Option Addr) (n c : Nat) (l : List UInt8) (hs : a.eval s = .slice A n c) (hown : OwnB w base A n c l)
    (B : Nat) (A2 : Option Addr) (m c2 : Nat) (l2 : List UInt8) (hx : a.eval x = .slice A2 m c2) (hr : LiesB w B A2 m l2) (k : Nat) (l3 : List UInt8) (hk : n + m = k) (hl3 : l ++ l2 = l3) (hsum : k ≤ 140737488355328) (hbase : base ≤ w.heap.size)
    (h : ∀ A' c' w', OwnB w' base A' k c' l3 → Keeps (Mine A n c) w w' →
      ((Value.slice A' k c').ownBlock = (Value.slice A n c).ownBlock ∨ (Value.slice A' k c').ownBlock = some w.heap.size) → K (a.put o.dst (.slice A' k c')) w') :
    if Region.wanted o (yielded ops a.tmps) = true then Oper.wp Try.prog o a w K Q else E := by
  have hw : Region.wanted o (yielded ops a.tmps) = true := by simp [Region.wanted, hg]
  rw [if_pos hw]
  subst hk hl3
  obtain ⟨A', c', w', hrun, h2, h3, h4⟩ := run_appendB w base o.type A n c l hown B A2 m c2 l2 hr hsum hbase
  unfold Oper.wp execOp
  simp only [ho, resolve, invoke, builtin, Sem.run_bind, Sem.run_pure, Result.andThen_ok, List.map_toArray, List.map_cons, List.map_nil, hs, hx, hrun]
  exact h A' c' w' h2 (Keeps.grown h3) h4
/-- One append more. -/
theorem Keeps.step {w wr w1 w2 : World} {n c n' c' : Nat} {A A' : Option Addr} (hk : Keeps (Mine A n c) w wr)
    (hb : (Value.slice A' n' c').ownBlock = (Value.slice A n c).ownBlock ∨ ∃ g, (Value.slice A' n' c').ownBlock = some g ∧ w.heap.size ≤ g) (hm : Keeps (Mine A n c) wr w1) (h2 : Keeps (Mine A' n' c') w1 w2) : Keeps (Mine A n c) w w2 :=
  (hk.trans hm (fun _ _ h => h)).trans h2 fun k hlt h => by
    rcases hb with hb | ⟨g, hb, hg⟩
    · exact (show some k = _ from h).trans hb
    · have : some k = some g := (show some k = _ from h).trans hb
      injection this with this
      omega
end Go.Proofs.Ytbcgffgiifminaa
namespace Go.Proofs.Ytbcgffgiifminaa
open Go.RowKit
set_option maxRecDepth 10000

/-- The slice '.slice A n c' of elements of type e is the call's own (blocks from base on) and holds the values l. -/
def OwnV (e : TypeId) (w : World) (base : Nat) (A : Option Addr) (n c : Nat) (l : List Value) : Prop := w.ownsRow base e 1 (.slice A n c) n l
/-- A slice type's numbers: the slice type t, the element type e, its zero, its bytes. -/
structure Elem (t e : TypeId) (z : Value) (nb : Nat) : Prop where
  under : Try.prog.underlying t = some (.slice e)
  info : (Try.prog.info? e).map (fun i => (i.zero, i.size, i.bytes)) = some (some z, 1, nb)
  one : z.cells.size = 1
theorem OwnV.of_B {w : World} {base n c : Nat} {A : Option Addr} {l : List UInt8} (h : OwnB w base A n c l) : OwnV 5 w base A n c (l.map bv) := h
section
variable {e : TypeId} {w w' : World} {base base' n c g : Nat} {A : Option Addr} {l : List Value}
theorem OwnV.len (h : OwnV e w base A n c l) : l.length = n := by have := h.1; simpa using this
theorem OwnV.nil (e : TypeId) (w : World) (base : Nat) : OwnV e w base none 0 0 [] := World.ownsRow_nil _ _ _ _
theorem OwnV.lies (h : OwnV e w base A n c l) : Lies w w.heap.size A l := Lies.of_own h
theorem OwnV.kept {row : Option Nat} (h : OwnV e w base A n c l) (hg : w.grownBy w' row) (hne : (Value.slice A n c).ownBlock = none ∨ (Value.slice A n c).ownBlock ≠ row) : OwnV e w' base A n c l := World.ownsRow.kept h hg hne
theorem OwnV.below (h : OwnV e w base A n c l) (hb : Below w.heap.size w w') : OwnV e w' base A n c l :=
  h.kept (grownBy_of_below hb) (by cases (Value.slice A n c).ownBlock <;> simp)
theorem OwnV.drew (h : OwnV e w base A n c l) : OwnV e w.drew base A n c l := h
theorem OwnV.base_le (h : OwnV e w base A n c l) (hb : base' ≤ base) : OwnV e w base' A n c l := by
  obtain ⟨h1, h2⟩ := h
  refine ⟨h1, ?_⟩
  rcases h2 with h2 | ⟨g, cap, cur, hv, hg, r⟩
  · exact .inl h2
  · exact .inr ⟨g, cap, cur, hv, by omega, r⟩
theorem OwnV.blk (h : OwnV e w base A n c l) : ∀ k, some k = (Value.slice A n c).ownBlock → base ≤ k ∧ k < w.heap.size := fun k hk => World.ownsRow.lt h k hk.symm
theorem OwnV.keeps {S : Nat → Prop} (h : OwnV e w base A n c l) (hk : Keeps S w w') (hn : ∀ k, some k = (Value.slice A n c).ownBlock → ¬ S k) : OwnV e w' base A n c l := by
  refine ⟨h.1, ?_⟩
  rcases h.2 with h2 | ⟨g, cap, cur, hv, hb, hh, r⟩
  · exact .inl h2
  · refine .inr ⟨g, cap, cur, hv, hb, ?_, r⟩
    rw [hk.block g (Array.getElem?_eq_some_iff.1 hh).1 (hn g (by rw [hv]; rfl))]
    exact hh
theorem OwnV.form (h : OwnV e w base A n c l) (hpos : 0 < n) : ∃ g, A = some ⟨g, 0, none⟩ ∧ base ≤ g ∧ g < w.heap.size := by
  obtain ⟨g, cap, hv, hb, hlt⟩ := World.ownsRow.form h hpos
  exact ⟨g, by injection hv, hb, hlt⟩
theorem OwnV.cell (h : OwnV e w base (some ⟨g, 0, none⟩) n c l) {j : Nat} (hj : j < n) : ∃ hl : j < l.length, w.cell? ⟨g, j, none⟩ = some l[j] := by
  have hl : j < l.length := by rw [h.len]; exact hj
  refine ⟨hl, ?_⟩
  rw [World.ownsRow.cellAt h j (by omega), List.getElem?_eq_getElem hl]
theorem OwnV.frozen (h : OwnV e w base (some ⟨g, 0, none⟩) n c l) (j : Nat) : w.frozen? ⟨g, j, none⟩ = false := World.ownsRow.frozenAt h j
theorem OwnV.cap (h : OwnV e w base A n c l) : n ≤ c := by
  rcases h.2 with ⟨hv, h0⟩ | ⟨g', cap, cur, hv, _, _, hnc, _⟩
  · omega
  · injection hv with _ _ h3; omega
theorem OwnV.store (h : OwnV e w base (some ⟨g, 0, none⟩) n c l) (j : Nat) (x : Value) : OwnV e (w.setCell ⟨g, j, none⟩ x) base (some ⟨g, 0, none⟩) n c (l.set j x) := (World.ownsRow.stored h j x).1
/-- Two rows of the call's own of unlike element types are unlike blocks. -/
theorem OwnV.apart {e' : TypeId} {base2 n' c' : Nat} {A' : Option Addr} {l' : List Value} (h : OwnV e w base A n c l) (h' : OwnV e' w base2 A' n' c' l') (hne : e ≠ e') : ∀ k, some k = (Value.slice A n c).ownBlock → some k ≠ (Value.slice A' n' c').ownBlock := by
  intro k hk hk'
  rcases h.2 with ⟨hv, _⟩ | ⟨g, cap, cur, hv, _, hh, _⟩
  · rw [hv] at hk; simp [Value.ownBlock] at hk
  · rcases h'.2 with ⟨hv', _⟩ | ⟨g', cap', cur', hv', _, hh', _⟩
    · rw [hv'] at hk'; simp [Value.ownBlock] at hk'
    · rw [hv] at hk
      rw [hv'] at hk'
      have h1 : k = g := by simpa [Value.ownBlock] using hk
      have h2 : k = g' := by simpa [Value.ownBlock] using hk'
      subst h1
      subst h2
      rw [hh] at hh'
      injection hh' with hh'
      injection hh' with _ ht
      exact hne ht
theorem Keeps.belowV {w0 : World} (h : OwnV e w0 base A n c l) (k : Keeps (Mine A n c) w w') (hb : base ≤ w.heap.size) : Below base w w' :=
  k.below hb fun i hi hs => by have := (h.blk i hs).1; omega
end

theorem run_appendV {t e : TypeId} {z : Value} {nb : Nat} (E : Elem t e z nb) (w : World) (base : Nat) (ty : TypeId) (A : Option Addr) (n c : Nat) (l : List Value) (hown : OwnV e w base A n c l)
    (B : Nat) (A2 : Option Addr) (m c2 : Nat) (l2 : List Value) (hm : l2.length = m) (hr : Lies w B A2 l2) (h1 : ∀ u ∈ l2, u.oneCell' = true) (hsum : n + m ≤ 281474976710656) (hbytes : (n + m) * nb ≤ 140737488355328) (hbase : base ≤ w.heap.size) (hpos : 0 < m) :
    ∃ A' c' w', (Builtin.append_ #[t, t] ty #[.slice A n c, .slice A2 m c2]).run Try.prog w = .ok (.slice A' (n + m) c') w' ∧ OwnV e w' base A' (n + m) c' (l ++ l2) ∧
      w.grownBy w' (Value.slice A n c).ownBlock ∧ ((Value.slice A' (n + m) c').ownBlock = (Value.slice A n c).ownBlock ∨ (Value.slice A' (n + m) c').ownBlock = some w.heap.size) := by
  obtain ⟨i0, hi0, hz0, hz1, hz2⟩ := info_parts E.info
  have hform : ∀ (W : World) (v : Value) (k : Nat) (xs : List Value), W.ownsRow base e 1 v k xs → ∃ A c, v = .slice A k c := by
    intro W v k xs h
    rcases h.2 with ⟨rfl, rfl⟩ | ⟨g, cap, cur, rfl, _⟩
    · exact ⟨_, _, rfl⟩
    · exact ⟨_, _, rfl⟩
  obtain ⟨b, off, rfl, hb, hc⟩ := hr (by intro h; subst h; simp at hm; omega)
  have hadd : ∀ j, (⟨b, off, none⟩ : Addr).add j = ⟨b, off + j, none⟩ := fun j => by unfold Addr.add; split <;> simp_all
  obtain ⟨v', w', hrun, h2, h3, _, h5⟩ := run_append_own_at (P := Try.prog) w base t ty e i0 z 1 nb E.under hi0 hz0 hz1 hz2 E.one (by omega) _ n _ hown ⟨b, off, none⟩ m c2 l2 (by simp [hm])
    (fun j u hu => by rw [hadd]; exact hc j u hu) h1 (by simp only [maxLen]; omega) hbytes hbase
  obtain ⟨A', c', rfl⟩ := hform _ _ _ _ h2
  exact ⟨A', c', w', hrun, h2, h3, h5⟩

theorem wpV_append {t e : TypeId} {z : Value} {nb : Nat} (E : Elem t e z nb) {ops : Array Oper} {rest : List Oper} {o : Oper} {a : Act} {w : World} {Q : Exit → Act → World → Prop} (hgd : o.guard = none) (s x : Operand)
    (ho : o.op = .call { callee := .builtin .append, args := #[s, x], argTypes := #[t, t] })
    (base : Nat) (A : Option Addr) (n c : Nat) (l : List Value) (hs : a.eval s = .slice A n c) (hown : OwnV e w base A n c l)
    (B : Nat) (A2 : Option Addr) (m c2 : Nat) (l2 : List Value) (hx : a.eval x = .slice A2 m c2) (hm : l2.length = m) (hr : Lies w B A2 l2) (h1 : ∀ u ∈ l2, u.oneCell' = true) (hpos : 0 < m) (k : Nat) (l3 : List Value) (hk : n + m = k) (hl3 : l ++ l2 = l3) (hsum : k ≤ 281474976710656) (hbytes : k * nb ≤ 140737488355328) (hbase : base ≤ w.heap.size)
    (h : ∀ A' c' w', OwnV e w' base A' k c' l3 → Keeps (Mine A n c) w w' →
      ((Value.slice A' k c').ownBlock = (Value.slice A n c).ownBlock ∨ (Value.slice A' k c').ownBlock = some w.heap.size) → wpList Try.prog ops Q rest (a.put o.dst (.slice A' k c')) w') : wpList Try.prog ops Q (o :: rest) a w := by
  subst hk hl3
  obtain ⟨A', c', w', hrun, h2, h3, h4⟩ := run_appendV E w base o.type A n c l hown B A2 m c2 l2 hm hr h1 hsum hbytes hbase hpos
  refine wpList_plain hgd fun K hK => ?_
  unfold Oper.wp execOp
  simp only [ho, resolve, invoke, builtin, Sem.run_bind, Sem.run_pure, Result.andThen_ok, List.map_toArray, List.map_cons, List.map_nil, hs, hx, hrun]
  exact hK _ _ (h A' c' w' h2 (Keeps.grown h3) h4)
end Go.Proofs.Ytbcgffgiifminaa
namespace Go.Proofs.Ytbcgffgiifminaa
open Go.RowKit
set_option maxRecDepth 10000
/-- The string of these bytes. -/
def strOf (l : List UInt8) : ByteArray := ⟨l.toArray⟩
theorem strOf_inj {a b : List UInt8} : strOf a = strOf b ↔ a = b := by
  constructor
  · intro h
    have := congrArg (fun s => s.data.toList) h
    simpa [strOf] using this
  · rintro rfl; rfl
theorem strOf_toList (l : List UInt8) : (strOf l).toList = l := by
  rw [ByteArray.toList_eq]; simp [strOf]
attribute [go_sem] strOf_toList
theorem run_stringB {w : World} {B : Nat} {A : Option Addr} {n c : Nat} {l : List UInt8} (h : LiesB w B A n l) :
    (convert 34 9 (.slice A n c)).run Try.prog w = .ok (.string (strOf l)) w := by
  by_cases h0 : l = []
  · subst h0
    have hn : n = 0 := by have := h.len; simpa using this.symm
    subst hn
    rcases A with _ | ad
    · exact run_convert_bytes_nil w 34 5 Try.underlying34 Try.underlying5 0 c 9 Try.underlying9
    · rw [run_convert_bytes_string w 34 9 5 _ 0 c Try.underlying34 Try.underlying5 Try.underlying9, run_bytesToString w _ 0 c [] (by simp [loadCells, loadCellsFrom])]
      rfl
  · obtain ⟨b, off, rfl, hb, hc⟩ := h.2 (by simpa using h0)
    have hcell : ∀ i, i < n → w.cell? ⟨b, off + i, none⟩ = some (.int .u8 ((l.map fun x => (x.toNat : Int)).getD i 0)) := by
      intro i hi
      have hl : i < l.length := by rw [h.len]; exact hi
      rw [hc i (bv l[i]) (by simp [List.getElem?_map, List.getElem?_eq_getElem hl])]
      simp [bv, List.getD_eq_getElem?_getD, List.getElem?_eq_getElem hl]
    rw [run_convert_bytes_arg w 34 5 Try.underlying34 Try.underlying5 b off n c (l.map fun x => (x.toNat : Int)) (by simp [h.len]) hcell 9 Try.underlying9]
    congr 2
    have e : (strOfNums (l.map fun x => (x.toNat : Int))).data.toList = (strOf l).data.toList := by
      rw [strOfNums_data, strOf, List.map_map]
      have : (fun n : Int => UInt8.ofNat n.toNat) ∘ (fun x : UInt8 => (x.toNat : Int)) = id := by
        funext x; simp
      rw [this, List.map_id]
    have gen : ∀ a b : ByteArray, a.data.toList = b.data.toList → a = b := by
      rintro ⟨⟨x⟩⟩ ⟨⟨y⟩⟩ h
      simp at h
      rw [h]
    exact gen _ _ e
end Go.Proofs.Ytbcgffgiifminaa
namespace Go.Proofs.Ytbcgffgiifminaa
open Go.RowKit
set_option maxRecDepth 10000
theorem wpAnyH_mono {P : Program} {ops : Array Oper} {Q : Exit → Act → World → Prop} {md : Region.Mode} {S S' : World → Prop} (hs : ∀ w, S' w → S w) :
    ∀ (fuel : Nat) (listed : Array Bool) (a : Act) (w : World), wpAnyH P md ops Q S' fuel listed a w → wpAnyH P md ops Q S fuel listed a w
  | 0, _, _, _, h => h
  | fuel + 1, _, _, _, h => ⟨h.1, fun i hi => wpOp_mono (fun a' w' h' => ⟨hs _ h'.1, wpAnyH_mono hs fuel _ a' w' h'.2⟩) (h.2 i hi)⟩
/-- The slice '.slice A n c' is read as the string of the bytes l. -/
def Reads (A : Option Addr) (n c : Nat) (l : List UInt8) (w : World) : Prop := (convert 34 9 (.slice A n c)).run Try.prog w = .ok (.string (strOf l)) w
theorem LiesB.reads {w : World} {B : Nat} {A : Option Addr} {n c : Nat} {l : List UInt8} (h : LiesB w B A n l) : Reads A n c l w := run_stringB h
end Go.Proofs.Ytbcgffgiifminaa
namespace Go.Proofs.Ytbcgffgiifminaa
open Go.RowKit
set_option maxRecDepth 10000
set_option linter.unusedVariables false
theorem elem_line : Elem 88 50 (.pointer none) 8 := ⟨Try.underlying88, by kernel_rfl, rfl⟩
theorem elem_bool : Elem 117 4 (.bool false) 1 := ⟨Try.underlying117, by kernel_rfl, rfl⟩
/-- A line's address. -/
def lptr (x : Nat × Option Nat) : Value := .pointer (some ⟨x.1, 0, none⟩)
section
variable {w w' : World} {p : Nat} {g : Option Nat} {l : List UInt8}
theorem LineAt.ne_blk (h : LineAt w p g l) {k k' : Nat} {T : TypeId} {cs : Array Value} (hk : lineBlocks p g k) (hb : Blk w k' T cs) (h1 : 109 ≠ T) (h2 : 5 ≠ T) : k ≠ k' := by
  obtain ⟨hl, A, c, hp, ho, hg⟩ := h
  rcases hk with rfl | hk
  · exact Blk.ne_ hp hb h1
  · rintro rfl
    exact ho.ne_blk hb h2 (by rw [hk, hg])
theorem LineAt.ne_row (h : LineAt w p g l) {k : Nat} {e : TypeId} {base n c : Nat} {A : Option Addr} {xs : List Value} (hk : lineBlocks p g k) (hr : OwnV e w base A n c xs) (h1 : 109 ≠ e) (h2 : 5 ≠ e) : ¬ Mine A n c k := by
  obtain ⟨hl, A1, c1, hp, ho, hg⟩ := h
  intro hm
  rcases hk with rfl | hk
  · rcases hr.2 with ⟨hv, _⟩ | ⟨g', cap, cur, hv, _, hh, _⟩
    · have hm' : some k = (Value.slice A n c).ownBlock := hm
      rw [hv] at hm'; simp [Value.ownBlock] at hm'
    · have hm' : some k = (Value.slice A n c).ownBlock := hm
      rw [hv] at hm'
      have e1 : k = g' := by simpa [Value.ownBlock] using hm'
      subst e1
      exact Blk.ne_ hp (show Blk w k e cur from hh) h1 rfl
  · exact (OwnV.of_B ho).apart hr h2 k (by rw [hg]; exact hk) hm
theorem LineAt.base {B : Nat} (h : LineAt w p g l) : ∀ k, lineBlocks p g k → k < w.heap.size := by
  intro k hk
  rcases hk with rfl | hk
  · exact h.lt.1
  · exact h.lt.2 k hk
end
theorem OwnV.ne_blk {w : World} {e : TypeId} {base n c k : Nat} {A : Option Addr} {xs : List Value} {T : TypeId} {cs : Array Value} (h : OwnV e w base A n c xs) (hb : Blk w k T cs) (he : e ≠ T) : ¬ Mine A n c k := by
  intro hm
  have hm' : some k = (Value.slice A n c).ownBlock := hm
  rcases h.2 with ⟨hv, _⟩ | ⟨g', cap, cur, hv, _, hh, _⟩
  · rw [hv] at hm'; simp [Value.ownBlock] at hm'
  · rw [hv] at hm'
    have e1 : k = g' := by simpa [Value.ownBlock] using hm'
    subst e1
    exact Blk.ne_ (show Blk w k e cur from hh) hb he rfl

/-- Block q is a queue (its blocks from B on): its row of lines, the lines' blocks, what they hold. -/
structure QAt (B : Nat) (w : World) (q : Nat) (A : Option Addr) (c : Nat) (xs : List (Nat × Option Nat)) (ls : List (List UInt8)) : Prop where
  head : Blk w q 90 #[.slice A xs.length c]
  base : B ≤ q
  row : OwnV 50 w B A xs.length c (xs.map lptr)
  len : ls.length = xs.length
  line : ∀ (i : Nat) (h : i < xs.length), LineAt w xs[i].1 xs[i].2 (ls.getD i [])
  lbase : ∀ (i : Nat) (h : i < xs.length), B ≤ xs[i].1 ∧ ∀ k, xs[i].2 = some k → B ≤ k
  apart : ∀ (i j : Nat) (hi : i < xs.length) (hj : j < xs.length), i ≠ j → xs[i].1 ≠ xs[j].1 ∧ ∀ k, xs[i].2 = some k → xs[j].2 ≠ some k
section
variable {B : Nat} {w w' : World} {q c : Nat} {A : Option Addr} {xs : List (Nat × Option Nat)} {ls : List (List UInt8)}
theorem QAt.below (h : QAt B w q A c xs ls) (hb : Below w.heap.size w w') : QAt B w' q A c xs ls :=
  ⟨h.head.below hb h.head.lt, h.base, h.row.below hb, h.len, fun i hi => (h.line i hi).below hb, h.lbase, h.apart⟩
theorem QAt.drew (h : QAt B w q A c xs ls) : QAt B w.drew q A c xs ls := h.below ⟨rfl, rfl, rfl, Nat.le_refl _, fun _ _ => rfl⟩
theorem QAt.cell (h : QAt B w q A c xs ls) : w.cell? ⟨q, 0, none⟩ = some (.slice A xs.length c) := by
  have := h.head.cell 0
  simpa using this
theorem QAt.ptr (h : QAt B w q A c xs ls) (i : Nat) (hi : i < xs.length) : ∃ g, A = some ⟨g, 0, none⟩ ∧ w.cell? ⟨g, i, none⟩ = some (.pointer (some ⟨xs[i].1, 0, none⟩)) := by
  obtain ⟨g, rfl, _, _⟩ := h.row.form (by omega)
  obtain ⟨hl, hc⟩ := h.row.cell (j := i) hi
  refine ⟨g, rfl, ?_⟩
  rw [hc, List.getElem_map]; rfl
theorem QAt.cap (h : QAt B w q A c xs ls) : xs.length ≤ c := h.row.cap
/-- One line is changed. -/
theorem QAt.put (h : QAt B w q A c xs ls) (hB : B ≤ w.heap.size) (i : Nat) (hi : i < xs.length) {g' : Option Nat} {l' : List UInt8} (hl : LineAt w' xs[i].1 g' l') (hk : Keeps (lineBlocks xs[i].1 xs[i].2) w w')
    (hg : g' = xs[i].2 ∨ ∃ k, g' = some k ∧ w.heap.size ≤ k) : QAt B w' q A c (xs.set i (xs[i].1, g')) (ls.set i l') := by
  have hn : (xs.set i (xs[i].1, g')).length = xs.length := List.length_set
  have hm : (xs.set i (xs[i].1, g')).map lptr = xs.map lptr := by
    rw [List.map_set]
    apply List.ext_getElem (by simp)
    intro j h1 h2
    rw [List.getElem_set]
    split
    · subst_vars; simp [lptr]
    · rfl
  refine ⟨?_, h.base, ?_, ?_, ?_, ?_, ?_⟩
  · rw [hn]
    exact h.head.keeps hk fun hs => (h.line i hi).ne_blk hs h.head (by decide) (by decide) rfl
  · rw [hn, hm]
    exact h.row.keeps hk fun k e hs => (h.line i hi).ne_row hs h.row (by decide) (by decide) e
  · rw [hn, List.length_set]; exact h.len
  · intro j hj
    rw [hn] at hj
    rw [List.getElem_set]
    by_cases e : i = j
    · subst e
      rw [if_pos rfl]
      have : (ls.set i l').getD i [] = l' := by rw [List.getD_eq_getElem?_getD, List.getElem?_set_self (by rw [h.len]; exact hi)]; rfl
      rw [this]
      exact hl
    · rw [if_neg e]
      have : (ls.set i l').getD j [] = ls.getD j [] := by rw [List.getD_eq_getElem?_getD, List.getElem?_set_ne e, ← List.getD_eq_getElem?_getD]
      rw [this]
      refine (h.line j hj).keeps hk fun k hkj hki => ?_
      obtain ⟨a1, a2⟩ := h.apart i j hi hj e
      rcases hki with hki | hki
      · rcases hkj with hkj | hkj
        · exact a1 (by omega)
        · obtain ⟨_, A1, c1, hp1, _, _⟩ := h.line i hi
          obtain ⟨_, A2, c2, _, ho2, hg2⟩ := h.line j hj
          subst hki
          exact ho2.ne_blk hp1 (by decide) (by rw [hkj, hg2])
      · rcases hkj with hkj | hkj
        · obtain ⟨_, A1, c1, hp1, _, _⟩ := h.line j hj
          obtain ⟨_, A2, c2, _, ho2, hg2⟩ := h.line i hi
          subst hkj
          exact ho2.ne_blk hp1 (by decide) (by rw [hki, hg2])
        · exact a2 k hki.symm hkj.symm
  · intro j hj
    rw [hn] at hj
    rw [List.getElem_set]
    by_cases e : i = j
    · subst e
      rw [if_pos rfl]
      refine ⟨(h.lbase i hi).1, fun k hk' => ?_⟩
      rcases hg with hg | ⟨k2, hg, h2⟩
      · exact (h.lbase i hi).2 k (by rw [← hg]; exact hk')
      · have hk2 : g' = some k := hk'
        rw [hg] at hk2; injection hk2 with hk2; omega
    · rw [if_neg e]; exact h.lbase j hj
  · intro a b ha hb hab
    rw [hn] at ha hb
    rw [List.getElem_set, List.getElem_set]
    have fresh : ∀ j (hj : j < xs.length), i ≠ j → ∀ k, g' = some k → xs[j].2 ≠ some k := by
      intro j hj e k hk' he
      rcases hg with hg | ⟨k2, hg, h2⟩
      · exact (h.apart i j hi hj e).2 k (by rw [← hg]; exact hk') he
      · rw [hg] at hk'; injection hk' with hk'
        have := (h.line j hj).lt.2 k he.symm
        omega
    by_cases e1 : i = a
    · subst e1
      rw [if_pos rfl, if_neg hab]
      exact ⟨(h.apart i b hi hb hab).1, fun k hk' => fresh b hb hab k hk'⟩
    · rw [if_neg e1]
      by_cases e2 : i = b
      · subst e2
        rw [if_pos rfl]
        exact ⟨(h.apart a i ha hi hab).1, fun k hk' he => fresh a ha e1 k he hk'⟩
      · rw [if_neg e2]
        exact h.apart a b ha hb hab
end
/-- The least of the lengths. -/
def frontK (ls : List (List UInt8)) (k : Nat) : Nat := (ls.take k).foldl (fun n x => min n x.length) (ls.getD 0 []).length
def front (ls : List (List UInt8)) : Nat := frontK ls ls.length
theorem frontK_succ (ls : List (List UInt8)) (k : Nat) (h : k < ls.length) : frontK ls (k + 1) = min (frontK ls k) (ls.getD k []).length := by
  unfold frontK
  rw [List.take_succ_eq_append_getElem h, List.foldl_append, List.getD_eq_getElem?_getD (i := k), List.getElem?_eq_getElem h]
  rfl
theorem frontK_le (ls : List (List UInt8)) (k : Nat) (h : k ≤ ls.length) : ∀ i, i < k → frontK ls k ≤ (ls.getD i []).length := by
  induction k with
  | zero => intro i hi; omega
  | succ k ih =>
    intro i hi
    rw [frontK_succ _ _ (by omega)]
    by_cases e : i = k
    · subst e; omega
    · have := ih (by omega) i (by omega); omega
theorem frontK_mem (ls : List (List UInt8)) (k : Nat) (h : k ≤ ls.length) (h0 : 0 < ls.length) : ∃ i, i < ls.length ∧ frontK ls k = (ls.getD i []).length := by
  induction k with
  | zero => exact ⟨0, h0, rfl⟩
  | succ k ih =>
    obtain ⟨i, hi, e⟩ := ih (by omega)
    rw [frontK_succ _ _ (by omega)]
    by_cases q : frontK ls k ≤ (ls.getD k []).length
    · exact ⟨i, hi, by omega⟩
    · exact ⟨k, by omega, by omega⟩
end Go.Proofs.Ytbcgffgiifminaa
namespace Go.Proofs.Ytbcgffgiifminaa
open Go.RowKit
set_option maxRecDepth 10000
set_option linter.unusedVariables false
section
variable {B : Nat} {w : World} {q c : Nat} {A : Option Addr} {xs : List (Nat × Option Nat)} {ls : List (List UInt8)}
set_option maxHeartbeats 400000 in
theorem queue_N (h : QAt B w q A c xs ls) {n : Int} (hn : n = (xs.length : Int)) :
    Calls Try.prog 50 #[.pointer (some ⟨q, 0, none⟩)] w fun e w' => e = .returned (.int .i64 n) ∧ w = w' := by
  have hc := h.cell
  obtain ⟨m, hm⟩ : ∃ m, m = xs.length := ⟨_, rfl⟩
  rw [← hm] at hc hn
  subst hn
  clear h hm
  go_enter Try.func50, Try.ntmps50
  go_wp2
  go_ret
  exact ⟨rfl, rfl⟩
set_option maxHeartbeats 400000 in
theorem queue_N_nil (w : World) : Calls Try.prog 50 #[.pointer none] w fun e w' => e = .returned (.int .i64 0) ∧ w = w' := by
  go_enter Try.func50, Try.ntmps50
  go_wp2
  go_ret
  exact ⟨rfl, rfl⟩
set_option maxHeartbeats 400000 in
theorem queue_Line (h : QAt B w q A c xs ls) (i : Nat) (hi : i < xs.length) (hi2 : xs.length ≤ 1000) {x : Int} (hx : x = (i : Int)) {p : Nat} (hp : p = xs[i].1) :
    Calls Try.prog 24 #[.pointer (some ⟨q, 0, none⟩), .int .i64 x] w fun e w' => e = .returned (.pointer (some ⟨p, 0, none⟩)) ∧ w = w' := by
  have hc := h.cell
  obtain ⟨g, hg, hcp⟩ := h.ptr i hi
  rw [← hp] at hcp
  have H := hide h
  obtain ⟨m, hm⟩ : ∃ m, m = xs.length := ⟨_, rfl⟩
  have HM : Hid ((m : Int) = (xs.length : Int)) := by show (m : Int) = _; rw [hm]
  rw [← hm] at hc hi hi2
  subst hg hx
  clear h hm hp
  go_enter Try.func24, Try.ntmps24
  go_wp2_with (go_at_call 50; (with_reducible refine Calls.mono (queue_N H.out HM.out) ?_); rintro e w1 ⟨rfl, rfl⟩)
  go_ret
  exact ⟨rfl, rfl⟩
set_option maxHeartbeats 400000 in
theorem queue_Line_out (h : QAt B w q A c xs ls) {x : Int} (hx : x < 0 ∨ (xs.length : Int) ≤ x) :
    Calls Try.prog 24 #[.pointer (some ⟨q, 0, none⟩), .int .i64 x] w fun e w' => e = .returned (.pointer none) ∧ w = w' := by
  have H := hide h
  obtain ⟨m, hm⟩ : ∃ m, m = xs.length := ⟨_, rfl⟩
  have HM : Hid ((m : Int) = (xs.length : Int)) := by show (m : Int) = _; rw [hm]
  rw [← hm] at hx
  clear h hm
  by_cases h0 : x < 0
  · have d : decide (x < 0) = true := decide_eq_true h0
    go_enter Try.func24, Try.ntmps24
    go_wp2
    go_ret
    exact ⟨rfl, rfl⟩
  · have d : decide (x < 0) = false := decide_eq_false h0
    have h1 : (m : Int) ≤ x := by omega
    go_enter Try.func24, Try.ntmps24
    go_wp2_with (go_at_call 50; (with_reducible refine Calls.mono (queue_N H.out HM.out) ?_); rintro e w1 ⟨rfl, rfl⟩)
    go_ret
    exact ⟨rfl, rfl⟩
set_option maxHeartbeats 400000 in
theorem queue_Line_nil (x : Int) (w : World) : Calls Try.prog 24 #[.pointer none, .int .i64 x] w fun e w' => e = .returned (.pointer none) ∧ w = w' := by
  by_cases h0 : x < 0
  · have d : decide (x < 0) = true := decide_eq_true h0
    go_enter Try.func24, Try.ntmps24
    go_wp2
    go_ret
    exact ⟨rfl, rfl⟩
  · have d : decide (x < 0) = false := decide_eq_false h0
    have h1 : 0 ≤ x := by omega
    go_enter Try.func24, Try.ntmps24
    go_wp2_with (go_at_call 50; (with_reducible refine Calls.mono (queue_N_nil _) ?_); rintro e w1 ⟨rfl, rfl⟩)
    go_ret
    exact ⟨rfl, rfl⟩
set_option maxHeartbeats 1000000 in
set_option maxRecDepth 10000 in
theorem queue_Front (h : QAt B w q A c xs ls) (h0 : 0 < xs.length) (h8 : xs.length ≤ 1000) {f : Int} (hf : f = (front ls : Int)) :
    Calls Try.prog 18 #[.pointer (some ⟨q, 0, none⟩)] w fun e w' => e = .returned (.int .i64 f) ∧ w = w' := by
  have hc := h.cell
  obtain ⟨g, hg, hc0⟩ := h.ptr 0 h0
  have H := hide h
  have HP := hide (fun i hi => h.ptr i hi)
  obtain ⟨m, hm⟩ : ∃ m, m = xs.length := ⟨_, rfl⟩
  have HM : Hid ((m : Int) = (xs.length : Int)) := by show (m : Int) = _; rw [hm]
  have HMN := hide hm
  have HL : Hid (ls.length = m) := by show ls.length = m; rw [h.len, hm]
  have HF : Hid (f = ((frontK ls m : Nat) : Int)) := by show f = _; rw [hf, front, h.len, hm]
  obtain ⟨p0, hp0⟩ : ∃ p, p = xs[0].1 := ⟨_, rfl⟩
  rw [← hp0] at hc0
  have HL0 : Hid (LineAt w p0 xs[0].2 (ls.getD 0 [])) := by rw [hp0]; exact h.line 0 h0
  rw [← hm] at hc h0 h8
  subst hg
  have hm0 : ((m : Int) == 0) = false := by simp; omega
  have H1000 : Hid (∀ k, frontK ls k ≤ 1000) := by
    intro k
    induction k with
    | zero => exact (h.line 0 (by omega)).1
    | succ k ih =>
      by_cases e : k < ls.length
      · rw [frontK_succ _ _ e]; omega
      · have : frontK ls (k + 1) = frontK ls k := by unfold frontK; rw [List.take_of_length_le (by omega), List.take_of_length_le (by omega)]
        omega
  clear h hm hf hp0
  go_enter Try.func18, Try.ntmps18
  go_wp2_with (go_at_call 50; (with_reducible refine Calls.mono (queue_N H.out HM.out) ?_); rintro e w1 ⟨rfl, rfl⟩)
  refine Calls.mono (line_Len_v p0 _ _ ((frontK ls 0 : Nat) : Int) _ HL0.out rfl) ?_
  rintro e w1 ⟨rfl, rfl⟩
  go_wp2_with fail
  go_loopg [3, 21] m (fun gg n i wr => ∃ k : Nat, k ≤ m ∧ gg = m - k ∧ i = .int .i64 k ∧ n = .int .i64 ((frontK ls k : Nat) : Int) ∧ w = wr)
  case atStart => exact ⟨0, by omega, rfl, rfl, rfl, rfl⟩
  case round =>
    obtain ⟨k, hk, rfl, rfl, rfl, rfl⟩ := hrel
    obtain ⟨fk, hfk⟩ : ∃ fk, fk = frontK ls k := ⟨_, rfl⟩
    rw [← hfk]
    have HFK := hide hfk
    have hfk1 : fk ≤ 1000 := by rw [hfk]; exact H1000.out k
    clear hfk
    by_cases hlt : k < m
    · obtain ⟨g2, hg2, hck⟩ := HP.out k (by have := HMN.out; omega)
      injection hg2 with hg2
      injection hg2 with hg2
      subst hg2
      obtain ⟨p, hp⟩ : ∃ p, p = (xs[k]'(by have := HMN.out; omega)).1 := ⟨_, rfl⟩
      rw [← hp] at hck
      have HLk : Hid (LineAt w p (xs[k]'(by have := HMN.out; omega)).2 (ls.getD k [])) := by rw [hp]; exact H.out.line k _
      obtain ⟨n, hn⟩ : ∃ n, n = (ls.getD k []).length := ⟨_, rfl⟩
      have HN : Hid (((ls.getD k []).length : Int) = (n : Int)) := by show _ = (n : Int); rw [hn]
      obtain ⟨f2, hf2⟩ : ∃ f2, f2 = frontK ls (k + 1) := ⟨_, rfl⟩
      have hmin : min (fk : Int) (n : Int) = (f2 : Int) := by
        rw [hf2, frontK_succ _ _ (by rw [HL.out]; exact hlt), ← HFK.out, ← hn]; omega
      have HF2 := hide hf2
      clear hp hn hf2
      go_wp2_with fail
      refine Calls.mono (line_Len_v p _ _ (n : Int) _ HLk.out HN.out) ?_
      rintro e w1 ⟨rfl, rfl⟩
      go_wp2_with fail
      go_roundg (m - (k + 1))
      case measure => omega
      case rel => exact ⟨k + 1, by omega, rfl, by go_num, by rw [HF2.out], rfl⟩
    · obtain rfl : k = m := by omega
      have e : Hid ((fk : Int) = f) := by show (fk : Int) = f; rw [HF.out, HFK.out]
      go_wp2
      go_ret
      refine ⟨?_, rfl⟩
      show Ending.returned (.int .i64 (fk : Int)) = _
      rw [e.out]
set_option maxHeartbeats 400000 in
theorem queue_Front_nil (w : World) : Calls Try.prog 18 #[.pointer none] w fun e w' => e = .returned (.int .i64 0) ∧ w = w' := by
  go_enter Try.func18, Try.ntmps18
  go_wp2_with (go_at_call 50; (with_reducible refine Calls.mono (queue_N_nil _) ?_); rintro e w1 ⟨rfl, rfl⟩)
  go_ret
  exact ⟨rfl, rfl⟩
/-- What all pressed in a frame. -/
def jointOf (ls : List (List UInt8)) (f : Nat) : List UInt8 := ls.map fun l => l.getD f 0
theorem jointOf_snoc (ls : List (List UInt8)) (f k : Nat) (h : k < ls.length) : jointOf (ls.take (k + 1)) f = jointOf (ls.take k) f ++ [(ls.getD k []).getD f 0] := by
  unfold jointOf
  rw [List.take_succ_eq_append_getElem h, List.map_append, List.getD_eq_getElem?_getD (i := k), List.getElem?_eq_getElem h]
  rfl
theorem atLine_nat (l : List UInt8) (f : Nat) : atLine l (f : Int) = l.getD f 0 := by
  rw [atLine, if_neg (by omega)]; rfl
/-- Of whom a frame is known. -/
def knownOf (ls : List (List UInt8)) (f : Int) : List Value := ls.map fun l => .bool (inLine l f)
theorem knownOf_snoc (ls : List (List UInt8)) (f : Int) (k : Nat) (h : k < ls.length) : knownOf (ls.take (k + 1)) f = knownOf (ls.take k) f ++ [.bool (inLine (ls.getD k []) f)] := by
  unfold knownOf
  rw [List.take_succ_eq_append_getElem h, List.map_append, List.getD_eq_getElem?_getD (i := k), List.getElem?_eq_getElem h]
  rfl
end
end Go.Proofs.Ytbcgffgiifminaa
