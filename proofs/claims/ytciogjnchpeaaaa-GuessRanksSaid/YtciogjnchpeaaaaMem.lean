/-
  Bytes of the call's own: cells read and written; make.
-/
import Derived.Test.YtciogjnchpeaaaaOwn
namespace Go.Proofs.Ytciogjnchpeaaaa
open Go.RowKit
set_option maxRecDepth 10000

section
variable {w w' : World} {base B n c g : Nat} {A : Option Addr} {l : List UInt8}
theorem OwnB.form (h : OwnB w base A n c l) (hpos : 0 < n) : ∃ g, A = some ⟨g, 0, none⟩ ∧ base ≤ g ∧ g < w.heap.size := by
  obtain ⟨g, cap, hv, hb, hlt⟩ := World.ownsRow.form h hpos
  exact ⟨g, by injection hv, hb, hlt⟩
theorem OwnB.cell (h : OwnB w base (some ⟨g, 0, none⟩) n c l) {j : Nat} (hj : j < n) : ∃ hl : j < l.length, w.cell? ⟨g, j, none⟩ = some (.int .u8 (l[j].toNat : Int)) := by
  have hl : j < l.length := by rw [h.len]; exact hj
  refine ⟨hl, ?_⟩
  rw [World.ownsRow.cellAt h j (by omega), List.getElem?_map, List.getElem?_eq_getElem hl]; rfl
theorem OwnB.frozen (h : OwnB w base (some ⟨g, 0, none⟩) n c l) (j : Nat) : w.frozen? ⟨g, j, none⟩ = false := World.ownsRow.frozenAt h j
theorem OwnB.store (h : OwnB w base (some ⟨g, 0, none⟩) n c l) (j : Nat) (x : UInt8) : OwnB (w.setCell ⟨g, j, none⟩ (.int .u8 (x.toNat : Int))) base (some ⟨g, 0, none⟩) n c (l.set j x) := by
  unfold OwnB
  rw [List.map_set]
  exact (World.ownsRow.stored h j (bv x)).1
theorem OwnB.cap (h : OwnB w base A n c l) : n ≤ c := by
  rcases h.2 with ⟨hv, h0⟩ | ⟨g', cap, cur, hv, _, _, hnc, _⟩
  · omega
  · injection hv with _ _ h3; omega
theorem OwnB.drew (h : OwnB w base A n c l) : OwnB w.drew base A n c l := h
theorem OwnB.drewN (h : OwnB w base A n c l) (k : Nat) : OwnB (w.drewN k) base A n c l := h
theorem OwnB.lt (h : OwnB w base (some ⟨g, 0, none⟩) n c l) : base ≤ g ∧ g < w.heap.size := World.ownsRow.lt h g rfl
theorem Below_drewN {a w : World} (h : Below B a w) (n : Nat) : Below B a (w.drewN n) := ⟨h.os, h.tape, h.output, h.size, h.block⟩
theorem Lies.drew {xs : List Value} (h : Lies w B A xs) : Lies w.drew B A xs := h
theorem LiesB.drew (h : LiesB w B A n l) : LiesB w.drew B A n l := h
theorem LiesB.drewN (h : LiesB w B A n l) (k : Nat) : LiesB (w.drewN k) B A n l := h
end

theorem wpB_make {w : World} {ops : Array Oper} {rest : List Oper} {o : Oper} {a : Act} {Q : Exit → Act → World → Prop}
    (hg : o.guard = none) (l c : Operand) (hop : o.op = Op.makeSlice 23 l c)
    (base : Nat) (L C : Int) (n : Nat) (hl : a.eval l = .int .i64 L) (hc : a.eval c = .int .i64 C) (hL : L = (n : Int)) (hC : C = (n : Int)) (b2 : n ≤ 281474976710656) (b4 : base ≤ w.heap.size)
    (hK : ∀ g w', OwnB w' base (some ⟨g, 0, none⟩) n n (List.replicate n 0) → Below base w w' → w.grownBy w' none → wpList Try.prog ops Q rest (a.put o.dst (.slice (some ⟨g, 0, none⟩) n n)) w') :
    wpList Try.prog ops Q (o :: rest) a w := by
  obtain ⟨i0, hi0, hz0, hz1, hz2⟩ := info_parts byte_info
  refine wpList_make_full w hg l c _ hop base 5 i0 _ 1 Try.underlying23 hi0 hz0 hz1 _ _ L C n hl hc hL hC (by rw [hz2]; omega) (by simp only [maxLen]; omega) b4 fun w' h1 h2 => ?_
  refine hK _ w' ?_ ((Below.refl base w).grown h2 b4 (fun k hk => by cases hk)) h2
  unfold OwnB
  have e : (List.replicate n (0 : UInt8)).map bv = (madeCells (Value.int .u8 0).cells (n * 1)).toList := by
    rw [show (Value.int .u8 0).cells = #[Value.int .u8 0] from rfl, toList_madeCells_one, List.map_replicate, Nat.mul_one]; rfl
  rw [e]
  exact h1

/-- A contract that leaves the world as it was, met in a region that draws its order. -/
theorem Calls.quiet_of_same' {P : Program} {f : FuncId} {args : Array Value} {w : World} {n : Nat} {v : Value}
    (h : Calls P f args (w.drewN n) fun e w' => e = .returned v ∧ w.drewN n = w') : Calls P f args (w.drewN n) fun e w'' => e = .returned v ∧ ∃ m, w'' = w.drewN m :=
  h.mono fun _ _ ⟨he, hm⟩ => ⟨he, n, hm.symm⟩

theorem bits_xor8 (a b : UInt8) : bits BinOp.xor IntKind.u8 (a.toNat : Int) (b.toNat : Int) = ((a ^^^ b).toNat : Int) := by
  rw [u8_xor_nat _ _ a.toNat_lt b.toNat_lt, UInt8.toNat_xor]
end Go.Proofs.Ytciogjnchpeaaaa
