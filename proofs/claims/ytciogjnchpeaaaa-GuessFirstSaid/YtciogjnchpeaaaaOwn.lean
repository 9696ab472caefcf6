/-
  Bytes that the call itself has made: append, whatever is appended (nil, empty or not).
-/
import Derived.Test.YtciogjnchpeaaaaBase
namespace Go.Proofs.Ytciogjnchpeaaaa
open Go.RowKit
set_option maxRecDepth 10000

theorem byte_info : (Try.prog.info? 5).map (fun i => (i.zero, i.size, i.bytes)) = some (some (.int .u8 0), 1, 1) := by kernel_rfl

/-- The slice value '.slice A n c' is the call's own (blocks from base on) and holds the bytes l. -/
def OwnB (w : World) (base : Nat) (A : Option Addr) (n c : Nat) (l : List UInt8) : Prop :=
  w.ownsRow base 5 1 (.slice A n c) n (l.map bv)

theorem bv_one (l : List UInt8) : ∀ u ∈ l.map bv, u.oneCell' = true := by
  intro u hu
  obtain ⟨c, _, rfl⟩ := List.mem_map.1 hu
  rfl

section
variable {w w' : World} {base B n c : Nat} {A : Option Addr} {l : List UInt8}
theorem OwnB.len (h : OwnB w base A n c l) : l.length = n := by have := h.1; simpa using this
theorem OwnB.nil (w : World) (base : Nat) : OwnB w base none 0 0 [] := World.ownsRow_nil _ _ _ _
theorem OwnB.lies (h : OwnB w base A n c l) : LiesB w w.heap.size A n l := ⟨h.len, Lies.of_own h⟩
theorem OwnB.kept {row : Option Nat} (h : OwnB w base A n c l) (hg : w.grownBy w' row) (hne : (Value.slice A n c).ownBlock = none ∨ (Value.slice A n c).ownBlock ≠ row) : OwnB w' base A n c l := World.ownsRow.kept h hg hne
theorem grownBy_of_below (hb : Below w.heap.size w w') : w.grownBy w' none := ⟨hb.os, hb.tape, hb.output, hb.size, fun k hk _ => hb.block k hk⟩
theorem OwnB.below (h : OwnB w base A n c l) (hb : Below w.heap.size w w') : OwnB w' base A n c l :=
  h.kept (grownBy_of_below hb) (by cases (Value.slice A n c).ownBlock <;> simp)
theorem OwnB.base_le {base' : Nat} (h : OwnB w base A n c l) (hb : base' ≤ base) : OwnB w base' A n c l := by
  obtain ⟨h1, h2⟩ := h
  refine ⟨h1, ?_⟩
  rcases h2 with h2 | ⟨g, cap, cur, hv, hg, r⟩
  · exact .inl h2
  · exact .inr ⟨g, cap, cur, hv, by omega, r⟩
/-- Memory of the same base that is not this row's is kept where this row grows. -/
theorem below_of_grown (h : OwnB w base A n c l) (hb : base ≤ w.heap.size) (hg : w.grownBy w' (Value.slice A n c).ownBlock) : Below base w w' :=
  (Below.refl base w).grown hg hb (fun k hk => (World.ownsRow.lt h k hk).1)
end

set_option maxRecDepth 10000 in
theorem run_appendB (w : World) (base : Nat) (ty : TypeId) (A : Option Addr) (n c : Nat) (l : List UInt8) (hown : OwnB w base A n c l)
    (B : Nat) (A2 : Option Addr) (m c2 : Nat) (l2 : List UInt8) (hr : LiesB w B A2 m l2) (hsum : n + m ≤ 140737488355328) (hbase : base ≤ w.heap.size) :
    ∃ A' c' w', (Builtin.append_ #[23, 23] ty #[.slice A n c, .slice A2 m c2]).run Try.prog w = .ok (.slice A' (n + m) c') w' ∧ OwnB w' base A' (n + m) c' (l ++ l2) ∧
      w.grownBy w' (Value.slice A n c).ownBlock ∧ ((Value.slice A' (n + m) c').ownBlock = (Value.slice A n c).ownBlock ∨ (Value.slice A' (n + m) c').ownBlock = some w.heap.size) := by
  obtain ⟨hm, hr⟩ := hr
  obtain ⟨i0, hi0, hz0, hz1, hz2⟩ := info_parts byte_info
  have hform : ∀ (W : World) (v : Value) (k : Nat) (xs : List Value), W.ownsRow base 5 1 v k xs → ∃ A c, v = .slice A k c := by
    intro W v k xs h
    rcases h.2 with ⟨rfl, rfl⟩ | ⟨g, cap, cur, rfl, _⟩
    · exact ⟨_, _, rfl⟩
    · exact ⟨_, _, rfl⟩
  by_cases h0 : l2 = []
  · subst h0
    have hm0 : m = 0 := by simpa using hm.symm
    subst hm0
    refine ⟨A, c, w, ?_, by simpa using hown, ⟨rfl, rfl, rfl, Nat.le_refl _, fun _ _ _ => rfl⟩, .inl rfl⟩
    rcases hown.2 with ⟨hv, hn⟩ | ⟨g, cap, cur, hv, _, _, hnc, _⟩
    · injection hv with h1 h2 h3
      subst h1 h2 h3
      rcases A2 with _ | ad
      · simp [Builtin.append_, run_underlying Try.underlying23, sizeOf, typeInfo, hi0, Builtin.lenOf, Builtin.firstCells]
      · simp [Builtin.append_, run_underlying Try.underlying23, sizeOf, typeInfo, hi0, Builtin.lenOf, Builtin.firstCells, loadCells, loadCellsFrom]
    · injection hv with h1 h2 h3
      subst h1 h3
      rcases A2 with _ | ad
      · simp [Builtin.append_, run_underlying Try.underlying23, sizeOf, typeInfo, hi0, Builtin.lenOf, Builtin.firstCells, hnc, storeCells]
      · simp [Builtin.append_, run_underlying Try.underlying23, sizeOf, typeInfo, hi0, Builtin.lenOf, Builtin.firstCells, hnc, storeCells, loadCells, loadCellsFrom]
  · obtain ⟨b, off, rfl, hb, hc⟩ := hr (by simpa using h0)
    have hadd : ∀ j, (⟨b, off, none⟩ : Addr).add j = ⟨b, off + j, none⟩ := fun j => by unfold Addr.add; split <;> simp_all
    obtain ⟨v', w', hrun, h2, h3, _, h5⟩ := run_append_own_at (P := Try.prog) w base 23 ty 5 i0 _ 1 1 Try.underlying23 hi0 hz0 hz1 hz2 rfl (by omega) _ n _ hown ⟨b, off, none⟩ m c2 (l2.map bv) (by simp [hm])
      (fun j u hu => by rw [hadd]; exact hc j u hu) (bv_one l2) (by simp only [maxLen]; omega) (by omega) hbase
    obtain ⟨A', c', rfl⟩ := hform _ _ _ _ h2
    exact ⟨A', c', w', hrun, by rw [OwnB, List.map_append]; exact h2, h3, h5⟩

theorem wpB_append {ops : Array Oper} {rest : List Oper} {o : Oper} {a : Act} {w : World} {Q : Exit → Act → World → Prop} (hgd : o.guard = none) (s x : Operand)
    (ho : o.op = .call { callee := .builtin .append, args := #[s, x], argTypes := #[23, 23] })
    (base : Nat) (A : Option Addr) (n c : Nat) (l : List UInt8) (hs : a.eval s = .slice A n c) (hown : OwnB w base A n c l)
    (B : Nat) (A2 : Option Addr) (m c2 : Nat) (l2 : List UInt8) (hx : a.eval x = .slice A2 m c2) (hr : LiesB w B A2 m l2) (k : Nat) (l3 : List UInt8) (hk : n + m = k) (hl3 : l ++ l2 = l3) (hsum : k ≤ 140737488355328) (hbase : base ≤ w.heap.size)
    (h : ∀ A' c' w', OwnB w' base A' k c' l3 → Below base w w' → w.grownBy w' (Value.slice A n c).ownBlock → wpList Try.prog ops Q rest (a.put o.dst (.slice A' k c')) w') : wpList Try.prog ops Q (o :: rest) a w := by
  subst hk hl3
  obtain ⟨A', c', w', hrun, h2, h3, _⟩ := run_appendB w base o.type A n c l hown B A2 m c2 l2 hr hsum hbase
  refine wpList_plain hgd fun K hK => ?_
  unfold Oper.wp execOp
  simp only [ho, resolve, invoke, builtin, Sem.run_bind, Sem.run_pure, Result.andThen_ok, List.map_toArray, List.map_cons, List.map_nil, hs, hx, hrun]
  exact hK _ _ (h A' c' w' h2 (below_of_grown hown hbase h3) h3)
end Go.Proofs.Ytciogjnchpeaaaa
