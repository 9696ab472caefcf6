/-
  Rows of the call's own, of elements of one cell each, whatever their type: append, cells, make.
-/
import Derived.Test.YtciogjnchpeaaaaKeepB
namespace Go.Proofs.Ytciogjnchpeaaaa
open Go.RowKit
set_option maxRecDepth 10000

/-- The slice '.slice A n c' of elements of type e is the call's own (blocks from base on) and holds the values l. -/
def OwnV (e : TypeId) (w : World) (base : Nat) (A : Option Addr) (n c : Nat) (l : List Value) : Prop := w.ownsRow base e 1 (.slice A n c) n l
/-- A slice type's numbers: the slice type t, the element type e, its zero, its bytes. -/
structure Elem (t e : TypeId) (z : Value) (nb : Nat) : Prop where
  under : Try.prog.underlying t = some (.slice e)
  info : (Try.prog.info? e).map (fun i => (i.zero, i.size, i.bytes)) = some (some z, 1, nb)
  one : z.cells.size = 1
theorem OwnV.of_B {w : World} {base n c : Nat} {A : Option Addr} {l : List UInt8} (h : OwnB w base A n c l) : OwnV 5 w base A n c (l.map bv) := h
section
variable {e : TypeId} {w w' : World} {base base' n c g : Nat} {A : Option Addr} {l : List Value}
theorem OwnV.len (h : OwnV e w base A n c l) : l.length = n := by have := h.1; simpa using this
theorem OwnV.nil (e : TypeId) (w : World) (base : Nat) : OwnV e w base none 0 0 [] := World.ownsRow_nil _ _ _ _
theorem OwnV.lies (h : OwnV e w base A n c l) : Lies w w.heap.size A l := Lies.of_own h
theorem OwnV.kept {row : Option Nat} (h : OwnV e w base A n c l) (hg : w.grownBy w' row) (hne : (Value.slice A n c).ownBlock = none ∨ (Value.slice A n c).ownBlock ≠ row) : OwnV e w' base A n c l := World.ownsRow.kept h hg hne
theorem OwnV.below (h : OwnV e w base A n c l) (hb : Below w.heap.size w w') : OwnV e w' base A n c l :=
  h.kept (grownBy_of_below hb) (by cases (Value.slice A n c).ownBlock <;> simp)
theorem OwnV.drew (h : OwnV e w base A n c l) : OwnV e w.drew base A n c l := h
theorem OwnV.base_le (h : OwnV e w base A n c l) (hb : base' ≤ base) : OwnV e w base' A n c l := by
  obtain ⟨h1, h2⟩ := h
  refine ⟨h1, ?_⟩
  rcases h2 with h2 | ⟨g, cap, cur, hv, hg, r⟩
  · exact .inl h2
  · exact .inr ⟨g, cap, cur, hv, by omega, r⟩
theorem OwnV.blk (h : OwnV e w base A n c l) : ∀ k, some k = (Value.slice A n c).ownBlock → base ≤ k ∧ k < w.heap.size := fun k hk => World.ownsRow.lt h k hk.symm
theorem OwnV.keeps {S : Nat → Prop} (h : OwnV e w base A n c l) (hk : Keeps S w w') (hn : ∀ k, some k = (Value.slice A n c).ownBlock → ¬ S k) : OwnV e w' base A n c l := by
  refine ⟨h.1, ?_⟩
  rcases h.2 with h2 | ⟨g, cap, cur, hv, hb, hh, r⟩
  · exact .inl h2
  · refine .inr ⟨g, cap, cur, hv, hb, ?_, r⟩
    rw [hk.block g (Array.getElem?_eq_some_iff.1 hh).1 (hn g (by rw [hv]; rfl))]
    exact hh
theorem OwnV.form (h : OwnV e w base A n c l) (hpos : 0 < n) : ∃ g, A = some ⟨g, 0, none⟩ ∧ base ≤ g ∧ g < w.heap.size := by
  obtain ⟨g, cap, hv, hb, hlt⟩ := World.ownsRow.form h hpos
  exact ⟨g, by injection hv, hb, hlt⟩
theorem OwnV.cell (h : OwnV e w base (some ⟨g, 0, none⟩) n c l) {j : Nat} (hj : j < n) : ∃ hl : j < l.length, w.cell? ⟨g, j, none⟩ = some l[j] := by
  have hl : j < l.length := by rw [h.len]; exact hj
  refine ⟨hl, ?_⟩
  rw [World.ownsRow.cellAt h j (by omega), List.getElem?_eq_getElem hl]
theorem OwnV.frozen (h : OwnV e w base (some ⟨g, 0, none⟩) n c l) (j : Nat) : w.frozen? ⟨g, j, none⟩ = false := World.ownsRow.frozenAt h j
theorem OwnV.cap (h : OwnV e w base A n c l) : n ≤ c := by
  rcases h.2 with ⟨hv, h0⟩ | ⟨g', cap, cur, hv, _, _, hnc, _⟩
  · omega
  · injection hv with _ _ h3; omega
theorem OwnV.store (h : OwnV e w base (some ⟨g, 0, none⟩) n c l) (j : Nat) (x : Value) : OwnV e (w.setCell ⟨g, j, none⟩ x) base (some ⟨g, 0, none⟩) n c (l.set j x) := (World.ownsRow.stored h j x).1
/-- Two rows of the call's own of unlike element types are unlike blocks. -/
theorem OwnV.apart {e' : TypeId} {base2 n' c' : Nat} {A' : Option Addr} {l' : List Value} (h : OwnV e w base A n c l) (h' : OwnV e' w base2 A' n' c' l') (hne : e ≠ e') : ∀ k, some k = (Value.slice A n c).ownBlock → some k ≠ (Value.slice A' n' c').ownBlock := by
  intro k hk hk'
  rcases h.2 with ⟨hv, _⟩ | ⟨g, cap, cur, hv, _, hh, _⟩
  · rw [hv] at hk; simp [Value.ownBlock] at hk
  · rcases h'.2 with ⟨hv', _⟩ | ⟨g', cap', cur', hv', _, hh', _⟩
    · rw [hv'] at hk'; simp [Value.ownBlock] at hk'
    · rw [hv] at hk
      rw [hv'] at hk'
      have h1 : k = g := by simpa [Value.ownBlock] using hk
      have h2 : k = g' := by simpa [Value.ownBlock] using hk'
      subst h1
      subst h2
      rw [hh] at hh'
      injection hh' with hh'
      injection hh' with _ ht
      exact hne ht
theorem Keeps.belowV {w0 : World} (h : OwnV e w0 base A n c l) (k : Keeps (Mine A n c) w w') (hb : base ≤ w.heap.size) : Below base w w' :=
  k.below hb fun i hi hs => by have := (h.blk i hs).1; omega
end

theorem run_appendV {t e : TypeId} {z : Value} {nb : Nat} (E : Elem t e z nb) (w : World) (base : Nat) (ty : TypeId) (A : Option Addr) (n c : Nat) (l : List Value) (hown : OwnV e w base A n c l)
    (B : Nat) (A2 : Option Addr) (m c2 : Nat) (l2 : List Value) (hm : l2.length = m) (hr : Lies w B A2 l2) (h1 : ∀ u ∈ l2, u.oneCell' = true) (hsum : n + m ≤ 281474976710656) (hbytes : (n + m) * nb ≤ 140737488355328) (hbase : base ≤ w.heap.size) (hpos : 0 < m) :
    ∃ A' c' w', (Builtin.append_ #[t, t] ty #[.slice A n c, .slice A2 m c2]).run Try.prog w = .ok (.slice A' (n + m) c') w' ∧ OwnV e w' base A' (n + m) c' (l ++ l2) ∧
      w.grownBy w' (Value.slice A n c).ownBlock ∧ ((Value.slice A' (n + m) c').ownBlock = (Value.slice A n c).ownBlock ∨ (Value.slice A' (n + m) c').ownBlock = some w.heap.size) := by
  obtain ⟨i0, hi0, hz0, hz1, hz2⟩ := info_parts E.info
  have hform : ∀ (W : World) (v : Value) (k : Nat) (xs : List Value), W.ownsRow base e 1 v k xs → ∃ A c, v = .slice A k c := by
    intro W v k xs h
    rcases h.2 with ⟨rfl, rfl⟩ | ⟨g, cap, cur, rfl, _⟩
    · exact ⟨_, _, rfl⟩
    · exact ⟨_, _, rfl⟩
  obtain ⟨b, off, rfl, hb, hc⟩ := hr (by intro h; subst h; simp at hm; omega)
  have hadd : ∀ j, (⟨b, off, none⟩ : Addr).add j = ⟨b, off + j, none⟩ := fun j => by unfold Addr.add; split <;> simp_all
  obtain ⟨v', w', hrun, h2, h3, _, h5⟩ := run_append_own_at (P := Try.prog) w base t ty e i0 z 1 nb E.under hi0 hz0 hz1 hz2 E.one (by omega) _ n _ hown ⟨b, off, none⟩ m c2 l2 (by simp [hm])
    (fun j u hu => by rw [hadd]; exact hc j u hu) h1 (by simp only [maxLen]; omega) hbytes hbase
  obtain ⟨A', c', rfl⟩ := hform _ _ _ _ h2
  exact ⟨A', c', w', hrun, h2, h3, h5⟩

theorem wpV_append {t e : TypeId} {z : Value} {nb : Nat} (E : Elem t e z nb) {ops : Array Oper} {rest : List Oper} {o : Oper} {a : Act} {w : World} {Q : Exit → Act → World → Prop} (hgd : o.guard = none) (s x : Operand)
    (ho : o.op = .call { callee := .builtin .append, args := #[s, x], argTypes := #[t, t] })
    (base : Nat) (A : Option Addr) (n c : Nat) (l : List Value) (hs : a.eval s = .slice A n c) (hown : OwnV e w base A n c l)
    (B : Nat) (A2 : Option Addr) (m c2 : Nat) (l2 : List Value) (hx : a.eval x = .slice A2 m c2) (hm : l2.length = m) (hr : Lies w B A2 l2) (h1 : ∀ u ∈ l2, u.oneCell' = true) (hpos : 0 < m) (k : Nat) (l3 : List Value) (hk : n + m = k) (hl3 : l ++ l2 = l3) (hsum : k ≤ 281474976710656) (hbytes : k * nb ≤ 140737488355328) (hbase : base ≤ w.heap.size)
    (h : ∀ A' c' w', OwnV e w' base A' k c' l3 → Keeps (Mine A n c) w w' →
      ((Value.slice A' k c').ownBlock = (Value.slice A n c).ownBlock ∨ (Value.slice A' k c').ownBlock = some w.heap.size) → wpList Try.prog ops Q rest (a.put o.dst (.slice A' k c')) w') : wpList Try.prog ops Q (o :: rest) a w := by
  subst hk hl3
  obtain ⟨A', c', w', hrun, h2, h3, h4⟩ := run_appendV E w base o.type A n c l hown B A2 m c2 l2 hm hr h1 hsum hbytes hbase hpos
  refine wpList_plain hgd fun K hK => ?_
  unfold Oper.wp execOp
  simp only [ho, resolve, invoke, builtin, Sem.run_bind, Sem.run_pure, Result.andThen_ok, List.map_toArray, List.map_cons, List.map_nil, hs, hx, hrun]
  exact hK _ _ (h A' c' w' h2 (Keeps.grown h3) h4)
end Go.Proofs.Ytciogjnchpeaaaa
