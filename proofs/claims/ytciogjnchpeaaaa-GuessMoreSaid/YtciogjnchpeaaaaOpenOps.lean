/-
  A slice of operations that comes in.
-/
import Derived.Test.YtciogjnchpeaaaaOpen
import Derived.Test.YtciogjnchpeaaaaDo
import Derived.Deep.Fields
import Derived.Deep.MidRow
namespace Go.Proofs.Ytciogjnchpeaaaa
open Go.ChangeShapes Go.WideShapes Go.ChangeAt Go.RowKit Go.Deep
set_option maxRecDepth 10000
set_option linter.unusedVariables false
structure OpV where
  kind : Int
  p : Int
  first : Int
  A : Option Addr
  n : Nat
  c : Nat
  b : List UInt8
/-- The i-th operation lies at this address, its bytes below B. -/
structure OpAt (w : World) (B : Nat) (A : Option Addr) (i : Nat) (o : OpV) (b off : Nat) : Prop where
  at_ : A = some ⟨b, off, none⟩
  lt : b < B
  range : w.rangeAt b (off + i * 4) (opRow o.kind o.p o.first (.slice o.A o.n o.c))
  lies : LiesB w B o.A o.n o.b
  cap : o.n ≤ o.c
  len : o.c ≤ maxLen
  p1 : -9223372036854775808 ≤ o.p
  p2 : o.p ≤ 9223372036854775807
  f1 : -9223372036854775808 ≤ o.first
  f2 : o.first ≤ 9223372036854775807
def LiesOps (w : World) (B : Nat) (A : Option Addr) (n : Nat) : Prop := ∀ i, i < n → ∃ o b off, OpAt w B A i o b off
theorem OpAt.below {w w' : World} {B : Nat} {A : Option Addr} {i b off : Nat} {o : OpV} (h : OpAt w B A i o b off) (hb : Below B w w') : OpAt w' B A i o b off :=
  ⟨h.at_, h.lt, fun j v hv => (hb.cell (p := ⟨b, off + i * 4 + j, none⟩) h.lt).trans (h.range j v hv), h.lies.below hb, h.cap, h.len, h.p1, h.p2, h.f1, h.f2⟩
theorem LiesOps.below {w w' : World} {B n : Nat} {A : Option Addr} (h : LiesOps w B A n) (hb : Below B w w') : LiesOps w' B A n := fun i hi => by
  obtain ⟨o, b, off, ho⟩ := h i hi
  exact ⟨o, b, off, ho.below hb⟩
set_option maxHeartbeats 1000000 in
theorem open_ops {H : Type} {enc : TypeId × Value → H} {w : World} {fuel : Nat} {A : Option Addr} {n c : Nat} {x : DataW H × List MemPlace}
    (h : DataW.trod enc Try.prog w 0 (fun _ => true) true fuel 22 [.slice A n c] = some x) : LiesOps w w.heap.size A n ∧ n ≤ c ∧ c ≤ maxLen := by
  rcases open_slice Try.underlying22 h with ⟨h0, _⟩ | ⟨a, len, cap, m, n', D, Pl, hcs, _, hl, hm, hmm, _, hel⟩
  · simp only [List.cons.injEq, Value.slice.injEq, and_true] at h0
    obtain ⟨rfl, rfl, rfl⟩ := h0
    exact ⟨fun i hi => by omega, Nat.le_refl _, by simp [maxLen]⟩
  · simp only [List.cons.injEq, Value.slice.injEq, and_true] at hcs
    obtain ⟨rfl, rfl, rfl⟩ := hcs
    simp only [if_true] at hmm
    subst hmm
    have hC : Try.prog.cellsOf 34 = 4 := by kernel_rfl
    refine ⟨fun i hi => ?_, hl, hm⟩
    obtain ⟨cs', hcells, htr⟩ := hel i (by omega)
    rw [hC] at hcells
    obtain ⟨_, hlen4, hat⟩ := World.cells?_some hcells
    have hs := Try.underlying34
    obtain ⟨xs, n2, _, hx, _, hxl, hg⟩ := DataW.trod_struct hs htr
    have hone := hone_of (P := Try.prog) (fs := (match Try.prog.underlying 34 with | some (.struct fs) => fs | _ => #[])) (by kernel_rfl)
    rw [hs] at hone
    match cs', hlen4, xs, hxl with
    | [c0, c1, c2, c3], _, [y0, y1, y2, y3], _ =>
      obtain ⟨o0, k0⟩ := hone 0 _ rfl
      obtain ⟨o1, k1⟩ := hone 1 _ rfl
      obtain ⟨o2, k2⟩ := hone 2 _ rfl
      obtain ⟨o3, k3⟩ := hone 3 _ rfl
      have g0 := hg 0 _ rfl
      have g1 := hg 1 _ rfl
      have g2 := hg 2 _ rfl
      have g3 := hg 3 _ rfl
      rw [o0, k0] at g0
      rw [o1, k1] at g1
      rw [o2, k2] at g2
      rw [o3, k3] at g3
      obtain ⟨a0, e0, -, w0⟩ := DataW.trod_int Try.underlying3 g0
      obtain ⟨a1, e1, -, w1⟩ := DataW.trod_int Try.underlying3 g1
      obtain ⟨a2, e2, -, w2⟩ := DataW.trod_int Try.underlying3 g2
      simp only [List.drop_zero, List.drop_succ_cons, List.take_succ_cons, List.take_zero, List.cons.injEq, and_true] at e0 e1 e2
      subst e0 e1 e2
      have hsl : ∃ A n c, c3 = .slice A n c := by
        rcases open_slice Try.underlying23 g3 with ⟨h0, _⟩ | ⟨a, len, cap, m, n', D, Pl, hcs, _⟩
        · simp only [List.drop_zero, List.drop_succ_cons, List.take_succ_cons, List.take_zero, List.cons.injEq, and_true] at h0
          exact ⟨_, _, _, h0⟩
        · simp only [List.drop_zero, List.drop_succ_cons, List.take_succ_cons, List.take_zero, List.cons.injEq, and_true] at hcs
          exact ⟨_, _, _, hcs⟩
      obtain ⟨A3, m3, k3', rfl⟩ := hsl
      obtain ⟨bs, hL, hnc, hcm⟩ := open_bytes (A := A3) (n := m3) (c := k3') (x := y3) g3
      have q1 := bounds_i64 w1
      have q2 := bounds_i64 w2
      obtain ⟨cs0, hcells0, -⟩ := hel 0 (by omega)
      rw [hC] at hcells0
      obtain ⟨_, hlen0, hat0⟩ := World.cells?_some hcells0
      have h0 := hat0 0 (by omega)
      rw [List.getElem?_eq_getElem (by omega)] at h0
      obtain ⟨b, off, spot⟩ := a
      have hsp : spot = none := by
        have := World.cell?_spot h0
        simpa [Addr.add] using this
      subst hsp
      have hadd : ∀ j, (⟨b, off, none⟩ : Addr).add j = ⟨b, off + j, none⟩ := fun j => by unfold Addr.add; split <;> simp_all
      have hadd2 : ∀ j, (⟨b, off + i * 4, none⟩ : Addr).add j = ⟨b, off + i * 4 + j, none⟩ := fun j => by unfold Addr.add; split <;> simp_all
      rw [hadd] at hat
      refine ⟨⟨a0, a1, a2, A3, m3, k3', bs⟩, b, off, ⟨rfl, ?_, ?_, hL, hnc, hcm, q1.1, q1.2, q2.1, q2.2⟩⟩
      · have := hat 0 (by omega)
        rw [hadd2] at this
        exact World.block_lt_of_cell? w _ this
      · intro j v hv
        by_cases hj : j < 4
        · have := hat j hj
          rw [hadd2] at this
          rw [this]
          exact hv
        · rw [List.getElem?_eq_none (by simp; omega)] at hv
          cases hv
end Go.Proofs.Ytciogjnchpeaaaa
