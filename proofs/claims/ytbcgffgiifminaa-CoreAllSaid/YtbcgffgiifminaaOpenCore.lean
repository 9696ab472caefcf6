/-
  A conf that comes in by value; a slice of operations that comes in.
-/
import Derived.Test.YtbcgffgiifminaaDocL
import Derived.Deep.Fields
import Derived.Deep.MidRow
namespace Go.Proofs.Ytbcgffgiifminaa
open Go.ChangeShapes Go.WideShapes Go.ChangeAt Go.RowKit Go.Deep
set_option maxRecDepth 10000
set_option linter.unusedVariables false
set_option maxHeartbeats 1000000 in
set_option maxRecDepth 10000 in
theorem open_packet_cells {H : Type} {enc : TypeId × Value → H} {w : World} {fuel : Nat} {l : List Value} {x : DataW H × List MemPlace}
    (hf : DataW.trod enc Try.prog w 0 (fun _ => true) true fuel 41 l = some x) (hl9 : l.length = 9) :
    ∃ (q : Pkt) (A : Option Addr) (n c : Nat), l = q.row (.slice A n c) ∧ LiesB w w.heap.size A n q.press ∧ n ≤ c ∧ c ≤ maxLen ∧ q.WF ∧ q.Ints := by
  have hs := Try.underlying41
  match l, hl9 with
  | [c0, c1, c2, c3, c4, c5, c6, c7, c8], _ =>
    obtain ⟨xs, n, _, hx, _, hlen, hg⟩ := DataW.trod_struct hs hf
    have hone := hone_of (P := Try.prog) (fs := (match Try.prog.underlying 41 with | some (.struct fs) => fs | _ => #[])) (by kernel_rfl)
    rw [hs] at hone
    match xs, hlen with
    | [y0, y1, y2, y3, y4, y5, y6, y7, y8], _ =>
      obtain ⟨o0, k0⟩ := hone 0 _ rfl
      obtain ⟨o1, k1⟩ := hone 1 _ rfl
      obtain ⟨o2, k2⟩ := hone 2 _ rfl
      obtain ⟨o3, k3⟩ := hone 3 _ rfl
      obtain ⟨o4, k4⟩ := hone 4 _ rfl
      obtain ⟨o5, k5⟩ := hone 5 _ rfl
      obtain ⟨o6, k6⟩ := hone 6 _ rfl
      obtain ⟨o7, k7⟩ := hone 7 _ rfl
      obtain ⟨o8, k8⟩ := hone 8 _ rfl
      have g0 := hg 0 _ rfl
      have g1 := hg 1 _ rfl
      have g2 := hg 2 _ rfl
      have g3 := hg 3 _ rfl
      have g4 := hg 4 _ rfl
      have g5 := hg 5 _ rfl
      have g6 := hg 6 _ rfl
      have g7 := hg 7 _ rfl
      have g8 := hg 8 _ rfl
      rw [o0, k0] at g0
      rw [o1, k1] at g1
      rw [o2, k2] at g2
      rw [o3, k3] at g3
      rw [o4, k4] at g4
      rw [o5, k5] at g5
      rw [o6, k6] at g6
      rw [o7, k7] at g7
      rw [o8, k8] at g8
      obtain ⟨a0, e0, -, w0⟩ := DataW.trod_int Try.underlying3 g0
      obtain ⟨a1, e1, -, w1⟩ := DataW.trod_int Try.underlying3 g1
      obtain ⟨a2, e2, -, w2⟩ := DataW.trod_int Try.underlying3 g2
      obtain ⟨a3, e3, -, w3⟩ := DataW.trod_int Try.underlying2 g3
      obtain ⟨a4, e4, -, w4⟩ := DataW.trod_int Try.underlying3 g4
      obtain ⟨a6, e6, -, w6⟩ := DataW.trod_int Try.underlying3 g6
      obtain ⟨a7, e7, -, w7⟩ := DataW.trod_int Try.underlying3 g7
      obtain ⟨a8, e8, -, w8⟩ := DataW.trod_int Try.underlying39 g8
      simp only [List.drop_zero, List.drop_succ_cons, List.take_succ_cons, List.take_zero, List.cons.injEq, and_true] at e0 e1 e2 e3 e4 e6 e7 e8
      subst e0 e1 e2 e3 e4 e6 e7 e8
      have hsl : ∃ A n c, c5 = .slice A n c := by
        rcases open_slice Try.underlying34 g5 with ⟨h0, _⟩ | ⟨a, len, cap, m, n', D, Pl, hcs, _⟩
        · simp only [List.drop_zero, List.drop_succ_cons, List.take_succ_cons, List.take_zero, List.cons.injEq, and_true] at h0
          exact ⟨_, _, _, h0⟩
        · simp only [List.drop_zero, List.drop_succ_cons, List.take_succ_cons, List.take_zero, List.cons.injEq, and_true] at hcs
          exact ⟨_, _, _, hcs⟩
      obtain ⟨A, m, c, rfl⟩ := hsl
      obtain ⟨bs, hL, hnc, hcm⟩ := open_bytes (A := A) (n := m) (c := c) (x := y5) g5
      have q0 := bounds_i64 w0
      have q1 := bounds_i64 w1
      have q2 := bounds_i64 w2
      have q3 := bounds_i64 w3
      have q4 := bounds_i64 w4
      have q6 := bounds_i64 w6
      have q7 := bounds_i64 w7
      have q8 := bounds_u32 w8
      exact ⟨⟨a0, a1, a2, a3, a4, bs, a6, a7, a8⟩, A, m, c, rfl, hL, hnc, hcm, ⟨q8.1, by show a8 < 4294967296; omega⟩, ⟨q0, q1, q2, q3, q4, q6, q7⟩⟩
/-- How a player plays, of 64 bits each. -/
structure Cfg.Ints (c : Cfg) : Prop where
  n : Is64 c.n
  me : Is64 c.me
  id : Is64 c.id
  delay : Is64 c.delay
  window : Is64 c.window
  guess : Is64 c.guess
  order : Is64 c.order
  branches : Is64 c.branches
  workers : Is64 c.workers
  room : Is64 c.room
set_option maxHeartbeats 1000000 in
set_option maxRecDepth 10000 in
theorem open_conf {H : Type} {enc : TypeId × Value → H} {w : World} {r : Reach} {b0 : Nat} {v : Value} {d : DataW H} {ps : List MemPlace}
    (hv : Value.okWide Try.prog w r b0 28 v) (h : DataW.Trod enc Try.prog w 0 (fun _ => true) true 28 v d ps) :
    ∃ c : Cfg, v = c.val ∧ c.Ints := by
  have hs := Try.underlying28
  obtain ⟨cs, rfl, hsz⟩ := okWide_struct hs hv
  have hC : Try.prog.cellsOf 28 = 10 := by kernel_rfl
  obtain ⟨l⟩ := cs
  match l, hsz.trans hC with
  | [c0, c1, c2, c3, c4, c5, c6, c7, c8, c9], _ =>
    obtain ⟨fuel, hf⟩ := h
    obtain ⟨xs, n, _, hx, _, hlen, hg⟩ := DataW.trod_struct hs hf
    have hone := hone_of (P := Try.prog) (fs := (match Try.prog.underlying 28 with | some (.struct fs) => fs | _ => #[])) (by kernel_rfl)
    rw [hs] at hone
    match xs, hlen with
    | [y0, y1, y2, y3, y4, y5, y6, y7, y8, y9], _ =>
      obtain ⟨o0, k0⟩ := hone 0 _ rfl
      obtain ⟨o1, k1⟩ := hone 1 _ rfl
      obtain ⟨o2, k2⟩ := hone 2 _ rfl
      obtain ⟨o3, k3⟩ := hone 3 _ rfl
      obtain ⟨o4, k4⟩ := hone 4 _ rfl
      obtain ⟨o5, k5⟩ := hone 5 _ rfl
      obtain ⟨o6, k6⟩ := hone 6 _ rfl
      obtain ⟨o7, k7⟩ := hone 7 _ rfl
      obtain ⟨o8, k8⟩ := hone 8 _ rfl
      obtain ⟨o9, k9⟩ := hone 9 _ rfl
      have g0 := hg 0 _ rfl
      have g1 := hg 1 _ rfl
      have g2 := hg 2 _ rfl
      have g3 := hg 3 _ rfl
      have g4 := hg 4 _ rfl
      have g5 := hg 5 _ rfl
      have g6 := hg 6 _ rfl
      have g7 := hg 7 _ rfl
      have g8 := hg 8 _ rfl
      have g9 := hg 9 _ rfl
      rw [o0, k0] at g0
      rw [o1, k1] at g1
      rw [o2, k2] at g2
      rw [o3, k3] at g3
      rw [o4, k4] at g4
      rw [o5, k5] at g5
      rw [o6, k6] at g6
      rw [o7, k7] at g7
      rw [o8, k8] at g8
      rw [o9, k9] at g9
      obtain ⟨a0, e0, -, w0⟩ := DataW.trod_int Try.underlying3 g0
      obtain ⟨a1, e1, -, w1⟩ := DataW.trod_int Try.underlying3 g1
      obtain ⟨a2, e2, -, w2⟩ := DataW.trod_int Try.underlying2 g2
      obtain ⟨a3, e3, -, w3⟩ := DataW.trod_int Try.underlying3 g3
      obtain ⟨a4, e4, -, w4⟩ := DataW.trod_int Try.underlying3 g4
      obtain ⟨a5, e5, -, w5⟩ := DataW.trod_int Try.underlying3 g5
      obtain ⟨a6, e6, -, w6⟩ := DataW.trod_int Try.underlying3 g6
      obtain ⟨a7, e7, -, w7⟩ := DataW.trod_int Try.underlying3 g7
      obtain ⟨a8, e8, -, w8⟩ := DataW.trod_int Try.underlying3 g8
      obtain ⟨a9, e9, -, w9⟩ := DataW.trod_int Try.underlying3 g9
      simp only [Value.cells, List.drop_zero, List.drop_succ_cons, List.take_succ_cons, List.take_zero, List.cons.injEq, and_true] at e0 e1 e2 e3 e4 e5 e6 e7 e8 e9
      subst e0 e1 e2 e3 e4 e5 e6 e7 e8 e9
      exact ⟨⟨a0, a1, a2, a3, a4, a5, a6, a7, a8, a9⟩, rfl, ⟨bounds_i64 w0, bounds_i64 w1, bounds_i64 w2, bounds_i64 w3, bounds_i64 w4, bounds_i64 w5, bounds_i64 w6, bounds_i64 w7, bounds_i64 w8, bounds_i64 w9⟩⟩
structure Op21 where
  kind : Int
  bA : Option Addr
  bn : Nat
  bc : Nat
  b : List UInt8
  k : Pkt
  A : Option Addr
  n : Nat
  c : Nat
  fit : Bool
  sum : Int
def Op21.row (o : Op21) : List Value := op21Row o.kind (.slice o.bA o.bn o.bc) o.k (.slice o.A o.n o.c) o.fit o.sum
/-- The i-th operation lies at this address, its bytes below B. -/
structure Op21At (w : World) (B : Nat) (A : Option Addr) (i : Nat) (o : Op21) (b off : Nat) : Prop where
  at_ : A = some ⟨b, off, none⟩
  lt : b < B
  range : w.rangeAt b (off + i * 13) o.row
  liesB : LiesB w B o.bA o.bn o.b
  capB : o.bn ≤ o.bc
  lenB : o.bc ≤ maxLen
  lies : LiesB w B o.A o.n o.k.press
  cap : o.n ≤ o.c
  len : o.c ≤ maxLen
  wf : o.k.WF
  ints : o.k.Ints
  sum : 0 ≤ o.sum ∧ o.sum < 4294967296
def LiesOps21 (w : World) (B : Nat) (A : Option Addr) (n : Nat) : Prop := ∀ i, i < n → ∃ o b off, Op21At w B A i o b off
theorem Op21At.below {w w' : World} {B : Nat} {A : Option Addr} {i b off : Nat} {o : Op21} (h : Op21At w B A i o b off) (hb : Below B w w') : Op21At w' B A i o b off :=
  ⟨h.at_, h.lt, fun j v hv => (hb.cell (p := ⟨b, off + i * 13 + j, none⟩) h.lt).trans (h.range j v hv), h.liesB.below hb, h.capB, h.lenB, h.lies.below hb, h.cap, h.len, h.wf, h.ints, h.sum⟩
theorem LiesOps21.below {w w' : World} {B n : Nat} {A : Option Addr} (h : LiesOps21 w B A n) (hb : Below B w w') : LiesOps21 w' B A n := fun i hi => by
  obtain ⟨o, b, off, ho⟩ := h i hi
  exact ⟨o, b, off, ho.below hb⟩
set_option maxHeartbeats 2000000 in
theorem open_ops21 {H : Type} {enc : TypeId × Value → H} {w : World} {fuel : Nat} {A : Option Addr} {n c : Nat} {x : DataW H × List MemPlace}
    (h : DataW.trod enc Try.prog w 0 (fun _ => true) true fuel 66 [.slice A n c] = some x) : LiesOps21 w w.heap.size A n ∧ n ≤ c ∧ c ≤ maxLen := by
  rcases open_slice Try.underlying66 h with ⟨h0, _⟩ | ⟨a, len, cap, m, n', D, Pl, hcs, _, hl, hm, hmm, _, hel⟩
  · simp only [List.cons.injEq, Value.slice.injEq, and_true] at h0
    obtain ⟨rfl, rfl, rfl⟩ := h0
    exact ⟨fun i hi => by omega, Nat.le_refl _, by simp [maxLen]⟩
  · simp only [List.cons.injEq, Value.slice.injEq, and_true] at hcs
    obtain ⟨rfl, rfl, rfl⟩ := hcs
    simp only [if_true] at hmm
    subst hmm
    have hC : Try.prog.cellsOf 71 = 13 := by kernel_rfl
    refine ⟨fun i hi => ?_, hl, hm⟩
    obtain ⟨cs', hcells, htr⟩ := hel i (by omega)
    rw [hC] at hcells
    obtain ⟨_, hlen13, hat⟩ := World.cells?_some hcells
    have hs := Try.underlying71
    obtain ⟨xs, n2, _, hx, _, hxl, hg⟩ := DataW.trod_struct hs htr
    have i1 : Try.prog.cellsOf 3 = 1 := by kernel_rfl
    have i2 : Try.prog.cellsOf 34 = 1 := by kernel_rfl
    have i3 : Try.prog.cellsOf 41 = 9 := by kernel_rfl
    have i4 : Try.prog.cellsOf 4 = 1 := by kernel_rfl
    have i5 : Try.prog.cellsOf 39 = 1 := by kernel_rfl
    match cs', hlen13, xs, hxl with
    | [c0, c1, c2, c3, c4, c5, c6, c7, c8, c9, c10, c11, c12], _, [y0, y1, y2, y3, y4], _ =>
      have g0 : DataW.trod enc Try.prog w 0 (fun _ => true) true n2 3 ((List.drop 0 [c0, c1, c2, c3, c4, c5, c6, c7, c8, c9, c10, c11, c12]).take (Try.prog.cellsOf 3)) = some y0 := hg 0 _ rfl
      rw [i1] at g0
      have g1 : DataW.trod enc Try.prog w 0 (fun _ => true) true n2 34 ((List.drop 1 [c0, c1, c2, c3, c4, c5, c6, c7, c8, c9, c10, c11, c12]).take (Try.prog.cellsOf 34)) = some y1 := hg 1 _ rfl
      rw [i2] at g1
      have g2 : DataW.trod enc Try.prog w 0 (fun _ => true) true n2 41 ((List.drop 2 [c0, c1, c2, c3, c4, c5, c6, c7, c8, c9, c10, c11, c12]).take (Try.prog.cellsOf 41)) = some y2 := hg 2 _ rfl
      rw [i3] at g2
      have g3 : DataW.trod enc Try.prog w 0 (fun _ => true) true n2 4 ((List.drop 11 [c0, c1, c2, c3, c4, c5, c6, c7, c8, c9, c10, c11, c12]).take (Try.prog.cellsOf 4)) = some y3 := hg 3 _ rfl
      rw [i4] at g3
      have g4 : DataW.trod enc Try.prog w 0 (fun _ => true) true n2 39 ((List.drop 12 [c0, c1, c2, c3, c4, c5, c6, c7, c8, c9, c10, c11, c12]).take (Try.prog.cellsOf 39)) = some y4 := hg 4 _ rfl
      rw [i5] at g4
      obtain ⟨a0, e0, -, w0⟩ := DataW.trod_int Try.underlying3 g0
      obtain ⟨a3, e3, -⟩ := DataW.trod_bool Try.underlying4 g3
      obtain ⟨a4, e4, -, w4⟩ := DataW.trod_int Try.underlying39 g4
      obtain ⟨q, A2, m2, k2, e2, hL2, hnc2, hcm2, hwf, hints⟩ := open_packet_cells g2 rfl
      simp only [List.drop_zero, List.drop_succ_cons, List.take_succ_cons, List.take_zero, List.cons.injEq, and_true] at e0 e3 e4
      subst e0 e3 e4
      have hsl : ∃ A n c, c1 = .slice A n c := by
        rcases open_slice Try.underlying34 g1 with ⟨h0, _⟩ | ⟨a, len, cap, m, n', D, Pl, hcs, _⟩
        · simp only [List.drop_zero, List.drop_succ_cons, List.take_succ_cons, List.take_zero, List.cons.injEq, and_true] at h0
          exact ⟨_, _, _, h0⟩
        · simp only [List.drop_zero, List.drop_succ_cons, List.take_succ_cons, List.take_zero, List.cons.injEq, and_true] at hcs
          exact ⟨_, _, _, hcs⟩
      obtain ⟨A3, m3, k3', rfl⟩ := hsl
      obtain ⟨bs, hL, hnc, hcm⟩ := open_bytes (A := A3) (n := m3) (c := k3') (x := y1) g1
      have q4 := bounds_u32 w4
      obtain ⟨cs0, hcells0, -⟩ := hel 0 (by omega)
      rw [hC] at hcells0
      obtain ⟨_, hlen0, hat0⟩ := World.cells?_some hcells0
      have h0 := hat0 0 (by omega)
      rw [List.getElem?_eq_getElem (by omega)] at h0
      obtain ⟨b, off, spot⟩ := a
      have hsp : spot = none := by
        have := World.cell?_spot h0
        simpa [Addr.add] using this
      subst hsp
      have hadd : ∀ j, (⟨b, off, none⟩ : Addr).add j = ⟨b, off + j, none⟩ := fun j => by unfold Addr.add; split <;> simp_all
      have hadd2 : ∀ j, (⟨b, off + i * 13, none⟩ : Addr).add j = ⟨b, off + i * 13 + j, none⟩ := fun j => by unfold Addr.add; split <;> simp_all
      rw [hadd] at hat
      have hrow : (⟨a0, A3, m3, k3', bs, q, A2, m2, k2, a3, a4⟩ : Op21).row = [.int .i64 a0, .slice A3 m3 k3', c2, c3, c4, c5, c6, c7, c8, c9, c10, .bool a3, .int .u32 a4] := by
        show .int .i64 a0 :: .slice A3 m3 k3' :: (q.row (.slice A2 m2 k2) ++ [.bool a3, .int .u32 a4]) = _
        rw [← e2]; rfl
      refine ⟨⟨a0, A3, m3, k3', bs, q, A2, m2, k2, a3, a4⟩, b, off, ⟨rfl, ?_, ?_, hL, hnc, hcm, hL2, hnc2, hcm2, hwf, hints, ⟨q4.1, by show a4 < 4294967296; omega⟩⟩⟩
      · have := hat 0 (by omega)
        rw [hadd2] at this
        exact World.block_lt_of_cell? w _ this
      · intro j v hv
        rw [hrow] at hv
        by_cases hj : j < 13
        · have := hat j hj
          rw [hadd2] at this
          rw [this]
          exact hv
        · rw [List.getElem?_eq_none (by simp; omega)] at hv
          cases hv
end Go.Proofs.Ytbcgffgiifminaa
