/-
  A packet that comes in by value.
-/
import Derived.Test.YtcjcmjkpfijhdaaOpen
import Derived.Test.YtcjcmjkpfijhdaaPktMay
import Derived.Deep.Fields
namespace Go.Proofs.Ytcjcmjkpfijhdaa
open Go.ChangeShapes Go.WideShapes Go.ChangeAt Go.RowKit Go.Deep
set_option linter.unusedVariables false
/-- Of 64 bits. -/
def Is64 (x : Int) : Prop := -9223372036854775808 ≤ x ∧ x ≤ 9223372036854775807
structure Pkt.Ints (p : Pkt) : Prop where
  kind : Is64 p.kind
  src : Is64 p.src
  dst : Is64 p.dst
  id : Is64 p.id
  first : Is64 p.first
  ack : Is64 p.ack
  frame : Is64 p.frame
set_option maxHeartbeats 1000000 in
theorem open_packet {H : Type} {enc : TypeId × Value → H} {w : World} {r : Reach} {b0 : Nat} {v : Value} {d : DataW H} {ps : List MemPlace}
    (hv : Value.okWide Try.prog w r b0 25 v) (h : DataW.Trod enc Try.prog w 0 (fun _ => true) true 25 v d ps) :
    ∃ (q : Pkt) (A : Option Addr) (n c : Nat), v = q.val (.slice A n c) ∧ LiesB w w.heap.size A n q.press ∧ n ≤ c ∧ c ≤ maxLen ∧ q.WF ∧ q.Ints := by
  have hs := Try.underlying25
  obtain ⟨cs, rfl, hsz⟩ := okWide_struct hs hv
  have hC : Try.prog.cellsOf 25 = 9 := by kernel_rfl
  obtain ⟨l⟩ := cs
  match l, hsz.trans hC with
  | [c0, c1, c2, c3, c4, c5, c6, c7, c8], _ =>
    obtain ⟨fuel, hf⟩ := h
    obtain ⟨xs, n, _, hx, _, hlen, hg⟩ := DataW.trod_struct hs hf
    have hone := hone_of (P := Try.prog) (fs := (match Try.prog.underlying 25 with | some (.struct fs) => fs | _ => #[])) (by kernel_rfl)
    rw [hs] at hone
    match xs, hlen with
    | [y0, y1, y2, y3, y4, y5, y6, y7, y8], _ =>
      obtain ⟨o0, k0⟩ := hone 0 _ rfl
      obtain ⟨o1, k1⟩ := hone 1 _ rfl
      obtain ⟨o2, k2⟩ := hone 2 _ rfl
      obtain ⟨o3, k3⟩ := hone 3 _ rfl
      obtain ⟨o4, k4⟩ := hone 4 _ rfl
      obtain ⟨o5, k5⟩ := hone 5 _ rfl
      obtain ⟨o6, k6⟩ := hone 6 _ rfl
      obtain ⟨o7, k7⟩ := hone 7 _ rfl
      obtain ⟨o8, k8⟩ := hone 8 _ rfl
      have g0 := hg 0 _ rfl
      have g1 := hg 1 _ rfl
      have g2 := hg 2 _ rfl
      have g3 := hg 3 _ rfl
      have g4 := hg 4 _ rfl
      have g5 := hg 5 _ rfl
      have g6 := hg 6 _ rfl
      have g7 := hg 7 _ rfl
      have g8 := hg 8 _ rfl
      rw [o0, k0] at g0
      rw [o1, k1] at g1
      rw [o2, k2] at g2
      rw [o3, k3] at g3
      rw [o4, k4] at g4
      rw [o5, k5] at g5
      rw [o6, k6] at g6
      rw [o7, k7] at g7
      rw [o8, k8] at g8
      obtain ⟨a0, e0, -, w0⟩ := DataW.trod_int Try.underlying3 g0
      obtain ⟨a1, e1, -, w1⟩ := DataW.trod_int Try.underlying3 g1
      obtain ⟨a2, e2, -, w2⟩ := DataW.trod_int Try.underlying3 g2
      obtain ⟨a3, e3, -, w3⟩ := DataW.trod_int Try.underlying2 g3
      obtain ⟨a4, e4, -, w4⟩ := DataW.trod_int Try.underlying3 g4
      obtain ⟨a6, e6, -, w6⟩ := DataW.trod_int Try.underlying3 g6
      obtain ⟨a7, e7, -, w7⟩ := DataW.trod_int Try.underlying3 g7
      obtain ⟨a8, e8, -, w8⟩ := DataW.trod_int Try.underlying23 g8
      simp only [Value.cells, List.drop_zero, List.drop_succ_cons, List.take_succ_cons, List.take_zero, List.cons.injEq, and_true] at e0 e1 e2 e3 e4 e6 e7 e8
      subst e0 e1 e2 e3 e4 e6 e7 e8
      have hsl : ∃ A n c, c5 = .slice A n c := by
        rcases open_slice Try.underlying22 g5 with ⟨h0, _⟩ | ⟨a, len, cap, m, n', D, Pl, hcs, _⟩
        · simp only [Value.cells, List.drop_zero, List.drop_succ_cons, List.take_succ_cons, List.take_zero, List.cons.injEq, and_true] at h0
          exact ⟨_, _, _, h0⟩
        · simp only [Value.cells, List.drop_zero, List.drop_succ_cons, List.take_succ_cons, List.take_zero, List.cons.injEq, and_true] at hcs
          exact ⟨_, _, _, hcs⟩
      obtain ⟨A, m, c, rfl⟩ := hsl
      obtain ⟨bs, hL, hnc, hcm⟩ := open_bytes (A := A) (n := m) (c := c) (x := y5) g5
      have q0 := bounds_i64 w0
      have q1 := bounds_i64 w1
      have q2 := bounds_i64 w2
      have q3 := bounds_i64 w3
      have q4 := bounds_i64 w4
      have q6 := bounds_i64 w6
      have q7 := bounds_i64 w7
      have q8 := bounds_u32 w8
      exact ⟨⟨a0, a1, a2, a3, a4, bs, a6, a7, a8⟩, A, m, c, rfl, hL, hnc, hcm, ⟨q8.1, by show a8 < 4294967296; omega⟩, ⟨q0, q1, q2, q3, q4, q6, q7⟩⟩
end Go.Proofs.Ytcjcmjkpfijhdaa
