/-
  How is guessed, come in by value.
-/
import Derived.Test.YtciogjnchpeaaaaOpen
import Derived.Test.YtciogjnchpeaaaaPredP
import Derived.Deep.Fields
namespace Go.Proofs.Ytciogjnchpeaaaa
open Go.ChangeShapes Go.WideShapes Go.ChangeAt Go.RowKit Go.Deep
set_option maxRecDepth 10000
set_option linter.unusedVariables false
/-- Of 64 bits. -/
def Is64 (x : Int) : Prop := -9223372036854775808 ≤ x ∧ x ≤ 9223372036854775807
set_option maxHeartbeats 1000000 in
theorem open_by {H : Type} {enc : TypeId × Value → H} {w : World} {r : Reach} {b0 : Nat} {v : Value} {d : DataW H} {ps : List MemPlace}
    (hv : Value.okWide Try.prog w r b0 25 v) (h : DataW.Trod enc Try.prog w 0 (fun _ => true) true 25 v d ps) :
    ∃ (q : Prd.By) (A : Option Addr) (n c : Nat), v = q.val (.slice A n c) ∧ LiesB w w.heap.size A n q.table ∧ n ≤ c ∧ c ≤ maxLen ∧ Is64 q.kind ∧ Is64 q.order := by
  have hs := Try.underlying25
  obtain ⟨cs, rfl, hsz⟩ := okWide_struct hs hv
  have hC : Try.prog.cellsOf 25 = 3 := by kernel_rfl
  obtain ⟨l⟩ := cs
  match l, hsz.trans hC with
  | [c0, c1, c2], _ =>
    obtain ⟨fuel, hf⟩ := h
    obtain ⟨xs, n, _, hx, _, hlen, hg⟩ := DataW.trod_struct hs hf
    have hone := hone_of (P := Try.prog) (fs := (match Try.prog.underlying 25 with | some (.struct fs) => fs | _ => #[])) (by kernel_rfl)
    rw [hs] at hone
    match xs, hlen with
    | [y0, y1, y2], _ =>
      obtain ⟨o0, k0⟩ := hone 0 _ rfl
      obtain ⟨o1, k1⟩ := hone 1 _ rfl
      obtain ⟨o2, k2⟩ := hone 2 _ rfl
      have g0 := hg 0 _ rfl
      have g1 := hg 1 _ rfl
      have g2 := hg 2 _ rfl
      rw [o0, k0] at g0
      rw [o1, k1] at g1
      rw [o2, k2] at g2
      obtain ⟨a0, e0, -, w0⟩ := DataW.trod_int Try.underlying3 g0
      obtain ⟨a1, e1, -, w1⟩ := DataW.trod_int Try.underlying3 g1
      simp only [Value.cells, List.drop_zero, List.drop_succ_cons, List.take_succ_cons, List.take_zero, List.cons.injEq, and_true] at e0 e1
      subst e0 e1
      have hsl : ∃ A n c, c2 = .slice A n c := by
        rcases open_slice Try.underlying23 g2 with ⟨h0, _⟩ | ⟨a, len, cap, m, n', D, Pl, hcs, _⟩
        · simp only [Value.cells, List.drop_zero, List.drop_succ_cons, List.take_succ_cons, List.take_zero, List.cons.injEq, and_true] at h0
          exact ⟨_, _, _, h0⟩
        · simp only [Value.cells, List.drop_zero, List.drop_succ_cons, List.take_succ_cons, List.take_zero, List.cons.injEq, and_true] at hcs
          exact ⟨_, _, _, hcs⟩
      obtain ⟨A, m, c, rfl⟩ := hsl
      obtain ⟨bs, hL, hnc, hcm⟩ := open_bytes (A := A) (n := m) (c := c) (x := y2) g2
      have q0 := bounds_i64 w0
      have q1 := bounds_i64 w1
      exact ⟨⟨a0, a1, bs⟩, A, m, c, rfl, hL, hnc, hcm, q0, q1⟩
end Go.Proofs.Ytciogjnchpeaaaa
