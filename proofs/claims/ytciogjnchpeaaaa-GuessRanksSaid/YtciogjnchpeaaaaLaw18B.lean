/-
  Law 18: how is guessed, cut; a block of it read and written whole.
-/
import Derived.Test.YtciogjnchpeaaaaLaw18A
import Derived.Test.YtciogjnchpeaaaaPredRefChain
namespace Go.Proofs.Ytciogjnchpeaaaa
open Go.RowKit
set_option maxRecDepth 10000
set_option linter.unusedVariables false
open Prd
theorem wpZG_load {ops : Array Oper} {rest : List Oper} {o : Oper} {a : Act} {w : World} {Q : Exit → Act → World → Prop} (hgd : Region.wanted o (yielded ops a.tmps) = true) (x : Operand) (ho : o.op = .load 25 x)
    (g : Nat) (hx : a.eval x = .pointer (some ⟨g, 0, none⟩)) (b : By) (v : Value) (hg : Arr 25 w g (b.row v)) (h : wpList Try.prog ops Q rest (a.put o.dst (b.val v)) w) : wpList Try.prog ops Q (o :: rest) a w :=
  wpList_step fun K hK => by
    rw [if_pos hgd]
    exact wp_load_row 25 x ho g hx 25 (b.row v).toArray (0, 0) _ hg Try.underlying25 rfl info_rby (hK _ _ h)
theorem By.row_one (b : By) (A : Option Addr) (n c : Nat) : ∀ u ∈ b.row (.slice A n c), u.oneCell' = true := by
  intro u hu
  simp only [By.row, List.mem_cons, List.not_mem_nil, or_false] at hu
  rcases hu with rfl | rfl | rfl <;> rfl
theorem wpZ_store {ops : Array Oper} {rest : List Oper} {o : Oper} {a : Act} {w : World} {Q : Exit → Act → World → Prop} (hgd : o.guard = none) (x y : Operand) (ho : o.op = .store 25 x y)
    (g : Nat) (b' : By) (A' : Option Addr) (n' c' : Nat) (hx : a.eval x = .pointer (some ⟨g, 0, none⟩)) (hy : a.eval y = b'.val (.slice A' n' c')) (b : By) (v : Value) (hg : Arr 25 w g (b.row v))
    (h : ∀ w', Arr 25 w' g (b'.row (.slice A' n' c')) → Keeps (fun k => k = g) w w' → w'.heap.size = w.heap.size → wpList Try.prog ops Q rest (a.put o.dst undef) w') : wpList Try.prog ops Q (o :: rest) a w :=
  wpList_store_row hgd 25 x y ho g (b'.row (.slice A' n' c')).toArray hx hy 25 (b.row v).toArray hg (by rw [info_rby]; rfl) rfl (Array.all_eq_true_iff_forall_mem.2 fun u hu => By.row_one b' A' n' c' u (by simpa using hu))
    (h _ (setRow_heap w g _ _ 25 _ hg) ⟨rfl, rfl, rfl, by simp, fun k _ hk => setRow_other w g k _ hk⟩ (by simp))
/-- With fewer of the table. -/
def Prd.By.cut (b : By) (k : Nat) : By := { b with table := b.table.take k }
/-- How is guessed in its block, whole, inside a region that draws. -/
def WholeZ (g : Nat) (v : Value) (w : World) : Prop := (Instr.loadAt 25 (.pointer (some ⟨g, 0, none⟩))).run Try.prog w = .ok v w
theorem Arr.wholeZ {w : World} {g : Nat} {b : By} {v : Value} (h : Arr 25 w g (b.row v)) : WholeZ g (b.val v) w := by
  have := run_loadVar_row (P := Try.prog) w g 25 25 (b.row v).toArray (0, 0) _ h Try.underlying25 rfl info_rby
  unfold WholeZ
  simp only [Instr.loadAt, Instr.sureAddr, Sem.run_bind, Sem.run_pure, Result.andThen_ok, this]
  rfl
theorem exec_wholeZ {o : Oper} {a : Act} {x : Operand} {g : Nat} {v : Value} {w : World} (h : WholeZ g v w) (ho : o.op = .load 25 x) (hx : a.eval x = .pointer (some ⟨g, 0, none⟩)) :
    (execOp a.eval o).run Try.prog w = .ok (.value v) w := by
  unfold execOp
  unfold WholeZ at h
  simp only [ho, hx, Sem.run_bind, h, Result.andThen_ok, Sem.run_pure]
end Go.Proofs.Ytciogjnchpeaaaa
