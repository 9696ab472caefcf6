/-
  Law 18: Cut, Of.
-/
import Derived.Test.YtciogjnchpeaaaaPredFirst
import Derived.Test.YtciogjnchpeaaaaShort
namespace Go.Proofs.Ytciogjnchpeaaaa
open Go.RowKit
set_option maxRecDepth 10000
set_option linter.unusedVariables false
open Prd
theorem results_Y {fn : Func} {p : Tmp} (h : fn.results = #[.cell p 39]) (tmps : Array Value) (w : World) (g : Nat) (hp : tmps.getD p undef = .pointer (some ⟨g, 0, none⟩)) (q : By) (v : Value) (hg : Arr 39 w g (q.row v)) :
    (results fn tmps).run Try.prog w = .ok (q.val v) w :=
  results_cell_row h tmps w g 39 (q.row v).toArray (0, 0) _ hp hg Try.underlying39 rfl info_by
theorem results_Z {fn : Func} {p : Tmp} (h : fn.results = #[.cell p 25]) (tmps : Array Value) (w : World) (g : Nat) (hp : tmps.getD p undef = .pointer (some ⟨g, 0, none⟩)) (q : By) (v : Value) (hg : Arr 25 w g (q.row v)) :
    (results fn tmps).run Try.prog w = .ok (q.val v) w :=
  results_cell_row h tmps w g 25 (q.row v).toArray (0, 0) _ hp hg Try.underlying25 rfl info_rby
set_option maxHeartbeats 1000000 in
theorem law_Of (b : By) (A0 : Option Addr) (n0 c0 : Nat) (w : World) : Calls Try.prog 14 #[b.val (.slice A0 n0 c0)] w fun e w' => e = .returned (b.val (.slice A0 n0 c0)) ∧ Below w.heap.size w w' := by
  rw [show b.val (.slice A0 n0 c0) = .agg #[.int .i64 b.kind, .int .i64 b.order, .slice A0 n0 c0] from rfl]
  go_enter Try.func14, Try.ntmps14
  go_wp2_with fail
  have a2 := Arr.new 39 (World.alloc w (.cells #[.int .i64 b.kind, .int .i64 b.order, .slice A0 n0 c0] 25)) #[.int .i64 b.kind, .int .i64 b.order, .slice A0 n0 c0] _ rfl
  rw [World.size_alloc] at a2
  exact bodyPost_ret (results_Y (fn := Try.f14) rfl _ _ _ rfl b (.slice A0 n0 c0) a2) rfl ⟨rfl, Below_step (Below_new _ _) (Below_new _ _)⟩
set_option maxHeartbeats 1000000 in
theorem law_Cut (b : By) (A0 : Option Addr) (n0 c0 : Nat) (w : World) (hc : n0 ≤ c0) : Calls Try.prog 9 #[b.val (.slice A0 n0 c0)] w fun e w' => e = .returned (b.val (.slice A0 (min 40 n0) c0)) ∧ Below w.heap.size w w' := by
  rw [show b.val (.slice A0 n0 c0) = .agg #[.int .i64 b.kind, .int .i64 b.order, .slice A0 n0 c0] from rfl]
  go_enter Try.func9, Try.ntmps9
  go_wp2_with fail
  refine Calls.mono (law_Short A0 n0 c0 40 40 _ hc rfl (by omega)) ?_
  rintro e w1 ⟨rfl, rfl⟩
  go_wp2_with fail
  have a2 := Arr.new 25 (World.alloc w (.cells #[.int .i64 b.kind, .int .i64 b.order, .slice A0 (min 40 n0) c0] 25)) #[.int .i64 b.kind, .int .i64 b.order, .slice A0 (min 40 n0) c0] _ rfl
  rw [World.size_alloc] at a2
  exact bodyPost_ret (results_Z (fn := Try.f9) rfl _ _ _ rfl b (.slice A0 (min 40 n0) c0) a2) rfl ⟨rfl, Below_step (Below_new _ _) (Below_new _ _)⟩
theorem wpYG_load {ops : Array Oper} {rest : List Oper} {o : Oper} {a : Act} {w : World} {Q : Exit → Act → World → Prop} (hgd : Region.wanted o (yielded ops a.tmps) = true) (x : Operand) (ho : o.op = .load 39 x)
    (g : Nat) (hx : a.eval x = .pointer (some ⟨g, 0, none⟩)) (b : By) (v : Value) (hg : Arr 39 w g (b.row v)) (h : wpList Try.prog ops Q rest (a.put o.dst (b.val v)) w) : wpList Try.prog ops Q (o :: rest) a w :=
  wpList_step fun K hK => by
    rw [if_pos hgd]
    exact wp_load_row 39 x ho g hx 39 (b.row v).toArray (0, 0) _ hg Try.underlying39 rfl info_by (hK _ _ h)
end Go.Proofs.Ytciogjnchpeaaaa
