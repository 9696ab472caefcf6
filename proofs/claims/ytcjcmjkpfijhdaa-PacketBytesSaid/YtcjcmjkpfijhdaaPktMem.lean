/-
  A packet in memory: its block read whole, and bytes that grow beside it.
-/
import Derived.Test.YtcjcmjkpfijhdaaPktRef
import Derived.Test.YtcjcmjkpfijhdaaRunsEnc
import Derived.Test.YtcjcmjkpfijhdaaRunsRef
import Derived.Test.YtcjcmjkpfijhdaaRefFour
import Derived.Test.YtcjcmjkpfijhdaaCrc
namespace Go.Proofs.Ytcjcmjkpfijhdaa
open Go.RowKit
set_option linter.unusedVariables false
theorem info_packet : (Try.prog.info? 25).map (·.size) = some 9 := by kernel_rfl
/-- The whole packet is read. -/
theorem wpP_load {ops : Array Oper} {rest : List Oper} {o : Oper} {a : Act} {w : World} {Q : Exit → Act → World → Prop} (hgd : o.guard = none) (x : Operand) (ho : o.op = .load 25 x)
    (g : Nat) (hx : a.eval x = .pointer (some ⟨g, 0, none⟩)) (p : Pkt) (v : Value) (hg : Arr 25 w g (p.row v)) (h : wpList Try.prog ops Q rest (a.put o.dst (p.val v)) w) : wpList Try.prog ops Q (o :: rest) a w :=
  wpList_load_row hgd 25 x ho g hx 25 (p.row v).toArray (0, 0) _ hg Try.underlying25 rfl info_packet h
theorem results_P {fn : Func} {p : Tmp} (h : fn.results = #[.cell p 25]) (tmps : Array Value) (w : World) (g : Nat) (hp : tmps.getD p undef = .pointer (some ⟨g, 0, none⟩)) (q : Pkt) (v : Value) (hg : Arr 25 w g (q.row v)) :
    (results fn tmps).run Try.prog w = .ok (q.val v) w :=
  results_cell_row h tmps w g 25 (q.row v).toArray (0, 0) _ hp hg Try.underlying25 rfl info_packet
theorem results_P2 {fn : Func} {p q : Tmp} (h : fn.results = #[.cell p 25, .tmp q]) (tmps : Array Value) (w : World) (g : Nat) (hp : tmps.getD p undef = .pointer (some ⟨g, 0, none⟩)) (u : Value) (hv : tmps.getD q undef = u) (k : Pkt) (v : Value) (hg : Arr 25 w g (k.row v)) :
    (results fn tmps).run Try.prog w = .ok (.tuple #[k.val v, u]) w := by
  have hp' : tmps[p]?.getD undef = .pointer (some ⟨g, 0, none⟩) := by simpa using hp
  have hv' : tmps[q]?.getD undef = u := by simpa using hv
  have hl := run_loadVar_row (P := Try.prog) w g 25 25 (k.row v).toArray (0, 0) _ hg Try.underlying25 rfl info_packet
  simp [results, h, hp', hv', asAddr, hl]
/-- Bytes that grow beside a packet's block. -/
structure Grow (w wx : World) (g : Nat) (R : List Value) (A : Option Addr) (n c : Nat) (l : List UInt8) : Prop where
  own : OwnB wx w.heap.size A n c l
  arr : Arr 25 wx g R
  bel : Below w.heap.size w wx
section
variable {w wx w' : World} {g n c n' c' : Nat} {R : List Value} {A A' : Option Addr} {l l' : List UInt8}
theorem Grow.put (h : Grow w wx g R A n c l) (hk : Keeps (Mine A n c) wx w') (ho : OwnB w' w.heap.size A' n' c' l') : Grow w w' g R A' n' c' l' :=
  ⟨ho, h.arr.keeps hk fun e => h.own.ne_blk h.arr (by decide) e, h.bel.trans (hk.belowOwn h.own h.bel.size)⟩
theorem Grow.below (h : Grow w wx g R A n c l) (hb : Below wx.heap.size wx w') : Grow w w' g R A n c l := ⟨h.own.below hb, h.arr.belowN hb, Below_step h.bel hb⟩
theorem Grow.drew (h : Grow w wx g R A n c l) : Grow w wx.drew g R A n c l := ⟨h.own.drew, h.arr.drew, ⟨h.bel.os, h.bel.tape, h.bel.output, h.bel.size, h.bel.block⟩⟩
theorem Grow.size (h : Grow w wx g R A n c l) : w.heap.size ≤ wx.heap.size := h.bel.size
end
theorem runs_Encode_v {A : Option Addr} {n c B : Nat} {l x : List UInt8} {w : World} (hA : LiesB w B A n l) (hB : B ≤ w.heap.size) (hn : n ≤ 10000) (hx : Runs.enc 0 l = x) :
    Calls Try.prog 23 #[.slice A n c] w fun e w' => ∃ A' n' c', e = .returned (.slice A' n' c') ∧ OwnB w' w.heap.size A' n' c' x ∧ Below w.heap.size w w' := by subst hx; exact runs_Encode A n c B l w hA hB hn
theorem num_Put_v {A : Option Addr} {n c base : Nat} {l x : List UInt8} {v : Int} {w : World} (hA : OwnB w base A n c l) (hbase : base ≤ w.heap.size) (hn : n ≤ 1000000) (lo : -9223372036854775808 ≤ v) (hi : v ≤ 9223372036854775807) (hx : l ++ Var.put (Var.zig v) = x) :
    Calls Try.prog 21 #[.slice A n c, .int .i64 v] w fun e w' => ∃ A' n' c', e = .returned (.slice A' n' c') ∧ OwnB w' base A' n' c' x ∧ Keeps (Mine A n c) w w' := by subst hx; exact num_Put A n c base l v w hA hbase hn lo hi
end Go.Proofs.Ytcjcmjkpfijhdaa
