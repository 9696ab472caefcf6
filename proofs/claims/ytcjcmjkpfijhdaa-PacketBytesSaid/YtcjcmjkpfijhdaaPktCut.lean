/-
  quintainlaw15.Cut; a packet's variable made and given its first value.
-/
import Derived.Test.YtcjcmjkpfijhdaaPktDec
import Derived.Test.YtcjcmjkpfijhdaaShort
namespace Go.Proofs.Ytcjcmjkpfijhdaa
open Go.RowKit
set_option linter.unusedVariables false
theorem Pkt.row_oneV (p : Pkt) (A : Option Addr) (n c : Nat) : ∀ u ∈ p.row (.slice A n c), u.oneCell' = true := by
  intro u hu
  simp only [Pkt.row, List.mem_cons, List.not_mem_nil, or_false] at hu
  rcases hu with rfl | rfl | rfl | rfl | rfl | rfl | rfl | rfl | rfl <;> rfl
/-- A packet's variable that was just made is given its first value. -/
theorem wpP_init {ops : Array Oper} {rest : List Oper} {o : Oper} {a : Act} {w : World} {cs : Array Value} {T : TypeId} {Q : Exit → Act → World → Prop} (hgd : o.guard = none) (x y : Operand) (ho : o.op = .store 25 x y)
    (p : Pkt) (A : Option Addr) (n c : Nat) (hx : a.eval x = .pointer (some ⟨w.heap.size, 0, none⟩)) (hy : a.eval y = p.val (.slice A n c)) (hcs : cs.size = 9)
    (h : ∀ w', Arr T w' w.heap.size (p.row (.slice A n c)) → Below w.heap.size w w' → w'.heap.size = w.heap.size + 1 → wpList Try.prog ops Q rest (a.put o.dst undef) w') : wpList Try.prog ops Q (o :: rest) a (w.alloc (.cells cs T)) :=
  wpA_init hgd 25 x y ho (p.row (.slice A n c)) hx hy 9 info_packet hcs rfl (p.row_oneV A n c) h
/-- The whole packet is written. -/
theorem wpP_put {ops : Array Oper} {rest : List Oper} {o : Oper} {a : Act} {w : World} {Q : Exit → Act → World → Prop} (hgd : o.guard = none) (x y : Operand) (ho : o.op = .store 25 x y)
    (g : Nat) (hx : a.eval x = .pointer (some ⟨g, 0, none⟩)) (p : Pkt) (A : Option Addr) (n c : Nat) (hy : a.eval y = p.val (.slice A n c)) {R : List Value} (hg : Arr 25 w g R) (hR : R.length = 9)
    (h : ∀ w', Arr 25 w' g (p.row (.slice A n c)) → Keeps (fun k => k = g) w w' → w'.heap.size = w.heap.size → wpList Try.prog ops Q rest (a.put o.dst undef) w') : wpList Try.prog ops Q (o :: rest) a w :=
  wpA_store hgd 25 x y ho g (p.row (.slice A n c)) hx hy 25 _ hg 9 info_packet hR rfl (p.row_oneV A n c) h
/-- The whole packet is read, under a guard that lets it. -/
theorem wpPG_load {ops : Array Oper} {rest : List Oper} {o : Oper} {a : Act} {w : World} {Q : Exit → Act → World → Prop} (hgd : Region.wanted o (yielded ops a.tmps) = true) (x : Operand) (ho : o.op = .load 25 x)
    (g : Nat) (hx : a.eval x = .pointer (some ⟨g, 0, none⟩)) (p : Pkt) (v : Value) (hg : Arr 25 w g (p.row v)) (h : wpList Try.prog ops Q rest (a.put o.dst (p.val v)) w) : wpList Try.prog ops Q (o :: rest) a w :=
  wpList_step fun K hK => by
    rw [if_pos hgd]
    exact wp_load_row 25 x ho g hx 25 (p.row v).toArray (0, 0) _ hg Try.underlying25 rfl info_packet (hK _ _ h)
/-- A packet's block, read whole inside a region that draws. -/
def WholeP (g : Nat) (v : Value) (w : World) : Prop := (Instr.loadAt 25 (.pointer (some ⟨g, 0, none⟩))).run Try.prog w = .ok v w
theorem Arr.wholeP {w : World} {g : Nat} {p : Pkt} {v : Value} (h : Arr 25 w g (p.row v)) : WholeP g (p.val v) w := by
  have := run_loadVar_row (P := Try.prog) w g 25 25 (p.row v).toArray (0, 0) _ h Try.underlying25 rfl info_packet
  unfold WholeP
  simp only [Instr.loadAt, Instr.sureAddr, Sem.run_bind, Sem.run_pure, Result.andThen_ok, this]
theorem exec_wholeP {o : Oper} {a : Act} {x : Operand} {g : Nat} {v : Value} {w : World} (h : WholeP g v w) (ho : o.op = .load 25 x) (hx : a.eval x = .pointer (some ⟨g, 0, none⟩)) :
    (execOp a.eval o).run Try.prog w = .ok (.value v) w := by
  unfold execOp
  unfold WholeP at h
  simp only [ho, hx, Sem.run_bind, h, Result.andThen_ok, Sem.run_pure]
theorem step_loadP {ops : Array Oper} {o : Oper} {a : Act} {w : World} {K : Act → World → Prop} {Q : Exit → Act → World → Prop} {E : Prop} (hgd : o.guard = none) (x : Operand) (ho : o.op = .load 25 x)
    (g : Nat) (hx : a.eval x = .pointer (some ⟨g, 0, none⟩)) (p : Pkt) (v : Value) (hg : Arr 25 w g (p.row v)) (h : K (a.put o.dst (p.val v)) w) :
    if Region.wanted o (yielded ops a.tmps) = true then Oper.wp Try.prog o a w K Q else E := by
  have hw : Region.wanted o (yielded ops a.tmps) = true := by simp [Region.wanted, hgd]
  rw [if_pos hw]
  exact wp_load_row 25 x ho g hx 25 (p.row v).toArray (0, 0) _ hg Try.underlying25 rfl info_packet h
theorem step_putP {ops : Array Oper} {o : Oper} {a : Act} {w : World} {K : Act → World → Prop} {Q : Exit → Act → World → Prop} {E : Prop} (hgd : o.guard = none) (x y : Operand) (ho : o.op = .store 25 x y)
    (g : Nat) (hx : a.eval x = .pointer (some ⟨g, 0, none⟩)) (p : Pkt) (A : Option Addr) (n c : Nat) (hy : a.eval y = p.val (.slice A n c)) {R : List Value} (hg : Arr 25 w g R) (hR : R.length = 9)
    (h : ∀ w', Arr 25 w' g (p.row (.slice A n c)) → Keeps (fun k => k = g) w w' → w'.heap.size = w.heap.size → K (a.put o.dst undef) w') :
    if Region.wanted o (yielded ops a.tmps) = true then Oper.wp Try.prog o a w K Q else E := by
  have hw : Region.wanted o (yielded ops a.tmps) = true := by simp [Region.wanted, hgd]
  rw [if_pos hw]
  exact wp_store_row 25 x y ho g (p.row (.slice A n c)).toArray hx hy 25 R.toArray hg (by rw [info_packet]; rfl) (by simp [hR]) (Array.all_eq_true_iff_forall_mem.2 fun v hv => p.row_oneV A n c v (by simpa using hv))
    (h _ (setRow_heap w g _ _ 25 _ hg) ⟨rfl, rfl, rfl, by simp, fun k _ hk => setRow_other w g k _ hk⟩ (by simp))
/-- The packet with fewer presses. -/
@[reducible] def Pkt.cut (p : Pkt) (k : Nat) : Pkt := { p with press := p.press.take k }
set_option maxHeartbeats 1000000 in
set_option maxRecDepth 10000 in
theorem law_Cut (p : Pkt) {A : Option Addr} {n c : Nat} {w : World} (hnc : n ≤ c) :
    Calls Try.prog 11 #[p.val (.slice A n c)] w fun e w' => e = .returned ((p.cut 40).val (.slice A (min 40 n) c)) ∧ Below w.heap.size w w' := by
  obtain ⟨kind, src, dst, id, first, press, ack, frame, sum⟩ := p
  have HC := hide hnc
  clear hnc
  have HP : Hid (Arr 25 (w.alloc (.cells (Pkt.row ⟨kind, src, dst, id, first, press, ack, frame, sum⟩ (.slice A n c)).toArray 25)) w.heap.size (Pkt.row ⟨kind, src, dst, id, first, press, ack, frame, sum⟩ (.slice A n c))) := Arr.new 25 w _ _ rfl
  have HB : Hid (Below w.heap.size w (w.alloc (.cells (Pkt.row ⟨kind, src, dst, id, first, press, ack, frame, sum⟩ (.slice A n c)).toArray 25))) := Below_new _ _
  have HZ : Hid ((w.alloc (.cells (Pkt.row ⟨kind, src, dst, id, first, press, ack, frame, sum⟩ (.slice A n c)).toArray 25)).heap.size = w.heap.size + 1) := World.size_alloc _ _
  go_enter Try.func11, Try.ntmps11
  go_upto_region 1 with fail
  simp only [Pkt.row] at HP HB HZ
  generalize World.alloc w _ = wx at HP HB HZ ⊢
  have HP2 : Hid (Arr 25 (wx.alloc (.cells (Pkt.row ⟨0, 0, 0, 0, 0, [], 0, 0, 0⟩ (.slice none 0 0)).toArray 25)) (w.heap.size + 1) (Pkt.row ⟨0, 0, 0, 0, 0, [], 0, 0, 0⟩ (.slice none 0 0))) := by show Arr _ _ _ _; rw [← HZ.out]; exact Arr.new 25 wx _ _ rfl
  have HP1 := hide (HP.out.belowN (Below_new wx (.cells (Pkt.row ⟨0, 0, 0, 0, 0, [], 0, 0, 0⟩ (.slice none 0 0)).toArray 25)))
  have HB1 := hide (Below_step HB.out (Below_new wx (.cells (Pkt.row ⟨0, 0, 0, 0, 0, [], 0, 0, 0⟩ (.slice none 0 0)).toArray 25)))
  simp only [Pkt.row] at HP2 HP1 HB1
  generalize World.alloc wx _ = wy at HP2 HP1 HB1 ⊢
  clear HP HB HZ
  have c5 := HP1.out.cell (j := 5) (by simp)
  have f5 := HP1.out.frozen 5
  simp only [List.getElem_cons_zero, List.getElem_cons_succ] at c5
  go_wp2_with fail
  refine Calls.mono (law_Short A n c 40 40 _ HC.out rfl (by omega)) ?_
  rintro e w1 ⟨rfl, rfl⟩
  go_upto_region 2 with fail
  have HP1b := hide (HP1.out.set 5 (.slice A (min 40 n) c))
  have HP2b := hide (HP2.out.keeps (Keeps.setCell wy ⟨w.heap.size, 5, none⟩ (.slice A (min 40 n) c)) (by show ¬ _ = w.heap.size; omega))
  have HB1b := hide (HB1.out.trans ((Keeps.setCell wy ⟨w.heap.size, 5, none⟩ (.slice A (min 40 n) c)).below HB1.out.size (fun k hk => by show ¬ k = w.heap.size; omega)))
  simp only [List.set_cons_succ, List.set_cons_zero] at HP1b
  generalize World.setCell wy _ _ = wz at HP1b HP2b HB1b ⊢
  go_wp2_with (first | (refine wpP_load rfl (.tmp 1) rfl w.heap.size rfl (Pkt.cut ⟨kind, src, dst, id, first, press, ack, frame, sum⟩ 40) (.slice A (min 40 n) c) HP1b.out ?_) | (refine wpP_put rfl (.tmp 2) (.tmp 7) rfl (w.heap.size + 1) rfl (Pkt.cut ⟨kind, src, dst, id, first, press, ack, frame, sum⟩ 40) A (min 40 n) c rfl HP2b.out rfl ?_; intro w5 ha5 hk5 hs5))
  refine bodyPost_ret (results_P (fn := Try.f11) rfl _ _ (w.heap.size + 1) rfl (Pkt.cut ⟨kind, src, dst, id, first, press, ack, frame, sum⟩ 40) (.slice A (min 40 n) c) ha5) rfl ?_
  exact ⟨rfl, HB1b.out.trans (hk5.below HB1b.out.size (fun k hk => by omega))⟩
/-- Decode, told by whether the bytes are a packet's. -/
theorem packet_Decode_yes (p : Pkt) {A : Option Addr} {n c B : Nat} {b : List UInt8} {w : World} (h : Pkt.Is b p) (hA : LiesB w B A n b) (hB : B ≤ w.heap.size) (hnc : n ≤ c) (hn : n ≤ 1000000) :
    Calls Try.prog 16 #[.slice A n c] w fun e w' => ∃ A' n' c', e = .returned (.tuple #[p.val (.slice A' n' c'), .int .i64 0]) ∧ LiesB w' w'.heap.size A' n' p.press ∧ n' ≤ c' ∧ n' ≤ 32 ∧ Below w.heap.size w w' := by
  refine (packet_Decode hA hB hnc hn).mono ?_
  rintro e w' ⟨hs, hb⟩
  cases hs with
  | yes q A n c h2 hl hc hn => obtain rfl := Pkt.is_inj h h2; exact ⟨A, n, c, rfl, hl, hc, hn, hb⟩
  | no h2 => exact absurd h (h2 p)
theorem packet_Decode_no {A : Option Addr} {n c B : Nat} {b : List UInt8} {w : World} (h : ∀ p, ¬ Pkt.Is b p) (hA : LiesB w B A n b) (hB : B ≤ w.heap.size) (hnc : n ≤ c) (hn : n ≤ 1000000) :
    Calls Try.prog 16 #[.slice A n c] w fun e w' => e = .returned (.tuple #[Pkt.zero.val (.slice none 0 0), .int .i64 1]) ∧ Below w.heap.size w w' := by
  refine (packet_Decode hA hB hnc hn).mono ?_
  rintro e w' ⟨hs, hb⟩
  cases hs with
  | yes q A n c h2 hl hc hn => exact absurd h2 (h q)
  | no h2 => exact ⟨rfl, hb⟩
end Go.Proofs.Ytcjcmjkpfijhdaa
