/-
  Rows of several cells that grow; a player begun.
  The other players; a mail written; what a player is told.
  Numbers of any length: the plain text of a number, and what is read back.
  Runs, plain.
  num.Get, quintainref1.Get.
  Runs read back, plain.
  Runs there and back, plain.
  Runs, plain: what is read is what was written; its size.
  Bits of numbers of 8 and 32 bits, as vectors of bits; the plain sums (CRC-32) and their laws.
-/
import Derived.Test.YtbcgffgiifminaaStand3
import Derived.Maps.AppendAt
namespace Go.Proofs.Ytbcgffgiifminaa
open Go.RowKit
set_option maxRecDepth 10000
set_option linter.unusedVariables false
/-- A slice's type, its elements' type, their zero value, cells and bytes. -/
structure ElemN (t e : TypeId) (z : Value) (sz nb : Nat) : Prop where
  under : Try.prog.underlying t = some (.slice e)
  info : (Try.prog.info? e).map (fun i => (i.zero, i.size, i.bytes)) = some (some z, sz, nb)
  zs : z.cells.size = sz
  pos : 0 < sz
theorem run_appendN {t e : TypeId} {z : Value} {sz nb : Nat} (E : ElemN t e z sz nb) (w : World) (base : Nat) (ty : TypeId) (A : Option Addr) (n c : Nat) (l : List Value) (hown : w.ownsRow base e sz (.slice A n c) n l)
    (B : Nat) (A2 : Option Addr) (c2 : Nat) (l2 : List Value) (hm : l2.length = sz) (hr : Lies w B A2 l2) (h1 : ∀ u ∈ l2, u.oneCell' = true) (hsum : n + 1 ≤ 281474976710656) (hbytes : (n + 1) * nb ≤ 140737488355328) (hbase : base ≤ w.heap.size) :
    ∃ g' c' w', (Builtin.append_ #[t, t] ty #[.slice A n c, .slice A2 1 c2]).run Try.prog w = .ok (.slice (some ⟨g', 0, none⟩) (n + 1) c') w' ∧ w'.ownsRow base e sz (.slice (some ⟨g', 0, none⟩) (n + 1) c') (n + 1) (l ++ l2) ∧
      w.grownBy w' (Value.slice A n c).ownBlock ∧ (some g' = (Value.slice A n c).ownBlock ∨ g' = w.heap.size) := by
  have hpos := E.pos
  cases hq : Try.prog.info? e with
  | none => have := E.info; simp [hq] at this
  | some i =>
    have hi := E.info
    rw [hq] at hi
    simp only [Option.map_some, Option.some.injEq, Prod.mk.injEq] at hi
    obtain ⟨hz, hs, hb⟩ := hi
    obtain ⟨b, off, rfl, hb2, hc⟩ := hr (by intro h; subst h; simp at hm; omega)
    have hadd : ∀ j, (⟨b, off, none⟩ : Addr).add j = ⟨b, off + j, none⟩ := fun j => by unfold Addr.add; split <;> simp_all
    obtain ⟨v', w', hrun, h2, h3, _, h5⟩ := run_append_own_at (P := Try.prog) w base t ty e i z sz nb E.under hq hz hs hb E.zs E.pos _ n _ hown ⟨b, off, none⟩ 1 c2 l2 (by rw [hm, Nat.one_mul])
      (fun j u hu => by rw [hadd]; exact hc j u hu) h1 (by simp only [maxLen]; omega) hbytes hbase
    rcases h2.2 with ⟨hv, hx⟩ | ⟨g, cap, cur, hv, _⟩
    · omega
    · subst hv
      refine ⟨g, cap, w', hrun, h2, h3, ?_⟩
      rcases h5 with h5 | h5
      · exact .inl h5
      · right; simpa [Value.ownBlock] using h5
theorem wpN_append {t e : TypeId} {z : Value} {sz nb : Nat} (E : ElemN t e z sz nb) {ops : Array Oper} {rest : List Oper} {o : Oper} {a : Act} {w : World} {Q : Exit → Act → World → Prop} (hgd : o.guard = none) (s x : Operand)
    (ho : o.op = .call { callee := .builtin .append, args := #[s, x], argTypes := #[t, t] })
    (base : Nat) (A : Option Addr) (n c : Nat) (l : List Value) (hs : a.eval s = .slice A n c) (hown : w.ownsRow base e sz (.slice A n c) n l)
    (B : Nat) (A2 : Option Addr) (c2 : Nat) (l2 : List Value) (hx : a.eval x = .slice A2 1 c2) (hm : l2.length = sz) (hr : Lies w B A2 l2) (h1 : ∀ u ∈ l2, u.oneCell' = true) (hsum : n + 1 ≤ 281474976710656) (hbytes : (n + 1) * nb ≤ 140737488355328) (hbase : base ≤ w.heap.size)
    (h : ∀ g' c' w', w'.ownsRow base e sz (.slice (some ⟨g', 0, none⟩) (n + 1) c') (n + 1) (l ++ l2) → Keeps (Mine A n c) w w' → (some g' = (Value.slice A n c).ownBlock ∨ g' = w.heap.size) →
      wpList Try.prog ops Q rest (a.put o.dst (.slice (some ⟨g', 0, none⟩) (n + 1) c')) w') : wpList Try.prog ops Q (o :: rest) a w := by
  obtain ⟨g', c', w', hrun, h2, h3, h4⟩ := run_appendN E w base o.type A n c l hown B A2 c2 l2 hm hr h1 hsum hbytes hbase
  refine wpList_plain hgd fun K hK => ?_
  unfold Oper.wp execOp
  simp only [ho, resolve, invoke, builtin, Sem.run_bind, Sem.run_pure, Result.andThen_ok, List.map_toArray, List.map_cons, List.map_nil, hs, hx, hrun]
  exact hK _ _ (h g' c' w' h2 (Keeps.grown h3) h4)
theorem step_appendN {t e : TypeId} {z : Value} {sz nb : Nat} (E : ElemN t e z sz nb) {ops : Array Oper} {o : Oper} {a : Act} {w : World} {K : Act → World → Prop} {Q : Exit → Act → World → Prop} {F : Prop} (hg : o.guard = none) (s x : Operand)
    (ho : o.op = .call { callee := .builtin .append, args := #[s, x], argTypes := #[t, t] })
    (base : Nat) (A : Option Addr) (n c : Nat) (l : List Value) (hs : a.eval s = .slice A n c) (hown : w.ownsRow base e sz (.slice A n c) n l)
    (B : Nat) (A2 : Option Addr) (c2 : Nat) (l2 : List Value) (hx : a.eval x = .slice A2 1 c2) (hm : l2.length = sz) (hr : Lies w B A2 l2) (h1 : ∀ u ∈ l2, u.oneCell' = true) (hsum : n + 1 ≤ 281474976710656) (hbytes : (n + 1) * nb ≤ 140737488355328) (hbase : base ≤ w.heap.size)
    (h : ∀ g' c' w', w'.ownsRow base e sz (.slice (some ⟨g', 0, none⟩) (n + 1) c') (n + 1) (l ++ l2) → Keeps (Mine A n c) w w' → (some g' = (Value.slice A n c).ownBlock ∨ g' = w.heap.size) →
      K (a.put o.dst (.slice (some ⟨g', 0, none⟩) (n + 1) c')) w') :
    if Region.wanted o (yielded ops a.tmps) = true then Oper.wp Try.prog o a w K Q else F := by
  have hw : Region.wanted o (yielded ops a.tmps) = true := by simp [Region.wanted, hg]
  rw [if_pos hw]
  obtain ⟨g', c', w', hrun, h2, h3, h4⟩ := run_appendN E w base o.type A n c l hown B A2 c2 l2 hm hr h1 hsum hbytes hbase
  unfold Oper.wp execOp
  simp only [ho, resolve, invoke, builtin, Sem.run_bind, Sem.run_pure, Result.andThen_ok, List.map_toArray, List.map_cons, List.map_nil, hs, hx, hrun]
  exact h g' c' w' h2 (Keeps.grown h3) h4
theorem elem_peers : ElemN 82 86 (.agg #[.int .i64 0, .int .i64 0, .int .i64 0, .int .u32 0, .bool false]) 5 32 := ⟨Try.underlying82, by kernel_rfl, rfl, by omega⟩
/-- A conf's block, read whole. -/
theorem wpC_load {ops : Array Oper} {rest : List Oper} {o : Oper} {a : Act} {w : World} {Q : Exit → Act → World → Prop} (hgd : o.guard = none) (x : Operand) (ho : o.op = .load 28 x)
    (g : Nat) (hx : a.eval x = .pointer (some ⟨g, 0, none⟩)) (c : Cfg) (hg : Arr 28 w g c.row) (h : wpList Try.prog ops Q rest (a.put o.dst c.val) w) : wpList Try.prog ops Q (o :: rest) a w :=
  wpList_load_row hgd 28 x ho g hx 28 c.row.toArray (0, 0) _ hg Try.underlying28 rfl info_cfg h
def WholeC (g : Nat) (v : Value) (w : World) : Prop := (Instr.loadAt 28 (.pointer (some ⟨g, 0, none⟩))).run Try.prog w = .ok v w
theorem Arr.wholeC {w : World} {g : Nat} {c : Cfg} (h : Arr 28 w g c.row) : WholeC g c.val w := by
  have := run_loadVar_row (P := Try.prog) w g 28 28 c.row.toArray (0, 0) _ h Try.underlying28 rfl info_cfg
  unfold WholeC
  simp only [Instr.loadAt, Instr.sureAddr, Sem.run_bind, Sem.run_pure, Result.andThen_ok, this]
  rfl
theorem exec_wholeC {o : Oper} {a : Act} {x : Operand} {g : Nat} {v : Value} {w : World} (h : WholeC g v w) (ho : o.op = .load 28 x) (hx : a.eval x = .pointer (some ⟨g, 0, none⟩)) :
    (execOp a.eval o).run Try.prog w = .ok (.value v) w := by
  unfold execOp
  unfold WholeC at h
  simp only [ho, hx, Sem.run_bind, h, Result.andThen_ok, Sem.run_pure]
theorem QAt.base_le' {B B' : Nat} {w : World} {q c : Nat} {A : Option Addr} {xs : List (Nat × Option Nat)} {ls : List (List UInt8)} (h : QAt B w q A c xs ls) (hb : B' ≤ B) : QAt B' w q A c xs ls :=
  ⟨h.head, Nat.le_trans hb h.base, OwnV.base_le h.row hb, h.len, h.line, fun i hi => ⟨Nat.le_trans hb (h.lbase i hi).1, fun k hk => Nat.le_trans hb ((h.lbase i hi).2 k hk)⟩, h.apart⟩
/-- A player that begins. -/
def Co.new (c : Cfg) : Co := ⟨c, List.replicate c.n.toNat (List.replicate c.delay.toNat 0), List.replicate c.n.toNat ⟨c.delay, 0, 0, 0, false⟩, [], [], 0, false⟩
def newRow (c : Cfg) (q : Nat) (A : Option Addr) (k cap : Nat) : List Value := c.row ++ [.pointer (some ⟨q, 0, none⟩), .slice A k cap, .slice none 0 0, .slice none 0 0, .int .i64 0, .bool false]
/-- A player while it is made: k of its peers are there. -/
structure NewAt (B : Nat) (w : World) (x g1 : Nat) (c : Cfg) (q : Nat) (qA : Option Addr) (qc : Nat) (xs : List (Nat × Option Nat)) (m d : Nat) (A : Option Addr) (k cap : Nat) : Prop where
  head : Arr 84 w x (newRow c q A k cap)
  base : B ≤ x
  q : QAt B w q qA qc xs (List.replicate m (List.replicate d 0))
  peers : w.ownsRow B 86 5 (.slice A k cap) k ((List.replicate k (⟨c.delay, 0, 0, 0, false⟩ : Peer)).flatMap Peer.row)
  conf : Arr 28 w g1 c.row
section
variable {B : Nat} {w w' : World} {x g1 q qc m d k cap : Nat} {c : Cfg} {qA A : Option Addr} {xs : List (Nat × Option Nat)}
theorem NewAt.below (h : NewAt B w x g1 c q qA qc xs m d A k cap) (hb : Below w.heap.size w w') : NewAt B w' x g1 c q qA qc xs m d A k cap :=
  ⟨h.head.belowN hb, h.base, h.q.below hb, ownsRow_below h.peers hb, h.conf.belowN hb⟩
theorem NewAt.drew (h : NewAt B w x g1 c q qA qc xs m d A k cap) : NewAt B w.drew x g1 c q qA qc xs m d A k cap := h.below ⟨rfl, rfl, rfl, Nat.le_refl _, fun _ _ => rfl⟩
theorem NewAt.add (h : NewAt B w x g1 c q qA qc xs m d A k cap) {g' c' : Nat} (own5 : w'.ownsRow B 86 5 (.slice (some ⟨g', 0, none⟩) (k + 1) c') (k + 1) ((List.replicate k (⟨c.delay, 0, 0, 0, false⟩ : Peer)).flatMap Peer.row ++ (⟨c.delay, 0, 0, 0, false⟩ : Peer).row)) (k5 : Keeps (Mine A k cap) w w') :
    Arr 84 w' x (newRow c q A k cap) ∧ Arr 28 w' g1 c.row ∧
    NewAt B (w'.setCell ⟨x, 11, none⟩ (.slice (some ⟨g', 0, none⟩) (k + 1) c')) x g1 c q qA qc xs m d (some ⟨g', 0, none⟩) (k + 1) c' := by
  have off : Off (Mine A k cap) w (tQ ++ [84, 28]) := Off.of (T := 86) (owns_tb h.peers) (by decide)
  have hh := h.head.off k5 off (by decide)
  have hc := h.conf.off k5 off (by decide)
  have ks := Keeps.setCell w' ⟨x, 11, none⟩ (.slice (some ⟨g', 0, none⟩) (k + 1) c')
  have off2 : Off (fun j => j = (⟨x, 11, none⟩ : Addr).block) w' (tQ ++ [86, 28]) := Off.of (T := 84) (fun j hj => by rw [hj]; exact hh.tb) (by decide)
  refine ⟨hh, hc, ⟨hh.set 11 _, h.base, (h.q.off k5 off (by decide)).off ks off2 (by decide), ?_, hc.off ks off2 (by decide)⟩⟩
  rw [List.replicate_succ', List.flatMap_append, List.flatMap_singleton]
  exact owns_off own5 ks off2 (by decide)
end
theorem core_New_no (c : Cfg) (hc : c.may = false) (w : World) : Calls Try.prog 14 #[c.val] w fun e w' => e = .returned (.tuple #[.pointer none, .int .i64 1]) ∧ Below w.heap.size w w' := by
  have HC := hide hc
  clear hc
  go_enter Try.func14, Try.ntmps14
  go_upto_region 1 with fail
  have HP : Hid (Arr 28 (w.alloc (.cells c.row.toArray 28)) w.heap.size c.row) := Arr.new 28 w _ _ rfl
  have HB : Hid (Below w.heap.size w (w.alloc (.cells c.row.toArray 28))) := Below_new _ _
  simp only [Cfg.row] at HP HB
  generalize World.alloc w _ = w1 at HP HB ⊢
  go_wp2_with (refine wpC_load rfl (.tmp 1) rfl w.heap.size rfl c HP.out ?_)
  refine Calls.mono (core_May c HC.out.symm) ?_
  rintro r w2 ⟨rfl, hb2⟩
  go_wp2_with fail
  go_ret2
  exact ⟨rfl, Below_step HB.out hb2⟩
set_option maxHeartbeats 4000000 in
theorem core_New (c : Cfg) (hf : c.Fine) (w : World) : Calls Try.prog 14 #[c.val] w fun e w' => ∃ x p, e = .returned (.tuple #[.pointer (some ⟨x, 0, none⟩), .int .i64 0]) ∧ CAt w.heap.size w' x p (Co.new c) ∧ Below w.heap.size w w' := by
  have HC : Hid (true = c.may) := (c.may_iff.2 hf).symm
  obtain ⟨m, hm⟩ : ∃ m : Nat, c.n = (m : Int) := ⟨c.n.toNat, by have := hf.n; omega⟩
  obtain ⟨d, hd⟩ : ∃ d : Nat, c.delay = (d : Int) := ⟨c.delay.toNat, by have := hf.delay; omega⟩
  have hm2 : 2 ≤ m ∧ m ≤ 8 := by have := hf.n; omega
  have hd2 : d ≤ 8 := by have := hf.delay; omega
  have HF := hide hf
  have HM := hide hm
  have HD := hide hd
  obtain ⟨S, hS⟩ : ∃ S, S = Co.new c := ⟨_, rfl⟩
  rw [← hS]
  have HS := hide hS
  clear hS hf hm hd
  go_enter Try.func14, Try.ntmps14
  go_upto_region 1 with fail
  have HP : Hid (Arr 28 (w.alloc (.cells c.row.toArray 28)) w.heap.size c.row) := Arr.new 28 w _ _ rfl
  have HB : Hid (Below w.heap.size w (w.alloc (.cells c.row.toArray 28))) := Below_new _ _
  simp only [Cfg.row] at HP HB
  generalize World.alloc w _ = w1 at HP HB ⊢
  obtain ⟨g1, hg1⟩ : ∃ g, g = w.heap.size := ⟨_, rfl⟩
  have HG1 := hide hg1
  rw [← hg1] at HP ⊢
  clear hg1
  go_wp2_with (refine wpC_load rfl (.tmp 1) rfl g1 rfl c HP.out ?_)
  refine Calls.mono (core_May _ HC.out) ?_
  rintro r w2 ⟨rfl, hb2⟩
  have HP2 := hide (HP.out.belowN hb2)
  have HB2 := hide (Below_step HB.out hb2)
  have HW2 := hide (Arr.wholeC (c := c) HP2.out)
  have c0 := HP2.out.cell (j := 0) (by simp)
  have c3 := HP2.out.cell (j := 3) (by simp)
  simp only [List.getElem_cons_zero, List.getElem_cons_succ] at c0 c3
  rw [HM.out] at c0
  rw [HD.out] at c3
  clear hb2 HP HB
  have e1 : Hid (min (max (m : Int) 2) 8 = (m : Int)) := by show _ = _; omega
  have e2 : Hid ((min (max (d : Int) 0) 8).toNat = d) := by show _ = _; omega
  go_upto_region 3 with fail
  refine wp_region_noPanic ?_
  refine wp_region_held_drew (S := (fun w' => WholeC g1 c.val w' ∧ w'.cell? ⟨g1, 0, none⟩ = some (.int .i64 (m : Int)) ∧ w'.cell? ⟨g1, 3, none⟩ = some (.int .i64 (d : Int)))) (by kernel_rfl) ⟨HP2.out.drew.wholeC, c0, c3⟩ (fun hHeld => ?_)
  refine wpAnyH_take (i := 0) (oi := ?_) (v := c.val) ?_ (by kernel_rfl) (by kernel_rfl) (by kernel_rfl) ?_ ?_ (by assumption) ?_
  rotate_left 1
  · (simp only [List.getElem?_toArray, List.getElem?_cons_zero]; rfl)
  · exact fun _ _ _ h => h
  · (refine Or.inl ⟨by rfl, ?_⟩; intro w hSw; (try dsimp only at hSw); exact exec_wholeC (x := .tmp 1) hSw.1 rfl rfl)
  try simp only [Act.put, List.setIfInBounds_toArray, List.set_cons_zero, List.set_cons_succ]
  refine wpAnyH_take (i := 1) (oi := ?_) (v := ?_) ?_ (by kernel_rfl) (by kernel_rfl) (by kernel_rfl) ?_ ?_ (by assumption) ?_
  rotate_left 2
  · (simp only [List.getElem?_toArray, List.getElem?_cons_succ, List.getElem?_cons_zero]; rfl)
  · exact fun _ _ _ h => h
  · (refine Or.inl ⟨by rfl, ?_⟩; intro w hSw; (try dsimp only at hSw); go_simp <;> with_reducible rfl)
  try simp only [Act.put, List.setIfInBounds_toArray, List.set_cons_zero, List.set_cons_succ]
  refine wpAnyH_take (i := 2) (oi := ?_) (v := ?_) ?_ (by kernel_rfl) (by kernel_rfl) (by kernel_rfl) ?_ ?_ (by assumption) ?_
  rotate_left 2
  · (simp only [List.getElem?_toArray, List.getElem?_cons_succ, List.getElem?_cons_zero]; rfl)
  · exact fun _ _ _ h => h
  · (refine Or.inl ⟨by rfl, ?_⟩; intro w hSw; (try dsimp only at hSw); go_simp <;> with_reducible rfl)
  try simp only [Act.put, List.setIfInBounds_toArray, List.set_cons_zero, List.set_cons_succ]
  refine wpAnyH_take (i := 3) (oi := ?_) (v := ?_) ?_ (by kernel_rfl) (by kernel_rfl) (by kernel_rfl) ?_ ?_ (by assumption) ?_
  rotate_left 2
  · (simp only [List.getElem?_toArray, List.getElem?_cons_succ, List.getElem?_cons_zero]; rfl)
  · exact fun _ _ _ h => h
  · (refine Or.inl ⟨by rfl, ?_⟩; intro w hSw; (try dsimp only at hSw); go_simp <;> with_reducible rfl)
  try simp only [Act.put, List.setIfInBounds_toArray, List.set_cons_zero, List.set_cons_succ]
  refine wpAnyH_take (i := 4) (oi := ?_) (v := ?_) ?_ (by kernel_rfl) (by kernel_rfl) (by kernel_rfl) ?_ ?_ (by assumption) ?_
  rotate_left 2
  · (simp only [List.getElem?_toArray, List.getElem?_cons_succ, List.getElem?_cons_zero]; rfl)
  · exact fun _ _ _ h => h
  · (refine Or.inl ⟨by rfl, ?_⟩; intro w hSw; (try dsimp only at hSw); go_simp <;> with_reducible rfl)
  try simp only [Act.put, List.setIfInBounds_toArray, List.set_cons_zero, List.set_cons_succ]
  refine wpAnyH_ready (rs := [5]) (by kernel_rfl) (by simp) ?_
  refine AllReadyH.cons (o := ?_) ?_ (fun K hK => ?_) AllReadyH.nil
  rotate_left 1
  · (simp only [List.getElem?_toArray, List.getElem?_cons_succ, List.getElem?_cons_zero]; rfl)
  go_simp
  refine Calls.mono (queue_New m d m d _ e1.out e2.out) ?_
  rintro e w4 ⟨q, qA, qc, xs, rfl, hx4, hq4, hb4⟩
  have HP4 := hide (HP2.out.drew.belowN hb4)
  have HB4 := hide (Below_step HB2.out.drew hb4)
  have HQ4 := hide (hq4.base_le' (B' := w.heap.size) HB2.out.size)
  have HX4 := hide hx4
  refine hK.out _ _ ⟨HP4.out.wholeC, below_cell hb4 c0, below_cell hb4 c3⟩ (fun hHeld => ?_)
  clear hK K
  try simp only [Act.put, List.setIfInBounds_toArray, List.set_cons_zero, List.set_cons_succ]
  refine wpAnyH_take (i := 6) (oi := ?_) (v := .agg #[.int .i64 c.n, .int .i64 c.me, .int .i64 c.id, .int .i64 c.delay, .int .i64 c.window, .int .i64 c.guess, .int .i64 c.order, .int .i64 c.branches, .int .i64 c.workers, .int .i64 c.room, .pointer (some ⟨q, 0, none⟩), .slice none 0 0, .slice none 0 0, .slice none 0 0, .int .i64 0, .bool false]) ?_ (by kernel_rfl) (by kernel_rfl) (by kernel_rfl) ?_ ?_ (by assumption) ?_
  rotate_left 1
  · (simp only [List.getElem?_toArray, List.getElem?_cons_succ, List.getElem?_cons_zero]; rfl)
  · exact fun _ _ _ h => h
  · (refine Or.inl ⟨by rfl, ?_⟩; intro w hSw; (try dsimp only at hSw); (go_simp <;> with_reducible rfl))
  try simp only [Act.put, List.setIfInBounds_toArray, List.set_cons_zero, List.set_cons_succ]
  refine wpAnyH_ready (rs := [7]) (by kernel_rfl) (by simp) ?_
  refine AllReadyH.cons (o := ?_) ?_ (fun K hK => ?_) AllReadyH.nil
  rotate_left 1
  · (simp only [List.getElem?_toArray, List.getElem?_cons_succ, List.getElem?_cons_zero]; rfl)
  go_simp
  have HN0 : Hid (NewAt w.heap.size (w4.alloc (.cells (newRow c q none 0 0).toArray 84)) w4.heap.size g1 c q qA qc xs m d none 0 0) := ⟨Arr.new _ _ _ _ rfl, HB4.out.size, HQ4.out.below (Below_new _ _), World.ownsRow_nil _ _ _ _, HP4.out.belowN (Below_new _ _)⟩
  have HB5 := hide (Below_step HB4.out (Below_new w4 (.cells (newRow c q none 0 0).toArray 84)))
  simp only [newRow, Cfg.row, List.cons_append, List.nil_append] at HN0 HB5
  generalize World.alloc w4 _ = w5 at HN0 HB5 ⊢
  generalize w4.heap.size = x at HN0 ⊢
  have c0 := HN0.out.conf.cell (j := 0) (by simp [Cfg.row])
  have c3 := HN0.out.conf.cell (j := 3) (by simp [Cfg.row])
  simp only [Cfg.row, List.getElem_cons_zero, List.getElem_cons_succ] at c0 c3
  rw [HM.out] at c0
  rw [HD.out] at c3
  refine hK.out _ _ ⟨HN0.out.conf.wholeC, c0, c3⟩ (fun hHeld => ?_)
  clear hK K
  try simp only [Act.put, List.setIfInBounds_toArray, List.set_cons_zero, List.set_cons_succ]
  refine wpAnyH_take (i := 8) (oi := ?_) (v := ?_) ?_ (by kernel_rfl) (by kernel_rfl) (by kernel_rfl) ?_ ?_ (by assumption) ?_
  rotate_left 2
  · (simp only [List.getElem?_toArray, List.getElem?_cons_succ, List.getElem?_cons_zero]; rfl)
  · exact fun _ _ _ h => h
  · (refine Or.inl ⟨by rfl, ?_⟩; intro w hSw; (try dsimp only at hSw); go_simp <;> with_reducible rfl)
  try simp only [Act.put, List.setIfInBounds_toArray, List.set_cons_zero, List.set_cons_succ]
  refine wpAnyH_done (by kernel_rfl) (NoPanic.normal ?_) _
  go_wp2_with fail
  clear c3 hq4 hb4
  go_loopg [18] m (fun gg s18 wr => ∃ (k : Nat) (A : Option Addr) (cap : Nat), k ≤ m ∧ gg = m - k ∧ s18 = .int .i64 (k : Int) ∧ Hid (NewAt w.heap.size wr x g1 c q qA qc xs m d A k cap) ∧ Hid (Below w.heap.size w wr))
  case atStart => exact ⟨0, none, 0, by omega, rfl, rfl, HN0, HB5⟩
  case round =>
    obtain ⟨W1, hW1⟩ : ∃ W1, W1 = wr := ⟨_, rfl⟩
    subst hW1
    obtain ⟨k, A, cap, hkm, rfl, rfl, HN, HBW⟩ := hrel
    by_cases hlt : k < m
    · have c3 := HN.out.conf.cell (j := 3) (by simp [Cfg.row])
      have c11 := HN.out.head.cell (j := 11) (by simp [newRow, Cfg.row])
      simp only [newRow, Cfg.row, List.cons_append, List.nil_append, List.getElem_cons_zero, List.getElem_cons_succ] at c3 c11
      rw [HD.out] at c3
      have bn := Below_new W1.drew (.cells #[.int .i64 (d : Int), .int .i64 0, .int .i64 0, .int .u32 0, .bool false] 86)
      have HN4 := hide (HN.out.drew.below bn)
      have HB4 := hide (Below_step HBW.out.drew bn)
      have c34 := HN4.out.conf.cell (j := 3) (by simp [Cfg.row])
      have c114 := HN4.out.head.cell (j := 11) (by simp [newRow, Cfg.row])
      simp only [newRow, Cfg.row, List.cons_append, List.nil_append, List.getElem_cons_zero, List.getElem_cons_succ] at c34 c114
      rw [HD.out] at c34
      have c114 : (World.alloc W1 (.cells #[.int .i64 (d : Int), .int .i64 0, .int .i64 0, .int .u32 0, .bool false] 86)).cell? ⟨x, 11, none⟩ = some (.slice A k cap) := c114
      have HL4 := hide (Lies.new W1.drew #[.int .i64 (d : Int), .int .i64 0, .int .i64 0, .int .u32 0, .bool false] 86 (0, 0))
      have hB4 : w.heap.size ≤ (World.alloc W1.drew (.cells #[.int .i64 (d : Int), .int .i64 0, .int .i64 0, .int .u32 0, .bool false] 86)).heap.size := HB4.out.size
      have hcx : x < W1.heap.size := HN.out.head.lt
      clear bn
      go_upto_region 6 with fail
      refine wp_region_noPanic ?_
      refine wp_region_held_drew (S := (fun w' => w'.cell? ⟨g1, 3, none⟩ = some (.int .i64 (d : Int)))) (by kernel_rfl) c3 (fun hHeld => ?_)
      refine wpAnyH_take (i := 0) (oi := ?_) (v := ?_) ?_ (by kernel_rfl) (by kernel_rfl) (by kernel_rfl) ?_ ?_ (by assumption) ?_
      rotate_left 2
      · (simp only [List.getElem?_toArray, List.getElem?_cons_zero]; rfl)
      · exact fun _ _ _ h => h
      · (refine Or.inl ⟨by rfl, ?_⟩; intro w hSw; (try dsimp only at hSw); go_simp <;> with_reducible rfl)
      try simp only [Act.put, List.setIfInBounds_toArray, List.set_cons_zero, List.set_cons_succ]
      refine wpAnyH_take (i := 1) (oi := ?_) (v := ?_) ?_ (by kernel_rfl) (by kernel_rfl) (by kernel_rfl) ?_ ?_ (by assumption) ?_
      rotate_left 2
      · (simp only [List.getElem?_toArray, List.getElem?_cons_succ, List.getElem?_cons_zero]; rfl)
      · exact fun _ _ _ h => h
      · (refine Or.inl ⟨by rfl, ?_⟩; intro w hSw; (try dsimp only at hSw); go_simp <;> with_reducible rfl)
      try simp only [Act.put, List.setIfInBounds_toArray, List.set_cons_zero, List.set_cons_succ]
      refine wpAnyH_take (i := 2) (oi := ?_) (v := ?_) ?_ (by kernel_rfl) (by kernel_rfl) (by kernel_rfl) ?_ ?_ (by assumption) ?_
      rotate_left 2
      · (simp only [List.getElem?_toArray, List.getElem?_cons_succ, List.getElem?_cons_zero]; rfl)
      · exact fun _ _ _ h => h
      · (refine Or.inl ⟨by rfl, ?_⟩; intro w hSw; (try dsimp only at hSw); go_simp <;> with_reducible rfl)
      try simp only [Act.put, List.setIfInBounds_toArray, List.set_cons_zero, List.set_cons_succ]
      refine wpAnyH_take (i := 3) (oi := ?_) (v := ?_) ?_ (by kernel_rfl) (by kernel_rfl) (by kernel_rfl) ?_ ?_ (by assumption) ?_
      rotate_left 2
      · (simp only [List.getElem?_toArray, List.getElem?_cons_succ, List.getElem?_cons_zero]; rfl)
      · exact fun _ _ _ h => h
      · (refine Or.inl ⟨by rfl, ?_⟩; intro w hSw; (try dsimp only at hSw); go_simp <;> with_reducible rfl)
      try simp only [Act.put, List.setIfInBounds_toArray, List.set_cons_zero, List.set_cons_succ]
      refine wpAnyH_take (i := 5) (oi := ?_) (v := ?_) ?_ (by kernel_rfl) (by kernel_rfl) (by kernel_rfl) ?_ ?_ (by assumption) ?_
      rotate_left 2
      · (simp only [List.getElem?_toArray, List.getElem?_cons_succ, List.getElem?_cons_zero]; rfl)
      · exact fun _ _ _ h => h
      · (refine Or.inl ⟨by rfl, ?_⟩; intro w hSw; (try dsimp only at hSw); go_simp <;> with_reducible rfl)
      try simp only [Act.put, List.setIfInBounds_toArray, List.set_cons_zero, List.set_cons_succ]
      refine wpAnyH_take (i := 6) (oi := ?_) (v := ?_) ?_ (by kernel_rfl) (by kernel_rfl) (by kernel_rfl) ?_ ?_ (by assumption) ?_
      rotate_left 2
      · (simp only [List.getElem?_toArray, List.getElem?_cons_succ, List.getElem?_cons_zero]; rfl)
      · exact fun _ _ _ h => h
      · (refine Or.inl ⟨by rfl, ?_⟩; intro w hSw; (try dsimp only at hSw); go_simp <;> with_reducible rfl)
      try simp only [Act.put, List.setIfInBounds_toArray, List.set_cons_zero, List.set_cons_succ]
      refine wpAnyH_take (i := 7) (oi := ?_) (v := ?_) ?_ (by kernel_rfl) (by kernel_rfl) (by kernel_rfl) ?_ ?_ (by assumption) ?_
      rotate_left 2
      · (simp only [List.getElem?_toArray, List.getElem?_cons_succ, List.getElem?_cons_zero]; rfl)
      · exact fun _ _ _ h => h
      · (refine Or.inl ⟨by rfl, ?_⟩; intro w hSw; (try dsimp only at hSw); go_simp <;> with_reducible rfl)
      try simp only [Act.put, List.setIfInBounds_toArray, List.set_cons_zero, List.set_cons_succ]
      refine wpAnyH_ready (rs := [4, 8]) (by kernel_rfl) (by simp) ?_
      refine AllReadyH.cons (o := ?_) ?_ (fun K hK => ?_) ?_
      rotate_left 1
      · (simp only [List.getElem?_toArray, List.getElem?_cons_succ, List.getElem?_cons_zero]; rfl)
      · go_simp
        skip
        refine hK.out _ _ c3 (fun hHeld => ?_)
        clear hK K
        try simp only [Act.put, List.setIfInBounds_toArray, List.set_cons_zero, List.set_cons_succ]
        refine wpAnyH_ready (rs := [8]) (by kernel_rfl) (by simp) ?_
        refine AllReadyH.cons (o := ?_) ?_ (fun K hK => ?_) AllReadyH.nil
        rotate_left 1
        · (simp only [List.getElem?_toArray, List.getElem?_cons_succ, List.getElem?_cons_zero]; rfl)
        go_simp
        refine hK.out _ _ c34 (fun hHeld => ?_)
        clear hK K
        try simp only [Act.put, List.setIfInBounds_toArray, List.set_cons_zero, List.set_cons_succ]
        refine wpAnyH_ready (rs := [9]) (by kernel_rfl) (by simp) ?_
        refine AllReadyH.cons (o := ?_) ?_ (fun K hK => ?_) AllReadyH.nil
        rotate_left 1
        · (simp only [List.getElem?_toArray, List.getElem?_cons_succ, List.getElem?_cons_zero]; rfl)
        (refine step_appendN elem_peers rfl (.tmp 24) (.tmp 28) rfl w.heap.size A k cap _ rfl HN4.out.peers _ _ 1 [.int .i64 (d : Int), .int .i64 0, .int .i64 0, .int .u32 0, .bool false] rfl rfl HL4.out (by simp [Value.oneCell']) (by omega) (by omega) hB4 ?_; intro g5 c5 w5 own5 k5 hk5)
        have HC5 := hide (HN4.out.add (by rw [← HD.out] at own5; exact own5) k5)
        have HK5 := hide (((HB4.out.trans (k5.below hB4 (fun j hj hm => by have hl := World.ownsRow.lt HN4.out.peers _ hm.symm; omega)))).setCell (p := ⟨x, 11, none⟩) HN4.out.base (.slice (some ⟨g5, 0, none⟩) (k + 1) c5))
        have cc := HC5.out.2.1.cell (j := 3) (by simp [Cfg.row])
        have f5 := HC5.out.1.frozen 11
        have c11 := HC5.out.1.cell (j := 11) (by simp [newRow, Cfg.row])
        simp only [newRow, Cfg.row, List.cons_append, List.nil_append, List.getElem_cons_zero, List.getElem_cons_succ] at cc c11
        rw [HD.out] at cc
        refine hK.out _ _ cc (fun hHeld => ?_)
        clear hK K
        try simp only [Act.put, List.setIfInBounds_toArray, List.set_cons_zero, List.set_cons_succ]
        refine wpAnyH_take (i := 10) (oi := ?_) (v := ?_) ?_ (by kernel_rfl) (by kernel_rfl) (by kernel_rfl) ?_ ?_ (by assumption) ?_
        rotate_left 2
        · (simp only [List.getElem?_toArray, List.getElem?_cons_succ, List.getElem?_cons_zero]; rfl)
        · exact fun _ _ _ h => h
        · (refine Or.inl ⟨by rfl, ?_⟩; intro w hSw; (try dsimp only at hSw); go_simp <;> with_reducible rfl)
        try simp only [Act.put, List.setIfInBounds_toArray, List.set_cons_zero, List.set_cons_succ]
        refine wpAnyH_take (i := 11) (oi := ?_) (v := ?_) ?_ (by kernel_rfl) (by kernel_rfl) (by kernel_rfl) ?_ ?_ (by assumption) ?_
        rotate_left 2
        · (simp only [List.getElem?_toArray, List.getElem?_cons_succ, List.getElem?_cons_zero]; rfl)
        · exact fun _ _ _ h => h
        · (refine Or.inl ⟨by rfl, ?_⟩; intro w hSw; (try dsimp only at hSw); go_simp <;> with_reducible rfl)
        try simp only [Act.put, List.setIfInBounds_toArray, List.set_cons_zero, List.set_cons_succ]
        refine wpAnyH_ready (rs := [12]) (by kernel_rfl) (by simp) ?_
        refine AllReadyH.cons (o := ?_) ?_ (fun K hK => ?_) AllReadyH.nil
        rotate_left 1
        · (simp only [List.getElem?_toArray, List.getElem?_cons_succ, List.getElem?_cons_zero]; rfl)
        go_simp
        refine hK.out _ _ (by have := HC5.out.2.2.conf.cell (j := 3) (by simp [Cfg.row]); simp only [Cfg.row, List.getElem_cons_zero, List.getElem_cons_succ] at this; rw [HD.out] at this; exact this) (fun hHeld => ?_)
        clear hK K
        try simp only [Act.put]
        refine wpAnyH_done (by kernel_rfl) (NoPanic.normal ?_) _
        go_wp2_with fail
        go_roundg (m - (k + 1))
        case measure => omega
        case rel => exact ⟨k + 1, _, c5, by omega, rfl, by go_num, HC5.out.2.2, HK5⟩
      refine AllReadyH.cons (o := ?_) ?_ (fun K hK => ?_) ?_
      rotate_left 1
      · (simp only [List.getElem?_toArray, List.getElem?_cons_succ, List.getElem?_cons_zero]; rfl)
      · go_simp
        skip
        refine hK.out _ _ c34 (fun hHeld => ?_)
        clear hK K
        try simp only [Act.put, List.setIfInBounds_toArray, List.set_cons_zero, List.set_cons_succ]
        refine wpAnyH_ready (rs := [4]) (by kernel_rfl) (by simp) ?_
        refine AllReadyH.cons (o := ?_) ?_ (fun K hK => ?_) AllReadyH.nil
        rotate_left 1
        · (simp only [List.getElem?_toArray, List.getElem?_cons_succ, List.getElem?_cons_zero]; rfl)
        go_simp
        refine hK.out _ _ c34 (fun hHeld => ?_)
        clear hK K
        try simp only [Act.put, List.setIfInBounds_toArray, List.set_cons_zero, List.set_cons_succ]
        refine wpAnyH_ready (rs := [9]) (by kernel_rfl) (by simp) ?_
        refine AllReadyH.cons (o := ?_) ?_ (fun K hK => ?_) AllReadyH.nil
        rotate_left 1
        · (simp only [List.getElem?_toArray, List.getElem?_cons_succ, List.getElem?_cons_zero]; rfl)
        (refine step_appendN elem_peers rfl (.tmp 24) (.tmp 28) rfl w.heap.size A k cap _ rfl HN4.out.peers _ _ 1 [.int .i64 (d : Int), .int .i64 0, .int .i64 0, .int .u32 0, .bool false] rfl rfl HL4.out (by simp [Value.oneCell']) (by omega) (by omega) hB4 ?_; intro g5 c5 w5 own5 k5 hk5)
        have HC5 := hide (HN4.out.add (by rw [← HD.out] at own5; exact own5) k5)
        have HK5 := hide (((HB4.out.trans (k5.below hB4 (fun j hj hm => by have hl := World.ownsRow.lt HN4.out.peers _ hm.symm; omega)))).setCell (p := ⟨x, 11, none⟩) HN4.out.base (.slice (some ⟨g5, 0, none⟩) (k + 1) c5))
        have cc := HC5.out.2.1.cell (j := 3) (by simp [Cfg.row])
        have f5 := HC5.out.1.frozen 11
        have c11 := HC5.out.1.cell (j := 11) (by simp [newRow, Cfg.row])
        simp only [newRow, Cfg.row, List.cons_append, List.nil_append, List.getElem_cons_zero, List.getElem_cons_succ] at cc c11
        rw [HD.out] at cc
        refine hK.out _ _ cc (fun hHeld => ?_)
        clear hK K
        try simp only [Act.put, List.setIfInBounds_toArray, List.set_cons_zero, List.set_cons_succ]
        refine wpAnyH_take (i := 10) (oi := ?_) (v := ?_) ?_ (by kernel_rfl) (by kernel_rfl) (by kernel_rfl) ?_ ?_ (by assumption) ?_
        rotate_left 2
        · (simp only [List.getElem?_toArray, List.getElem?_cons_succ, List.getElem?_cons_zero]; rfl)
        · exact fun _ _ _ h => h
        · (refine Or.inl ⟨by rfl, ?_⟩; intro w hSw; (try dsimp only at hSw); go_simp <;> with_reducible rfl)
        try simp only [Act.put, List.setIfInBounds_toArray, List.set_cons_zero, List.set_cons_succ]
        refine wpAnyH_take (i := 11) (oi := ?_) (v := ?_) ?_ (by kernel_rfl) (by kernel_rfl) (by kernel_rfl) ?_ ?_ (by assumption) ?_
        rotate_left 2
        · (simp only [List.getElem?_toArray, List.getElem?_cons_succ, List.getElem?_cons_zero]; rfl)
        · exact fun _ _ _ h => h
        · (refine Or.inl ⟨by rfl, ?_⟩; intro w hSw; (try dsimp only at hSw); go_simp <;> with_reducible rfl)
        try simp only [Act.put, List.setIfInBounds_toArray, List.set_cons_zero, List.set_cons_succ]
        refine wpAnyH_ready (rs := [12]) (by kernel_rfl) (by simp) ?_
        refine AllReadyH.cons (o := ?_) ?_ (fun K hK => ?_) AllReadyH.nil
        rotate_left 1
        · (simp only [List.getElem?_toArray, List.getElem?_cons_succ, List.getElem?_cons_zero]; rfl)
        go_simp
        refine hK.out _ _ (by have := HC5.out.2.2.conf.cell (j := 3) (by simp [Cfg.row]); simp only [Cfg.row, List.getElem_cons_zero, List.getElem_cons_succ] at this; rw [HD.out] at this; exact this) (fun hHeld => ?_)
        clear hK K
        try simp only [Act.put]
        refine wpAnyH_done (by kernel_rfl) (NoPanic.normal ?_) _
        go_wp2_with fail
        go_roundg (m - (k + 1))
        case measure => omega
        case rel => exact ⟨k + 1, _, c5, by omega, rfl, by go_num, HC5.out.2.2, HK5⟩
      exact AllReadyH.nil
    · obtain rfl : k = m := by omega
      have hp := HN.out.peers
      obtain ⟨g, cap', hA⟩ : ∃ g cap', (Value.slice A k cap) = .slice (some ⟨g, 0, none⟩) k cap' := by
        rcases hp.2 with ⟨hv, hx⟩ | ⟨g, cap', cur, hv, _⟩
        · injection hv with _ h2 _; omega
        · exact ⟨g, cap', hv⟩
      injection hA with hA1 _ hA3
      subst hA1 hA3
      have hnn : c.n.toNat = k := by rw [HM.out]; rfl
      have hdd : c.delay.toNat = d := by rw [HD.out]; rfl
      have hok : Hid (CAt w.heap.size W1 x ⟨q, qA, qc, xs, g, cap, none, 0, 0, none, 0, 0⟩ S) := by
        show CAt _ _ _ _ _
        rw [HS.out]
        have hlen : (Co.new c).peers.length = k := by simp [Co.new, hnn]
        have hpm : ∀ q ∈ (Co.new c).peers, q = ⟨c.delay, 0, 0, 0, false⟩ := fun q hq => (List.mem_replicate.1 hq).2
        have hls : ∀ i, ((Co.new c).ls.getD i []).length = if i < k then d else 0 := by
          intro i
          simp only [Co.new, List.getD_eq_getElem?_getD, hnn, hdd, List.getElem?_replicate]
          split <;> simp
        have hme : (c.me.toNat : Int) = c.me ∧ c.me.toNat < k := by have := HF.out.me; have := HM.out; omega
        have hmine : ((Co.new c).ls.getD (Co.new c).cfg.me.toNat []).length = d := by rw [hls]; exact if_pos hme.2
        refine ⟨?_, HN.out.base, ?_, by rw [hlen]; exact HX4.out, ?_, OwnV.nil _ _ _, OwnV.nil _ _ _, ?_⟩
        · have := HN.out.head
          unfold coRow
          rw [hlen]
          exact this
        · have := HN.out.q
          simp only [Co.new, hnn, hdd]
          exact this
        · rw [hlen]
          have := HN.out.peers
          simp only [Co.new, hnn]
          exact this
        · refine ⟨HF.out, ?_, ?_, ?_, ?_, ?_, ?_, ?_, ?_, Nat.zero_le _, ?_, ⟨Int.le_refl _, by show (0 : Int) ≤ _; omega⟩, Nat.zero_le _⟩
          · rw [hlen]; exact HM.out.symm
          · simp only [Co.new, List.length_replicate, hnn]; exact HM.out.symm
          · intro i; rw [hls]; split <;> omega
          · rw [hmine]; have : (Co.new c).cfg.delay = (d : Int) := HD.out; omega
          · intro q hq; rw [hpm q hq, hmine]; have := HD.out; simp only; omega
          · intro q hq; rw [hpm q hq]; exact ⟨Int.le_refl _, Int.le_refl _⟩
          · intro q hq; rw [hpm q hq]; exact ⟨Int.le_refl _, by show (0 : Int) ≤ _; omega⟩
          · intro q hq; rw [hpm q hq]; exact ⟨Int.le_refl _, by show (0 : Int) < _; omega⟩
          · intro q hq; simp [Co.new] at hq
      clear hp hnn hdd
      go_wp2_with fail
      go_ret2
      exact ⟨x, rfl, ⟨_, hok.out⟩, HBW.out⟩
end Go.Proofs.Ytbcgffgiifminaa
namespace Go.Proofs.Ytbcgffgiifminaa
open Go.RowKit
set_option maxRecDepth 10000
set_option linter.unusedVariables false
theorem elem_int : Elem 35 3 (.int .i64 0) 8 := ⟨Try.underlying35, by kernel_rfl, rfl⟩
/-- All players but one. -/
def othersOf (n me : Nat) : List Nat := (List.range n).filter fun i => i != me
theorem othersOf_succ_eq (k : Nat) : othersOf (k + 1) k = othersOf k k := by
  unfold othersOf; rw [List.range_succ, List.filter_append]; simp
theorem othersOf_succ_ne {k i : Nat} (h : k ≠ i) : othersOf (k + 1) i = othersOf k i ++ [k] := by
  unfold othersOf; rw [List.range_succ, List.filter_append]; simp [h]
theorem othersOf_len (n me : Nat) : (othersOf n me).length ≤ n := by
  unfold othersOf; exact Nat.le_trans (List.length_filter_le _ _) (by simp)
def iv (k : Nat) : Value := .int .i64 (k : Int)
set_option maxHeartbeats 2000000 in
theorem core_others {B : Nat} {w : World} {x : Nat} {p : CP} {s : Co} (h : CAt B w x p s) (i : Nat) (hi : s.cfg.me = (i : Int)) :
    Calls Try.prog 60 #[.pointer (some ⟨x, 0, none⟩)] w fun r w' => ∃ A c, r = .returned (.slice A (othersOf s.peers.length i).length c) ∧ OwnV 3 w' w.heap.size A (othersOf s.peers.length i).length c ((othersOf s.peers.length i).map iv) ∧ Below w.heap.size w w' := by
  have H := hide h
  obtain ⟨n, hn⟩ : ∃ n, n = s.peers.length := ⟨_, rfl⟩
  have HN := hide hn
  have hn8 : n ≤ 8 := by have := h.ok.np; have := h.ok.cfg.n; omega
  have cP := h.cell (coRow_peers s p)
  rw [← hn] at cP ⊢
  obtain ⟨me, hme⟩ : ∃ me, me = s.cfg.me := ⟨_, rfl⟩
  have HME : Hid (me = (i : Int)) := by show _ = _; rw [hme, hi]
  have HMS := hide hme
  clear h hn hi hme
  go_enter Try.func60, Try.ntmps60
  go_wp2_with fail
  go_loopg [3, 10] n (fun gg s3 s10 wr => ∃ (k : Nat) (A : Option Addr) (c : Nat), k ≤ n ∧ gg = n - k ∧ s10 = .int .i64 (k : Int) ∧ s3 = .slice A (othersOf k i).length c ∧ Hid (OwnV 3 wr w.heap.size A (othersOf k i).length c ((othersOf k i).map iv)) ∧ Hid (Below w.heap.size w wr))
  case atStart => exact ⟨0, none, 0, by omega, rfl, rfl, rfl, OwnV.nil _ _ _, Below.refl _ _⟩
  case round =>
    obtain ⟨W1, hW1⟩ : ∃ W1, W1 = wr := ⟨_, rfl⟩
    subst hW1
    obtain ⟨k, A, c, hkn, rfl, rfl, rfl, HO, HB⟩ := hrel
    by_cases hlt : k < n
    · have c1 := (H.out.below HB.out).cell (coRow_me s p)
      rw [← HMS.out] at c1
      have hll := othersOf_len k i
      obtain ⟨m, hm⟩ : ∃ m, m = (othersOf k i).length := ⟨_, rfl⟩
      rw [← hm] at HO hll ⊢
      have HMM := hide hm
      clear hm
      by_cases hki : k = i
      · have d1 : ((k : Int) == me) = true := by rw [HME.out]; simp [hki]
        have HNX : Hid (othersOf (k + 1) i = othersOf k i) := by show _ = _; rw [← hki]; exact othersOf_succ_eq k
        clear hki
        go_wp2_with fail
        go_roundg (n - (k + 1))
        case measure => omega
        case rel => exact ⟨k + 1, A, c, by omega, rfl, by go_num, by rw [HNX.out, ← HMM.out], by rw [HNX.out, ← HMM.out]; exact HO, HB⟩
      · have d1 : ((k : Int) == me) = false := by rw [HME.out]; simp; omega
        have HNX : Hid (othersOf (k + 1) i = othersOf k i ++ [k]) := othersOf_succ_ne hki
        have bn := Below_new W1 (.cells #[.int .i64 (k : Int)] 3)
        have HO2 := hide (HO.out.below bn)
        have HB2 := hide (Below_step HB.out bn)
        have HL2 := hide (Lies.new W1 #[.int .i64 (k : Int)] 3 (0, 0))
        have hB2 : w.heap.size ≤ (World.alloc W1 (.cells #[.int .i64 (k : Int)] 3)).heap.size := HB2.out.size
        clear bn hki
        go_upto_region 6 with fail
        go_wp2_with (refine wpV_append elem_int rfl (.tmp 20) (.tmp 22) rfl w.heap.size A m c _ rfl HO2.out _ _ 1 1 [.int .i64 (k : Int)] rfl rfl HL2.out (by simp [Value.oneCell']) (by omega) (m + 1) _ rfl rfl (by omega) (by omega) hB2 ?_; intro A5 c5 w5 own5 k5 hk5; have HO5 := hide own5; have HB5 := hide (HB2.out.trans (k5.belowV HO2.out hB2)); clear own5 k5 hk5)
        go_roundg (n - (k + 1))
        case measure => omega
        case rel => exact ⟨k + 1, A5, c5, by omega, rfl, by go_num, by rw [HNX.out, List.length_append, ← HMM.out]; rfl, by rw [HNX.out, List.length_append, List.map_append, ← HMM.out]; exact HO5, HB5⟩
    · obtain rfl : k = n := by omega
      go_wp2_with fail
      go_ret
      exact ⟨A, c, rfl, HO.out, HB.out⟩
end Go.Proofs.Ytbcgffgiifminaa
namespace Go.Proofs.Ytbcgffgiifminaa
open Go.RowKit
set_option maxRecDepth 10000
set_option linter.unusedVariables false

namespace Var
def put (u : Nat) : List UInt8 := if u < 128 then [UInt8.ofNat u] else UInt8.ofNat (u % 128 + 128) :: put (u / 128)
termination_by u
decreasing_by omega
def zig (n : Int) : Nat := if n < 0 then (-n).toNat * 2 - 1 else n.toNat * 2
def unzig (u : Nat) : Int := if u % 2 = 1 then -((u / 2 : Nat) : Int) - 1 else ((u / 2 : Nat) : Int)
def get (i u : Nat) : List UInt8 → Int × Nat × Int
  | [] => (0, 0, 2)
  | c :: t => if i = 9 ∧ 1 < c.toNat then (0, 0, 1) else if 128 ≤ c.toNat then get (i + 1) (u + (c.toNat - 128) * 128 ^ i) t
      else if 0 < i ∧ c.toNat = 0 then (0, 0, 1) else (unzig (u + c.toNat * 128 ^ i), i + 1, 0)

theorem put_small {u : Nat} (h : u < 128) : put u = [UInt8.ofNat u] := by rw [put, if_pos h]
theorem put_big {u : Nat} (h : ¬ u < 128) : put u = UInt8.ofNat (u % 128 + 128) :: put (u / 128) := by rw [put, if_neg h]
theorem put_ne (u : Nat) : put u ≠ [] := by
  by_cases h : u < 128
  · rw [put_small h]; simp
  · rw [put_big h]; simp
theorem put_len (k : Nat) (u : Nat) (h : u < 128 ^ (k + 1)) : (put u).length ≤ k + 1 := by
  induction k generalizing u with
  | zero => rw [put_small (by simpa using h)]; simp
  | succ k ih =>
    by_cases h' : u < 128
    · rw [put_small h']; simp
    · rw [put_big h']
      have := ih (u / 128) (by rw [Nat.pow_succ] at h; omega)
      simp; omega
theorem put_len10 (u : Nat) (h : u < 18446744073709551616) : (put u).length ≤ 10 := put_len 9 u (by omega)
theorem unzig_zig (n : Int) : unzig (zig n) = n := by
  unfold unzig zig
  by_cases h : n < 0
  · rw [if_pos h]; rw [if_pos (by omega)]; omega
  · rw [if_neg h]; rw [if_neg (by omega)]; omega
theorem zig_unzig (u : Nat) : zig (unzig u) = u := by
  unfold unzig zig
  by_cases h : u % 2 = 1
  · rw [if_pos h]; rw [if_pos (by omega)]; omega
  · rw [if_neg h]; rw [if_neg (by omega)]; omega
theorem unzig_lo (u : Nat) (h : u < 18446744073709551616) : -9223372036854775808 ≤ unzig u := by unfold unzig; split <;> omega
theorem unzig_hi (u : Nat) (h : u < 18446744073709551616) : unzig u ≤ 9223372036854775807 := by unfold unzig; split <;> omega
theorem zig_lt (n : Int) (h : -9223372036854775808 ≤ n) (h' : n ≤ 9223372036854775807) : zig n < 18446744073709551616 := by unfold zig; split <;> omega

set_option maxRecDepth 100000 in
theorem or128 (u : Nat) (x : Int) (hx : x = ((u % 256 : Nat) : Int)) : bits BinOp.or IntKind.u8 x 128 = ((UInt8.ofNat (u % 128 + 128)).toNat : Int) := by
  subst hx
  have e : ((u % 256 : Nat) : Int) = ((u % 256 : Nat) : Int) := rfl
  rw [show (128 : Int) = ((128 : Nat) : Int) from rfl, u8_or_nat _ _ (by omega) (by omega)]
  have : u % 256 ||| 128 = u % 128 + 128 := by
    have h1 : u % 256 < 256 := by omega
    have h2 : u % 128 = u % 256 % 128 := by omega
    rw [h2]
    clear h2 e
    revert h1
    generalize u % 256 = v
    revert v
    decide
  rw [this, UInt8.toNat_ofNat']
  congr 1
  omega
theorem small8 (u : Nat) (h : u < 128) (x : Int) (hx : x = (u : Int)) : x = ((UInt8.ofNat u).toNat : Int) := by
  rw [hx, UInt8.toNat_ofNat']; congr 1; omega
end Var

namespace Var
theorem zig_pos {v : Int} (h : ¬ v < 0) (hi : v ≤ 9223372036854775807) : IntKind.u64.wrap (IntKind.u64.wrap v * 2) = (zig v : Int) := by
  rw [IntKind.wrap_u64, IntKind.wrap_u64, zig, if_neg h]; omega
theorem zig_neg {v : Int} (h : v < 0) (lo : -9223372036854775808 ≤ v) : bits BinOp.xor IntKind.u64 IntKind.u64.max (IntKind.u64.wrap (IntKind.u64.wrap v * 2)) = (zig v : Int) := by
  have e : IntKind.u64.wrap (IntKind.u64.wrap v * 2) = ((18446744073709551616 - (-v).toNat * 2 : Nat) : Int) := by
    rw [IntKind.wrap_u64, IntKind.wrap_u64]; omega
  have hm : IntKind.u64.max = ((18446744073709551615 : Nat) : Int) := by decide
  rw [e, hm, u64_xor_nat _ _ (by omega) (by omega), zig, if_pos h]
  congr 1
  obtain ⟨x, hx⟩ : ∃ x, x = 18446744073709551616 - (-v).toNat * 2 := ⟨_, rfl⟩
  rw [← hx]
  have hx' : x < 2 ^ 64 := by omega
  have h1 := BitVec.toNat_not (x := BitVec.ofNat 64 x)
  have h2 : ~~~ (BitVec.ofNat 64 x) = BitVec.allOnes 64 ^^^ BitVec.ofNat 64 x := by rw [BitVec.allOnes_xor]
  rw [h2, BitVec.toNat_xor, BitVec.toNat_allOnes, BitVec.toNat_ofNat, Nat.mod_eq_of_lt hx'] at h1
  have h3 : (2 ^ 64 - 1 : Nat) = 18446744073709551615 := by decide
  rw [h3] at h1
  rw [h1]
  omega
end Var

set_option maxRecDepth 10000 in
set_option maxHeartbeats 1000000 in
theorem num_Put (A : Option Addr) (n c base : Nat) (l : List UInt8) (v : Int) (w : World) (hA : OwnB w base A n c l) (hbase : base ≤ w.heap.size) (hn : n ≤ 1000000) (lo : -9223372036854775808 ≤ v) (hi : v ≤ 9223372036854775807) :
    Calls Try.prog 88 #[.slice A n c, .int .i64 v] w fun e w' => ∃ A' n' c', e = .returned (.slice A' n' c') ∧ OwnB w' base A' n' c' (l ++ Var.put (Var.zig v)) ∧ Keeps (Mine A n c) w w' := by
  have HA := hide hA
  clear hA
  have hz := Var.zig_lt v lo hi
  have h10 := Var.put_len10 _ hz
  obtain ⟨u0, hu0⟩ : ∃ u0, u0 = Var.zig v := ⟨_, rfl⟩
  rw [← hu0] at hz h10 ⊢
  have Hz := hide hz
  have Hu := hide hu0
  clear hz hu0
  by_cases hv : v < 0
  · have e1 := Var.zig_neg hv lo
    rw [← Hu.out] at e1
    have sg : IntKind.u64.signed = false := rfl
    go_enter Try.func88, Try.ntmps88
    go_wp2
    all_goals clear e1
    go_loopw [0, 5] (fun s x wr => ∃ A' n' c' l' u, s = .slice A' n' c' ∧ x = .int .u64 (u : Nat) ∧ u < 18446744073709551616 ∧ OwnB wr base A' n' c' l' ∧ l' ++ Var.put u = l ++ Var.put u0 ∧ Keeps (Mine A n c) w wr ∧ ((Value.slice A' n' c').ownBlock = (Value.slice A n c).ownBlock ∨ ∃ g, (Value.slice A' n' c').ownBlock = some g ∧ w.heap.size ≤ g)) (fun _ x _ => (intOf x).toNat)
    case atStart => exact ⟨_, _, _, l, u0, rfl, rfl, Hz.out, HA.out, rfl, Keeps.refl _ _, .inl rfl⟩
    case round =>
      obtain ⟨A', n', c', l', u, rfl, rfl, hu, hown, heq, hbel, hblk⟩ := hrel
      have hlen : n' ≤ 1000010 := by
        have e2 := congrArg List.length heq
        have e3 := hown.len
        have e4 := HA.out.len
        rw [List.length_append, List.length_append] at e2
        omega
      have hb2 : base ≤ wr.heap.size := by have := hbel.size; omega
      have HO := hide hown
      have HB := hide hbel
      have HK := hide hblk
      have hsz := hbel.size
      have HE := hide heq
      have HU := hide hu
      clear hown hbel heq hu hblk
      by_cases hbig : 127 < u
      · go_wp2_with (at_builtin; refine wpB_append3 rfl (.tmp 15) (.tmp 19) rfl base A' n' c' l' rfl (HO.out.below (Below_new _ _)) _ _ 1 1 [UInt8.ofNat (u % 128 + 128)] rfl (LiesB.new _ _ _ _ _ _ rfl (by simp [bv]; exact Var.or128 u _ (by first | (go_num; done) | (simp [IntKind.wrap]; done) | omega | (rw [IntKind.wrap_u8']; omega)))) (n' + 1) _ rfl rfl (by omega) (by simp; omega) ?_; intro A2 c2 w2 own2 hb3 hg2; have HK2 := hide hg2; clear hg2)
        refine ⟨⟨A2, n' + 1, c2, _, u / 128, rfl, by go_num, by have := HU.out; omega, own2, ?_, HB.out.step HK.out (Keeps.of_below (Below_new _ _)) hb3, ?_⟩, by simp [intOf]; omega⟩
        · rw [← HE.out, List.append_assoc, Var.put_big (u := u) (by omega)]; rfl
        · rcases HK2.out with q | q
          · rw [q]; exact HK.out
          · exact .inr ⟨_, q, by simp; omega⟩
      · go_wp2_with (at_builtin; refine wpB_append3 rfl (.tmp 23) (.tmp 26) rfl base A' n' c' l' rfl (HO.out.below (Below_new _ _)) _ _ 1 1 [UInt8.ofNat u] rfl (LiesB.new _ _ _ _ _ _ rfl (by simp [bv]; omega)) (n' + 1) _ rfl rfl (by omega) (by simp; omega) ?_; intro A2 c2 w2 own2 hb3 hg2; have HK2 := hide hg2; clear hg2)
        go_ret
        refine ⟨A2, n' + 1, c2, rfl, ?_, HB.out.step HK.out (Keeps.of_below (Below_new _ _)) hb3⟩
        rw [← HE.out, Var.put_small (u := u) (by omega)]
        exact own2
  · have sg : IntKind.u64.signed = false := rfl
    have e1 : v * 2 = (u0 : Int) := by rw [Hu.out, Var.zig, if_neg hv]; omega
    go_enter Try.func88, Try.ntmps88
    go_wp2
    all_goals clear e1
    go_loopw [0, 5] (fun s x wr => ∃ A' n' c' l' u, s = .slice A' n' c' ∧ x = .int .u64 (u : Nat) ∧ u < 18446744073709551616 ∧ OwnB wr base A' n' c' l' ∧ l' ++ Var.put u = l ++ Var.put u0 ∧ Keeps (Mine A n c) w wr ∧ ((Value.slice A' n' c').ownBlock = (Value.slice A n c).ownBlock ∨ ∃ g, (Value.slice A' n' c').ownBlock = some g ∧ w.heap.size ≤ g)) (fun _ x _ => (intOf x).toNat)
    case atStart => exact ⟨_, _, _, l, u0, rfl, rfl, Hz.out, HA.out, rfl, Keeps.refl _ _, .inl rfl⟩
    case round =>
      obtain ⟨A', n', c', l', u, rfl, rfl, hu, hown, heq, hbel, hblk⟩ := hrel
      have hlen : n' ≤ 1000010 := by
        have e2 := congrArg List.length heq
        have e3 := hown.len
        have e4 := HA.out.len
        rw [List.length_append, List.length_append] at e2
        omega
      have hb2 : base ≤ wr.heap.size := by have := hbel.size; omega
      have HO := hide hown
      have HB := hide hbel
      have HK := hide hblk
      have hsz := hbel.size
      have HE := hide heq
      have HU := hide hu
      clear hown hbel heq hu hblk
      by_cases hbig : 127 < u
      · go_wp2_with (at_builtin; refine wpB_append3 rfl (.tmp 15) (.tmp 19) rfl base A' n' c' l' rfl (HO.out.below (Below_new _ _)) _ _ 1 1 [UInt8.ofNat (u % 128 + 128)] rfl (LiesB.new _ _ _ _ _ _ rfl (by simp [bv]; exact Var.or128 u _ (by first | (go_num; done) | (simp [IntKind.wrap]; done) | omega | (rw [IntKind.wrap_u8']; omega)))) (n' + 1) _ rfl rfl (by omega) (by simp; omega) ?_; intro A2 c2 w2 own2 hb3 hg2; have HK2 := hide hg2; clear hg2)
        refine ⟨⟨A2, n' + 1, c2, _, u / 128, rfl, by go_num, by have := HU.out; omega, own2, ?_, HB.out.step HK.out (Keeps.of_below (Below_new _ _)) hb3, ?_⟩, by simp [intOf]; omega⟩
        · rw [← HE.out, List.append_assoc, Var.put_big (u := u) (by omega)]; rfl
        · rcases HK2.out with q | q
          · rw [q]; exact HK.out
          · exact .inr ⟨_, q, by simp; omega⟩
      · go_wp2_with (at_builtin; refine wpB_append3 rfl (.tmp 23) (.tmp 26) rfl base A' n' c' l' rfl (HO.out.below (Below_new _ _)) _ _ 1 1 [UInt8.ofNat u] rfl (LiesB.new _ _ _ _ _ _ rfl (by simp [bv]; omega)) (n' + 1) _ rfl rfl (by omega) (by simp; omega) ?_; intro A2 c2 w2 own2 hb3 hg2; have HK2 := hide hg2; clear hg2)
        go_ret
        refine ⟨A2, n' + 1, c2, rfl, ?_, HB.out.step HK.out (Keeps.of_below (Below_new _ _)) hb3⟩
        rw [← HE.out, Var.put_small (u := u) (by omega)]
        exact own2
end Go.Proofs.Ytbcgffgiifminaa
namespace Go.Proofs.Ytbcgffgiifminaa
open Go.RowKit
set_option maxRecDepth 10000
namespace Runs
def lead (x : UInt8) : List UInt8 → Nat
  | [] => 0
  | y :: t => if y = x then lead x t + 1 else 0
theorem lead_le (x : UInt8) (l : List UInt8) : lead x l ≤ l.length := by
  induction l with
  | nil => simp [lead]
  | cons y t ih => simp only [lead]; split <;> simp; omega
def enc (last : UInt8) : List UInt8 → List UInt8
  | [] => []
  | x :: t => Var.put (2 * (lead x t + 1)) ++ (x ^^^ last) :: enc x (t.drop (lead x t))
termination_by l => l.length
decreasing_by simp; omega
theorem enc_nil (last : UInt8) : enc last [] = [] := by rw [enc]
theorem enc_cons (last x : UInt8) (t : List UInt8) : enc last (x :: t) = Var.put (2 * (lead x t + 1)) ++ (x ^^^ last) :: enc x (t.drop (lead x t)) := by rw [enc]
theorem lead_nil (x : UInt8) : lead x [] = 0 := rfl
theorem lead_eq {x : UInt8} {l : List UInt8} {k : Nat} (hk : k < l.length) (h : l[k] = x) : lead x (l.drop k) = lead x (l.drop (k + 1)) + 1 := by
  rw [List.drop_eq_getElem_cons hk, lead, if_pos h]
theorem lead_ne {x : UInt8} {l : List UInt8} {k : Nat} (hk : k < l.length) (h : ¬ l[k] = x) : lead x (l.drop k) = 0 := by
  rw [List.drop_eq_getElem_cons hk, lead, if_neg h]
theorem lead_end {x : UInt8} {l : List UInt8} {k : Nat} (hk : l.length ≤ k) : lead x (l.drop k) = 0 := by
  rw [List.drop_eq_nil_of_le hk]; rfl
/-- One run: from a place to where the next one begins. -/
theorem enc_step {l : List UInt8} {a k : Nat} (ha : a < l.length) (hk : lead l[a] (l.drop k) + (k - a) = lead l[a] (l.drop a)) (h0 : lead l[a] (l.drop k) = 0) (hak : a ≤ k) (last : UInt8) :
    enc last (l.drop a) = Var.put (Var.zig ((k : Int) - a)) ++ (l[a] ^^^ last) :: enc l[a] (l.drop k) := by
  have h1 := lead_eq (x := l[a]) ha rfl
  have hz : Var.zig ((k : Int) - a) = 2 * (lead l[a] (l.drop (a + 1)) + 1) := by unfold Var.zig; rw [if_neg (by omega)]; omega
  have hd : l.drop k = (l.drop (a + 1)).drop (lead l[a] (l.drop (a + 1))) := by rw [List.drop_drop]; congr 1; omega
  rw [hz, hd, List.drop_eq_getElem_cons ha, enc_cons]
theorem enc_len (n : Nat) : ∀ (last : UInt8) (l : List UInt8), l.length ≤ n → l.length ≤ 1000000 → (enc last l).length ≤ 11 * l.length := by
  induction n with
  | zero => intro last l h _; have : l = [] := List.eq_nil_of_length_eq_zero (by omega); subst this; rw [enc_nil]; simp
  | succ n ih =>
    intro last l h hm
    cases l with
    | nil => rw [enc_nil]; simp
    | cons x t =>
      rw [enc_cons]
      have h1 := lead_le x t
      simp only [List.length_cons] at h hm
      have h2 := Var.put_len10 (2 * (lead x t + 1)) (by omega)
      have h3 := ih x (t.drop (lead x t)) (by rw [List.length_drop]; omega) (by rw [List.length_drop]; omega)
      rw [List.length_drop] at h3
      simp only [List.length_append, List.length_cons]
      omega
end Runs
end Go.Proofs.Ytbcgffgiifminaa
namespace Go.Proofs.Ytbcgffgiifminaa
open Go.RowKit
set_option maxRecDepth 10000
set_option linter.unusedVariables false
namespace Var
theorem get_nil (i u : Nat) : get i u [] = (0, 0, 2) := rfl
theorem get_form9 {i u : Nat} {c : UInt8} {t : List UInt8} (h : i = 9) (h2 : 1 < c.toNat) : get i u (c :: t) = (0, 0, 1) := by rw [get, if_pos ⟨h, h2⟩]
theorem get_on {i u : Nat} {c : UInt8} {t : List UInt8} (h : ¬ (i = 9 ∧ 1 < c.toNat)) (h2 : 128 ≤ c.toNat) : get i u (c :: t) = get (i + 1) (u + (c.toNat - 128) * 128 ^ i) t := by rw [get, if_neg h, if_pos h2]
theorem get_form0 {i u : Nat} {c : UInt8} {t : List UInt8} (h2 : c.toNat = 0) (h3 : 0 < i) : get i u (c :: t) = (0, 0, 1) := by
  rw [get, if_neg (by omega), if_neg (by omega), if_pos ⟨h3, h2⟩]
theorem get_ok {i u : Nat} {c : UInt8} {t : List UInt8} (h : ¬ (i = 9 ∧ 1 < c.toNat)) (h2 : c.toNat < 128) (h3 : ¬ (0 < i ∧ c.toNat = 0)) : get i u (c :: t) = (unzig (u + c.toNat * 128 ^ i), i + 1, 0) := by
  rw [get, if_neg h, if_neg (by omega), if_neg h3]
/-- What is behind a place: the byte there, and the rest. -/
theorem drop_at {l : List UInt8} {k : Nat} (h : k < l.length) : l.drop k = l[k] :: l.drop (k + 1) := List.drop_eq_getElem_cons h
theorem and127 (c : UInt8) : bits BinOp.and IntKind.u8 (c.toNat : Int) 127 = ((c.toNat % 128 : Nat) : Int) := by
  rw [show (127 : Int) = ((127 : Nat) : Int) from rfl, u8_and_nat _ _ c.toNat_lt (by omega)]
  congr 1
  exact Nat.and_two_pow_sub_one_eq_mod c.toNat 7
theorem room {u x k : Nat} (hu : u < 128 ^ k) (hx : x < 128) (hk : k ≤ 9) (h9 : k = 9 → x ≤ 1) : x * 128 ^ k < 18446744073709551616 ∧ u + x * 128 ^ k < 18446744073709551616 ∧ u + x * 128 ^ k < 128 ^ (k + 1) := by
  have h1 : k = 0 ∨ k = 1 ∨ k = 2 ∨ k = 3 ∨ k = 4 ∨ k = 5 ∨ k = 6 ∨ k = 7 ∨ k = 8 ∨ k = 9 := by omega
  rcases h1 with rfl | rfl | rfl | rfl | rfl | rfl | rfl | rfl | rfl | rfl <;> simp at h9 hu ⊢ <;> omega
theorem wrap_small (x : Nat) (h : x < 18446744073709551616) : IntKind.u64.wrap (x : Int) = (x : Int) := by rw [IntKind.wrap_u64]; omega
theorem half (s : Nat) (h : s < 18446744073709551616) : wrap64 ((s : Int) / 2) = (s : Int) / 2 := by
  unfold wrap64; omega
theorem or_up {u x k : Nat} (hu : u < 128 ^ k) (hx : x < 128) (hk : k ≤ 9) (h9 : k = 9 → x ≤ 1) : bits BinOp.or IntKind.u64 (u : Int) ((x * 128 ^ k : Nat) : Int) = ((u + x * 128 ^ k : Nat) : Int) := by
  have e : (128 : Nat) ^ k = 2 ^ (7 * k) := by rw [Nat.pow_mul]
  have hp := room hu hx hk h9
  rw [u64_or_nat _ _ (by omega) (by omega)]
  congr 1
  rw [e] at hu ⊢
  have := Nat.shiftLeft_add_eq_or_of_lt hu x
  rw [Nat.shiftLeft_eq] at this
  rw [Nat.or_comm, ← this, Nat.add_comm]
theorem par (s : Nat) (h : s < 18446744073709551616) : bits BinOp.and IntKind.u64 (s : Int) 1 = ((s % 2 : Nat) : Int) := by
  rw [show (1 : Int) = ((1 : Nat) : Int) from rfl, u64_and_nat _ _ h (by omega)]
  congr 1
  exact Nat.and_two_pow_sub_one_eq_mod s 1
theorem not64 (t : Nat) (h : t < 9223372036854775808) : bits BinOp.xor IntKind.i64 (-1) (t : Int) = -(t : Int) - 1 := by
  show IntKind.i64.wrap ((BitVec.ofInt 64 (-1) ^^^ BitVec.ofInt 64 (t : Int)).toNat : Int) = _
  have e1 : BitVec.ofInt 64 (-1) = BitVec.allOnes 64 := by decide
  have e2 : BitVec.ofInt 64 (t : Int) = BitVec.ofNat 64 t := by rw [BitVec.ofInt_natCast]
  have e3 : (~~~ (BitVec.ofNat 64 t)).toNat = 2 ^ 64 - 1 - t := by rw [BitVec.toNat_not, BitVec.toNat_ofNat, Nat.mod_eq_of_lt (by omega)]
  rw [e1, e2, BitVec.allOnes_xor, e3, IntKind.wrap_i64]
  omega
theorem shl_up (x k : Nat) (h : x * 128 ^ k < 18446744073709551616) : IntKind.u64.wrap ((x : Int) * 2 ^ (7 * k)) = ((x * 128 ^ k : Nat) : Int) := by
  have e : ((x : Int) * 2 ^ (7 * k)) = ((x * 128 ^ k : Nat) : Int) := by
    rw [Int.natCast_mul, Int.natCast_pow]
    congr 1
    rw [Int.pow_mul]; rfl
  rw [e, IntKind.wrap_u64]
  omega
end Var

set_option maxRecDepth 10000 in
set_option maxHeartbeats 1000000 in
theorem num_Get (A : Option Addr) (n c B : Nat) (l : List UInt8) (w : World) (hA : LiesB w B A n l) (hn : n ≤ 140737488355328) (v : Int) (m : Nat) (er : Int) (hv : Var.get 0 0 l = (v, m, er)) :
    Calls Try.prog 86 #[.slice A n c] w fun e w' => e = .returned (.tuple #[.int .i64 v, .int .i64 m, .int .i64 er]) ∧ w = w' := by
  have HA := hide hA
  have HV := hide hv
  clear hA hv
  go_enter Try.func86, Try.ntmps86
  go_wp2
  go_loop [5, 11] (fun x i => ∃ k u : Nat, k ≤ n ∧ k ≤ 9 ∧ i = .int .i64 k ∧ x = .int .u64 (u : Nat) ∧ u < 128 ^ k ∧ Var.get k u (l.drop k) = (v, m, er)) (fun _ i => n - (intOf i).toNat)
  case atStart => exact ⟨0, 0, Nat.zero_le _, by omega, rfl, rfl, by simp, HV.out⟩
  case round =>
    obtain ⟨k, u, hk, hk9, rfl, rfl, hu, hg⟩ := hrel
    by_cases hlt : k < n
    · obtain ⟨b, off, hlk, rfl, -, hc⟩ := HA.out.at_ hlt
      rw [Var.drop_at hlk] at hg
      obtain ⟨z, hz⟩ : ∃ z, z = l[k] := ⟨_, rfl⟩
      rw [← hz] at hc hg
      have Hu := hide hu
      clear hz hu
      have hz2 := z.toNat_lt
      by_cases h9 : k = 9 ∧ 1 < z.toNat
      · rw [Var.get_form9 h9.1 h9.2] at hg
        injection hg with e1 e2; injection e2 with e2 e3
        subst e1 e2 e3
        obtain ⟨rfl, h92⟩ := h9
        go_wp2
        go_ret3
        exact ⟨rfl, rfl⟩
      · have hx9 : k = 9 → z.toNat % 128 ≤ 1 := by omega
        have hr := Var.room Hu.out (Nat.mod_lt z.toNat (by omega : 0 < 128)) hk9 hx9
        have hAnd := Var.and127 z
        have hOr := Var.or_up Hu.out (Nat.mod_lt z.toNat (by omega : 0 < 128)) hk9 hx9
        have hShl := Var.shl_up (z.toNat % 128) k hr.1
        have hxz : z.toNat < 128 → z.toNat % 128 = z.toNat := fun h => Nat.mod_eq_of_lt h
        have hxz2 : 128 ≤ z.toNat → z.toNat % 128 = z.toNat - 128 := fun h => by omega
        have hw := Var.wrap_small (z.toNat % 128) (by omega)
        have Hx9 := hide hx9
        clear hx9
        obtain ⟨x, hx⟩ : ∃ x, x = z.toNat % 128 := ⟨_, rfl⟩
        rw [← hx] at hr hAnd hOr hShl hxz hxz2 hw
        have HX := hide hx
        clear hx
        obtain ⟨y, hy⟩ : ∃ y, y = x * 128 ^ k := ⟨_, rfl⟩
        rw [← hy] at hr hOr hShl
        have HY := hide hy
        clear hy
        obtain ⟨s, hs⟩ : ∃ s, s = u + y := ⟨_, rfl⟩
        rw [← hs] at hr hOr
        have HS := hide hs
        clear hs
        have HR := hide hr
        have HXZ := hide hxz
        have HXZ2 := hide hxz2
        have HN := hide h9
        clear hr hxz hxz2
        by_cases hbig : 128 ≤ z.toNat
        · rw [Var.get_on h9 hbig, ← HXZ2.out hbig, ← HY.out, ← HS.out] at hg
          have HG := hide hg
          have d9 : ((k : Int) == 9) = false := by simp; omega
          have hk8 : k < 9 := by omega
          clear hg h9
          go_wp2
          exact ⟨⟨k + 1, s, by omega, by omega, by go_num, rfl, by rw [HS.out, HY.out]; exact (Var.room Hu.out (by have := HX.out; omega) hk9 (fun h => absurd h (by omega))).2.2, HG.out⟩, by simp [intOf]; omega⟩
        · have hsm : z.toNat < 128 := by omega
          by_cases h0 : 0 < k ∧ z.toNat = 0
          · rw [Var.get_form0 h0.2 h0.1] at hg
            injection hg with e1 e2; injection e2 with e2 e3
            subst e1 e2 e3
            obtain ⟨h01, h02⟩ := h0
            clear h9
            rw [h02] at hc
            by_cases hk9' : k = 9
            · subst hk9'
              go_wp2
              all_goals (go_ret3; exact ⟨rfl, rfl⟩)
            · have d9 : ((k : Int) == 9) = false := by simp; omega
              go_wp2
              all_goals (go_ret3; exact ⟨rfl, rfl⟩)
          · rw [Var.get_ok h9 hsm h0, ← HXZ.out hsm, ← HY.out, ← HS.out] at hg
            injection hg with e1 e2; injection e2 with e2 e3
            subst e2 e3
            have hpar := Var.par s HR.out.2.1
            have hnot : bits BinOp.xor IntKind.i64 (-1) ((s : Int) / 2) = -((s : Int) / 2) - 1 := Var.not64 (s / 2) (by have := HR.out.2.1; omega)
            have hW := Var.half s HR.out.2.1
            have H0 := hide h0
            have s64 : IntKind.i64.signed = true := rfl
            have hcase : v = if s % 2 = 1 then -((s : Int) / 2) - 1 else (s : Int) / 2 := by rw [← e1]; unfold Var.unzig; split <;> omega
            clear h9 h0 e1
            by_cases hk9' : k = 9
            · subst hk9'
              have hz1 : z.toNat ≤ 1 := by have := HN.out; omega
              have hz0 : ((z.toNat : Int) == 0) = false := by have := H0.out; simp; omega
              have hShl' : IntKind.u64.wrap ((x : Int) * 9223372036854775808) = (y : Int) := hShl
              clear hShl
              by_cases hs2 : s % 2 = 1
              · rw [hs2] at hpar
                rw [if_pos hs2] at hcase
                subst hcase
                go_wp2
                go_ret3
                exact ⟨rfl, rfl⟩
              · rw [show s % 2 = 0 by omega] at hpar
                rw [if_neg hs2] at hcase
                subst hcase
                go_wp2
                go_ret3
                exact ⟨rfl, rfl⟩
            · have d9 : ((k : Int) == 9) = false := by simp; omega
              by_cases hk0 : k = 0
              · subst hk0
                have hc' := hc
                rw [Nat.add_zero] at hc'
                have hShl' : IntKind.u64.wrap ((x : Int) * 1) = (y : Int) := hShl
                have hxy : x = y := by rw [HY.out]; simp
                by_cases hs2 : s % 2 = 1
                · rw [hs2] at hpar
                  rw [if_pos hs2] at hcase
                  subst hcase hxy
                  go_wp2
                  go_ret3
                  exact ⟨rfl, rfl⟩
                · rw [show s % 2 = 0 by omega] at hpar
                  rw [if_neg hs2] at hcase
                  subst hcase hxy
                  go_wp2
                  go_ret3
                  exact ⟨rfl, rfl⟩
              · have hz0 : ((z.toNat : Int) == 0) = false := by have := H0.out; simp; omega
                have hkp : 0 < k := by omega
                by_cases hs2 : s % 2 = 1
                · rw [hs2] at hpar
                  rw [if_pos hs2] at hcase
                  subst hcase
                  go_wp2
                  go_ret3
                  exact ⟨rfl, rfl⟩
                · rw [show s % 2 = 0 by omega] at hpar
                  rw [if_neg hs2] at hcase
                  subst hcase
                  go_wp2
                  go_ret3
                  exact ⟨rfl, rfl⟩
    · rw [List.drop_eq_nil_of_le (by rw [HA.out.len]; omega), Var.get_nil] at hg
      injection hg with e1 e2; injection e2 with e2 e3
      subst e1 e2 e3
      go_wp2
      go_ret3
      exact ⟨rfl, rfl⟩
end Go.Proofs.Ytbcgffgiifminaa
namespace Go.Proofs.Ytbcgffgiifminaa
open Go.RowKit
set_option maxRecDepth 10000
namespace Var
theorem get_facts (l : List UInt8) : ∀ (i u : Nat) (v : Int) (k : Nat) (e : Int), i ≤ 9 → u < 128 ^ i → get i u l = (v, k, e) →
    -9223372036854775808 ≤ v ∧ v ≤ 9223372036854775807 ∧ k ≤ i + l.length ∧ (e = 0 ∨ e = 1 ∨ e = 2) ∧ (e = 0 → i < k) := by
  induction l with
  | nil =>
    intro i u v k e hi hu h
    rw [get_nil] at h
    injection h with h1 h2; injection h2 with h2 h3
    subst h1 h2 h3
    simp
  | cons c t ih =>
    intro i u v k e hi hu h
    have hc := c.toNat_lt
    by_cases h9 : i = 9 ∧ 1 < c.toNat
    · rw [get_form9 h9.1 h9.2] at h
      injection h with h1 h2; injection h2 with h2 h3
      subst h1 h2 h3
      simp
    · by_cases hb : 128 ≤ c.toNat
      · rw [get_on h9 hb] at h
        have hr := room (x := c.toNat - 128) hu (by omega) hi (by omega)
        have := ih (i + 1) _ v k e (by omega) hr.2.2 h
        simp only [List.length_cons]
        refine ⟨this.1, this.2.1, by omega, this.2.2.2.1, fun h => by have := this.2.2.2.2 h; omega⟩
      · by_cases h0 : 0 < i ∧ c.toNat = 0
        · rw [get_form0 h0.2 h0.1] at h
          injection h with h1 h2; injection h2 with h2 h3
          subst h1 h2 h3
          simp
        · rw [get_ok h9 (by omega) h0] at h
          injection h with h1 h2; injection h2 with h2 h3
          subst h1 h2 h3
          have hr := room (x := c.toNat) hu (by omega) hi (by omega)
          refine ⟨unzig_lo _ hr.2.1, unzig_hi _ hr.2.1, by simp only [List.length_cons]; omega, .inl rfl, fun _ => by omega⟩
end Var
namespace Runs
/-- Is the next run one that may not be? -/
def bad (first : Bool) (l : List UInt8) : Prop := (Var.get 0 0 l).2.2 ≠ 0 ∨ (Var.get 0 0 l).1 < 1 ∨ l.length ≤ (Var.get 0 0 l).2.1 ∨ (l.getD (Var.get 0 0 l).2.1 0 = 0 ∧ first = false)
instance (first : Bool) (l : List UInt8) : Decidable (bad first l) := by unfold bad; infer_instance
def dec (most : Nat) (first : Bool) (a : UInt8) (out l : List UInt8) : List UInt8 × Int :=
  if h : l = [] then (out, 0)
  else if bad first l then ([], 1)
  else if (most : Int) - out.length < (Var.get 0 0 l).1 then ([], 4)
  else dec most false (a ^^^ l.getD (Var.get 0 0 l).2.1 0) (out ++ List.replicate (Var.get 0 0 l).1.toNat (a ^^^ l.getD (Var.get 0 0 l).2.1 0)) (l.drop ((Var.get 0 0 l).2.1 + 1))
termination_by l.length
decreasing_by
  have : l.length ≠ 0 := fun h' => h (List.eq_nil_of_length_eq_zero h')
  simp only [List.length_drop]; omega
section
variable {most : Nat} {first : Bool} {a : UInt8} {out l : List UInt8} {v : Int} {k : Nat} {e : Int}
theorem dec_nil : dec most first a out [] = (out, 0) := by rw [dec]; simp
theorem dec_bad (hg : Var.get 0 0 l = (v, k, e)) (hl : l ≠ []) (h : e ≠ 0 ∨ v < 1 ∨ l.length ≤ k ∨ (l.getD k 0 = 0 ∧ first = false)) : dec most first a out l = ([], 1) := by
  rw [dec, dif_neg hl, if_pos (by unfold bad; rw [hg]; exact h)]
theorem dec_full (hg : Var.get 0 0 l = (v, k, e)) (hl : l ≠ []) (h : ¬ (e ≠ 0 ∨ v < 1 ∨ l.length ≤ k ∨ (l.getD k 0 = 0 ∧ first = false))) (h2 : (most : Int) - out.length < v) : dec most first a out l = ([], 4) := by
  rw [dec, dif_neg hl, if_neg (by unfold bad; rw [hg]; exact h), if_pos (by rw [hg]; exact h2)]
theorem dec_on (hg : Var.get 0 0 l = (v, k, e)) (hl : l ≠ []) (h : ¬ (e ≠ 0 ∨ v < 1 ∨ l.length ≤ k ∨ (l.getD k 0 = 0 ∧ first = false))) (h2 : ¬ (most : Int) - out.length < v) :
    dec most first a out l = dec most false (a ^^^ l.getD k 0) (out ++ List.replicate v.toNat (a ^^^ l.getD k 0)) (l.drop (k + 1)) := by
  rw [dec, dif_neg hl, if_neg (by unfold bad; rw [hg]; exact h), if_neg (by rw [hg]; exact h2)]
  simp only [hg]
end
end Runs
end Go.Proofs.Ytbcgffgiifminaa
namespace Go.Proofs.Ytbcgffgiifminaa
open Go.RowKit
set_option maxRecDepth 10000
namespace Var
/-- What Put writes Get reads. -/
theorem get_put (k : Nat) : ∀ (i acc u : Nat) (t : List UInt8), i + k = 9 → u < 2 * 128 ^ k → (0 < i → 0 < u) →
    get i acc (put u ++ t) = (unzig (acc + u * 128 ^ i), i + (put u).length, 0) := by
  induction k with
  | zero =>
    intro i acc u t hi hu h0
    have hs : u < 128 := by omega
    have e : (UInt8.ofNat u).toNat = u := by rw [UInt8.toNat_ofNat']; omega
    rw [put_small hs]
    show get i acc (UInt8.ofNat u :: t) = _
    rw [get_ok (by rw [e]; omega) (by rw [e]; exact hs) (by rw [e]; omega), e]
    rfl
  | succ k ih =>
    intro i acc u t hi hu h0
    by_cases hs : u < 128
    · have e : (UInt8.ofNat u).toNat = u := by rw [UInt8.toNat_ofNat']; omega
      rw [put_small hs]
      show get i acc (UInt8.ofNat u :: t) = _
      rw [get_ok (by rw [e]; omega) (by rw [e]; exact hs) (by rw [e]; omega), e]
      rfl
    · have e : (UInt8.ofNat (u % 128 + 128)).toNat = u % 128 + 128 := by rw [UInt8.toNat_ofNat']; omega
      rw [put_big hs]
      show get i acc (UInt8.ofNat (u % 128 + 128) :: (put (u / 128) ++ t)) = _
      rw [get_on (by omega) (by rw [e]; omega), e, ih (i + 1) _ (u / 128) t (by omega) (by rw [Nat.pow_succ] at hu; omega) (fun _ => by omega)]
      have h1 : acc + (u % 128 + 128 - 128) * 128 ^ i + u / 128 * 128 ^ (i + 1) = acc + u * 128 ^ i := by
        have h3 : u % 128 + 128 - 128 = u % 128 := by omega
        rw [h3, Nat.pow_succ]
        generalize 128 ^ i = p
        have h4 : u / 128 * (p * 128) = 128 * (u / 128) * p := by rw [Nat.mul_comm p 128, ← Nat.mul_assoc, Nat.mul_comm (u / 128) 128]
        have h5 : u * p = u % 128 * p + 128 * (u / 128) * p := by rw [← Nat.add_mul, show u % 128 + 128 * (u / 128) = u by omega]
        rw [h4, h5, Nat.add_assoc]
      rw [h1, List.length_cons]
      congr 2
      omega
set_option maxRecDepth 100000 in
theorem get_put0 (u : Nat) (t : List UInt8) (hu : u < 18446744073709551616) : get 0 0 (put u ++ t) = (unzig u, (put u).length, 0) := by
  have := get_put 9 0 0 u t rfl (by omega) (fun h => by omega)
  simpa using this
end Var
namespace Runs
theorem lead_split (x : UInt8) (l : List UInt8) : l = List.replicate (lead x l) x ++ l.drop (lead x l) := by
  induction l with
  | nil => rfl
  | cons y t ih =>
    by_cases h : y = x
    · subst h
      simp only [lead, if_pos, List.replicate_succ, List.drop_succ_cons, List.cons_append]
      exact congrArg _ ih
    · simp [lead, h]
theorem lead_stop (x : UInt8) (l : List UInt8) : ∀ y r, l.drop (lead x l) = y :: r → y ≠ x := by
  induction l with
  | nil => intro y r h; simp at h
  | cons z t ih =>
    intro y r h
    by_cases hz : z = x
    · subst hz
      simp only [lead, if_pos, List.drop_succ_cons] at h
      exact ih y r h
    · simp only [lead, if_neg hz, List.drop_zero] at h
      injection h with h1 h2
      rw [← h1]
      exact hz
theorem xor_back (a x : UInt8) : a ^^^ (x ^^^ a) = x := by
  rw [UInt8.xor_comm x a, ← UInt8.xor_assoc, UInt8.xor_self, UInt8.zero_xor]
theorem xor_zero {a x : UInt8} (h : x ^^^ a = 0) : x = a := by
  have := xor_back a x
  rw [h, UInt8.xor_zero] at this
  exact this.symm
/-- What Encode writes Decode reads, if there is room. -/
theorem dec_enc (N : Nat) : ∀ (M : Nat) (first : Bool) (a : UInt8) (out l : List UInt8), l.length ≤ N → l.length ≤ 1000000 → out.length ≤ M → (first = false → ∀ y r, l = y :: r → y ≠ a) →
    dec M first a out (enc a l) = if out.length + l.length ≤ M then (out ++ l, 0) else ([], 4) := by
  induction N with
  | zero =>
    intro M first a out l h _ hout _
    have : l = [] := List.eq_nil_of_length_eq_zero (by omega)
    subst this
    rw [enc_nil, dec_nil, if_pos (by simpa using hout), List.append_nil]
  | succ N ih =>
    intro M first a out l h hm hout hfirst
    cases l with
    | nil => rw [enc_nil, dec_nil, if_pos (by simpa using hout), List.append_nil]
    | cons x t =>
      rw [enc_cons]
      have hle := lead_le x t
      simp only [List.length_cons] at h hm ⊢
      obtain ⟨n, hn⟩ : ∃ n, n = lead x t + 1 := ⟨_, rfl⟩
      rw [← hn]
      have hg := Var.get_put0 (2 * n) ((x ^^^ a) :: enc x (t.drop (lead x t))) (by omega)
      have hz : Var.unzig (2 * n) = (n : Int) := by unfold Var.unzig; rw [if_neg (by omega)]; omega
      rw [hz] at hg
      have hp := Var.put_ne (2 * n)
      have hne : Var.put (2 * n) ++ (x ^^^ a) :: enc x (t.drop (lead x t)) ≠ [] := by simp
      have hget : (Var.put (2 * n) ++ (x ^^^ a) :: enc x (t.drop (lead x t))).getD (Var.put (2 * n)).length 0 = x ^^^ a := by
        rw [List.getD_eq_getElem?_getD, List.getElem?_append_right (Nat.le_refl _)]; simp
      have hok : ¬ ((0 : Int) ≠ 0 ∨ (n : Int) < 1 ∨ (Var.put (2 * n) ++ (x ^^^ a) :: enc x (t.drop (lead x t))).length ≤ (Var.put (2 * n)).length ∨ ((Var.put (2 * n) ++ (x ^^^ a) :: enc x (t.drop (lead x t))).getD (Var.put (2 * n)).length 0 = 0 ∧ first = false)) := by
        rw [hget]
        rintro (q | q | q | ⟨q, q2⟩)
        · exact q rfl
        · omega
        · rw [List.length_append, List.length_cons] at q; omega
        · exact hfirst q2 x t rfl (xor_zero q)
      have hsplit : x :: t = List.replicate n x ++ t.drop (lead x t) := by
        rw [hn, List.replicate_succ, List.cons_append]
        exact congrArg _ (lead_split x t)
      by_cases hfull : (M : Int) - out.length < n
      · rw [dec_full hg hne hok hfull, if_neg (by omega)]
      · rw [dec_on hg hne hok hfull, hget, xor_back]
        have hd : (Var.put (2 * n) ++ (x ^^^ a) :: enc x (t.drop (lead x t))).drop ((Var.put (2 * n)).length + 1) = enc x (t.drop (lead x t)) := by
          rw [List.drop_append, List.drop_eq_nil_of_le (by omega)]
          simp
        have hi : ((n : Int)).toNat = n := by omega
        rw [hd, hi, ih M false x _ _ (by rw [List.length_drop]; omega) (by rw [List.length_drop]; omega) (by rw [List.length_append, List.length_replicate]; omega) (fun _ y r e => lead_stop x t y r e)]
        rw [List.length_append, List.length_replicate, List.length_drop, List.append_assoc, ← hsplit]
        by_cases hf : out.length + (t.length + 1) ≤ M
        · rw [if_pos (by omega), if_pos (by omega)]
        · rw [if_neg (by omega), if_neg (by omega)]
theorem dec_enc0 (M : Nat) (l : List UInt8) (hl : l.length ≤ 1000000) : dec M true 0 [] (enc 0 l) = if l.length ≤ M then (l, 0) else ([], 4) := by
  have := dec_enc l.length M true 0 [] l (Nat.le_refl _) hl (by simp) (fun h => by cases h)
  simpa using this
/-- Two lists of one text of runs are one. -/
theorem enc_inj {l l' : List UInt8} (hl : l.length ≤ 1000000) (hl' : l'.length ≤ 1000000) (h : enc 0 l = enc 0 l') : l = l' := by
  have h1 := dec_enc0 1000000 l hl
  have h2 := dec_enc0 1000000 l' hl'
  rw [if_pos hl] at h1
  rw [if_pos hl'] at h2
  rw [h, h2] at h1
  injection h1 with h1 _
  exact h1.symm
end Runs
end Go.Proofs.Ytbcgffgiifminaa
namespace Go.Proofs.Ytbcgffgiifminaa
open Go.RowKit
set_option maxRecDepth 10000
namespace Var
/-- What Get reads Put writes. -/
theorem get_back (l : List UInt8) : ∀ (i u : Nat) (v : Int) (k : Nat), i ≤ 9 → u < 128 ^ i → get i u l = (v, k, 0) →
    ∃ x, v = unzig (u + x * 128 ^ i) ∧ i < k ∧ k ≤ i + l.length ∧ l.take (k - i) = put x ∧ (0 < i → 0 < x) := by
  induction l with
  | nil => intro i u v k hi hu h; rw [get_nil] at h; simp at h
  | cons c t ih =>
    intro i u v k hi hu h
    have hc := c.toNat_lt
    by_cases h9 : i = 9 ∧ 1 < c.toNat
    · rw [get_form9 h9.1 h9.2] at h; simp at h
    · by_cases hb : 128 ≤ c.toNat
      · rw [get_on h9 hb] at h
        have hr := room (x := c.toNat - 128) hu (by omega) hi (by omega)
        obtain ⟨x, h1, h2, h3, h4, h5⟩ := ih (i + 1) _ v k (by omega) hr.2.2 h
        have hx := h5 (by omega)
        refine ⟨c.toNat - 128 + 128 * x, ?_, by omega, by simp only [List.length_cons]; omega, ?_, fun _ => by omega⟩
        · rw [h1]
          congr 1
          rw [Nat.pow_succ, Nat.add_mul, Nat.add_assoc]
          congr 2
          rw [Nat.mul_comm (128 ^ i) 128, ← Nat.mul_assoc, Nat.mul_comm x 128]
        · rw [show k - i = (k - (i + 1)) + 1 by omega, List.take_succ_cons, h4, put_big (u := c.toNat - 128 + 128 * x) (by omega)]
          congr 1
          · rw [← UInt8.toNat_inj, UInt8.toNat_ofNat']; omega
          · congr 1; omega
      · by_cases h0 : 0 < i ∧ c.toNat = 0
        · rw [get_form0 h0.2 h0.1] at h; simp at h
        · rw [get_ok h9 (by omega) h0] at h
          injection h with h1 h2; injection h2 with h2 h3
          refine ⟨c.toNat, h1.symm, by omega, by simp only [List.length_cons]; omega, ?_, fun _ => by omega⟩
          rw [show k - i = 0 + 1 by omega, List.take_succ_cons, List.take_zero, put_small (by omega)]
          congr 1
          rw [← UInt8.toNat_inj, UInt8.toNat_ofNat']; omega
theorem get_back0 {l : List UInt8} {v : Int} {k : Nat} (h : get 0 0 l = (v, k, 0)) : l.take k = put (zig v) ∧ k ≤ l.length := by
  obtain ⟨x, h1, h2, h3, h4, h5⟩ := get_back l 0 0 v k (by omega) (by simp) h
  rw [h1, zig_unzig]
  simp at h3 h4 ⊢
  exact ⟨h4, h3⟩
end Var
namespace Runs
theorem lead_rep (x : UInt8) (n : Nat) (l : List UInt8) (h : ∀ y r, l = y :: r → y ≠ x) : lead x (List.replicate n x ++ l) = n := by
  induction n with
  | zero =>
    cases l with
    | nil => rfl
    | cons y r => simp [lead, h y r rfl]
  | succ n ih => rw [List.replicate_succ, List.cons_append, lead, if_pos rfl, ih]
/-- What is read is what is written of it. -/
theorem dec_back (N : Nat) : ∀ (M : Nat) (first : Bool) (a : UInt8) (out l x : List UInt8), l.length ≤ N → dec M first a out l = (x, 0) → out.length ≤ M →
    ∃ y, x = out ++ y ∧ enc a y = l ∧ (first = false → ∀ z r, y = z :: r → z ≠ a) ∧ x.length ≤ M := by
  induction N with
  | zero =>
    intro M first a out l x hl h ho
    have : l = [] := List.eq_nil_of_length_eq_zero (by omega)
    subst this
    rw [dec_nil] at h
    injection h with h _
    exact ⟨[], by simp [h], enc_nil _, (fun _ _ _ h => by cases h), by rw [← h]; exact ho⟩
  | succ N ih =>
    intro M first a out l x hl h ho
    by_cases hne : l = []
    · subst hne
      rw [dec_nil] at h
      injection h with h _
      exact ⟨[], by simp [h], enc_nil _, (fun _ _ _ h => by cases h), by rw [← h]; exact ho⟩
    · obtain ⟨v, k, e, hg⟩ : ∃ v k e, Var.get 0 0 l = (v, k, e) := ⟨_, _, _, rfl⟩
      by_cases h3 : e ≠ 0 ∨ v < 1 ∨ l.length ≤ k ∨ (l.getD k 0 = 0 ∧ first = false)
      · rw [dec_bad hg hne h3] at h; simp at h
      · by_cases h4 : (M : Int) - out.length < v
        · rw [dec_full hg hne h3 h4] at h; simp at h
        · rw [dec_on hg hne h3 h4] at h
          have he : e = 0 := by
            rcases Decidable.em (e = 0) with q | q
            · exact q
            · exact absurd (.inl q) h3
          subst he
          obtain ⟨n, rfl⟩ : ∃ n : Nat, v = ((n + 1 : Nat) : Int) := ⟨v.toNat - 1, by omega⟩
          have hk : k < l.length := by omega
          have hpos : l.length ≠ 0 := by omega
          obtain ⟨c, hc⟩ : ∃ c, c = l.getD k 0 := ⟨_, rfl⟩
          rw [← hc] at h h3
          rw [Int.toNat_natCast] at h
          obtain ⟨y, y1, y2, y3, y4⟩ := ih M false (a ^^^ c) _ _ x (by rw [List.length_drop]; omega) h (by rw [List.length_append, List.length_replicate]; omega)
          refine ⟨List.replicate (n + 1) (a ^^^ c) ++ y, by rw [y1, List.append_assoc], ?_, ?_, y4⟩
          · rw [List.replicate_succ, List.cons_append, enc_cons, lead_rep _ _ _ (y3 rfl), List.drop_append, List.drop_eq_nil_of_le (by simp)]
            simp only [List.length_replicate, Nat.sub_self, List.drop_zero, List.nil_append, y2]
            have hp := (Var.get_back0 hg).1
            have hz : Var.zig ((n + 1 : Nat) : Int) = 2 * (n + 1) := by unfold Var.zig; rw [if_neg (by omega)]; omega
            rw [hz] at hp
            rw [← hp]
            have hx : a ^^^ c ^^^ a = c := by rw [UInt8.xor_comm a c, UInt8.xor_assoc, UInt8.xor_self, UInt8.xor_zero]
            rw [hx]
            have hd : l.drop k = c :: l.drop (k + 1) := by
              rw [List.drop_eq_getElem_cons hk, hc, List.getD_eq_getElem?_getD, List.getElem?_eq_getElem hk]; rfl
            rw [← hd, List.take_append_drop]
          · intro hf z r hz
            rw [List.replicate_succ, List.cons_append] at hz
            injection hz with hz _
            subst hz
            intro hza
            have hc0 : c = 0 := by
              have := xor_back a c
              rw [UInt8.xor_comm c a, hza, UInt8.xor_self] at this
              exact this.symm
            exact h3 (.inr (.inr (.inr ⟨hc0, hf⟩)))
theorem dec_back0 {M : Nat} {l x : List UInt8} {e : Int} (h : dec M true 0 [] l = (x, e)) (he : e = 0) : enc 0 x = l ∧ x.length ≤ M := by
  subst he
  obtain ⟨y, y1, y2, _, y4⟩ := dec_back l.length M true 0 [] l x (Nat.le_refl _) h (by simp)
  rw [List.nil_append] at y1
  subst y1
  exact ⟨y2, y4⟩
theorem enc_rep (n : Nat) (x : UInt8) (a : UInt8) : enc a (List.replicate (n + 1) x) = Var.put (2 * (n + 1)) ++ [x ^^^ a] := by
  have h := lead_rep x n [] (fun y r h => by cases h)
  rw [List.append_nil] at h
  rw [List.replicate_succ, enc_cons, h, List.drop_eq_nil_of_le (by simp), enc_nil]
theorem dec_full_nil {M : Nat} {first : Bool} {a : UInt8} {out l : List UInt8} {x : List UInt8} {e : Int} (N : Nat) (hN : l.length ≤ N) (h : dec M first a out l = (x, e)) (he : e ≠ 0) : x = [] := by
  induction N generalizing first a out l with
  | zero =>
    have : l = [] := List.eq_nil_of_length_eq_zero (by omega)
    subst this
    rw [dec_nil] at h
    injection h with _ h
    exact absurd h.symm he
  | succ N ih =>
    by_cases hne : l = []
    · subst hne
      rw [dec_nil] at h
      injection h with _ h
      exact absurd h.symm he
    · obtain ⟨v, k, e2, hg⟩ : ∃ v k e, Var.get 0 0 l = (v, k, e) := ⟨_, _, _, rfl⟩
      have hpos : l.length ≠ 0 := fun h => hne (List.eq_nil_of_length_eq_zero h)
      by_cases h3 : e2 ≠ 0 ∨ v < 1 ∨ l.length ≤ k ∨ (l.getD k 0 = 0 ∧ first = false)
      · rw [dec_bad hg hne h3] at h
        injection h with h _
        exact h.symm
      · by_cases h4 : (M : Int) - out.length < v
        · rw [dec_full hg hne h3 h4] at h
          injection h with h _
          exact h.symm
        · rw [dec_on hg hne h3 h4] at h
          exact ih (by rw [List.length_drop]; omega) h
theorem enc_557 : enc 0 [5, 5, 7] = [4, 5, 2, 2] := by
  rw [enc_cons, show lead 5 [5, 7] = 1 by decide, show ([5, 7] : List UInt8).drop 1 = [7] from rfl, enc_cons, show lead 7 [] = 0 from rfl, List.drop_zero, enc_nil, Var.put_small (by omega), Var.put_small (by omega)]
  decide
theorem dec_b3 : dec 3 true 0 [] [4, 5, 2, 2] = ([5, 5, 7], 0) := by
  have := dec_enc0 3 [5, 5, 7] (by decide)
  rw [enc_557] at this
  rw [this, if_pos (by decide)]
theorem dec_b2 : dec 2 true 0 [] [4, 5, 2, 2] = ([], 4) := by
  have := dec_enc0 2 [5, 5, 7] (by decide)
  rw [enc_557] at this
  rw [this, if_neg (by decide)]
theorem dec_b9 : dec 9 true 0 [] [2] = ([], 1) := dec_bad (v := 1) (k := 1) (e := 0) (by decide) (by simp) (by decide)
end Runs
end Go.Proofs.Ytbcgffgiifminaa
namespace Go.Proofs.Ytbcgffgiifminaa
open Go.RowKit
set_option maxRecDepth 10000

theorem bits_xor32 (a b : BitVec 32) : bits BinOp.xor IntKind.u32 (a.toNat : Int) (b.toNat : Int) = ((a ^^^ b).toNat : Int) := by
  rw [u32_xor_nat _ _ a.isLt b.isLt, BitVec.toNat_xor]
theorem bits_and32 (a b : BitVec 32) : bits BinOp.and IntKind.u32 (a.toNat : Int) (b.toNat : Int) = ((a &&& b).toNat : Int) := by
  rw [u32_and_nat _ _ a.isLt b.isLt, BitVec.toNat_and]
theorem bits_not32 (a : BitVec 32) : bits BinOp.xor IntKind.u32 IntKind.u32.max (a.toNat : Int) = ((~~~ a).toNat : Int) := by
  have h : IntKind.u32.max = ((BitVec.allOnes 32).toNat : Int) := by decide
  rw [h, bits_xor32, BitVec.allOnes_xor]

namespace Crc
def poly : BitVec 32 := 0xedb88320#32
def bit (x : BitVec 32) : BitVec 32 := (x >>> 1) ^^^ (if x.getLsbD 0 then poly else 0#32)
def byte (x : BitVec 32) (c : BitVec 32) : BitVec 32 := bit (bit (bit (bit (bit (bit (bit (bit (x ^^^ c))))))))
def wide (c : UInt8) : BitVec 32 := BitVec.ofNat 32 c.toNat
def run (x : BitVec 32) (l : List UInt8) : BitVec 32 := l.foldl (fun x c => byte x (wide c)) x
def more (s : BitVec 32) (l : List UInt8) : BitVec 32 := ~~~ (run (~~~ s) l)
def sum (l : List UInt8) : BitVec 32 := more 0#32 l

theorem run_append (x : BitVec 32) (a b : List UInt8) : run x (a ++ b) = run (run x a) b := by simp [run]
theorem more_append (s : BitVec 32) (a b : List UInt8) : more s (a ++ b) = more (more s a) b := by simp [more, run_append]
theorem sum_append (a b : List UInt8) : sum (a ++ b) = more (sum a) b := more_append _ _ _

theorem bit_xor (x y : BitVec 32) : bit (x ^^^ y) = bit x ^^^ bit y := by
  unfold bit
  rw [BitVec.getLsbD_xor]
  have h : (x ^^^ y) >>> 1 = (x >>> 1) ^^^ (y >>> 1) := by ext i; simp
  rw [h]
  cases x.getLsbD 0 <;> cases y.getLsbD 0 <;> simp
  · ac_rfl
  · ac_rfl
  · have e : ∀ a b p : BitVec 32, a ^^^ b = a ^^^ p ^^^ (b ^^^ p) := fun a b p => by
      have : a ^^^ p ^^^ (b ^^^ p) = a ^^^ b ^^^ (p ^^^ p) := by ac_rfl
      rw [this]; simp
    exact e _ _ _
theorem bit_zero : bit 0#32 = 0#32 := by decide
theorem bit_inj {x : BitVec 32} (h : bit x = 0#32) : x = 0#32 := by
  have hp : poly.getLsbD 31 = true := by decide
  have h31 : (bit x).getLsbD 31 = false := by rw [h]; simp
  have h0 : x.getLsbD 0 = false := by
    unfold bit at h31
    cases hx : x.getLsbD 0 with
    | false => rfl
    | true =>
      rw [hx] at h31
      simp only [if_true, BitVec.getLsbD_xor, hp, BitVec.getLsbD_ushiftRight] at h31
      simp at h31
  have hs : x >>> 1 = 0#32 := by
    unfold bit at h
    rw [h0] at h
    simpa using h
  apply BitVec.eq_of_getLsbD_eq
  intro i hi
  cases i with
  | zero => simpa using h0
  | succ i =>
    have := congrArg (fun v => v.getLsbD i) hs
    simp only [BitVec.getLsbD_ushiftRight] at this
    rw [Nat.add_comm] at this
    simpa using this

def bits8 (x : BitVec 32) : BitVec 32 := bit (bit (bit (bit (bit (bit (bit (bit x)))))))
theorem byte_eq (x c : BitVec 32) : byte x c = bits8 (x ^^^ c) := rfl
theorem bits8_xor (x y : BitVec 32) : bits8 (x ^^^ y) = bits8 x ^^^ bits8 y := by simp only [bits8, bit_xor]
theorem bits8_zero : bits8 0#32 = 0#32 := by decide
theorem bits8_inj {x : BitVec 32} (h : bits8 x = 0#32) : x = 0#32 := bit_inj (bit_inj (bit_inj (bit_inj (bit_inj (bit_inj (bit_inj (bit_inj h)))))))
/-- The difference of two runs. -/
def diff (d : BitVec 32) (l : List (BitVec 32)) : BitVec 32 := l.foldl byte d
theorem xor_swap (a b c d : BitVec 32) : (a ^^^ b) ^^^ (c ^^^ d) = (a ^^^ c) ^^^ (b ^^^ d) := by ac_rfl
theorem byte_xor (x y c d : BitVec 32) : byte x c ^^^ byte y d = byte (x ^^^ y) (c ^^^ d) := by
  rw [byte_eq, byte_eq, byte_eq, ← bits8_xor, xor_swap]
theorem diff_zero_inj {x : BitVec 32} (l : List UInt8) (h : diff x (l.map fun _ => 0#32) = 0#32) : x = 0#32 := by
  induction l generalizing x with
  | nil => exact h
  | cons c l ih =>
    have := ih (x := byte x 0#32) h
    rw [byte_eq] at this
    simpa using bits8_inj this
end Crc
end Go.Proofs.Ytbcgffgiifminaa
