/-
  Mails, and what happened, told apart.
-/
import Derived.Test.YtbcgffgiifminaaDocH
import Derived.Deep.MidRow
namespace Go.Proofs.Ytbcgffgiifminaa
open Go.RowKit
set_option maxRecDepth 10000
set_option linter.unusedVariables false
set_option maxHeartbeats 4000000 in
theorem ref_EqMails {B1 B2 : Nat} {w : World} {A A2 : Option Addr} {n n2 c c2 : Nat} {xs ys : List (Mle × Sl)} (h1 : ML 124 B1 w A n c xs) (h2 : ML 124 B2 w A2 n2 c2 ys) (he : xs.map Prod.fst = ys.map Prod.fst) (hn : n ≤ 1000) :
    Calls Try.prog 37 #[.slice A n c, .slice A2 n2 c2] w fun r w' => r = .returned (.bool true) ∧ ∃ nd, w' = w.drewN nd := by
  have hxy : xs.length = ys.length := by have := congrArg List.length he; simpa using this
  obtain rfl : n2 = n := by rw [← h2.len, ← h1.len, hxy]
  have H1 := hide h1
  have H2 := hide h2
  have HE := hide he
  have HXY := hide hxy
  clear h1 h2 he hxy
  go_enter Try.func37, Try.ntmps37
  go_wp2_with fail
  go_loopg [5] n2 (fun gg s5 wr => ∃ (i nd : Nat), i ≤ n2 ∧ gg = n2 - i ∧ s5 = .int .i64 (i : Int) ∧ Hid (wr = w.drewN nd))
  case atStart => exact ⟨0, 0, by omega, rfl, rfl, rfl⟩
  case round =>
    obtain ⟨W1, hW1⟩ : ∃ W1, W1 = wr := ⟨_, rfl⟩
    subst hW1
    obtain ⟨i, nd, hin, rfl, rfl, HND⟩ := hrel
    by_cases hlt : i < n2
    · have hii : (i : Int) < (n2 : Int) := by omega
      have hx : i < xs.length := by rw [H1.out.len]; exact hlt
      have hy : i < ys.length := by rw [H2.out.len]; exact hlt
      obtain ⟨g1, rfl, a0, a1, a2⟩ := mail_cell H1.out.row hlt hx
      obtain ⟨g2, rfl, b0, b1, b2⟩ := mail_cell H2.out.row hlt hy
      have hm : (xs[i]'hx).1 = (ys[i]'hy).1 := by
        have h3 : (xs.map Prod.fst)[i]? = (ys.map Prod.fst)[i]? := by rw [HE.out]
        rw [List.getElem?_map, List.getElem?_map, List.getElem?_eq_getElem hx, List.getElem?_eq_getElem hy] at h3
        injection h3
      have o1 := H1.out.line _ (List.getElem_mem hx)
      have o2 := H2.out.line _ (List.getElem_mem hy)
      rw [hm] at a0 a1 o1
      obtain ⟨mm, hmm⟩ : ∃ mm : Mle, mm = (ys[i]'hy).1 := ⟨_, rfl⟩
      rw [← hmm] at a0 a1 o1 b0 b1 o2
      obtain ⟨⟨A3, n3, c3⟩, h3⟩ : ∃ b : Sl, b = (xs[i]'hx).2 := ⟨_, rfl⟩
      obtain ⟨⟨A4, n4, c4⟩, h4⟩ : ∃ b : Sl, b = (ys[i]'hy).2 := ⟨_, rfl⟩
      rw [← h3] at a2 o1
      rw [← h4] at b2 o2
      obtain ⟨src, dst, bb⟩ := mm
      simp only at a0 a1 b0 b1 o1 o2
      have bw : Below w.heap.size w W1 := by rw [HND.out]; exact Below_drewN (Below.refl _ _) nd
      have a0 := below_cell bw a0
      have a1 := below_cell bw a1
      have a2 : W1.cell? ⟨g1, i * 3 + 2, none⟩ = some (.slice A3 n3 c3) := below_cell bw a2
      have b0 := below_cell bw b0
      have b1 := below_cell bw b1
      have b2 : W1.cell? ⟨g2, i * 3 + 2, none⟩ = some (.slice A4 n4 c4) := below_cell bw b2
      have HR1 : Hid (Reads A3 n3 c3 bb W1.drew) := LiesB.reads (o1.below bw).lies.drew
      have HR2 : Hid (Reads A4 n4 c4 bb W1.drew) := LiesB.reads (o2.below bw).lies.drew
      clear hm hmm h3 h4 o1 o2 hx hy bw
      go_upto_region 6 with fail
      go_cut [55] from 11 to 55 (fun s55 wx => s55 = .bool false ∧ wx = W1.drew)
      case first =>
        refine wp_region_noPanic ?_
        refine wp_region_held_drew (S := (fun w' => w'.cell? ⟨g1, i * 3, none⟩ = some (.int .i64 src) ∧ w'.cell? ⟨g1, i * 3 + 1, none⟩ = some (.int .i64 dst) ∧ w'.cell? ⟨g1, i * 3 + 2, none⟩ = some (.slice A3 n3 c3) ∧ w'.cell? ⟨g2, i * 3, none⟩ = some (.int .i64 src) ∧ w'.cell? ⟨g2, i * 3 + 1, none⟩ = some (.int .i64 dst) ∧ w'.cell? ⟨g2, i * 3 + 2, none⟩ = some (.slice A4 n4 c4) ∧ Reads A3 n3 c3 bb w' ∧ Reads A4 n4 c4 bb w')) (by kernel_rfl) ⟨a0, a1, a2, b0, b1, b2, HR1.out, HR2.out⟩ (fun hHeld => ?_)
        refine tk0 0 ?_
        refine tk 1 ?_
        refine tk 2 ?_
        refine tk 3 ?_
        refine tk 4 ?_
        refine tk 5 ?_
        refine tk 6 ?_
        refine tk 7 ?_
        refine tk 8 ?_
        refine tk 9 ?_
        refine tk 10 ?_
        refine tk 11 ?_
        refine tk 12 ?_
        refine tk 13 ?_
        refine tk 14 ?_
        refine tk 15 ?_
        refine tk 16 ?_
        refine tk 17 ?_
        refine tk 18 ?_
        refine tk 19 ?_
        refine tk 20 ?_
        refine tk 21 ?_
        refine tk 22 ?_
        refine tk 23 ?_
        refine tk 24 ?_
        refine tk 25 ?_
        refine tk 26 ?_
        refine tk 27 ?_
        refine tk 28 ?_
        refine tk 29 ?_
        refine tk 30 (hy := by refine Or.inl ⟨by rfl, ?_⟩; intro w hSw; (try dsimp only at hSw); have q1 := hSw.2.2.2.2.2.2.1; unfold Reads at q1; go_simp <;> with_reducible rfl) ?_
        refine tk 31 ?_
        refine tk 32 ?_
        refine tk 33 ?_
        refine tk 34 ?_
        refine tk 35 ?_
        refine tk 36 (hy := by refine Or.inl ⟨by rfl, ?_⟩; intro w hSw; (try dsimp only at hSw); have q1 := hSw.2.2.2.2.2.2.2; unfold Reads at q1; go_simp <;> with_reducible rfl) ?_
        refine tk 37 ?_
        refine tk 38 ?_
        refine wpAnyH_done (by kernel_rfl) (NoPanic.normal ?_) _
        go_wp2_with fail
        go_meet
        exact ⟨rfl, rfl⟩
      case rest =>
      obtain ⟨rfl, rfl⟩ := hcut
      have HND2 : Hid (W1.drew = w.drewN (nd + 1)) := by show _ = _; rw [HND.out]; exact World.drewN_drewN _ _ 1
      go_wp2_with fail
      go_roundg (n2 - (i + 1))
      case measure => omega
      case rel => exact ⟨i + 1, nd + 1, by omega, rfl, by go_num, HND2⟩
    · obtain rfl : n2 = i := by omega
      go_wp2_with fail
      go_ret
      exact ⟨rfl, nd, HND.out⟩
set_option maxHeartbeats 2000000 in
theorem ref_EqRaw (k p f : Int) (w : World) : Calls Try.prog 74 #[.agg #[.int .i64 k, .int .i64 p, .int .i64 f], .agg #[.int .i64 k, .int .i64 p, .int .i64 f]] w fun r w' => r = .returned (.bool true) ∧ Below w.heap.size w w' := by
  go_enter Try.func74, Try.ntmps74
  go_wp2_with fail
  go_ret
  exact ⟨rfl, Below_step (Below_new _ _) (Below_new _ _)⟩
/-- A row of raws, the i-th. -/
theorem raw_range {w : World} {B n c : Nat} {A : Option Addr} {es : List Ev} (h : w.ownsRow B 59 3 (.slice A n c) n (es.flatMap Ev.row)) {i : Nat} (hi : i < n) (hx : i < es.length) : ∃ g, A = some ⟨g, 0, none⟩ ∧ w.rangeAt g (i * 3) [.int .i64 es[i].kind, .int .i64 es[i].player, .int .i64 es[i].frame] := by
  obtain ⟨g, hg⟩ : ∃ g, A = some ⟨g, 0, none⟩ := by
    rcases h.2 with ⟨hv, hx⟩ | ⟨g, cap, cur, hv, _⟩
    · omega
    · injection hv with h1 _ _; exact ⟨g, h1⟩
  subst hg
  refine ⟨g, rfl, fun j v hv => ?_⟩
  have hj : j < 3 := by rcases Nat.lt_or_ge j 3 with h | h; exact h; rw [List.getElem?_eq_none (by simpa using h)] at hv; cases hv
  rw [World.ownsRow.cellAt h (i * 3 + j) (by omega), flat_get Ev.row_len _ i j hx hj]
  exact hv
def WholeRaw (g o : Nat) (v : Value) (w : World) : Prop := (Instr.loadAt 59 (.pointer (some ⟨g, o, none⟩))).run Try.prog w = .ok v w
theorem whole_raw {w : World} {g o : Nat} {k p f : Int} (h : w.rangeAt g o [.int .i64 k, .int .i64 p, .int .i64 f]) : WholeRaw g o (.agg #[.int .i64 k, .int .i64 p, .int .i64 f]) w :=
  run_loadAt_mid w g o 59 _ _ h Try.underlying59 rfl info_raw
theorem exec_wholeRaw {o : Oper} {a : Act} {x : Operand} {g off : Nat} {v : Value} {w : World} (h : WholeRaw g off v w) (ho : o.op = .load 59 x) (hx : a.eval x = .pointer (some ⟨g, off, none⟩)) :
    (execOp a.eval o).run Try.prog w = .ok (.value v) w := by
  unfold execOp
  unfold WholeRaw at h
  simp only [ho, hx, Sem.run_bind, h, Result.andThen_ok, Sem.run_pure]
theorem range_below {w w' : World} {g o B : Nat} {cs : List Value} (h : w.rangeAt g o cs) (hb : Below w.heap.size w w') : w'.rangeAt g o cs := fun j v hv => below_cell hb (h j v hv)
set_option maxHeartbeats 4000000 in
theorem ref_EqRaws {B1 B2 : Nat} {w : World} {A A2 : Option Addr} {n n2 c c2 : Nat} {es : List Ev} (h1 : w.ownsRow B1 59 3 (.slice A n c) n (es.flatMap Ev.row)) (h2 : w.ownsRow B2 59 3 (.slice A2 n2 c2) n2 (es.flatMap Ev.row)) (hn : n ≤ 1000000000) :
    Calls Try.prog 44 #[.slice A n c, .slice A2 n2 c2] w fun r w' => r = .returned (.bool true) ∧ Below w.heap.size w w' := by
  have l1 : es.length = n := by have := h1.1; rw [flat_len Ev.row_len] at this; omega
  have l2 : es.length = n2 := by have := h2.1; rw [flat_len Ev.row_len] at this; omega
  obtain rfl : n2 = n := by omega
  have H1 := hide h1
  have H2 := hide h2
  have HL := hide l1
  clear h1 h2 l1 l2
  go_enter Try.func44, Try.ntmps44
  go_wp2_with fail
  go_loopg [5] n2 (fun gg s5 wr => ∃ (i : Nat), i ≤ n2 ∧ gg = n2 - i ∧ s5 = .int .i64 (i : Int) ∧ Hid (Below w.heap.size w wr))
  case atStart => exact ⟨0, by omega, rfl, rfl, Below.refl _ _⟩
  case round =>
    obtain ⟨W1, hW1⟩ : ∃ W1, W1 = wr := ⟨_, rfl⟩
    subst hW1
    obtain ⟨i, hin, rfl, rfl, HB⟩ := hrel
    by_cases hlt : i < n2
    · have hii : (i : Int) < (n2 : Int) := by omega
      have hx : i < es.length := by rw [HL.out]; exact hlt
      obtain ⟨g1, rfl, r1⟩ := raw_range H1.out hlt hx
      obtain ⟨g2, rfl, r2⟩ := raw_range H2.out hlt hx
      obtain ⟨k, hk⟩ : ∃ k, k = es[i].kind := ⟨_, rfl⟩
      obtain ⟨p, hp⟩ : ∃ k, k = es[i].player := ⟨_, rfl⟩
      obtain ⟨f, hf⟩ : ∃ k, k = es[i].frame := ⟨_, rfl⟩
      rw [← hk, ← hp, ← hf] at r1 r2
      have HW1 := hide (range_below (B := 0) r1 HB.out)
      have HW2 := hide (range_below (B := 0) r2 HB.out)
      clear hk hp hf r1 r2 hx
      go_upto_region 6 with fail
      refine wp_region_noPanic ?_
      refine wp_region_held_drew (S := (fun w' => WholeRaw g1 (i * 3) (.agg #[.int .i64 k, .int .i64 p, .int .i64 f]) w' ∧ WholeRaw g2 (i * 3) (.agg #[.int .i64 k, .int .i64 p, .int .i64 f]) w')) (by kernel_rfl) ⟨whole_raw (w := W1.drew) HW1.out, whole_raw (w := W1.drew) HW2.out⟩ (fun hHeld => ?_)
      refine tk0 0 ?_
      refine tk 1 ?_
      refine tk 2 ?_
      refine tk 3 (v := .agg #[.int .i64 k, .int .i64 p, .int .i64 f]) (hy := by refine Or.inl ⟨by rfl, ?_⟩; intro w hSw; (try dsimp only at hSw); exact exec_wholeRaw (x := .tmp 19) hSw.1 rfl rfl) ?_
      refine tk 4 ?_
      refine tk 5 ?_
      refine tk 6 ?_
      refine tk 7 (v := .agg #[.int .i64 k, .int .i64 p, .int .i64 f]) (hy := by refine Or.inl ⟨by rfl, ?_⟩; intro w hSw; (try dsimp only at hSw); exact exec_wholeRaw (x := .tmp 23) hSw.2 rfl rfl) ?_
      refine rdy 8 fun K hK => ?_
      go_simp
      refine Calls.mono (ref_EqRaw k p f _) ?_
      rintro r w3 ⟨rfl, hb3⟩
      have HB3 := hide hb3
      refine hK.out _ _ ⟨whole_raw (range_below (B := 0) (show W1.drew.rangeAt _ _ _ from HW1.out) hb3), whole_raw (range_below (B := 0) (show W1.drew.rangeAt _ _ _ from HW2.out) hb3)⟩ (fun hHeld => ?_)
      clear hK K
      try simp only [Act.put, List.setIfInBounds_toArray, List.set_cons_zero, List.set_cons_succ]
      refine tk 9 ?_
      refine wpAnyH_done (by kernel_rfl) (NoPanic.normal ?_) _
      have HB4 := hide (Below_step HB.out.drew HB3.out)
      go_wp2_with fail
      go_roundg (n2 - (i + 1))
      case measure => omega
      case rel => exact ⟨i + 1, by omega, rfl, by go_num, HB4⟩
    · obtain rfl : n2 = i := by omega
      go_wp2_with fail
      go_ret
      exact ⟨rfl, HB.out⟩
end Go.Proofs.Ytbcgffgiifminaa
