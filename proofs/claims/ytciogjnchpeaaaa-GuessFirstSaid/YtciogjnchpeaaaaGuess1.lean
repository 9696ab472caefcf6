/-
  guess.line: what one player presses up to a frame.
-/
import Derived.Test.YtciogjnchpeaaaaLaw18B
import Derived.Test.YtciogjnchpeaaaaPredRank
import Derived.Test.YtciogjnchpeaaaaPredChain
import Derived.Test.YtciogjnchpeaaaaRegion
import Derived.ArgAppend
namespace Go.Proofs.Ytciogjnchpeaaaa
open Go.RowKit
set_option maxRecDepth 10000
set_option linter.unusedVariables false
open Prd
/-- append onto a slice without spare room, whosever it is. -/
theorem run_appendF (w : World) (ty : TypeId) {B : Nat} {A : Option Addr} {n : Nat} {l : List UInt8} (hA : LiesB w B A n l) {B2 : Nat} {A2 : Option Addr} {m c2 : Nat} {l2 : List UInt8} (hr : LiesB w B2 A2 m l2) (hpos : 0 < m) (hsum : n + m ≤ 140737488355328) :
    ∃ A' c' w', (Builtin.append_ #[23, 23] ty #[.slice A n n, .slice A2 m c2]).run Try.prog w = .ok (.slice A' (n + m) c') w' ∧ OwnB w' w.heap.size A' (n + m) c' (l ++ l2) ∧ Below w.heap.size w w' := by
  obtain ⟨i0, hi0, hz0, hz1, hz2⟩ := info_parts byte_info
  obtain ⟨b2, off2, rfl, -, hc2⟩ := hr.2 (by intro h; have := hr.len; have h1 := congrArg List.length h; simp at h1; rw [h1] at this; simp at this; omega)
  have hadd : ∀ b off j, (⟨b, off, none⟩ : Addr).add j = ⟨b, off + j, none⟩ := fun b off j => by unfold Addr.add; split <;> simp_all
  have hform : ∀ (W : World) (base : Nat) (v : Value) (k : Nat) (xs : List Value), W.ownsRow base 5 1 v k xs → ∃ A c, v = .slice A k c := by
    intro W base v k xs h
    rcases h.2 with ⟨rfl, rfl⟩ | ⟨g, cap, cur, rfl, _⟩
    · exact ⟨_, _, rfl⟩
    · exact ⟨_, _, rfl⟩
  cases A with
  | none =>
    have hn : n = 0 := by
      have h1 := hA.len
      rcases Nat.eq_zero_or_pos n with h | h
      · exact h
      · obtain ⟨_, _, _, h2, _⟩ := hA.at_ h
        cases h2
    subst hn
    have hl : l = [] := List.eq_nil_of_length_eq_zero hA.len
    subst hl
    obtain ⟨A', c', w', h1, h2, h3, -⟩ := run_appendB w w.heap.size ty none 0 0 [] (OwnB.nil _ _) B2 _ m c2 l2 hr hsum (Nat.le_refl _)
    exact ⟨A', c', w', h1, h2, below_of_grown (OwnB.nil _ _) (Nat.le_refl _) h3⟩
  | some ad =>
    obtain ⟨v', w', hrun, h2, h3⟩ := run_append_arg_grows (P := Try.prog) w 23 ty 5 i0 _ 1 1 Try.underlying23 hi0 hz0 hz1 hz2 rfl (by omega) ad n n (l.map bv) (by simp [hA.len])
      (fun j u hu => by
        obtain ⟨b, off, e, -, hc⟩ := hA.2 (by intro h; rw [h] at hu; simp at hu)
        injection e with e
        rw [e, hadd]
        exact hc j u hu) ⟨b2, off2, none⟩ m c2 (l2.map bv) (by simp [hr.len]) (fun j u hu => by rw [hadd]; exact hc2 j u hu) (by omega) (by simp only [maxLen]; omega) (by omega)
    obtain ⟨A', c', rfl⟩ := hform _ _ _ _ _ h2
    refine ⟨A', c', w', hrun, ?_, (Below.refl w.heap.size w).grown h3 (Nat.le_refl _) (fun k hk => by cases hk)⟩
    rw [OwnB, List.map_append]
    exact h2
theorem run_appendN (w : World) (ty : TypeId) {base : Nat} {A : Option Addr} {n c : Nat} {l : List UInt8} (hown : OwnB w base A n c l) (A2 : Option Addr) (c2 : Nat) :
    (Builtin.append_ #[23, 23] ty #[.slice A n n, .slice A2 0 c2]).run Try.prog w = .ok (.slice A n n) w := by
  obtain ⟨i0, hi0, hz0, hz1, hz2⟩ := info_parts byte_info
  rcases hown.2 with ⟨hv, hn⟩ | ⟨g, cap, cur, hv, _, _, hnc, _⟩
  · injection hv with h1 h2 h3
    subst h1 h2 h3
    rcases A2 with _ | ad
    · simp [Builtin.append_, run_underlying Try.underlying23, sizeOf, typeInfo, hi0, Builtin.lenOf, Builtin.firstCells]
    · simp [Builtin.append_, run_underlying Try.underlying23, sizeOf, typeInfo, hi0, Builtin.lenOf, Builtin.firstCells, loadCells, loadCellsFrom]
  · injection hv with h1 h2 h3
    subst h1 h3
    rcases A2 with _ | ad
    · simp [Builtin.append_, run_underlying Try.underlying23, sizeOf, typeInfo, hi0, Builtin.lenOf, Builtin.firstCells, storeCells]
    · simp [Builtin.append_, run_underlying Try.underlying23, sizeOf, typeInfo, hi0, Builtin.lenOf, Builtin.firstCells, storeCells, loadCells, loadCellsFrom]
theorem step_appendG {ops : Array Oper} {o : Oper} {a : Act} {w : World} {K : Act → World → Prop} {Q : Exit → Act → World → Prop} {E : Prop} (hg : o.guard = none) (s x : Operand)
    (ho : o.op = .call { callee := .builtin .append, args := #[s, x], argTypes := #[23, 23] })
    {BB : Nat} {A : Option Addr} {n c : Nat} {l : List UInt8} (hs : a.eval s = .slice A n n) (hA : OwnB w BB A n c l) (hBB : BB ≤ w.heap.size) {B2 : Nat} {A2 : Option Addr} {m c2 : Nat} {l2 : List UInt8} (hx : a.eval x = .slice A2 m c2) (hr : LiesB w B2 A2 m l2) (k : Nat) (hk : n + m = k) (hsum : k ≤ 140737488355328)
    (h : ∀ A' c' c'' w', OwnB w' BB A' k c'' (l ++ l2) → k ≤ c' → Below w.heap.size w w' → K (a.put o.dst (.slice A' k c')) w') :
    if Region.wanted o (yielded ops a.tmps) = true then Oper.wp Try.prog o a w K Q else E := by
  have hw : Region.wanted o (yielded ops a.tmps) = true := by simp [Region.wanted, hg]
  rw [if_pos hw]
  subst hk
  rcases Nat.eq_zero_or_pos m with h0 | hpos
  · subst h0
    have hl2 : l2 = [] := List.eq_nil_of_length_eq_zero hr.len
    subst hl2
    have hrun := run_appendN w o.type hA A2 c2
    unfold Oper.wp execOp
    simp only [ho, resolve, invoke, builtin, Sem.run_bind, Sem.run_pure, Result.andThen_ok, List.map_toArray, List.map_cons, List.map_nil, hs, hx, hrun]
    refine h A n c w ?_ (by omega) (Below.refl _ _)
    rw [List.append_nil]
    exact hA
  · obtain ⟨A', c', w', hrun, h2, h3⟩ := run_appendF w o.type hA.lies (c2 := c2) hr hpos hsum
    unfold Oper.wp execOp
    simp only [ho, resolve, invoke, builtin, Sem.run_bind, Sem.run_pure, Result.andThen_ok, List.map_toArray, List.map_cons, List.map_nil, hs, hx, hrun]
    exact h A' c' c' w' (h2.base_le hBB) h2.cap h3
theorem below_some' {w w' : World} {a : Addr} {u : Value} (h : Below w.heap.size w w') (hc : w.cell? a = some u) : w'.cell? a = some u := (h.cell (World.block_lt_of_cell? w _ hc)).trans hc
/-- How is guessed in its block, whole, inside a region that draws. -/
def WholeY (g : Nat) (v : Value) (w : World) : Prop := (Instr.loadAt 39 (.pointer (some ⟨g, 0, none⟩))).run Try.prog w = .ok v w
theorem Arr.wholeY {w : World} {g : Nat} {b : By} {v : Value} (h : Arr 39 w g (b.row v)) : WholeY g (b.val v) w := by
  have := run_loadVar_row (P := Try.prog) w g 39 39 (b.row v).toArray (0, 0) _ h Try.underlying39 rfl info_by
  unfold WholeY
  simp only [Instr.loadAt, Instr.sureAddr, Sem.run_bind, Sem.run_pure, Result.andThen_ok, this]
  rfl
theorem exec_wholeY {o : Oper} {a : Act} {x : Operand} {g : Nat} {v : Value} {w : World} (h : WholeY g v w) (ho : o.op = .load 39 x) (hx : a.eval x = .pointer (some ⟨g, 0, none⟩)) :
    (execOp a.eval o).run Try.prog w = .ok (.value v) w := by
  unfold execOp
  unfold WholeY at h
  simp only [ho, hx, Sem.run_bind, h, Result.andThen_ok, Sem.run_pure]
/-- What one player presses up to a frame; the r-th by rank first. -/
def gline (b : By) (past : List UInt8) (r tt : Nat) : List UInt8 :=
  if tt ≤ past.length then past
  else if r % 256 = 0 then past ++ b.chain (tt - past.length) past
  else past ++ [(b.rank past).getD (r % 256) 0] ++ b.chain (tt - (past.length + 1)) (past ++ [(b.rank past).getD (r % 256) 0])
theorem gline_len (b : By) (past : List UInt8) (r tt : Nat) : (gline b past r tt).length = max past.length tt := by
  unfold gline
  split
  · omega
  · split
    · rw [List.length_append, By.chain_len]; omega
    · rw [List.length_append, List.length_append, By.chain_len, List.length_singleton]; omega
theorem gline_pre (b : By) (past : List UInt8) (r tt : Nat) : (gline b past r tt).take past.length = past := by
  unfold gline
  split
  · exact List.take_length
  · split
    · exact List.take_left
    · rw [List.append_assoc]; exact List.take_left
set_option maxHeartbeats 4000000 in
set_option maxRecDepth 10000 in
theorem guess_line (b : By) (A0 : Option Addr) (n0 c0 : Nat) (A : Option Addr) (n c BB : Nat) (past : List UInt8) (r tt : Nat) (ti : Int) (w : World) (hA : OwnB w BB A n c past) (hT : LiesB w w.heap.size A0 n0 b.table) (hBB : BB ≤ w.heap.size) (hn : n ≤ 1000) (hr : r ≤ 9223372036854775807) (hto : tt ≤ 1000) (hti : max ti 0 = (tt : Int)) (hti2 : -9223372036854775808 ≤ ti) (hm : b.may = true) :
    Calls Try.prog 28 #[.slice A n c, b.val (.slice A0 n0 c0), .int .i64 (r : Int), .int .i64 ti] w fun e w' => ∃ A' n' c' c'', e = .returned (.slice A' n' c') ∧ n' ≤ c' ∧ OwnB w' BB A' n' c'' (gline b past r tt) ∧ Below w.heap.size w w' := by
  have HA := hide hA
  have HTB := hide hT
  have HM := hide hm
  have hnc := hA.cap
  obtain ⟨G, hG⟩ : ∃ G, G = gline b past r tt := ⟨_, rfl⟩
  rw [← hG]
  have HG := hide hG
  clear hA hT hG hm
  rw [show b.val (.slice A0 n0 c0) = .agg #[.int .i64 b.kind, .int .i64 b.order, .slice A0 n0 c0] from rfl]
  go_enter Try.func28, Try.ntmps28
  go_upto_region 1 with fail
  generalize hw0 : World.alloc w _ = w0
  have hA0 : Arr 39 w0 w.heap.size (b.row (.slice A0 n0 c0)) := by rw [← hw0]; exact Arr.new 39 w _ _ rfl
  have HB0 : Hid (Below w.heap.size w w0) := by show Below _ _ _; rw [← hw0]; exact Below_new w _
  have HA0 := hide hA0
  have hsz0 : w.heap.size < w0.heap.size := hA0.lt
  clear hw0 hA0
  by_cases hlt : (n : Int) ≥ ti
  · have d0 : decide ((n : Int) ≥ ti) = true := decide_eq_true hlt
    have HGE : Hid (G = past) := by
      show _ = _
      rw [HG.out, gline, if_pos (by rw [HA.out.len]; omega)]
    clear hti hti2 hlt
    go_wp2_with fail
    go_ret
    exact ⟨A, n, c, c, rfl, hnc, by rw [HGE.out]; exact HA.out.below HB0.out, HB0.out⟩
  have d0 : decide ((n : Int) ≥ ti) = false := decide_eq_false hlt
  obtain rfl : ti = (tt : Int) := by omega
  have hlt2 : n < tt := by omega
  clear hti hti2 hlt
  obtain ⟨r2, hr2⟩ : ∃ r2, r2 = r % 256 := ⟨_, rfl⟩
  have hr256 : r2 < 256 := by rw [hr2]; exact Nat.mod_lt _ (by omega)
  have hmod : Int.tmod (r : Int) 256 = (r2 : Int) := by rw [hr2, Int.tmod_eq_emod_of_nonneg (by omega)]; omega
  have HR2 := hide hr2
  clear hr2
  go_upto_if 17 with fail
  obtain ⟨pst, hpst⟩ : ∃ p : List UInt8, p = if r2 = 0 then past else past ++ [(b.rank past).getD r2 0] := ⟨_, rfl⟩
  obtain ⟨N, hN⟩ : ∃ N, N = pst.length := ⟨_, rfl⟩
  have hNtt : N ≤ tt := by
    rw [hN, hpst]
    split
    · rw [HA.out.len]; omega
    · rw [List.length_append, HA.out.len, List.length_singleton]; omega
  have HPS := hide hpst
  have HN := hide hN
  clear hpst hN
  go_cut [0] (fun s wx => ∃ A' c' c'', s = .slice A' N c' ∧ N ≤ c' ∧ Hid (OwnB wx BB A' N c'' pst) ∧ Hid (Below w.heap.size w wx) ∧ Hid (Arr 39 wx w.heap.size (b.row (.slice A0 n0 c0))))
  case first =>
    by_cases h0 : r2 = 0
    · subst h0
      have e1 : Hid (pst = past) := by show _ = _; rw [HPS.out, if_pos rfl]
      have e2 : Hid (n = N) := by show _ = _; rw [HN.out, e1.out, HA.out.len]
      go_wp2_with fail
      go_meet
      exact ⟨A, c, c, by rw [e2.out], by rw [← e2.out]; exact hnc, by rw [e1.out, ← e2.out]; exact HA.out.below HB0.out, HB0, HA0⟩
    · have hpos : (0 : Int) < (r2 : Int) := by omega
      have d1 : decide ((r2 : Int) > 0) = true := decide_eq_true hpos
      have e1 : Hid (pst = past ++ [(b.rank past).getD r2 0]) := by show _ = _; rw [HPS.out, if_neg h0]
      have e2 : Hid (N = n + 1) := by show _ = _; rw [HN.out, e1.out, List.length_append, HA.out.len, List.length_singleton]
      obtain ⟨x, hx⟩ : ∃ x, x = (b.rank past).getD r2 0 := ⟨_, rfl⟩
      have HX := hide hx
      have hxc : x.toNat < 256 := x.toNat_lt
      have hww0 := HB0.out.size
      have hwr : IntKind.i64.wrap ((r2 : Int) + 1) = (r2 : Int) + 1 := IntWalk.i64_in _ ⟨by omega, by omega⟩
      have hrI : (r2 : Int) < (r2 : Int) + 1 := by omega
      clear h0 hx
      go_upto_region 5 with fail
      refine wp_region_noPanic ?_
      refine wp_region_held_drew (S := (fun w' => WholeY w.heap.size (b.val (.slice A0 n0 c0)) w')) (by kernel_rfl) HA0.out.drew.wholeY (fun hHeld => ?_)
      refine wpAnyH_take (i := 0) (oi := ?_) (v := ?_) ?_ (by kernel_rfl) (by kernel_rfl) (by kernel_rfl) ?_ ?_ (by assumption) ?_
      rotate_left 2
      · (simp only [List.getElem?_toArray, List.getElem?_cons_zero]; rfl)
      · exact fun _ _ _ h => h
      · (refine Or.inl ⟨by rfl, ?_⟩; intro w hSw; (try dsimp only at hSw); go_simp <;> with_reducible rfl)
      try simp only [Act.put, List.setIfInBounds_toArray, List.set_cons_zero, List.set_cons_succ]
      refine wpAnyH_take (i := 1) (oi := ?_) (v := ?_) ?_ (by kernel_rfl) (by kernel_rfl) (by kernel_rfl) ?_ ?_ (by assumption) ?_
      rotate_left 2
      · (simp only [List.getElem?_toArray, List.getElem?_cons_succ, List.getElem?_cons_zero]; rfl)
      · exact fun _ _ _ h => h
      · (refine Or.inl ⟨by rfl, ?_⟩; intro w hSw; (try dsimp only at hSw); go_simp <;> with_reducible rfl)
      try simp only [Act.put, List.setIfInBounds_toArray, List.set_cons_zero, List.set_cons_succ]
      refine wpAnyH_take (i := 2) (oi := ?_) (v := ?_) ?_ (by kernel_rfl) (by kernel_rfl) (by kernel_rfl) ?_ ?_ (by assumption) ?_
      rotate_left 2
      · (simp only [List.getElem?_toArray, List.getElem?_cons_succ, List.getElem?_cons_zero]; rfl)
      · exact fun _ _ _ h => h
      · (refine Or.inl ⟨by rfl, ?_⟩; intro w hSw; (try dsimp only at hSw); go_simp <;> with_reducible rfl)
      try simp only [Act.put, List.setIfInBounds_toArray, List.set_cons_zero, List.set_cons_succ]
      refine wpAnyH_take (i := 3) (oi := ?_) (v := ?_) ?_ (by kernel_rfl) (by kernel_rfl) (by kernel_rfl) ?_ ?_ (by assumption) ?_
      rotate_left 2
      · (simp only [List.getElem?_toArray, List.getElem?_cons_succ, List.getElem?_cons_zero]; rfl)
      · exact fun _ _ _ h => h
      · (refine Or.inl ⟨by rfl, ?_⟩; intro w hSw; (try dsimp only at hSw); go_simp <;> with_reducible rfl)
      try simp only [Act.put, List.setIfInBounds_toArray, List.set_cons_zero, List.set_cons_succ]
      refine wpAnyH_take (i := 4) (oi := ?_) (v := ?_) ?_ (by kernel_rfl) (by kernel_rfl) (by kernel_rfl) ?_ ?_ (by assumption) ?_
      rotate_left 2
      · (simp only [List.getElem?_toArray, List.getElem?_cons_succ, List.getElem?_cons_zero]; rfl)
      · exact fun _ _ _ h => h
      · (refine Or.inl ⟨by rfl, ?_⟩; intro w hSw; (try dsimp only at hSw); go_simp <;> with_reducible rfl)
      try simp only [Act.put, List.setIfInBounds_toArray, List.set_cons_zero, List.set_cons_succ]
      refine wpAnyH_take (i := 5) (oi := ?_) (v := ?_) ?_ (by kernel_rfl) (by kernel_rfl) (by kernel_rfl) ?_ ?_ (by assumption) ?_
      rotate_left 2
      · (simp only [List.getElem?_toArray, List.getElem?_cons_succ, List.getElem?_cons_zero]; rfl)
      · exact fun _ _ _ h => h
      · (refine Or.inl ⟨by rfl, ?_⟩; intro w hSw; (try dsimp only at hSw); go_simp <;> with_reducible rfl)
      try simp only [Act.put, List.setIfInBounds_toArray, List.set_cons_zero, List.set_cons_succ]
      refine wpAnyH_take (i := 6) (oi := ?_) (v := b.val (.slice A0 n0 c0)) ?_ (by kernel_rfl) (by kernel_rfl) (by kernel_rfl) ?_ ?_ (by assumption) ?_
      rotate_left 1
      · (simp only [List.getElem?_toArray, List.getElem?_cons_succ, List.getElem?_cons_zero]; rfl)
      · exact fun _ _ _ h => h
      · (refine Or.inl ⟨by rfl, ?_⟩; intro w hSw; (try dsimp only at hSw); exact exec_wholeY (x := .tmp 5) hSw rfl rfl)
      try simp only [Act.put, List.setIfInBounds_toArray, List.set_cons_zero, List.set_cons_succ]
      refine wpAnyH_take (i := 7) (oi := ?_) (v := ?_) ?_ (by kernel_rfl) (by kernel_rfl) (by kernel_rfl) ?_ ?_ (by assumption) ?_
      rotate_left 2
      · (simp only [List.getElem?_toArray, List.getElem?_cons_succ, List.getElem?_cons_zero]; rfl)
      · exact fun _ _ _ h => h
      · (refine Or.inl ⟨by rfl, ?_⟩; intro w hSw; (try dsimp only at hSw); go_simp <;> with_reducible rfl)
      try simp only [Act.put, List.setIfInBounds_toArray, List.set_cons_zero, List.set_cons_succ]
      refine wpAnyH_take (i := 8) (oi := ?_) (v := ?_) ?_ (by kernel_rfl) (by kernel_rfl) (by kernel_rfl) ?_ ?_ (by assumption) ?_
      rotate_left 2
      · (simp only [List.getElem?_toArray, List.getElem?_cons_succ, List.getElem?_cons_zero]; rfl)
      · exact fun _ _ _ h => h
      · (refine Or.inl ⟨by rfl, ?_⟩; intro w hSw; (try dsimp only at hSw); go_simp <;> with_reducible rfl)
      try simp only [Act.put, List.setIfInBounds_toArray, List.set_cons_zero, List.set_cons_succ]
      refine wpAnyH_take (i := 9) (oi := ?_) (v := ?_) ?_ (by kernel_rfl) (by kernel_rfl) (by kernel_rfl) ?_ ?_ (by assumption) ?_
      rotate_left 2
      · (simp only [List.getElem?_toArray, List.getElem?_cons_succ, List.getElem?_cons_zero]; rfl)
      · exact fun _ _ _ h => h
      · (refine Or.inl ⟨by rfl, ?_⟩; intro w hSw; (try dsimp only at hSw); go_simp <;> with_reducible rfl)
      try simp only [Act.put, List.setIfInBounds_toArray, List.set_cons_zero, List.set_cons_succ]
      refine wpAnyH_take (i := 11) (oi := ?_) (v := ?_) ?_ (by kernel_rfl) (by kernel_rfl) (by kernel_rfl) ?_ ?_ (by assumption) ?_
      rotate_left 2
      · (simp only [List.getElem?_toArray, List.getElem?_cons_succ, List.getElem?_cons_zero]; rfl)
      · exact fun _ _ _ h => h
      · (refine Or.inl ⟨by rfl, ?_⟩; intro w hSw; (try dsimp only at hSw); go_simp <;> with_reducible rfl)
      try simp only [Act.put, List.setIfInBounds_toArray, List.set_cons_zero, List.set_cons_succ]
      refine wpAnyH_ready (rs := [10]) (by kernel_rfl) (by simp) ?_
      refine AllReadyH.cons (o := ?_) ?_ (fun K hK => ?_) AllReadyH.nil
      rotate_left 1
      · (simp only [List.getElem?_toArray, List.getElem?_cons_succ, List.getElem?_cons_zero]; rfl)
      go_simp
      refine Calls.mono (pred_Rank b A0 n0 c0 A n c w.heap.size past _ _ (HA.out.lies.below HB0.out).drew (HTB.out.below HB0.out).drew hww0 hnc (by omega)) ?_
      rintro e w1 ⟨A1, n1, c1, rfl, l1, k1, hb1⟩
      rw [if_pos HM.out, show (min (max ((r2 : Int) + 1) 0) 256).toNat = r2 + 1 by omega] at l1
      obtain rfl : n1 = r2 + 1 := by have := l1.len; rw [List.length_take, By.rank_len] at this; omega
      obtain ⟨b1, o1, hl1, rfl, -, hc1⟩ := l1.at_ (show r2 < r2 + 1 by omega)
      have hxe : ((b.rank past).take (r2 + 1))[r2] = x := by rw [List.getElem_take, HX.out, List.getD_eq_getElem?_getD, List.getElem?_eq_getElem (by rw [By.rank_len]; omega)]; rfl
      rw [hxe] at hc1
      have HY1 := HA0.out.drew.belowN hb1
      have HO1 := (HA.out.below HB0.out).drew.below hb1
      have HB1 := Below_step HB0.out.drew hb1
      clear l1 k1 hxe hl1 hb1
      refine hK.out _ _ HY1.wholeY (fun hHeld => ?_)
      clear hK K
      try simp only [Act.put, List.setIfInBounds_toArray, List.set_cons_zero, List.set_cons_succ]
      refine wpAnyH_mono (S' := (fun w' => w'.cell? ⟨b1, o1 + r2, none⟩ = some (.int .u8 (x.toNat : Int)) ∧ (fun w' => WholeY w.heap.size (b.val (.slice A0 n0 c0)) w') w')) (fun _ h => h.2) _ _ _ _ ?_
      have hHeld2 := (⟨hc1, HY1.wholeY⟩ : (fun w' => w'.cell? ⟨b1, o1 + r2, none⟩ = some (.int .u8 (x.toNat : Int)) ∧ (fun w' => WholeY w.heap.size (b.val (.slice A0 n0 c0)) w') w') w1)
      refine wpAnyH_take (i := 12) (oi := ?_) (v := ?_) ?_ (by kernel_rfl) (by kernel_rfl) (by kernel_rfl) ?_ ?_ (by assumption) ?_
      rotate_left 2
      · (simp only [List.getElem?_toArray, List.getElem?_cons_succ, List.getElem?_cons_zero]; rfl)
      · exact fun _ _ _ h => h
      · (refine Or.inl ⟨by rfl, ?_⟩; intro w hSw; (try dsimp only at hSw); go_simp <;> with_reducible rfl)
      try simp only [Act.put, List.setIfInBounds_toArray, List.set_cons_zero, List.set_cons_succ]
      refine wpAnyH_take (i := 13) (oi := ?_) (v := ?_) ?_ (by kernel_rfl) (by kernel_rfl) (by kernel_rfl) ?_ ?_ (by assumption) ?_
      rotate_left 2
      · (simp only [List.getElem?_toArray, List.getElem?_cons_succ, List.getElem?_cons_zero]; rfl)
      · exact fun _ _ _ h => h
      · (refine Or.inl ⟨by rfl, ?_⟩; intro w hSw; (try dsimp only at hSw); go_simp <;> with_reducible rfl)
      try simp only [Act.put, List.setIfInBounds_toArray, List.set_cons_zero, List.set_cons_succ]
      refine wpAnyH_ready (rs := [14]) (by kernel_rfl) (by simp) ?_
      refine AllReadyH.cons (o := ?_) ?_ (fun K hK => ?_) AllReadyH.nil
      rotate_left 1
      · (simp only [List.getElem?_toArray, List.getElem?_cons_succ, List.getElem?_cons_zero]; rfl)
      go_simp
      have bn := Below_new w1 (.cells #[.int .u8 (x.toNat : Int)] 5)
      have HY2 := HY1.belowN bn
      have hc2 := below_some' bn hc1
      have HO2 := HO1.below bn
      have HB2 := Below_step HB1 bn
      have HL2 := LiesB.new w1 #[.int .u8 (x.toNat : Int)] 5 (0, 0) [x] 1 rfl rfl
      generalize hw2 : World.alloc w1 _ = w2 at bn HY2 hc2 HO2 HB2 HL2 ⊢
      refine hK.out _ _ ⟨hc2, HY2.wholeY⟩ (fun hHeld => ?_)
      clear hK K
      try simp only [Act.put]
      refine wpAnyH_ready (rs := [15]) (by kernel_rfl) (by simp) ?_
      refine AllReadyH.cons (o := ?_) ?_ (fun K hK => ?_) AllReadyH.nil
      rotate_left 1
      · (simp only [List.getElem?_toArray, List.getElem?_cons_succ, List.getElem?_cons_zero]; rfl)
      (refine step_appendG rfl (.tmp 23) (.tmp 32) rfl rfl HO2 (Nat.le_trans hBB HB2.size) rfl HL2 N e2.out.symm (by omega) ?_; intro A3 c3 c3' w3 own3 hc3 hb3)
      have HY3 := HY2.belowN hb3
      refine hK.out _ _ ⟨below_some' hb3 hc2, HY3.wholeY⟩ (fun hHeld => ?_)
      clear hK K
      try simp only [Act.put]
      refine wpAnyH_take (i := 16) (oi := ?_) (v := ?_) ?_ (by kernel_rfl) (by kernel_rfl) (by kernel_rfl) ?_ ?_ (by assumption) ?_
      rotate_left 2
      · (simp only [List.getElem?_toArray, List.getElem?_cons_succ, List.getElem?_cons_zero]; rfl)
      · exact fun _ _ _ h => h
      · (refine Or.inl ⟨by rfl, ?_⟩; intro w hSw; (try dsimp only at hSw); go_simp <;> with_reducible rfl)
      try simp only [Act.put, List.setIfInBounds_toArray, List.set_cons_zero, List.set_cons_succ]
      refine wpAnyH_done (by kernel_rfl) (NoPanic.normal ?_) _
      go_wp2_with fail
      go_meet
      exact ⟨A3, c3, c3', rfl, hc3, by rw [e1.out, ← HX.out]; exact own3, Below_step HB2 hb3, HY3⟩
  case rest =>
  obtain ⟨A1, c1, c1', rfl, hc1, HO1, HB1, HA1⟩ := hcut
  obtain ⟨w1, hw1⟩ : ∃ w1, w1 = wc := ⟨_, rfl⟩
  subst hw1
  have hs1 := HB1.out.size
  obtain ⟨e, he⟩ : ∃ e, e = tt - N := ⟨_, rfl⟩
  have hte : (tt : Int) - (N : Int) = (e : Int) := by omega
  have he1 : e ≤ 1000 := by omega
  have hwe : IntKind.i64.wrap (e : Int) = (e : Int) := IntWalk.i64_in _ ⟨by omega, by omega⟩
  have HE := hide he
  have HGP : Hid (G = pst ++ b.chain e pst) := by
    show _ = _
    have hlt3 : ¬ tt ≤ past.length := by rw [HA.out.len]; omega
    rw [HG.out, gline, if_neg hlt3, HE.out, HN.out, HPS.out, ← HR2.out]
    split
    · rfl
    · rw [List.length_append, List.length_singleton]
  have HT1 := hide (HTB.out.below HB1.out)
  have HN1 := hide (HO1.out.len)
  clear he HB0 HA0 HA HTB HG hsz0
  go_upto_region 6 with fail
  refine wp_region_noPanic ?_
  refine wp_region_held_drew (S := (fun w' => WholeY w.heap.size (b.val (.slice A0 n0 c0)) w')) (by kernel_rfl) HA1.out.drew.wholeY (fun hHeld => ?_)
  refine wpAnyH_take (i := 0) (oi := ?_) (v := ?_) ?_ (by kernel_rfl) (by kernel_rfl) (by kernel_rfl) ?_ ?_ (by assumption) ?_
  rotate_left 2
  · (simp only [List.getElem?_toArray, List.getElem?_cons_zero]; rfl)
  · exact fun _ _ _ h => h
  · (refine Or.inl ⟨by rfl, ?_⟩; intro w hSw; (try dsimp only at hSw); go_simp <;> with_reducible rfl)
  try simp only [Act.put, List.setIfInBounds_toArray, List.set_cons_zero, List.set_cons_succ]
  refine wpAnyH_take (i := 1) (oi := ?_) (v := ?_) ?_ (by kernel_rfl) (by kernel_rfl) (by kernel_rfl) ?_ ?_ (by assumption) ?_
  rotate_left 2
  · (simp only [List.getElem?_toArray, List.getElem?_cons_succ, List.getElem?_cons_zero]; rfl)
  · exact fun _ _ _ h => h
  · (refine Or.inl ⟨by rfl, ?_⟩; intro w hSw; (try dsimp only at hSw); go_simp <;> with_reducible rfl)
  try simp only [Act.put, List.setIfInBounds_toArray, List.set_cons_zero, List.set_cons_succ]
  refine wpAnyH_take (i := 2) (oi := ?_) (v := ?_) ?_ (by kernel_rfl) (by kernel_rfl) (by kernel_rfl) ?_ ?_ (by assumption) ?_
  rotate_left 2
  · (simp only [List.getElem?_toArray, List.getElem?_cons_succ, List.getElem?_cons_zero]; rfl)
  · exact fun _ _ _ h => h
  · (refine Or.inl ⟨by rfl, ?_⟩; intro w hSw; (try dsimp only at hSw); go_simp <;> with_reducible rfl)
  try simp only [Act.put, List.setIfInBounds_toArray, List.set_cons_zero, List.set_cons_succ]
  refine wpAnyH_take (i := 3) (oi := ?_) (v := ?_) ?_ (by kernel_rfl) (by kernel_rfl) (by kernel_rfl) ?_ ?_ (by assumption) ?_
  rotate_left 2
  · (simp only [List.getElem?_toArray, List.getElem?_cons_succ, List.getElem?_cons_zero]; rfl)
  · exact fun _ _ _ h => h
  · (refine Or.inl ⟨by rfl, ?_⟩; intro w hSw; (try dsimp only at hSw); go_simp <;> with_reducible rfl)
  try simp only [Act.put, List.setIfInBounds_toArray, List.set_cons_zero, List.set_cons_succ]
  refine wpAnyH_take (i := 4) (oi := ?_) (v := ?_) ?_ (by kernel_rfl) (by kernel_rfl) (by kernel_rfl) ?_ ?_ (by assumption) ?_
  rotate_left 2
  · (simp only [List.getElem?_toArray, List.getElem?_cons_succ, List.getElem?_cons_zero]; rfl)
  · exact fun _ _ _ h => h
  · (refine Or.inl ⟨by rfl, ?_⟩; intro w hSw; (try dsimp only at hSw); go_simp <;> with_reducible rfl)
  try simp only [Act.put, List.setIfInBounds_toArray, List.set_cons_zero, List.set_cons_succ]
  refine wpAnyH_take (i := 5) (oi := ?_) (v := ?_) ?_ (by kernel_rfl) (by kernel_rfl) (by kernel_rfl) ?_ ?_ (by assumption) ?_
  rotate_left 2
  · (simp only [List.getElem?_toArray, List.getElem?_cons_succ, List.getElem?_cons_zero]; rfl)
  · exact fun _ _ _ h => h
  · (refine Or.inl ⟨by rfl, ?_⟩; intro w hSw; (try dsimp only at hSw); go_simp <;> with_reducible rfl)
  try simp only [Act.put, List.setIfInBounds_toArray, List.set_cons_zero, List.set_cons_succ]
  refine wpAnyH_take (i := 6) (oi := ?_) (v := b.val (.slice A0 n0 c0)) ?_ (by kernel_rfl) (by kernel_rfl) (by kernel_rfl) ?_ ?_ (by assumption) ?_
  rotate_left 1
  · (simp only [List.getElem?_toArray, List.getElem?_cons_succ, List.getElem?_cons_zero]; rfl)
  · exact fun _ _ _ h => h
  · (refine Or.inl ⟨by rfl, ?_⟩; intro w hSw; (try dsimp only at hSw); exact exec_wholeY (x := .tmp 5) hSw rfl rfl)
  try simp only [Act.put, List.setIfInBounds_toArray, List.set_cons_zero, List.set_cons_succ]
  refine wpAnyH_take (i := 7) (oi := ?_) (v := ?_) ?_ (by kernel_rfl) (by kernel_rfl) (by kernel_rfl) ?_ ?_ (by assumption) ?_
  rotate_left 2
  · (simp only [List.getElem?_toArray, List.getElem?_cons_succ, List.getElem?_cons_zero]; rfl)
  · exact fun _ _ _ h => h
  · (refine Or.inl ⟨by rfl, ?_⟩; intro w hSw; (try dsimp only at hSw); go_simp <;> with_reducible rfl)
  try simp only [Act.put, List.setIfInBounds_toArray, List.set_cons_zero, List.set_cons_succ]
  refine wpAnyH_take (i := 8) (oi := ?_) (v := ?_) ?_ (by kernel_rfl) (by kernel_rfl) (by kernel_rfl) ?_ ?_ (by assumption) ?_
  rotate_left 2
  · (simp only [List.getElem?_toArray, List.getElem?_cons_succ, List.getElem?_cons_zero]; rfl)
  · exact fun _ _ _ h => h
  · (refine Or.inl ⟨by rfl, ?_⟩; intro w hSw; (try dsimp only at hSw); go_simp <;> with_reducible rfl)
  try simp only [Act.put, List.setIfInBounds_toArray, List.set_cons_zero, List.set_cons_succ]
  refine wpAnyH_take (i := 9) (oi := ?_) (v := ?_) ?_ (by kernel_rfl) (by kernel_rfl) (by kernel_rfl) ?_ ?_ (by assumption) ?_
  rotate_left 2
  · (simp only [List.getElem?_toArray, List.getElem?_cons_succ, List.getElem?_cons_zero]; rfl)
  · exact fun _ _ _ h => h
  · (refine Or.inl ⟨by rfl, ?_⟩; intro w hSw; (try dsimp only at hSw); go_simp <;> with_reducible rfl)
  try simp only [Act.put, List.setIfInBounds_toArray, List.set_cons_zero, List.set_cons_succ]
  refine wpAnyH_take (i := 10) (oi := ?_) (v := ?_) ?_ (by kernel_rfl) (by kernel_rfl) (by kernel_rfl) ?_ ?_ (by assumption) ?_
  rotate_left 2
  · (simp only [List.getElem?_toArray, List.getElem?_cons_succ, List.getElem?_cons_zero]; rfl)
  · exact fun _ _ _ h => h
  · (refine Or.inl ⟨by rfl, ?_⟩; intro w hSw; (try dsimp only at hSw); go_simp <;> with_reducible rfl)
  try simp only [Act.put, List.setIfInBounds_toArray, List.set_cons_zero, List.set_cons_succ]
  refine wpAnyH_take (i := 11) (oi := ?_) (v := ?_) ?_ (by kernel_rfl) (by kernel_rfl) (by kernel_rfl) ?_ ?_ (by assumption) ?_
  rotate_left 2
  · (simp only [List.getElem?_toArray, List.getElem?_cons_succ, List.getElem?_cons_zero]; rfl)
  · exact fun _ _ _ h => h
  · (refine Or.inl ⟨by rfl, ?_⟩; intro w hSw; (try dsimp only at hSw); go_simp <;> with_reducible rfl)
  try simp only [Act.put, List.setIfInBounds_toArray, List.set_cons_zero, List.set_cons_succ]
  refine wpAnyH_ready (rs := [12]) (by kernel_rfl) (by simp) ?_
  refine AllReadyH.cons (o := ?_) ?_ (fun K hK => ?_) AllReadyH.nil
  rotate_left 1
  · (simp only [List.getElem?_toArray, List.getElem?_cons_succ, List.getElem?_cons_zero]; rfl)
  go_simp
  refine Calls.mono (pred_Chain b A0 n0 c0 A1 N c1 w1.heap.size pst e _ HO1.out.lies.drew (HT1.out.more hs1).drew (Nat.le_refl _) hc1 (by omega)) ?_
  rintro e' w2 ⟨A2, n2, c2, rfl, l2, k2, hb2⟩
  rw [if_pos HM.out, show (min (max (e : Int) 0) 1000).toNat = e by omega] at l2
  obtain rfl : n2 = e := by have := l2.len; rw [By.chain_len] at this; exact this.symm
  have HY2 := HA1.out.drew.belowN hb2
  have HO2 := HO1.out.drew.below hb2
  have HB2 := Below_step HB1.out.drew hb2
  refine hK.out _ _ HY2.wholeY (fun hHeld => ?_)
  clear hK K
  try simp only [Act.put, List.setIfInBounds_toArray, List.set_cons_zero, List.set_cons_succ]
  refine wpAnyH_ready (rs := [13]) (by kernel_rfl) (by simp) ?_
  refine AllReadyH.cons (o := ?_) ?_ (fun K hK => ?_) AllReadyH.nil
  rotate_left 1
  · (simp only [List.getElem?_toArray, List.getElem?_cons_succ, List.getElem?_cons_zero]; rfl)
  (refine step_appendG rfl (.tmp 39) (.tmp 46) rfl rfl HO2 (Nat.le_trans hBB HB2.size) rfl l2 tt (by omega) (by omega) ?_; intro A3 c3 c3' w3 own3 hc3 hb3)
  refine hK.out _ _ (HY2.belowN hb3).wholeY (fun hHeld => ?_)
  clear hK K
  try simp only [Act.put]
  refine wpAnyH_take (i := 14) (oi := ?_) (v := ?_) ?_ (by kernel_rfl) (by kernel_rfl) (by kernel_rfl) ?_ ?_ (by assumption) ?_
  rotate_left 2
  · (simp only [List.getElem?_toArray, List.getElem?_cons_succ, List.getElem?_cons_zero]; rfl)
  · exact fun _ _ _ h => h
  · (refine Or.inl ⟨by rfl, ?_⟩; intro w hSw; (try dsimp only at hSw); go_simp <;> with_reducible rfl)
  try simp only [Act.put, List.setIfInBounds_toArray, List.set_cons_zero, List.set_cons_succ]
  refine wpAnyH_done (by kernel_rfl) (NoPanic.normal ?_) _
  go_wp2_with fail
  go_ret
  exact ⟨A3, tt, c3, c3', rfl, hc3, by rw [HGP.out]; exact own3, Below_step HB2 hb3⟩
end Go.Proofs.Ytciogjnchpeaaaa
