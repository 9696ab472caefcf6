/-
  QueueFront: the walk.
-/
import Derived.Test.YtbdhochdakihbaaLaw17
import Derived.Test.YtbdhochdakihbaaOpen
namespace Go.Proofs.Ytbdhochdakihbaa
open Go.RowKit
set_option linter.unusedVariables false
/-- make, inside a region that draws. -/
theorem step_makeB {ops : Array Oper} {o : Oper} {a : Act} {w : World} {K : Act → World → Prop} {Q : Exit → Act → World → Prop} {F : Prop} (hg : o.guard = none) (l c : Operand) (hop : o.op = Op.makeSlice 23 l c)
    (base : Nat) (L C : Int) (n : Nat) (hl : a.eval l = .int .i64 L) (hc : a.eval c = .int .i64 C) (hL : L = (n : Int)) (hC : C = (n : Int)) (b2 : n ≤ 281474976710656) (b4 : base ≤ w.heap.size)
    (hK : ∀ w', OwnB w' base (some ⟨w.heap.size, 0, none⟩) n n (List.replicate n 0) → Below w.heap.size w w' → K (a.put o.dst (.slice (some ⟨w.heap.size, 0, none⟩) n n)) w') :
    if Region.wanted o (yielded ops a.tmps) = true then Oper.wp Try.prog o a w K Q else F := by
  have hw : Region.wanted o (yielded ops a.tmps) = true := by simp [Region.wanted, hg]
  rw [if_pos hw]
  obtain ⟨i0, hi0, hz0, hz1, hz2⟩ := info_parts byte_info
  obtain ⟨w', hrun, r1, r2⟩ := run_make_full (P := Try.prog) w base 23 5 i0 _ 1 Try.underlying23 hi0 hz0 hz1 .i64 .i64 n (by rw [hz2]; omega) (by simp only [maxLen]; omega) b4
  subst hL
  subst hC
  unfold Oper.wp
  simp [execOp, hop, hl, hc, hrun, Result.andThen]
  refine hK w' ?_ ((Below.refl _ w).grown r2 (Nat.le_refl _) (fun k hk => by cases hk))
  unfold OwnB
  have e : (List.replicate n (0 : UInt8)).map bv = (madeCells (Value.int .u8 0).cells (n * 1)).toList := by
    rw [show (Value.int .u8 0).cells = #[Value.int .u8 0] from rfl, toList_madeCells_one, List.map_replicate, Nat.mul_one]; rfl
  rw [e]
  exact r1
/-- How many presses a player gets. -/
def numOf (l : List Int) (i : Nat) : Nat := ((l.getD i 0).tmod 30 % 30).toNat
def linesOf (l : List Int) (n d k : Nat) : List (List UInt8) := (List.range n).map fun i => List.replicate (if i < k then d + numOf l i else d) 0
def leastOf (l : List Int) (k : Nat) : Nat := (List.range k).foldl (fun a i => min a (numOf l i)) 1000
theorem numOf_lt (l : List Int) (i : Nat) : numOf l i < 30 := by unfold numOf; omega
theorem leastOf_succ (l : List Int) (k : Nat) : leastOf l (k + 1) = min (leastOf l k) (numOf l k) := by
  unfold leastOf
  rw [List.range_succ, List.foldl_append]; rfl
theorem leastOf_le (l : List Int) (k : Nat) : ∀ i, i < k → leastOf l k ≤ numOf l i := by
  induction k with
  | zero => intro i h; omega
  | succ k ih =>
    intro i h
    rw [leastOf_succ]
    by_cases e : i = k
    · subst e; omega
    · have := ih i (by omega); omega
theorem leastOf_mem (l : List Int) (k : Nat) : leastOf l k = 1000 ∨ ∃ i, i < k ∧ leastOf l k = numOf l i := by
  induction k with
  | zero => exact .inl rfl
  | succ k ih =>
    rw [leastOf_succ]
    by_cases q : leastOf l k ≤ numOf l k
    · rw [Nat.min_eq_left q]
      rcases ih with h | ⟨i, hi, e⟩
      · exact .inl h
      · exact .inr ⟨i, by omega, e⟩
    · exact .inr ⟨k, by omega, by omega⟩
theorem linesOf_len (l : List Int) (n d k : Nat) : (linesOf l n d k).length = n := by simp [linesOf]
theorem linesOf_at (l : List Int) (n d k i : Nat) (h : i < n) : (linesOf l n d k).getD i [] = List.replicate (if i < k then d + numOf l i else d) 0 := by
  unfold linesOf
  rw [List.getD_eq_getElem?_getD, List.getElem?_map, List.getElem?_range h]; rfl
theorem linesOf_zero (l : List Int) (n d : Nat) : linesOf l n d 0 = List.replicate n (List.replicate d 0) := by
  apply List.ext_getElem
  · simp [linesOf]
  · intro i h1 h2
    simp only [linesOf, List.getElem_map, List.getElem_range, List.getElem_replicate]
    rw [if_neg (by omega)]
theorem linesOf_set (l : List Int) (n d k : Nat) : (linesOf l n d k).set k (List.replicate (d + numOf l k) 0) = linesOf l n d (k + 1) := by
  apply List.ext_getElem
  · simp [linesOf]
  · intro i h1 h2
    rw [List.getElem_set]
    simp only [linesOf, List.getElem_map, List.getElem_range]
    by_cases e : k = i
    · subst e; rw [if_pos rfl, if_pos (by omega)]
    · rw [if_neg e]
      by_cases q : i < k
      · rw [if_pos q, if_pos (by omega)]
      · rw [if_neg q, if_neg (by omega)]
theorem front_lines (l : List Int) (n d : Nat) (h : 0 < n) : front (linesOf l n d n) = d + leastOf l n := by
  have h1 := frontK_le (linesOf l n d n) n (by rw [linesOf_len]; exact Nat.le_refl _)
  obtain ⟨i, hi, h2⟩ := frontK_mem (linesOf l n d n) n (by rw [linesOf_len]; exact Nat.le_refl _) (by rw [linesOf_len]; exact h)
  rw [linesOf_len] at hi
  rw [linesOf_at _ _ _ _ _ hi, if_pos hi, List.length_replicate] at h2
  unfold front
  rw [linesOf_len, h2]
  have h3 := leastOf_le l n i hi
  rcases leastOf_mem l n with h4 | ⟨j, hj, h4⟩
  · have := numOf_lt l i; omega
  · have h5 := h1 j hj
    rw [linesOf_at _ _ _ _ _ hj, if_pos hj, List.length_replicate, h2] at h5
    omega
theorem full_zero (d N : Nat) (h : d + N ≤ 1000) : putAdd (List.replicate d 0) (d : Int) (List.replicate N 0) = List.replicate N 0 ∧ putErr (List.replicate d 0) (d : Int) (List.replicate N 0) = 0 := by
  have e : (List.replicate d (0 : UInt8)).length = d := List.length_replicate
  refine ⟨?_, ?_⟩
  · rw [putAdd_form (by omega), e, Nat.sub_self, List.drop_zero, List.take_of_length_le (by rw [List.length_replicate]; omega)]
  · rw [putErr_form (by omega), List.length_replicate, if_neg (by omega)]
set_option maxHeartbeats 2000000 in
set_option maxRecDepth 20000 in
theorem law_QueueFront (A : Option Addr) (n c : Nat) (l : List Int) (delay : Int) (w : World) (hA : LiesI .i64 w w.heap.size A n l) (hc : n ≤ c) (hm : c ≤ maxLen) (lo : -9223372036854775808 ≤ delay) (hi : delay ≤ 9223372036854775807) :
    Calls Try.prog 5 #[.slice A n c, .int .i64 delay] w fun e w' => e = .returned (.bool true) ∧ Below w.heap.size w w' := by
  have hn : n ≤ 9223372036854775807 := by simp only [maxLen] at *; omega
  have HA := hide hA
  clear hA hm
  go_enter Try.func5, Try.ntmps5
  go_wp2_with fail
  refine Calls.mono (begun17 _) ?_
  rintro e w1 ⟨rfl, hb1⟩
  by_cases c1 : n < 2
  · have d1 : decide ((n : Int) < 2) = true := by simp; omega
    go_wp2
    go_ret
    exact ⟨rfl, hb1⟩
  have d1 : decide ((n : Int) < 2) = false := by simp; omega
  by_cases c2 : 8 < n
  · have d2 : decide (8 < (n : Int)) = true := by simp; omega
    go_wp2
    go_ret
    exact ⟨rfl, hb1⟩
  have d2 : decide (8 < (n : Int)) = false := by simp; omega
  by_cases c3 : delay < 0
  · have d3 : decide (delay < 0) = true := decide_eq_true c3
    go_wp2
    go_ret
    exact ⟨rfl, hb1⟩
  have d3 : decide (delay < 0) = false := decide_eq_false c3
  obtain ⟨d, rfl⟩ : ∃ d : Nat, delay = (d : Int) := ⟨delay.toNat, by omega⟩
  by_cases c4 : 8 < d
  · have d4 : decide (8 < (d : Int)) = true := by simp; omega
    go_wp2
    go_ret
    exact ⟨rfl, hb1⟩
  have d4 : decide (8 < (d : Int)) = false := by simp; omega
  have HB1 := hide hb1
  have L1 := hide (HA.out.below hb1)
  clear hb1
  go_wp2_with fail
  refine Calls.mono (queue_New (n : Int) (d : Int) n d _ (by omega) (by omega)) ?_
  rintro e w2 ⟨q, Aq, cq, xs0, rfl, hx, hq, hb⟩
  have HB2 := hide (Below_step HB1.out hb)
  have HQ2 := hide hq
  have HX0 := hide hx
  have hs1 := HB1.out.size
  clear hq hb hx
  go_wp2_with fail
  go_loopg [7, 8] n (fun gg s i wr => ∃ (k : Nat) (xs : List (Nat × Option Nat)), k ≤ n ∧ gg = n - k ∧ i = .int .i64 k ∧ s = .int .i64 (leastOf l k : Nat) ∧ xs.length = n ∧ QAt w1.heap.size wr q Aq cq xs (linesOf l n d k) ∧ Below w.heap.size w wr)
  case atStart => exact ⟨0, xs0, by omega, rfl, rfl, rfl, HX0.out, by rw [linesOf_zero]; exact HQ2.out, HB2.out⟩
  case round =>
    obtain ⟨W1, hW1⟩ : ∃ W1, W1 = wr := ⟨_, rfl⟩
    subst hW1
    obtain ⟨k, xs, hk, rfl, rfl, rfl, hx, hq, hb⟩ := hrel
    have HQ := hide hq
    have HB := hide hb
    have HX := hide hx
    have hsz := hb.size
    have hszq : w1.heap.size ≤ W1.heap.size := by
      obtain ⟨_, hqlt⟩ : True ∧ q < W1.heap.size := ⟨trivial, hq.head.lt⟩
      have := hq.base
      omega
    obtain ⟨le, hle⟩ : ∃ le, le = leastOf l k := ⟨_, rfl⟩
    rw [← hle]
    have HLE := hide hle
    have hle1 : le ≤ 1000 := by
      rw [hle]
      rcases leastOf_mem l k with h | ⟨j, _, h⟩
      · omega
      · have := numOf_lt l j; omega
    clear hq hb hx hle
    by_cases hlt : k < n
    · obtain ⟨b2, o2, hl2, rfl, hb2, hc2⟩ := (HA.out.below HB.out).at_ hlt
      obtain ⟨y, hy⟩ : ∃ y, y = l[k] := ⟨_, rfl⟩
      rw [← hy] at hc2
      obtain ⟨t1, t2⟩ := tmod_lt y 30 (by omega)
      obtain ⟨N, hN⟩ : ∃ N, N = numOf l k := ⟨_, rfl⟩
      have hN2 : y.tmod 30 % 30 = (N : Int) := by
        rw [hN, numOf, List.getD_eq_getElem?_getD, List.getElem?_eq_getElem hl2, hy]
        show _ = ((l[k].tmod 30 % 30).toNat : Int)
        omega
      have hN30 : N < 30 := by rw [hN]; exact numOf_lt l k
      have HN := hide hN
      have HN2 := hide hN2
      clear hy hN hN2
      go_upto_region 11 with fail
      go_cut [9] from 37 to 59 (fun s wx => s = .int .i64 (N : Int) ∧ W1 = wx)
      case first =>
        go_wp2
        go_meet
        exact ⟨congrArg (Value.int .i64) (by have := HN2.out; omega), rfl⟩
      case rest =>
        obtain ⟨rfl, rfl⟩ := hcut
        obtain ⟨p, hp⟩ : ∃ p, p = (xs[k]'(by rw [HX.out]; exact hlt)).1 := ⟨_, rfl⟩
        have HP := hide hp
        have HL : Hid (LineAt W1 p (xs[k]'(by rw [HX.out]; exact hlt)).2 (List.replicate d 0)) := by
          show LineAt W1 p _ _
          have := HQ.out.line k (by rw [HX.out]; exact hlt)
          rw [linesOf_at _ _ _ _ _ hlt, if_neg (by omega), ← hp] at this
          exact this
        obtain ⟨gk, hgk⟩ : ∃ g, g = (xs[k]'(by rw [HX.out]; exact hlt)).2 := ⟨_, rfl⟩
        rw [← hgk] at HL
        have HGK := hide hgk
        have PA := hide (full_zero d N (by omega))
        have HBL : Hid (∀ j, j < w.heap.size → ¬ lineBlocks p gk j) := by
          intro j hj hs
          have := HQ.out.lbase k (by rw [HX.out]; exact hlt)
          rcases hs with hs | hs
          · rw [HP.out] at hs; omega
          · have := this.2 j (by rw [← HGK.out]; exact hs.symm); omega
        have hmin : min (le : Int) (N : Int) = ((min le N : Nat) : Int) := by omega
        have HNd : Hid (List.replicate (d + N) (0 : UInt8) = List.replicate (d + numOf l k) 0) := by show _ = _; rw [← HN.out]
        clear hp hgk
        go_wp2_with fail
        refine wp_region_noPanic ?_
        refine wp_region_held_drew (S := (fun _ => True)) (by kernel_rfl) trivial (fun hHeld => ?_)
        refine wpAnyH_take (i := 0) (oi := ?_) (v := ?_) ?_ (by kernel_rfl) (by kernel_rfl) (by kernel_rfl) ?_ ?_ (by assumption) ?_
        rotate_left 2
        · (simp only [List.getElem?_toArray, List.getElem?_cons_zero]; rfl)
        · exact fun _ _ _ h => h
        · (refine Or.inl ⟨by rfl, ?_⟩; intro w hSw; (try dsimp only at hSw); go_simp <;> with_reducible rfl)
        try simp only [Act.put, List.setIfInBounds_toArray, List.set_cons_zero, List.set_cons_succ]
        refine wpAnyH_take (i := 1) (oi := ?_) (v := ?_) ?_ (by kernel_rfl) (by kernel_rfl) (by kernel_rfl) ?_ ?_ (by assumption) ?_
        rotate_left 2
        · (simp only [List.getElem?_toArray, List.getElem?_cons_succ, List.getElem?_cons_zero]; rfl)
        · exact fun _ _ _ h => h
        · (refine Or.inl ⟨by rfl, ?_⟩; intro w hSw; (try dsimp only at hSw); go_simp <;> with_reducible rfl)
        try simp only [Act.put, List.setIfInBounds_toArray, List.set_cons_zero, List.set_cons_succ]
        refine wpAnyH_take (i := 3) (oi := ?_) (v := ?_) ?_ (by kernel_rfl) (by kernel_rfl) (by kernel_rfl) ?_ ?_ (by assumption) ?_
        rotate_left 2
        · (simp only [List.getElem?_toArray, List.getElem?_cons_succ, List.getElem?_cons_zero]; rfl)
        · exact fun _ _ _ h => h
        · (refine Or.inl ⟨by rfl, ?_⟩; intro w hSw; (try dsimp only at hSw); go_simp <;> with_reducible rfl)
        try simp only [Act.put, List.setIfInBounds_toArray, List.set_cons_zero, List.set_cons_succ]
        refine wpAnyH_take (i := 4) (oi := ?_) (v := ?_) ?_ (by kernel_rfl) (by kernel_rfl) (by kernel_rfl) ?_ ?_ (by assumption) ?_
        rotate_left 2
        · (simp only [List.getElem?_toArray, List.getElem?_cons_succ, List.getElem?_cons_zero]; rfl)
        · exact fun _ _ _ h => h
        · (refine Or.inl ⟨by rfl, ?_⟩; intro w hSw; (try dsimp only at hSw); go_simp <;> with_reducible rfl)
        try simp only [Act.put, List.setIfInBounds_toArray, List.set_cons_zero, List.set_cons_succ]
        refine wpAnyH_ready (rs := [2, 5]) (by kernel_rfl) (by simp) ?_
        refine AllReadyH.cons (o := ?_) ?_ (fun K hK => ?_) ?_
        rotate_left 1
        · (simp only [List.getElem?_toArray, List.getElem?_cons_succ, List.getElem?_cons_zero]; rfl)
        · go_simp
          refine Calls.mono (queue_Line HQ.out.drew k (by rw [HX.out]; exact hlt) (by rw [HX.out]; omega) rfl HP.out) ?_
          rintro e w3 ⟨rfl, rfl⟩
          refine hK.out _ _ trivial (fun hHeld => ?_)
          clear hK K
          try simp only [Act.put, List.setIfInBounds_toArray, List.set_cons_zero, List.set_cons_succ]
          refine wpAnyH_ready (rs := [5]) (by kernel_rfl) (by simp) ?_
          refine AllReadyH.cons (o := ?_) ?_ (fun K hK => ?_) AllReadyH.nil
          rotate_left 1
          · (simp only [List.getElem?_toArray, List.getElem?_cons_succ, List.getElem?_cons_zero]; rfl)
          refine step_makeB rfl (.tmp 54) (.tmp 54) rfl w.heap.size _ _ N rfl rfl rfl rfl (by omega) hsz ?_
          intro w4 own4 hb4
          have Q4 := HQ.out.drew.below hb4
          have L4 := HL.out.below (Below_step ((Below.refl _ _).drew) hb4)
          have B4 : Below w.heap.size w w4 := Below_step HB.out.drew hb4
          have hs4 : w1.heap.size ≤ w4.heap.size := Nat.le_trans hszq hb4.size
          have hdis : ∀ bk off, some (⟨W1.heap.size, 0, none⟩ : Addr) = some ⟨bk, off, none⟩ → List.replicate N (0 : UInt8) ≠ [] → ¬ lineBlocks p gk bk := by
            intro bk off e _ hs
            injection e with e
            injection e with e _
            subst e
            have := HL.out.base (B := 0) _ hs
            omega
          refine hK.out _ _ trivial (fun hHeld => ?_)
          clear hK K
          try simp only [Act.put, List.setIfInBounds_toArray, List.set_cons_zero, List.set_cons_succ]
          refine wpAnyH_ready (rs := [6]) (by kernel_rfl) (by simp) ?_
          refine AllReadyH.cons (o := ?_) ?_ (fun K hK => ?_) AllReadyH.nil
          rotate_left 1
          · (simp only [List.getElem?_toArray, List.getElem?_cons_succ, List.getElem?_cons_zero]; rfl)
          go_simp
          refine Calls.mono (line_Put_v p gk (List.replicate d 0) (d : Int) _ N N (List.replicate N 0) (List.replicate N 0) (N : Int) 0 _ L4 (own4.lies) hdis (by omega) (by omega) (by omega) PA.out.1 (by simp) PA.out.2) ?_
          rintro e w5 ⟨rfl, g5, k1, k2, k3⟩
          rw [List.replicate_append_replicate] at k1
          refine hK.out _ _ trivial (fun hHeld => ?_)
          clear hK K
          try simp only [Act.put, List.setIfInBounds_toArray, List.set_cons_zero, List.set_cons_succ]
          refine wpAnyH_done (by kernel_rfl) (NoPanic.normal ?_) _
          have Q5 := Q4.put hs4 k (by rw [HX.out]; exact hlt) (by rw [← HP.out]; exact k1) (by rw [← HP.out, ← HGK.out]; exact k2) (by rw [← HGK.out]; exact k3)
          rw [HNd.out, linesOf_set] at Q5
          have B5 := B4.trans (k2.below B4.size fun j hj hs => HBL.out j hj hs)
          have HQ5 := hide Q5
          have HB5 := hide B5
          clear Q5 B5 k1 k2 k3 L4 Q4 B4 hs4 hdis own4 hb4
          go_wp2_with fail
          go_roundg (n - (k + 1))
          case measure => omega
          case rel => exact ⟨k + 1, _, by omega, rfl, by go_num, by rw [leastOf_succ, ← HLE.out, ← HN.out], by rw [List.length_set]; exact HX.out, HQ5.out, HB5.out⟩
        refine AllReadyH.cons (o := ?_) ?_ (fun K hK => ?_) ?_
        rotate_left 1
        · (simp only [List.getElem?_toArray, List.getElem?_cons_succ, List.getElem?_cons_zero]; rfl)
        · refine step_makeB rfl (.tmp 54) (.tmp 54) rfl w.heap.size _ _ N rfl rfl rfl rfl (by omega) hsz ?_
          intro w4 own4 hb4
          have Q4 := HQ.out.drew.below hb4
          have L4 := HL.out.below (Below_step ((Below.refl _ _).drew) hb4)
          have B4 : Below w.heap.size w w4 := Below_step HB.out.drew hb4
          have hs4 : w1.heap.size ≤ w4.heap.size := Nat.le_trans hszq hb4.size
          have hdis : ∀ bk off, some (⟨W1.heap.size, 0, none⟩ : Addr) = some ⟨bk, off, none⟩ → List.replicate N (0 : UInt8) ≠ [] → ¬ lineBlocks p gk bk := by
            intro bk off e _ hs
            injection e with e
            injection e with e _
            subst e
            have := HL.out.base (B := 0) _ hs
            omega
          refine hK.out _ _ trivial (fun hHeld => ?_)
          clear hK K
          try simp only [Act.put, List.setIfInBounds_toArray, List.set_cons_zero, List.set_cons_succ]
          refine wpAnyH_ready (rs := [2]) (by kernel_rfl) (by simp) ?_
          refine AllReadyH.cons (o := ?_) ?_ (fun K hK => ?_) AllReadyH.nil
          rotate_left 1
          · (simp only [List.getElem?_toArray, List.getElem?_cons_succ, List.getElem?_cons_zero]; rfl)
          go_simp
          refine Calls.mono (queue_Line Q4 k (by rw [HX.out]; exact hlt) (by rw [HX.out]; omega) rfl HP.out) ?_
          rintro e w3 ⟨rfl, rfl⟩
          refine hK.out _ _ trivial (fun hHeld => ?_)
          clear hK K
          try simp only [Act.put, List.setIfInBounds_toArray, List.set_cons_zero, List.set_cons_succ]
          refine wpAnyH_ready (rs := [6]) (by kernel_rfl) (by simp) ?_
          refine AllReadyH.cons (o := ?_) ?_ (fun K hK => ?_) AllReadyH.nil
          rotate_left 1
          · (simp only [List.getElem?_toArray, List.getElem?_cons_succ, List.getElem?_cons_zero]; rfl)
          go_simp
          refine Calls.mono (line_Put_v p gk (List.replicate d 0) (d : Int) _ N N (List.replicate N 0) (List.replicate N 0) (N : Int) 0 _ L4 (own4.lies) hdis (by omega) (by omega) (by omega) PA.out.1 (by simp) PA.out.2) ?_
          rintro e w5 ⟨rfl, g5, k1, k2, k3⟩
          rw [List.replicate_append_replicate] at k1
          refine hK.out _ _ trivial (fun hHeld => ?_)
          clear hK K
          try simp only [Act.put, List.setIfInBounds_toArray, List.set_cons_zero, List.set_cons_succ]
          refine wpAnyH_done (by kernel_rfl) (NoPanic.normal ?_) _
          have Q5 := Q4.put hs4 k (by rw [HX.out]; exact hlt) (by rw [← HP.out]; exact k1) (by rw [← HP.out, ← HGK.out]; exact k2) (by rw [← HGK.out]; exact k3)
          rw [HNd.out, linesOf_set] at Q5
          have B5 := B4.trans (k2.below B4.size fun j hj hs => HBL.out j hj hs)
          have HQ5 := hide Q5
          have HB5 := hide B5
          clear Q5 B5 k1 k2 k3 L4 Q4 B4 hs4 hdis own4 hb4
          go_wp2_with fail
          go_roundg (n - (k + 1))
          case measure => omega
          case rel => exact ⟨k + 1, _, by omega, rfl, by go_num, by rw [leastOf_succ, ← HLE.out, ← HN.out], by rw [List.length_set]; exact HX.out, HQ5.out, HB5.out⟩
        exact AllReadyH.nil
    · obtain rfl : k = n := by omega
      obtain ⟨F, hF⟩ : ∃ F, F = d + le := ⟨_, rfl⟩
      have hfr : Hid (front (linesOf l k d k) = F) := by show _ = F; rw [front_lines _ _ _ (by omega), hF, HLE.out]
      have hsum : (d : Int) + (le : Int) = (F : Int) := by omega
      have hFi : (F : Int) ≤ 2000 := by omega
      have hn0 : Hid (0 < xs.length) := by show 0 < _; rw [HX.out]; omega
      have hn1 : Hid (xs.length ≤ 1000) := by show _ ≤ 1000; rw [HX.out]; omega
      have HFI : Hid ((F : Int) = (front (linesOf l k d k) : Int)) := by show (F : Int) = _; rw [hfr.out]
      have hout1 : Hid ((F : Int) < 0 ∨ (front (linesOf l k d k) : Int) ≤ (F : Int)) := .inr (by rw [hfr.out]; exact Int.le_refl _)
      have hl1 : Hid ((-1 : Int) < 0 ∨ (xs.length : Int) ≤ -1) := .inl (by omega)
      have hl2 : Hid ((k : Int) < 0 ∨ (xs.length : Int) ≤ (k : Int)) := .inr (by rw [HX.out]; exact Int.le_refl _)
      clear hF
      go_wp2_with fail
      refine Calls.mono (queue_Joint_out HQ.out hn0.out hn1.out hout1.out) ?_
      rintro e w5 ⟨rfl, rfl⟩
      by_cases h0 : 0 < F
      · obtain ⟨G, hG⟩ : ∃ G, F = G + 1 := ⟨F - 1, by omega⟩
        have e1 : (F : Int) - 1 = (G : Int) := by omega
        have hg : Hid (G < front (linesOf l k d k)) := by show G < _; rw [hfr.out]; omega
        have d5 : decide (0 < F) = true := decide_eq_true h0
        have d6 : decide (0 < (F : Int)) = true := by simp; omega
        clear hG h0
        go_wp2_with fail
        refine Calls.mono (queue_Joint HQ.out hszq hn0.out hn1.out G hg.out rfl) ?_
        rintro e w6 ⟨A6, c6, rfl, own6, hb6⟩
        rw [HX.out]
        have HQ6 := hide (HQ.out.below hb6)
        have HB6 := hide (Below_step HB.out hb6)
        clear own6 hb6
        go_wp2_with fail
        refine Calls.mono (queue_Front HQ6.out hn0.out hn1.out HFI.out) ?_
        rintro e w7 ⟨rfl, rfl⟩
        go_wp2_with fail
        refine Calls.mono (queue_Line_out HQ6.out hl1.out) ?_
        rintro e w7 ⟨rfl, rfl⟩
        go_wp2_with fail
        refine Calls.mono (queue_Line_out HQ6.out hl2.out) ?_
        rintro e w7 ⟨rfl, rfl⟩
        go_wp2_with fail
        go_ret
        exact ⟨rfl, HB6.out⟩
      · have hF0 : F = 0 := by omega
        subst hF0
        have e1 : ((0 : Nat) : Int) - 1 = -1 := by omega
        have hout2 : Hid ((-1 : Int) < 0 ∨ (front (linesOf l k d k) : Int) ≤ -1) := .inl (by omega)
        go_wp2_with fail
        refine Calls.mono (queue_Joint_out HQ.out hn0.out hn1.out hout2.out) ?_
        rintro e w6 ⟨rfl, rfl⟩
        go_wp2_with fail
        refine Calls.mono (queue_Front (f := 0) HQ.out hn0.out hn1.out (by rw [hfr.out]; rfl)) ?_
        rintro e w7 ⟨rfl, rfl⟩
        go_wp2_with fail
        refine Calls.mono (queue_Line_out HQ.out hl1.out) ?_
        rintro e w7 ⟨rfl, rfl⟩
        go_wp2_with fail
        refine Calls.mono (queue_Line_out HQ.out hl2.out) ?_
        rintro e w7 ⟨rfl, rfl⟩
        go_wp2_with fail
        go_ret
        exact ⟨rfl, HB.out⟩
end Go.Proofs.Ytbdhochdakihbaa
