/-
  CoreLate: the walk.
-/
import Derived.Test.YtbcgffgiifminaaStand
namespace Go.Proofs.Ytbcgffgiifminaa
open Go.RowKit
set_option maxRecDepth 10000
set_option linter.unusedVariables false
theorem hold_same {s : Co} (h : ∀ (i : Nat) (q : Peer), s.peers[i]? = some q → q.bad s.marks = false) : s.hold = s := by
  have : ∀ k, s.holdK k = s := by
    intro k
    induction k with
    | zero => rfl
    | succ k ih =>
      rw [Co.holdK, ih, Co.hold1]
      split
      · rename_i q hq
        rw [if_neg (by rw [h k q hq]; decide)]
      · rfl
  exact this _
def lCfg (n : Nat) : Cfg := ⟨n, 0, 1, 0, 4, 1, 0, 0, 0, 3⟩
theorem lCfg_fine {n : Nat} (h : 2 ≤ n) (h8 : n ≤ 8) : (lCfg n).Fine :=
  ⟨by show (2 : Int) ≤ n ∧ (n : Int) ≤ 8; omega, by show (0 : Int) ≤ 0 ∧ (0 : Int) ≤ n - 1; omega, by show (0 : Int) ≤ 1 ∧ (1 : Int) ≤ _; omega, by show (0 : Int) ≤ 0 ∧ (0 : Int) ≤ 8; omega, by show (1 : Int) ≤ 4 ∧ (4 : Int) ≤ 16; omega, by show (1 : Int) ≤ 1 ∧ (1 : Int) ≤ 3; omega, by show (0 : Int) ≤ 0 ∧ (0 : Int) ≤ 3; omega, .inl rfl,
   by show (0 : Int) ≤ 0 ∧ (0 : Int) ≤ 8; omega, by show (0 : Int) ≤ 0 ∧ (0 : Int) ≤ 4; omega, by show (3 : Int) ≤ 3 ∧ (3 : Int) ≤ 50; omega⟩
/-- Players of which player j was heard at f j. -/
def lSt (n : Nat) (f : Nat → Int) (t : Int) (ev : List Ev) (cl : Bool) : Co := ⟨lCfg n, List.replicate n [], (List.range n).map fun j => ⟨0, f j, 0, 0, false⟩, [], ev, t, cl⟩
def lPkt (j : Nat) : Pkt := ⟨1, j, 0, 1, 0, [], 0, 0, 0⟩
theorem lPkt_may {j : Nat} (h : 1 ≤ j) (h8 : j ≤ 7) : (lPkt j).may = true := Pkt.may_iff.2 ⟨by show (0 : Int) ≤ j ∧ (j : Int) ≤ 7; omega, by show (0 : Int) ≤ 0 ∧ (0 : Int) ≤ 7; omega, by show (j : Int) ≠ 0; omega, by show (0 : Int) ≤ 1 ∧ (1 : Int) ≤ _; omega,
  .inl ⟨rfl, by show (0 : Int) ≤ 0 ∧ (0 : Int) ≤ 1000; omega, by show (0 : Int) ≤ 0 ∧ (0 : Int) ≤ 1000; omega, by show (0 : Int) ≤ 0 ∧ (0 : Int) ≤ 1000; omega, by show (0 : Nat) ≤ 32; omega⟩⟩
theorem lPkt_wf (j : Nat) : (lPkt j).WF := ⟨by show (0 : Int) ≤ 0; omega, by show (0 : Int) < _; omega⟩
theorem lSt_congr {n : Nat} {f g : Nat → Int} (h : ∀ j, j < n → f j = g j) (t : Int) (ev : List Ev) (cl : Bool) : lSt n f t ev cl = lSt n g t ev cl := by
  have e : ((List.range n).map fun j => (⟨0, f j, 0, 0, false⟩ : Peer)) = (List.range n).map fun j => ⟨0, g j, 0, 0, false⟩ := List.map_congr_left fun j hj => by rw [h j (List.mem_range.1 hj)]
  unfold lSt
  rw [e]
theorem lSt_new (n : Nat) : Co.new (lCfg n) = lSt n (fun _ => 0) 0 [] false := by
  have e : List.replicate n (⟨0, 0, 0, 0, false⟩ : Peer) = (List.range n).map fun _ => ⟨0, 0, 0, 0, false⟩ := by
    rw [List.map_const', List.length_range]
  show (⟨lCfg n, List.replicate n (List.replicate 0 0), List.replicate n ⟨0, 0, 0, 0, false⟩, [], [], 0, false⟩ : Co) = _
  rw [e]; rfl
theorem lSt_peer {n : Nat} {f : Nat → Int} {t : Int} {ev : List Ev} {cl : Bool} {j : Nat} (hj : j < n) : (lSt n f t ev cl).peers.getD j Peer.zero = ⟨0, f j, 0, 0, false⟩ := by
  show ((List.range n).map _).getD j _ = _
  rw [List.getD_eq_getElem?_getD, List.getElem?_map, List.getElem?_range hj]; rfl
theorem lSt_same (n : Nat) (f : Nat → Int) (t : Int) (ev : List Ev) (cl : Bool) : (lSt n f t ev cl).hold = lSt n f t ev cl := hold_same fun i q hq => by
  have hq : ((List.range n).map fun j => (⟨0, f j, 0, 0, false⟩ : Peer))[i]? = some q := hq
  rw [List.getElem?_map] at hq
  cases h : (List.range n)[i]? with
  | none => rw [h] at hq; simp at hq
  | some k => rw [h] at hq; injection hq with hq; rw [← hq]; rfl
theorem lSt_hear {n : Nat} {f : Nat → Int} {t : Int} {j : Nat} (hj : j < n) : (lSt n f t [] false).hear (lPkt j) = lSt n (fun k => if k = j then t else f k) t [] false := by
  have e1 : (lSt n f t [] false).hear1 j = lSt n (fun k => if k = j then t else f k) t [] false := by
    rw [Co.hear1, Co.pr, lSt_peer hj]
    show ({ lSt n f t [] false with peers := ((List.range n).map fun j => (⟨0, f j, 0, 0, false⟩ : Peer)).set j ⟨0, t, 0, 0, false⟩ } : Co) = _
    have e : ((List.range n).map fun j => (⟨0, f j, 0, 0, false⟩ : Peer)).set j ⟨0, t, 0, 0, false⟩ = (List.range n).map fun k => ⟨0, if k = j then t else f k, 0, 0, false⟩ := by
      apply List.ext_getElem?
      intro i
      rw [List.getElem?_set, List.getElem?_map, List.getElem?_map]
      by_cases hi : i < n
      · rw [List.getElem?_range hi]
        by_cases hij : j = i
        · subst hij
          rw [if_pos rfl, if_pos (by simpa using hi)]; simp
        · have hij2 : ¬ i = j := fun h => hij h.symm
          rw [if_neg hij]
          simp [hij2]
      · by_cases hij : j = i
        · omega
        · rw [if_neg hij, List.getElem?_eq_none (by simpa using hi)]; rfl
    rw [e]; rfl
  have e2 : ∀ g : Nat → Int, (lSt n g t [] false).hear2 j (lPkt j) = lSt n g t [] false := by
    intro g
    rw [Co.hear2]
    have e : (lSt n g t [] false).ls.set j ((lSt n g t [] false).ls.getD j [] ++ putAdd ((lSt n g t [] false).ls.getD j []) (lPkt j).first (lPkt j).press) = (lSt n g t [] false).ls := by
      show (List.replicate n ([] : List UInt8)).set j ((List.replicate n ([] : List UInt8)).getD j [] ++ putAdd ((List.replicate n ([] : List UInt8)).getD j []) 0 []) = List.replicate n []
      have e0 : (List.replicate n ([] : List UInt8)).getD j [] = [] := by rw [List.getD_eq_getElem?_getD, List.getElem?_replicate, if_pos hj]; rfl
      rw [e0]
      have e4 : ([] : List UInt8) ++ putAdd [] 0 [] = [] := rfl
      rw [e4]
      apply List.ext_getElem?
      intro i
      rw [List.getElem?_set, List.getElem?_replicate]
      split
      · subst_vars; simp [hj]
      · rfl
    rw [e]
  have e3 : ∀ g : Nat → Int, (lSt n g t [] false).hear3 j (lPkt j) = lSt n g t [] false := by
    intro g
    rw [Co.hear3, Co.acks, Co.pr, lSt_peer hj]; rfl
  have e4 : ∀ g : Nat → Int, (lSt n g t [] false).hear4 j (lPkt j) = lSt n g t [] false := by
    intro g
    rw [Co.hear4, Co.words, Co.pr, lSt_peer hj]; rfl
  have e0 : (lPkt j).src.toNat = j := by show ((j : Int)).toNat = j; simp
  rw [Co.hear, if_neg (by show ¬ (1 : Int) = 2; omega), e0, e1, e2, e3, e4]
  exact lSt_same _ _ _ _ _
theorem lSt_fits {n : Nat} {f : Nat → Int} {t : Int} {ev : List Ev} {cl : Bool} {j : Nat} (hj : j < n) : (lSt n f t ev cl).fits (lPkt j) = true := by
  show (decide ((0 : Int) = 0) && (decide ((j : Int) < (n : Int)) && decide ((1 : Int) = 1))) = true
  rw [decide_eq_true (show (j : Int) < (n : Int) by omega)]; rfl
theorem othersOf_cons {n : Nat} (h : 2 ≤ n) : ∃ l, othersOf n 0 = 1 :: l ∧ ∀ j ∈ 1 :: l, 1 ≤ j ∧ j < n := by
  obtain ⟨m, rfl⟩ : ∃ m, n = m + 2 := ⟨n - 2, by omega⟩
  have e : othersOf (m + 2) 0 = 1 :: ((List.range m).map (· + 2)).filter fun i => i != 0 := by
    unfold othersOf
    rw [List.range_succ_eq_map, List.range_succ_eq_map]
    simp [List.filter_map, Function.comp_def]
  refine ⟨_, e, fun j hj => ?_⟩
  rw [← e, mem_others] at hj
  omega
theorem lSt_late {n : Nat} (hn : 2 ≤ n) {f : Nat → Int} {t h : Int} (hf : ∀ j, 1 ≤ j → j < n → f j = h) : (lSt n f t [] false).ticked.lateWho = if 40 ≤ t + 1 - h then some 1 else none := by
  obtain ⟨l, hl, hm⟩ := othersOf_cons hn
  have e : (lSt n f t [] false).ticked.lateWho = (othersOf ((List.range n).map fun j => (⟨0, f j, 0, 0, false⟩ : Peer)).length 0).find? (lSt n f t [] false).ticked.isLate := rfl
  have el : ∀ j, 1 ≤ j → j < n → (lSt n f t [] false).ticked.isLate j = decide (40 ≤ t + 1 - h) := by
    intro j h1 h2
    rw [Co.isLate]
    show decide (40 ≤ t + 1 - ((lSt n f t [] false).peers.getD j Peer.zero).heard) = _
    rw [lSt_peer h2, hf j h1 h2]
  rw [e, List.length_map, List.length_range, hl]
  by_cases hc : 40 ≤ t + 1 - h
  · rw [if_pos hc, List.find?_cons_of_pos]
    rw [el 1 (by omega) (by omega)]; simpa using hc
  · rw [if_neg hc, List.find?_eq_none]
    intro j hj
    have := hm j hj
    rw [el j this.1 this.2]; simpa using hc
def lT (heard : Nat) : Nat := if heard < 40 then heard + 40 else 40
/-- Behind so many ticks. -/
def lAt (n heard i : Nat) : Co :=
  if i < lT heard then lSt n (fun j => if j = 0 then 0 else if heard < i then (heard : Int) else 0) i [] false
  else lSt n (fun j => if j = 0 then 0 else if heard < 40 then (heard : Int) else 0) (lT heard : Nat) [.late 1] true
/-- Within tick i, behind the packets of the players below k. -/
def lMid (n heard i k : Nat) : Co := if i = heard ∧ i < lT heard then lSt n (fun j => if j = 0 then 0 else if j < k then (i : Int) else 0) i [] false else lAt n heard i
theorem lMid_one (n heard i : Nat) : lMid n heard i 1 = lAt n heard i := by
  unfold lMid
  split
  · rename_i h
    rw [lAt, if_pos h.2]
    refine lSt_congr (fun j _ => ?_) _ _ _
    split
    · rfl
    · rw [if_neg (by omega), if_neg (by omega)]
  · rfl
theorem lMid_new (n heard : Nat) : lAt n heard 0 = Co.new (lCfg n) := by
  rw [lSt_new, lAt, if_pos (by unfold lT; split <;> omega)]
  refine lSt_congr (fun j _ => ?_) _ _ _
  split
  · rfl
  · rw [if_neg (by omega)]
theorem lMid_closed (n heard i k : Nat) : (lMid n heard i k).closed = decide (lT heard ≤ i) := by
  unfold lMid lAt
  split
  · rename_i h
    rw [decide_eq_false (by omega)]; rfl
  · split
    · rw [decide_eq_false (by omega)]; rfl
    · rw [decide_eq_true (by omega)]; rfl
theorem lMid_events (n heard i k : Nat) : (lMid n heard i k).events = if lT heard ≤ i then [.late 1] else [] := by
  unfold lMid lAt
  split
  · rename_i h
    have h1 : ¬ lT heard ≤ i := by omega
    rw [if_neg h1]; rfl
  · split
    · have h1 : ¬ lT heard ≤ i := by omega
      rw [if_neg h1]; rfl
    · have h1 : lT heard ≤ i := by omega
      rw [if_pos h1]; rfl
theorem lMid_now (n heard i k : Nat) (hi : i ≤ 1000) : (lMid n heard i k).now < 1000000000 := by
  unfold lMid lAt
  split
  · show (i : Int) < _; omega
  · split
    · show (i : Int) < _; omega
    · show ((lT heard : Nat) : Int) < _
      unfold lT at *
      split <;> split at * <;> omega
theorem lMid_open {n heard i k : Nat} (hi : i = heard) (ho : i < lT heard) (hk : k < n) (hk1 : 1 ≤ k) : (if (lMid n heard i k).fits (lPkt k) = true then (lMid n heard i k).hear (lPkt k) else lMid n heard i k) = lMid n heard i (k + 1) ∧ (if (lMid n heard i k).fits (lPkt k) = true then (0 : Int) else 1) = 0 := by
  have e : lMid n heard i k = lSt n (fun j => if j = 0 then 0 else if j < k then (i : Int) else 0) i [] false := by rw [lMid, if_pos ⟨hi, ho⟩]
  have e2 : lMid n heard i (k + 1) = lSt n (fun j => if j = 0 then 0 else if j < k + 1 then (i : Int) else 0) i [] false := by rw [lMid, if_pos ⟨hi, ho⟩]
  rw [e, e2, if_pos (lSt_fits hk), if_pos (lSt_fits hk), lSt_hear hk]
  refine ⟨lSt_congr (fun j _ => ?_) _ _ _, rfl⟩
  show (if j = k then (i : Int) else if j = 0 then 0 else if j < k then (i : Int) else 0) = if j = 0 then 0 else if j < k + 1 then (i : Int) else 0
  by_cases h0 : j = 0
  · rw [if_neg (by omega), if_pos h0, if_pos h0]
  · rw [if_neg h0, if_neg h0]
    by_cases h1 : j = k
    · rw [if_pos h1, if_pos (by omega)]
    · rw [if_neg h1]
      by_cases h2 : j < k
      · rw [if_pos h2, if_pos (by omega)]
      · rw [if_neg h2, if_neg (by omega)]
theorem lSt_tick {n : Nat} (hn : 2 ≤ n) {f : Nat → Int} {t h : Int} (hf : ∀ j, 1 ≤ j → j < n → f j = h) : (lSt n f t [] false).tick = if 40 ≤ t + 1 - h then lSt n f (t + 1) [.late 1] true else lSt n f (t + 1) [] false := by
  rw [Co.tick, if_neg (by show ¬ false = true; decide), lSt_late hn hf]
  by_cases hc : 40 ≤ t + 1 - h
  · rw [if_pos hc, if_pos hc]; rfl
  · rw [if_neg hc, if_neg hc]; rfl
theorem lMid_tick {n heard i k : Nat} (hn : 2 ≤ n) (hk : if i = heard then k = n else k = 1) : (lMid n heard i k).tick = lAt n heard (i + 1) := by
  by_cases hc : lT heard ≤ i
  · have e : (lMid n heard i k).closed = true := by rw [lMid_closed]; simpa using hc
    rw [Co.tick, if_pos e]
    have h1 : ¬ (i = heard ∧ i < lT heard) := by omega
    have h2 : ¬ i < lT heard := by omega
    have h3 : ¬ i + 1 < lT heard := by omega
    rw [lMid, if_neg h1, lAt, lAt, if_neg h2, if_neg h3]
  · -- open: all were heard at h
    have key : ∀ (f : Nat → Int) (h : Nat), lMid n heard i k = lSt n f i [] false → (∀ j, 1 ≤ j → j < n → f j = h) → f 0 = 0 → (h = if heard ≤ i then heard else 0) → (lMid n heard i k).tick = lAt n heard (i + 1) := by
      intro f h e hf h0 hh
      rw [e, lSt_tick hn hf, lAt]
      unfold lT at *
      have hff : ∀ j, j < n → f j = if j = 0 then 0 else (h : Int) := by
        intro j hj
        by_cases hj0 : j = 0
        · rw [if_pos hj0, hj0]; exact h0
        · rw [if_neg hj0]; exact hf j (by omega) hj
      by_cases h4 : heard < 40
      · rw [if_pos h4] at hc ⊢
        by_cases h5 : i + 1 < heard + 40
        · rw [if_pos h5, if_neg (by split at hh <;> omega)]
          refine lSt_congr (fun j hj => ?_) _ _ _
          rw [hff j hj]
          split
          · rfl
          · split
            · rw [hh, if_pos (by omega)]
            · rw [hh, if_neg (by omega)]; rfl
        · have e1 : heard + 40 = i + 1 := by omega
          rw [if_neg h5, if_pos (by rw [if_pos (by omega)] at hh; omega), e1]
          refine lSt_congr (fun j hj => ?_) _ _ _
          rw [hff j hj, hh, if_pos (show heard ≤ i by omega)]
          split
          · rfl
          · first | rfl | rw [if_pos h4]
      · rw [if_neg h4] at hc ⊢
        have hi : ¬ heard ≤ i := by omega
        rw [if_neg hi] at hh
        subst hh
        by_cases h5 : i + 1 < 40
        · rw [if_pos h5, if_neg (by omega)]
          refine lSt_congr (fun j hj => ?_) _ _ _
          rw [hff j hj]
          split
          · rfl
          · rw [if_neg (by omega)]; rfl
        · have e1 : 40 = i + 1 := by omega
          rw [if_neg h5, if_pos (by omega), show ((40 : Nat) : Int) = (i : Int) + 1 by omega]
          refine lSt_congr (fun j hj => ?_) _ _ _
          rw [hff j hj]
          split
          · rfl
          · first | rfl | (rw [if_neg h4]; rfl)
    by_cases hh : i = heard
    · rw [if_pos hh] at hk
      refine key (fun j => if j = 0 then 0 else if j < k then (i : Int) else 0) i (by rw [lMid, if_pos ⟨hh, by omega⟩]) (fun j h1 h2 => ?_) rfl (by rw [if_pos (by omega), hh])
      show (if j = 0 then (0 : Int) else if j < k then (i : Int) else 0) = i
      rw [if_neg (by omega), if_pos (by omega)]
    · refine key (fun j => if j = 0 then 0 else if heard < i then (heard : Int) else 0) (if heard < i then heard else 0) (by rw [lMid, if_neg (by omega), lAt, if_pos (by omega)]) (fun j h1 h2 => ?_) rfl ?_
      · show (if j = 0 then (0 : Int) else if heard < i then (heard : Int) else 0) = _
        rw [if_neg (by omega)]
        split <;> rfl
      · split
        · rw [if_pos (by omega)]
        · rw [if_neg (by omega)]
theorem late_b (j : Nat) (w : World) : Calls Try.prog 28 #[.int .i64 (j : Int)] w fun r w' => ∃ A n c, r = .returned (.slice A n c) ∧ OwnB w' w.heap.size A n c (lPkt j).enc ∧ Below w.heap.size w w' := by
  go_enter Try.func28, Try.ntmps28
  go_wp2_with fail
  refine Calls.mono (ref_Packet (lPkt j) (LiesB.nil w 0 none) (Nat.zero_le _) (by omega) (lPkt_wf j)) ?_
  rintro r w4 ⟨A4, n4, c4, rfl, ho4, hb4⟩
  have HO := hide ho4
  have HB := hide hb4
  clear ho4 hb4
  go_wp2_with fail
  go_ret
  exact ⟨A4, n4, c4, rfl, HO.out, HB.out⟩
set_option maxHeartbeats 8000000 in
theorem law_CoreLate (n ticks heard : Int) (w : World) (lo0 : -9223372036854775808 ≤ n) (hi0 : n ≤ 9223372036854775807) (lo1 : -9223372036854775808 ≤ ticks) (hi1 : ticks ≤ 9223372036854775807) (lo2 : -9223372036854775808 ≤ heard) (hi2 : heard ≤ 9223372036854775807) :
    Calls Try.prog 7 #[.int .i64 n, .int .i64 ticks, .int .i64 heard] w fun r w' => r = .returned (.bool true) ∧ Below w.heap.size w w' := by
  by_cases hr : n < 2 ∨ 8 < n ∨ ticks < 0 ∨ 100 < ticks ∨ heard < 0 ∨ 100 < heard
  · obtain ⟨z1, d1⟩ : ∃ z, (decide (n < 2)) = z := ⟨_, rfl⟩
    obtain ⟨z2, d2⟩ : ∃ z, (decide (n > 8)) = z := ⟨_, rfl⟩
    obtain ⟨z3, d3⟩ : ∃ z, (decide (ticks < 0)) = z := ⟨_, rfl⟩
    obtain ⟨z4, d4⟩ : ∃ z, (decide (ticks > 100)) = z := ⟨_, rfl⟩
    obtain ⟨z5, d5⟩ : ∃ z, (decide (heard < 0)) = z := ⟨_, rfl⟩
    obtain ⟨z6, d6⟩ : ∃ z, (decide (heard > 100)) = z := ⟨_, rfl⟩
    have hz : (z1 || z2 || z3 || z4 || z5 || z6) = true := by
      rw [← d1, ← d2, ← d3, ← d4, ← d5, ← d6]
      simp only [Bool.or_eq_true, decide_eq_true_eq]
      omega
    have HZ := hide hz
    clear hr hz
    go_enter Try.func7, Try.ntmps7
    go_wp2_with fail
    refine Calls.mono (begun21 w) ?_
    rintro e w1 ⟨rfl, hb1⟩
    have HB1 := hide hb1
    clear hb1
    go_upto_region 4 with fail
    go_cut [39] (fun s39 wx => s39 = .bool true ∧ wx = w1)
    case first =>
      cases z1
      case true => go_wp2_with fail; go_meet; exact ⟨rfl, rfl⟩
      cases z2
      case true => go_wp2_with fail; go_meet; exact ⟨rfl, rfl⟩
      cases z3
      case true => go_wp2_with fail; go_meet; exact ⟨rfl, rfl⟩
      cases z4
      case true => go_wp2_with fail; go_meet; exact ⟨rfl, rfl⟩
      cases z5
      case true => go_wp2_with fail; go_meet; exact ⟨rfl, rfl⟩
      cases z6
      case true => go_wp2_with fail; go_meet; exact ⟨rfl, rfl⟩
      exact absurd HZ.out (by decide)
    case rest =>
    obtain ⟨rfl, rfl⟩ := hcut
    go_wp2_with fail
    go_ret
    exact ⟨rfl, HB1.out⟩
  · have d1 : decide (n < 2) = false := decide_eq_false (by omega)
    have d2 : decide (n > 8) = false := decide_eq_false (by omega)
    have d3 : decide (ticks < 0) = false := decide_eq_false (by omega)
    have d4 : decide (ticks > 100) = false := decide_eq_false (by omega)
    have d5 : decide (heard < 0) = false := decide_eq_false (by omega)
    have d6 : decide (heard > 100) = false := decide_eq_false (by omega)
    obtain ⟨m, hm⟩ : ∃ d : Nat, n = (d : Int) := ⟨n.toNat, by omega⟩
    obtain ⟨t, ht⟩ : ∃ d : Nat, ticks = (d : Int) := ⟨ticks.toNat, by omega⟩
    obtain ⟨h, hh⟩ : ∃ d : Nat, heard = (d : Int) := ⟨heard.toNat, by omega⟩
    have HM := hide hm
    have HT := hide ht
    have HH := hide hh
    have hm2 : 2 ≤ m := by omega
    have hm8 : m ≤ 8 := by omega
    have ht100 : t ≤ 100 := by omega
    have hh100 : h ≤ 100 := by omega
    clear hr hm ht hh
    go_enter Try.func7, Try.ntmps7
    go_wp2_with fail
    refine Calls.mono (begun21 w) ?_
    rintro e w1 ⟨rfl, hb1⟩
    have HB1 := hide hb1
    clear hb1
    go_upto_region 6 with fail
    clear d1 d2 d3 d4 d5 d6
    rw [HM.out, HT.out, HH.out]
    clear lo0 hi0 lo1 hi1 lo2 hi2
    go_wp2_with fail
    refine Calls.mono (use_New (lCfg m) (lCfg_fine hm2 hm8) w1) ?_
    rintro r w2 ⟨x, p2, rfl, hc2⟩
    rw [← lMid_new m h] at hc2
    have H2 := hide hc2
    clear hc2
    go_wp2_with fail
    go_loopg [11] t (fun gg s11 wr => ∃ (i : Nat) (p : CP), i ≤ t ∧ gg = t - i ∧ s11 = .int .i64 (i : Int) ∧ Hid (HC w1.heap.size w1 wr x p (lAt m h i)))
    case atStart => exact ⟨0, p2, by omega, rfl, rfl, H2⟩
    case round =>
      obtain ⟨W1, hW1⟩ : ∃ W1, W1 = wr := ⟨_, rfl⟩
      subst hW1
      obtain ⟨i, p, hit, rfl, rfl, H3⟩ := hrel
      by_cases hlt : i < t
      · have hit2 : (i : Int) < (t : Int) := by omega
        have H3 : Hid (HC w1.heap.size w1 W1 x p (lMid m h i 1)) := by show HC _ _ _ _ _ _; rw [lMid_one]; exact H3.out
        obtain ⟨ih, hih⟩ : ∃ z, decide (i = h) = z := ⟨_, rfl⟩
        have hih2 : ((i : Int) == (h : Int)) = ih := by
          rw [← hih]
          by_cases e : i = h
          · simp [e]
          · have e2 : ¬ (i : Int) = (h : Int) := by omega
            simp [e, e2]
        have HIH := hide hih
        clear hih
        go_wp2_with fail
        go_loopg [12] (m - 1) (fun gg s12 wr => ∃ (k : Nat) (p : CP), 1 ≤ k ∧ k ≤ m ∧ gg = m - k ∧ s12 = .int .i64 (k : Int) ∧ (ih = false → k = 1) ∧ Hid (HC w1.heap.size w1 wr x p (lMid m h i k)))
        case atStart => exact ⟨1, p, by omega, by omega, rfl, rfl, fun _ => rfl, H3⟩
        case round =>
          obtain ⟨W2, hW2⟩ : ∃ W2, W2 = wr := ⟨_, rfl⟩
          subst hW2
          obtain ⟨k, p4, hk1, hkm, rfl, rfl, hki, H4⟩ := hrel
          have HKI := hide hki
          clear hki
          have tick : ∀ (W3 : World), W3 = W2 → (if i = h then k = m else k = 1) → Calls Try.prog 22 #[.pointer (some ⟨x, 0, none⟩)] W3 fun r w' => (∃ A n c, r = .returned (.slice A n c)) ∧ ∃ p5, HC w1.heap.size w1 w' x p5 (lAt m h (i + 1)) := by
            intro W3 e hk
            subst e
            refine Calls.mono (use_Tick H4.out (lMid_now _ _ _ _ (by omega)) (by rw [lMid_events]; split <;> simp) rfl (lMid_tick hm2 hk)) ?_
            rintro r w7 ⟨mA, mn, mc, xs, rfl, -, -, p7, hc7, -, -⟩
            exact ⟨⟨_, _, _, rfl⟩, p7, hc7⟩
          have TICK := hide tick
          clear tick
          cases ih with
          | true =>
            by_cases hkl : k < m
            · have hkl2 : (k : Int) < (m : Int) := by omega
              go_wp2_with fail
              refine Calls.mono (late_b k W2) ?_
              rintro r w5 ⟨A5, n5, c5, rfl, ho5, hb5⟩
              have hn5 : n5 ≤ 100 := by have := ho5.len; have := Pkt.enc_short (lPkt k); omega
              have HO5 := hide ho5
              have H5 := hide (H4.out.below hb5)
              clear ho5 hb5
              have hie : i = h := by simpa using HIH.out
              by_cases ho : lT h ≤ i
              · have hcl : (lMid m h i k).closed = true := by rw [lMid_closed]; simpa using ho
                have hsame : lMid m h i k = lMid m h i (k + 1) := by rw [lMid, lMid, if_neg (by omega), if_neg (by omega)]
                have H6 : Hid (HC w1.heap.size w1 w5 x p4 (lMid m h i (k + 1))) := by show HC _ _ _ _ _ _; rw [← hsame]; exact H5.out
                have HCL := hide hcl
                clear hcl hsame ho hie
                go_wp2_with fail
                refine Calls.mono (use_Receive_closed H5.out HCL.out A5 n5 c5) ?_
                rintro r w6 ⟨rfl, rfl⟩
                go_wp2_with fail
                go_roundg (m - (k + 1))
                case measure => omega
                case rel => exact ⟨k + 1, p4, by omega, by omega, rfl, by go_num, (fun h => by cases h), H6⟩
              · have hop := lMid_open (n := m) hie (by omega) hkl hk1
                have HCL : Hid ((lMid m h i k).closed = false) := by show _ = _; rw [lMid_closed]; simpa using ho
                have HEV : Hid ((lMid m h i k).events.length ≤ 999999000) := by show _ ≤ _; rw [lMid_events, if_neg ho]; decide
                have HOP := hide hop
                clear hop ho hie
                go_wp2_with fail
                refine Calls.mono (use_Receive_yes H5.out HCL.out HEV.out (lPkt k) (Pkt.enc_is (lPkt_may hk1 (by omega)) (lPkt_wf k)) HO5.out.lies (Nat.le_refl _) HO5.out.cap (by omega) HOP.out.2 HOP.out.1) ?_
                rintro r w6 ⟨rfl, p6, hc6, -⟩
                have H6 := hide hc6
                clear hc6
                go_wp2_with fail
                go_roundg (m - (k + 1))
                case measure => omega
                case rel => exact ⟨k + 1, p6, by omega, by omega, rfl, by go_num, (fun h => by cases h), H6⟩
            · have hkm2 : m = k := by omega
              subst hkm2
              have hie : i = h := by simpa using HIH.out
              have HIE := hide hie
              clear hie
              go_wp2_with fail
              refine Calls.mono (TICK.out _ rfl (by rw [if_pos HIE.out]; trivial)) ?_
              rintro r w7 ⟨⟨mA, mn, mc, rfl⟩, p7, hc7⟩
              have H7 := hide hc7
              clear hc7
              go_wp2_with fail
              go_roundg (t - (i + 1))
              case measure => omega
              case rel => exact ⟨i + 1, p7, by omega, rfl, by go_num, H7⟩
          | false =>
            have hk1' : k = 1 := HKI.out rfl
            subst hk1'
            have hie : ¬ i = h := by simpa using HIH.out
            have HIE := hide hie
            have hm1 : (1 : Int) < (m : Int) := by omega
            clear hie
            go_wp2_with fail
            refine Calls.mono (TICK.out _ rfl (by rw [if_neg HIE.out]; trivial)) ?_
            rintro r w7 ⟨⟨mA, mn, mc, rfl⟩, p7, hc7⟩
            have H7 := hide hc7
            clear hc7
            go_wp2_with fail
            go_roundg (t - (i + 1))
            case measure => omega
            case rel => exact ⟨i + 1, p7, by omega, rfl, by go_num, H7⟩
      · obtain rfl : t = i := by omega
        obtain ⟨lt, hlt2⟩ : ∃ z, decide (lT h ≤ t) = z := ⟨_, rfl⟩
        have HCL : Hid ((lAt m h t).closed = lt) := by show _ = _; rw [← lMid_one, lMid_closed, hlt2]
        have HEV : Hid ((lAt m h t).events = if lt = true then [.late 1] else []) := by
          show _ = _
          rw [← lMid_one, lMid_events, ← hlt2]
          by_cases e : lT h ≤ t <;> simp [e]
        obtain ⟨z1, d1⟩ : ∃ z, decide ((t : Int) ≥ 40) = z := ⟨_, rfl⟩
        obtain ⟨z2, d2⟩ : ∃ z, decide ((h : Int) ≥ 40) = z := ⟨_, rfl⟩
        obtain ⟨z3, d3⟩ : ∃ z, decide ((t : Int) - (h : Int) ≥ 40) = z := ⟨_, rfl⟩
        have hw3 : IntKind.i64.wrap ((t : Int) - (h : Int)) = (t : Int) - (h : Int) := IntWalk.i64_in _ ⟨by omega, by omega⟩
        have HLT : Hid ((z1 && (z2 || z3)) = lt) := by
          show _ = _
          rw [← hlt2, ← d1, ← d2, ← d3, Bool.eq_iff_iff]
          simp only [Bool.and_eq_true, Bool.or_eq_true, decide_eq_true_eq]
          unfold lT
          split <;> omega
        clear hlt2 hlt
        go_upto_region 18 with fail
        go_cut [13] (fun s13 wx => s13 = .bool lt ∧ W1 = wx)
        case first =>
          cases z1
          case false => go_wp2_with fail; go_meet; exact ⟨by rw [← HLT.out]; rfl, rfl⟩
          cases z2
          case true => go_wp2_with fail; go_meet; exact ⟨by rw [← HLT.out]; rfl, rfl⟩
          cases z3
          case true => go_wp2_with fail; go_meet; exact ⟨by rw [← HLT.out]; rfl, rfl⟩
          case false => go_wp2_with fail; go_meet; exact ⟨by rw [← HLT.out]; rfl, rfl⟩
        case rest =>
        obtain ⟨rfl, rfl⟩ := hcut
        clear d1 d2 d3
        cases lt with
        | false =>
          go_wp2_with fail
          refine Calls.mono (use_Events H3.out HEV.out) ?_
          rintro r w5 ⟨eA, ec, rfl, ho5, p5, hc5, -⟩
          have H5 := hide hc5
          have HO5 : Hid (OwnV 114 w5 w1.heap.size eA 0 ec (([] : List Ev).map Ev.val)) := ho5
          clear hc5 ho5
          go_wp2_with fail
          refine Calls.mono (law_Raws HO5.out (by omega)) ?_
          rintro r w6 ⟨rA, rc, rfl, hr6, hb6⟩
          have H6 := hide (H5.out.below hb6)
          clear hr6 hb6
          go_wp2_with fail
          refine Calls.mono (use_Closed H6.out (z := false) HCL.out) ?_
          rintro r w7 ⟨rfl, rfl⟩
          go_wp2_with fail
          go_ret
          exact ⟨rfl, Below_step HB1.out H6.out.bel⟩
        | true =>
          go_wp2_with fail
          refine Calls.mono (use_Events H3.out HEV.out) ?_
          rintro r w5 ⟨eA, ec, rfl, ho5, p5, hc5, -⟩
          have H5 := hide hc5
          have HO5 : Hid (OwnV 114 w5 w1.heap.size eA 1 ec (([.late 1] : List Ev).map Ev.val)) := ho5
          clear hc5 ho5
          go_wp2_with fail
          refine Calls.mono (law_Raws HO5.out (by omega)) ?_
          rintro r w6 ⟨rA, rc, rfl, hr6, hb6⟩
          have H6 := hide (H5.out.below hb6)
          obtain ⟨rg, rfl⟩ : ∃ g, rA = some ⟨g, 0, none⟩ := by
            rcases hr6.2 with ⟨hv, hx⟩ | ⟨g, cap, cur, hv, _⟩
            · omega
            · injection hv with h1 _ _; exact ⟨g, h1⟩
          have c0 : w6.cell? ⟨rg, 0, none⟩ = some (.int .i64 2) := World.ownsRow.cellAt hr6 0 (by omega)
          have c1 : w6.cell? ⟨rg, 1, none⟩ = some (.int .i64 1) := World.ownsRow.cellAt hr6 1 (by omega)
          clear hr6 hb6
          go_wp2_with fail
          refine Calls.mono (use_Closed H6.out (z := true) HCL.out) ?_
          rintro r w7 ⟨rfl, rfl⟩
          go_wp2_with fail
          go_ret
          exact ⟨rfl, Below_step HB1.out H6.out.bel⟩
end Go.Proofs.Ytbcgffgiifminaa
