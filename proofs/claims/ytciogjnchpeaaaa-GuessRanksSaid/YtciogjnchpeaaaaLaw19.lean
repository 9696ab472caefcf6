/-
  Law 19: begun, Differs.
-/
import Derived.Test.YtciogjnchpeaaaaGuess3
namespace Go.Proofs.Ytciogjnchpeaaaa
open Go.RowKit
set_option maxRecDepth 10000
set_option linter.unusedVariables false
open Prd
theorem LL.form {B : Nat} {w : World} {A : Option Addr} {n c : Nat} {ss : List Sl} {ls : List (List UInt8)} (h : LL B w A n c ss ls) (hn : 0 < n) : ∃ g, A = some ⟨g, 0, none⟩ := by
  obtain ⟨g, e, _, _⟩ := h.row.form hn
  exact ⟨g, e⟩
theorem LL.cellG {B : Nat} {w : World} {g n c : Nat} {ss : List Sl} {ls : List (List UInt8)} (h : LL B w (some ⟨g, 0, none⟩) n c ss ls) {i : Nat} (hi : i < n) {l : List UInt8} (hl : ls.getD i [] = l) : ∃ (a : Option Addr) (k c' : Nat), w.cell? ⟨g, i, none⟩ = some (.slice a k c') ∧ LiesB w w.heap.size a k l := by
  obtain ⟨g', a, k, c', e, h1, h2⟩ := h.cell hi
  injection e with e
  injection e with e
  subst e hl
  exact ⟨a, k, c', h1, h2⟩
theorem g_last_first (past : List UInt8) : By.first ⟨1, 0, []⟩ past = endB past := by
  refine (By.first_best (b := ⟨1, 0, []⟩) (by decide) ?_ (.inl rfl)).symm
  intro x
  unfold By.wgt
  rw [if_neg (by rintro ⟨h, _⟩; cases h)]
  exact Nat.zero_le _
theorem g_endB_snoc (l : List UInt8) (x : UInt8) : endB (l ++ [x]) = x := by
  unfold endB
  rw [List.length_append, List.length_singleton, Nat.add_sub_cancel, List.getD_eq_getElem?_getD, List.getElem?_append_right (Nat.le_refl _), Nat.sub_self]
  rfl
theorem g_last_chain : ∀ (n : Nat) (past : List UInt8), By.chain ⟨1, 0, []⟩ n past = List.replicate n (endB past)
  | 0, past => rfl
  | n + 1, past => by
    rw [By.chain, g_last_first, g_last_chain n, g_endB_snoc, List.replicate_succ]
theorem g_all_values {p : UInt8 → Prop} (h : ∀ n, n < 256 → p (UInt8.ofNat n)) : ∀ x, p x := fun x => by
  have := h x.toNat x.toNat_lt
  simpa using this
theorem begun19_rank : (By.rank ⟨1, 0, []⟩ []).getD 1 0 = 1 := by
  have h := By.rank_prefix (b := ⟨1, 0, []⟩) (past := []) (p := [0, 1]) (by unfold Srt.Sorted; decide +kernel) (g_all_values (by decide +kernel))
  have h2 : ((By.rank ⟨1, 0, []⟩ []).take 2).getD 1 0 = 1 := by
    rw [show (2 : Nat) = [(0 : UInt8), 1].length from rfl, h]; rfl
  rw [List.getD_eq_getElem?_getD, List.getElem?_take] at h2
  rw [List.getD_eq_getElem?_getD]
  exact h2
theorem begun19_a : aheadOf ⟨1, 0, []⟩ [[5, 6], []] 0 3 = [[5, 0], [6, 0], [6, 0]] := by
  have hf : front [[5, 6], ([] : List UInt8)] = 0 := by decide
  have h0 : gline ⟨1, 0, []⟩ [5, 6] 0 3 = [5, 6, 6] := by rw [gline_zero, g_last_chain]; decide
  have h1 : gline ⟨1, 0, []⟩ [] 0 3 = [0, 0, 0] := by rw [gline_zero, g_last_chain]; decide
  have hr : ∀ p, rankAt [[5, 6], []] 0 p = 0 := fun p => by
    unfold rankAt
    split
    · rfl
    · split <;> rfl
  have hF : fulls ⟨1, 0, []⟩ [[5, 6], []] 0 3 = [[5, 6, 6], [0, 0, 0]] := by
    unfold fulls
    simp only [hr]
    show [gline ⟨1, 0, []⟩ [5, 6] 0 3, gline ⟨1, 0, []⟩ [] 0 3] = _
    rw [h0, h1]
  unfold aheadOf
  rw [if_pos ⟨by decide +kernel, by decide, by decide⟩, hf]
  show [aheadAt _ _ 0 3 0, aheadAt _ _ 0 3 1, aheadAt _ _ 0 3 2] = _
  unfold aheadAt
  rw [hf, hF]
  rfl
theorem begun19_b : aheadOf ⟨1, 0, []⟩ [[5, 6], []] 1 2 = [[5, 1], [6, 1]] := by
  have hf : front [[5, 6], ([] : List UInt8)] = 0 := by decide
  have h0 : gline ⟨1, 0, []⟩ [5, 6] 0 2 = [5, 6] := by rw [gline_zero, g_last_chain]; decide
  have h1 : gline ⟨1, 0, []⟩ [] 1 2 = [1, 1] := by
    rw [gline_odd _ _ _ _ (by decide), show 1 % 256 = 1 from rfl, begun19_rank, g_last_chain]; decide
  have hr0 : rankAt [[5, 6], []] 1 0 = 0 := by decide
  have hr1 : rankAt [[5, 6], []] 1 1 = 1 := by decide
  have hF : fulls ⟨1, 0, []⟩ [[5, 6], []] 1 2 = [[5, 6], [1, 1]] := by
    unfold fulls
    show [gline ⟨1, 0, []⟩ [5, 6] (rankAt _ 1 0) 2, gline ⟨1, 0, []⟩ [] (rankAt _ 1 1) 2] = _
    rw [hr0, hr1, h0, h1]
  unfold aheadOf
  rw [if_pos ⟨by decide +kernel, by decide, by decide⟩, hf]
  show [aheadAt _ _ 1 2 0, aheadAt _ _ 1 2 1] = _
  unfold aheadAt
  rw [hf, hF]
  rfl
set_option maxHeartbeats 1000000 in
theorem guess_Differs (b : By) (A0 : Option Addr) (n0 c0 : Nat) (q : Value) (ri : Int) (w : World) :
    Calls Try.prog 16 #[q, b.val (.slice A0 n0 c0), .int .i64 ri] w fun e w' => e = .returned (.bool (decide (1 ≤ ri ∧ ri ≤ 255))) ∧ Below w.heap.size w w' := by
  obtain ⟨r, hr⟩ : ∃ r, r = decide (1 ≤ ri ∧ ri ≤ 255) := ⟨_, rfl⟩
  rw [← hr]
  have HR := hide hr
  clear hr
  rw [show b.val (.slice A0 n0 c0) = .agg #[.int .i64 b.kind, .int .i64 b.order, .slice A0 n0 c0] from rfl]
  by_cases h1 : ri ≥ 1
  · have d1 : decide (ri ≥ 1) = true := decide_eq_true h1
    by_cases h2 : ri < 256
    · have d2 : decide (ri < 256) = true := decide_eq_true h2
      have e : Hid (r = true) := by show _ = _; rw [HR.out]; exact decide_eq_true ⟨h1, by omega⟩
      clear h1 h2
      go_enter Try.func16, Try.ntmps16
      go_wp2_with fail
      go_ret
      exact ⟨by rw [e.out]; rfl, Below_new _ _⟩
    · have d2 : decide (ri < 256) = false := decide_eq_false h2
      have e : Hid (r = false) := by show _ = _; rw [HR.out]; exact decide_eq_false (by omega)
      clear h1 h2
      go_enter Try.func16, Try.ntmps16
      go_wp2_with fail
      go_ret
      exact ⟨by rw [e.out]; rfl, Below_new _ _⟩
  · have d1 : decide (ri ≥ 1) = false := decide_eq_false h1
    have e : Hid (r = false) := by show _ = _; rw [HR.out]; exact decide_eq_false (by omega)
    clear h1
    go_enter Try.func16, Try.ntmps16
    go_wp2_with fail
    go_ret
    exact ⟨by rw [e.out]; rfl, Below_new _ _⟩
set_option maxHeartbeats 4000000 in
set_option maxRecDepth 10000 in
theorem begun19 (w : World) : Calls Try.prog 8 #[] w fun e w' => e = .returned (.bool true) ∧ Below w.heap.size w w' := by
  go_enter Try.func8, Try.ntmps8
  go_wp2_with fail
  refine Calls.mono (queue_New 2 0 2 0 _ (by decide) (by decide)) ?_
  rintro e w1 ⟨q, A, c, xs, rfl, hx, hq, hb⟩
  have HQ := hide hq
  have HB := hide hb
  have HX := hide hx
  have h0 : Hid (0 < xs.length) := by show 0 < _; omega
  have h2 : Hid (xs.length ≤ 1000) := by show _ ≤ 1000; omega
  obtain ⟨p, hp⟩ : ∃ p, p = (xs[0]'h0.out).1 := ⟨_, rfl⟩
  have HP := hide hp
  clear hq hb hx hp
  go_wp2_with fail
  refine Calls.mono (queue_Line HQ.out 0 h0.out h2.out rfl HP.out) ?_
  rintro e w2 ⟨rfl, rfl⟩
  go_wp2_with fail
  refine Calls.mono (queue_Line HQ.out 0 h0.out h2.out rfl HP.out) ?_
  rintro e w2 ⟨rfl, rfl⟩
  have HL : Hid (LineAt w1 p (xs[0]'h0.out).2 []) := by
    show LineAt w1 p _ _
    rw [HP.out]
    exact HQ.out.line 0 h0.out
  go_wp2_with fail
  refine Calls.mono (line_Put_lit p _ [] 0 2 2 [5, 6] [5, 6] 2 0 w1 _ HL.out rfl rfl (by decide) (by decide) (by decide) (by decide) (by decide) (by decide)) ?_
  rintro e w2 ⟨rfl, g2, k1, k2, k3⟩
  have HQ2 : Hid (QAt w.heap.size w2 q A c (xs.set 0 ((xs[0]'h0.out).1, g2)) [[5, 6], []]) := HQ.out.put HB.out.size 0 h0.out (by rw [← HP.out]; exact k1) (by rw [← HP.out]; exact k2) k3
  have HB2 : Hid (Below w.heap.size w w2) := by
    refine HB.out.trans (k2.below HB.out.size fun k hk hs => ?_)
    have := HQ.out.lbase 0 h0.out
    rcases hs with hs | hs
    · rw [HP.out] at hs; omega
    · have := this.2 k hs.symm; omega
  obtain ⟨ys, hys⟩ : ∃ ys, ys = xs.set 0 ((xs[0]'h0.out).1, g2) := ⟨_, rfl⟩
  rw [← hys] at HQ2
  have HY : Hid (ys.length = 2) := by show ys.length = 2; rw [hys, List.length_set]; exact HX.out
  clear hys k1 k2 k3
  go_upto_region 6 with fail
  generalize hw3 : World.alloc w2 _ = w3
  obtain ⟨g3, hg3⟩ : ∃ g, g = w2.heap.size := ⟨_, rfl⟩
  have T3 : Hid (Arr 39 w3 g3 ((⟨1, 0, []⟩ : By).row (.slice none 0 0)) ∧ QAt w.heap.size w3 q A c ys [[5, 6], []] ∧ Below w.heap.size w w3) := by
    show _ ∧ _
    rw [← hw3, hg3]
    exact ⟨Arr.new 39 w2 _ _ rfl, HQ2.out.below (Below_new _ _), Below_step HB2.out (Below_new _ _)⟩
  rw [← hg3]
  have hsh : ∀ i, ([[5, 6], ([] : List UInt8)].getD i []).length ≤ 1000 := by
    intro i
    rcases i with _ | _ | i <;> simp
  have HSH := hide hsh
  clear hw3 hg3 HQ2 HB2 HQ HB HL hsh
  go_wp2_with (refine wpY_load rfl (.tmp 2) rfl g3 rfl ⟨1, 0, []⟩ (.slice none 0 0) T3.out.1 ?_)
  refine Calls.mono (guess_Ahead T3.out.2.1 T3.out.2.2.size (by rw [HY.out]; decide) (by rw [HY.out]; decide) HSH.out ⟨1, 0, []⟩ none 0 0 (LiesB.nil _ _ _) 0 3 (by decide) (by decide) (by decide) (by decide)) ?_
  rintro e w4 ⟨A4, n4, c4, ss4, rfl, l4, hb4⟩
  rw [begun19_a] at l4
  obtain rfl : n4 = 3 := l4.len.symm
  obtain ⟨g4, rfl⟩ := l4.form (by omega)
  have L4 := hide l4
  have T4 : Hid (Arr 39 w4 g3 ((⟨1, 0, []⟩ : By).row (.slice none 0 0)) ∧ QAt w.heap.size w4 q A c ys [[5, 6], []] ∧ Below w.heap.size w w4) := ⟨T3.out.1.belowN hb4, T3.out.2.1.below hb4, Below_step T3.out.2.2 hb4⟩
  clear l4 hb4 T3
  go_wp2_with (refine wpY_load rfl (.tmp 2) rfl g3 rfl ⟨1, 0, []⟩ (.slice none 0 0) T4.out.1 ?_)
  refine Calls.mono (guess_Ahead T4.out.2.1 T4.out.2.2.size (by rw [HY.out]; decide) (by rw [HY.out]; decide) HSH.out ⟨1, 0, []⟩ none 0 0 (LiesB.nil _ _ _) 1 2 (by decide) (by decide) (by decide) (by decide)) ?_
  rintro e w5 ⟨A5, n5, c5, ss5, rfl, l5, hb5⟩
  rw [begun19_b] at l5
  obtain rfl : n5 = 2 := l5.len.symm
  obtain ⟨g5, rfl⟩ := l5.form (by omega)
  obtain ⟨a0, k0, d0, q0, h40⟩ := (L4.out.below hb5).cellG (i := 0) (by omega) rfl
  obtain ⟨a1, k1, d1, q1, h41⟩ := (L4.out.below hb5).cellG (i := 2) (by omega) rfl
  obtain ⟨a2, k2, d2, q2, h42⟩ := l5.cellG (i := 0) (by omega) rfl
  obtain ⟨a3, k3, d3, q3, h43⟩ := l5.cellG (i := 1) (by omega) rfl
  have H40 := hide h40
  have H41 := hide h41
  have H42 := hide h42
  have H43 := hide h43
  have HA5 := hide (T4.out.1.belowN hb5)
  have HB5 := hide (Below_step T4.out.2.2 hb5)
  clear h40 h41 h42 h43 l5 hb5 T4 L4
  go_wp2_with fail
  rw [run_stringB H40.out]
  go_wp2_with fail
  rw [run_stringB H41.out]
  go_wp2_with fail
  rw [run_stringB H42.out]
  go_wp2_with fail
  rw [run_stringB H43.out]
  go_wp2_with (refine wpYG_load rfl (.tmp 2) rfl g3 rfl ⟨1, 0, []⟩ (.slice none 0 0) HA5.out ?_)
  refine Calls.mono (guess_Differs ⟨1, 0, []⟩ none 0 0 _ 0 w5) ?_
  rintro e w6 ⟨rfl, hb6⟩
  rw [show decide ((1 : Int) ≤ 0 ∧ (0 : Int) ≤ 255) = false by decide]
  have HA6 := hide (HA5.out.belowN hb6)
  have HB6 := hide (Below_step HB5.out hb6)
  clear hb6 HA5 HB5
  go_wp2_with (refine wpYG_load rfl (.tmp 2) rfl g3 rfl ⟨1, 0, []⟩ (.slice none 0 0) HA6.out ?_)
  refine Calls.mono (guess_Differs ⟨1, 0, []⟩ none 0 0 _ 1 w6) ?_
  rintro e w7 ⟨rfl, hb7⟩
  rw [show decide ((1 : Int) ≤ 1 ∧ (1 : Int) ≤ 255) = true by decide]
  have HB7 := hide (Below_step HB6.out hb7)
  clear hb7
  go_wp2_with fail
  go_ret
  exact ⟨rfl, HB7.out⟩
end Go.Proofs.Ytciogjnchpeaaaa
