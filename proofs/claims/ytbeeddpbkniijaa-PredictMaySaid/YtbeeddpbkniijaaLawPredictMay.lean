/-
  PredictMay: the walk.
-/
import Derived.Test.YtbeeddpbkniijaaLaw18
namespace Go.Proofs.Ytbeeddpbkniijaa
open Go.RowKit
set_option linter.unusedVariables false
open Prd
theorem wpZG_load {ops : Array Oper} {rest : List Oper} {o : Oper} {a : Act} {w : World} {Q : Exit → Act → World → Prop} (hgd : Region.wanted o (yielded ops a.tmps) = true) (x : Operand) (ho : o.op = .load 24 x)
    (g : Nat) (hx : a.eval x = .pointer (some ⟨g, 0, none⟩)) (b : By) (v : Value) (hg : Arr 24 w g (b.row v)) (h : wpList Try.prog ops Q rest (a.put o.dst (b.val v)) w) : wpList Try.prog ops Q (o :: rest) a w :=
  wpList_step fun K hK => by
    rw [if_pos hgd]
    exact wp_load_row 24 x ho g hx 24 (b.row v).toArray (0, 0) _ hg Try.underlying24 rfl info_rby (hK _ _ h)
set_option maxHeartbeats 4000000 in
set_option maxRecDepth 10000 in
theorem law_PredictMay (ki oi ni : Int) (w : World) (klo : -9223372036854775808 ≤ ki) (khi : ki ≤ 9223372036854775807) (olo : -9223372036854775808 ≤ oi) (ohi : oi ≤ 9223372036854775807) (lo : -9223372036854775808 ≤ ni) (hi : ni ≤ 9223372036854775807) :
    Calls Try.prog 10 #[.int .i64 ki, .int .i64 oi, .int .i64 ni] w fun e w' => e = .returned (.bool true) ∧ Below w.heap.size w w' := by
  go_enter Try.func10, Try.ntmps10
  go_wp2_with fail
  refine Calls.mono (begun18 w) ?_
  rintro e w1 ⟨rfl, hb1⟩
  have HB1 := hide hb1
  have hs1 := hb1.size
  clear hb1
  by_cases h0 : ni < 0
  · have d0 : decide (ni < 0) = true := decide_eq_true h0
    go_wp2_with fail
    go_ret
    exact ⟨rfl, HB1.out⟩
  have d0 : decide (ni < 0) = false := decide_eq_false h0
  by_cases h1 : ni > 1010
  · have d1 : decide (ni > 1010) = true := decide_eq_true h1
    go_wp2_with fail
    go_ret
    exact ⟨rfl, HB1.out⟩
  have d1 : decide (ni > 1010) = false := decide_eq_false h1
  obtain ⟨k, rfl⟩ : ∃ k : Nat, ni = (k : Int) := ⟨ni.toNat, by omega⟩
  have hk : k ≤ 1010 := by omega
  clear lo hi h0 h1
  obtain ⟨b, hb⟩ : ∃ b : By, b = ⟨ki, oi, List.replicate k 0⟩ := ⟨_, rfl⟩
  have HBB := hide hb
  have hki : ki = b.kind := by rw [hb]
  have hoi : oi = b.order := by rw [hb]
  subst hki hoi
  clear hb
  go_upto_region 7 with (at_make; refine wpB_make rfl _ _ rfl w1.heap.size _ _ k rfl rfl rfl rfl (by omega) (Nat.le_refl _) ?_; intro g w2 own2 hb2 hg2)
  generalize hw3 : World.alloc w2 _ = w3
  obtain ⟨g8, hg8⟩ : ∃ g, g = w2.heap.size := ⟨_, rfl⟩
  have T3 : Hid (Arr 24 w3 g8 (b.row (.slice (some ⟨g, 0, none⟩) k k)) ∧ LiesB w3 w2.heap.size (some ⟨g, 0, none⟩) k b.table ∧ Below w.heap.size w w3) := by
    show _ ∧ _
    rw [← hw3, hg8]
    refine ⟨Arr.new 24 w2 #[.int .i64 b.kind, .int .i64 b.order, .slice (some ⟨g, 0, none⟩) k k] _ rfl, ?_, Below_step (HB1.out.trans (hb2.mono hs1)) (Below_new _ _)⟩
    have e : b.table = List.replicate k 0 := by rw [HBB.out]
    rw [e]
    exact own2.lies.below (Below_new _ _)
  rw [← hg8]
  have hg83 : g8 < w3.heap.size := T3.out.1.lt
  have hs2 : w2.heap.size ≤ w3.heap.size := by omega
  have hs2w : w.heap.size ≤ w2.heap.size := Nat.le_trans hs1 hb2.size
  clear hw3 hg8 own2 hb2 hg2
  go_wp2_with (refine wpZ_load rfl (.tmp 8) rfl g8 rfl b (.slice (some ⟨g, 0, none⟩) k k) T3.out.1 ?_)
  refine Calls.mono (ref_MayBy b _ k k w3 T3.out.2.1.len) ?_
  rintro e w4 ⟨rfl, hb4⟩
  obtain ⟨r, hr⟩ : ∃ r, r = b.may := ⟨_, rfl⟩
  rw [← hr]
  have HR := hide hr
  have B4 := hide hb4
  have A4 := hide (T3.out.1.belowN hb4)
  clear hr hb4
  go_wp2_with (refine wpZ_load rfl (.tmp 8) rfl g8 rfl b (.slice (some ⟨g, 0, none⟩) k k) A4.out ?_)
  refine Calls.mono (law_Of b _ k k w4) ?_
  rintro e w5 ⟨rfl, hb5⟩
  have B5 := hide (Below_step B4.out hb5)
  have A5 := hide (A4.out.belowN hb5)
  clear hb5 A4 B4
  go_wp2_with fail
  refine Calls.mono (pred_May b _ k k w5 T3.out.2.1.len) ?_
  rintro e w6 ⟨rfl, hb6⟩
  rw [← HR.out]
  have B6 := hide (Below_step B5.out hb6)
  have A6 := hide (A5.out.belowN hb6)
  have drr : (r == r) = true := by simp
  clear hb6 A5 B5
  go_wp2_with (refine wpZG_load rfl (.tmp 8) rfl g8 rfl b (.slice (some ⟨g, 0, none⟩) k k) A6.out ?_)
  refine Calls.mono (law_Of b _ k k w6) ?_
  rintro e w7 ⟨rfl, hb7⟩
  have B7 := hide (Below_step B6.out hb7)
  have A7 := hide (A6.out.belowN hb7)
  clear hb7 A6 B6
  go_wp2_with fail
  refine Calls.mono (pred_Rank b _ k k none 0 0 w2.heap.size [] 1 w7 (LiesB.nil _ _ _) (T3.out.2.1.below (B7.out.mono hs2)) (Nat.le_trans hs2 B7.out.size) (Nat.le_refl _) (by omega)) ?_
  rintro e w8 ⟨A', n', c', rfl, l8, k8, hb8⟩
  have hn8 : n' = if r = true then 1 else 0 := by
    have := l8.len
    rw [← HR.out] at this
    rw [← this]
    cases r
    · rfl
    · rw [if_pos rfl, if_pos rfl, List.length_take, By.rank_len]; rfl
  have B8 := hide (Below_step B7.out hb8)
  have A8 := hide (A7.out.belowN hb8)
  have HN8 := hide hn8
  clear l8 hb8 A7 B7 hn8
  have d8 : (((n' : Int) == 1) == r) = true := by
    rw [HN8.out]; cases r <;> rfl
  go_wp2_with (refine wpZG_load rfl (.tmp 8) rfl g8 rfl b (.slice (some ⟨g, 0, none⟩) k k) A8.out ?_)
  refine Calls.mono (law_Of b _ k k w8) ?_
  rintro e w9 ⟨rfl, hb9⟩
  have B9 := hide (Below_step B8.out hb9)
  clear hb9 A8 B8
  go_wp2_with fail
  refine Calls.mono (pred_Chain b _ k k none 0 0 w2.heap.size [] 1 w9 (LiesB.nil _ _ _) (T3.out.2.1.below (B9.out.mono hs2)) (Nat.le_trans hs2 B9.out.size) (Nat.le_refl _) (by omega)) ?_
  rintro e w10 ⟨A2', n2', c2', rfl, l10, k10, hb10⟩
  have hn10 : n2' = if r = true then 1 else 0 := by
    have := l10.len
    rw [← HR.out] at this
    rw [← this]
    cases r
    · rfl
    · rw [if_pos rfl, if_pos rfl, By.chain_len]; rfl
  have d10 : (((n2' : Int) == 1) == r) = true := by
    rw [hn10]; cases r <;> rfl
  have BF := hide (T3.out.2.2.trans ((Below_step B9.out hb10).mono (by omega)))
  clear l10 hb10 hn10
  go_wp2_with fail
  go_ret
  exact ⟨rfl, BF.out⟩
end Go.Proofs.Ytbeeddpbkniijaa
