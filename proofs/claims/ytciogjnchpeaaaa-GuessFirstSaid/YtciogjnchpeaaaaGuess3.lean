/-
  The document's Ahead.
-/
import Derived.Test.YtciogjnchpeaaaaGuess2
namespace Go.Proofs.Ytciogjnchpeaaaa
open Go.RowKit
set_option maxRecDepth 10000
set_option linter.unusedVariables false
open Prd
theorem gline_zero (b : By) (past : List UInt8) (tt : Nat) : gline b past 0 tt = past ++ b.chain (tt - past.length) past := by
  unfold gline
  split
  · rename_i h
    rw [Nat.sub_eq_zero_of_le h, By.chain, List.append_nil]
  · rfl
theorem gline_odd (b : By) (past : List UInt8) (r tt : Nat) (h : past.length < tt) : gline b past r tt = (past ++ [(b.rank past).getD (r % 256) 0]) ++ b.chain (tt - (past ++ [(b.rank past).getD (r % 256) 0]).length) (past ++ [(b.rank past).getD (r % 256) 0]) := by
  unfold gline
  rw [if_neg (by omega)]
  split
  · rename_i h0
    rw [h0, show (b.rank past).getD 0 0 = b.first past from rfl, show tt - past.length = (tt - past.length - 1) + 1 by omega, By.chain, List.length_append, List.length_singleton, List.append_assoc]
    rw [show tt - past.length - 1 = tt - (past.length + 1) by omega]; rfl
  · rw [List.length_append, List.length_singleton]
set_option maxHeartbeats 4000000 in
set_option maxRecDepth 10000 in
theorem ref_Ahead {B : Nat} {w : World} {g n cg : Nat} {ss : List Sl} {ls : List (List UInt8)} (h : RL B w g n cg ss ls) (hB : B ≤ w.heap.size) (hn : 0 < n) (hn8 : n ≤ 1000)
    (b : By) (A0 : Option Addr) (n0 c0 : Nat) (hT : LiesB w w.heap.size A0 n0 b.table) (ri ti : Int) (rl : -9223372036854775808 ≤ ri) (rh : ri ≤ 9223372036854775807) (tl : -9223372036854775808 ≤ ti) (th : ti ≤ 9223372036854775807) :
    Calls Try.prog 15 #[.slice (some ⟨g, 0, none⟩) n cg, b.val (.slice A0 n0 c0), .int .i64 ri, .int .i64 ti] w fun e w' => ∃ A' n' c' ss', e = .returned (.slice A' n' c') ∧ LL w.heap.size w' A' n' c' ss' (aheadOf b ls ri ti) ∧ Below w.heap.size w w' := by
  have HRL := hide h
  have HTB := hide hT
  obtain ⟨R, hR⟩ : ∃ R, R = aheadOf b ls ri ti := ⟨_, rfl⟩
  rw [← hR]
  have HR := hide hR
  obtain ⟨F, hF⟩ : ∃ F, F = front ls := ⟨_, rfl⟩
  have HF := hide hF
  have HLL : Hid (ls.length = n) := h.len
  have HSH : Hid (∀ i, (ls.getD i []).length ≤ 1000) := h.short
  have hF1 : F ≤ 1000 := by
    obtain ⟨i, -, e⟩ := frontK_mem ls ls.length (Nat.le_refl _) (by rw [HLL.out]; omega)
    have := h.short i
    rw [hF, front, e]; exact this
  clear h hT hR hF
  have hFI : Hid ((F : Int) = (front ls : Int)) := by show _ = _; rw [HF.out]
  rw [show b.val (.slice A0 n0 c0) = .agg #[.int .i64 b.kind, .int .i64 b.order, .slice A0 n0 c0] from rfl]
  go_enter Try.func15, Try.ntmps15
  go_upto_region 1 with fail
  generalize hw0 : World.alloc w _ = w0
  have hA0 : Arr 25 w0 w.heap.size (b.row (.slice A0 n0 c0)) := by rw [← hw0]; exact Arr.new 25 w _ _ rfl
  have HB0 : Hid (Below w.heap.size w w0) := by show Below _ _ _; rw [← hw0]; exact Below_new w _
  have HA0 := hide hA0
  have hsz0 : w.heap.size < w0.heap.size := hA0.lt
  have HRL0 := hide (HRL.out.below HB0.out)
  clear hw0 hA0
  go_wp2_with fail
  refine Calls.mono (ref_Front HRL0.out hn hn8 hFI.out) ?_
  rintro e w1 ⟨rfl, rfl⟩
  go_wp2_with (refine wpZ_load rfl (.tmp 5) rfl w.heap.size rfl b (.slice A0 n0 c0) HA0.out ?_)
  refine Calls.mono (ref_MayBy b A0 n0 c0 w0 (HTB.out.len)) ?_
  rintro e w1 ⟨rfl, hb1⟩
  have HB1 := hide (Below_step HB0.out hb1)
  have HA1 := hide (HA0.out.belowN hb1)
  have HRL1 := hide (HRL0.out.below hb1)
  have HT1 := hide (HTB.out.below HB1.out)
  have hs1 := HB1.out.size
  clear hb1 HA0 HB0 HRL HRL0 HTB hsz0
  cases hm : b.may
  · have HRn : Hid (R = []) := by show _ = _; rw [HR.out, aheadOf, if_neg (by rw [hm]; rintro ⟨h, _⟩; cases h)]
    go_wp2_with fail
    go_ret
    exact ⟨none, 0, 0, [], rfl, by rw [HRn.out]; exact LL.nil _ _, HB1.out⟩
  have HM := hide hm
  clear hm
  by_cases h0 : ri < 0
  · have d0 : decide (ri < 0) = true := decide_eq_true h0
    have HRn : Hid (R = []) := by show _ = _; rw [HR.out, aheadOf, if_neg (by rintro ⟨_, h, _⟩; omega)]
    clear h0
    go_wp2_with fail
    go_ret
    exact ⟨none, 0, 0, [], rfl, by rw [HRn.out]; exact LL.nil _ _, HB1.out⟩
  have d0 : decide (ri < 0) = false := decide_eq_false h0
  by_cases h1 : ti > 1000
  · have d1 : decide (ti > 1000) = true := decide_eq_true h1
    have HRn : Hid (R = []) := by show _ = _; rw [HR.out, aheadOf, if_neg (by rintro ⟨_, _, h⟩; omega)]
    clear h0 h1
    go_wp2_with fail
    go_ret
    exact ⟨none, 0, 0, [], rfl, by rw [HRn.out]; exact LL.nil _ _, HB1.out⟩
  have d1 : decide (ti > 1000) = false := decide_eq_false h1
  obtain ⟨r, rfl⟩ : ∃ r : Nat, ri = (r : Int) := ⟨ri.toNat, by omega⟩
  have HR2 : Hid (R = (List.range (ti.toNat - F)).map (aheadAt b ls r ti.toNat)) := by
    show _ = _
    rw [HR.out, aheadOf, if_pos ⟨HM.out, by omega, by omega⟩, ← HF.out, Int.toNat_natCast]
  by_cases h2 : ti ≤ (F : Int)
  · have d2 : decide (ti ≤ (F : Int)) = true := decide_eq_true h2
    have HRn : Hid (R = []) := by show _ = _; rw [HR2.out, show ti.toNat - F = 0 by omega]; rfl
    clear h0 h1 h2
    go_wp2_with fail
    go_ret
    exact ⟨none, 0, 0, [], rfl, by rw [HRn.out]; exact LL.nil _ _, HB1.out⟩
  have d2 : decide (ti ≤ (F : Int)) = false := decide_eq_false h2
  obtain ⟨tt, rfl⟩ : ∃ tt : Nat, ti = (tt : Int) := ⟨ti.toNat, by omega⟩
  rw [Int.toNat_natCast] at HR2
  have d2' : decide (tt ≤ F) = false := decide_eq_false (by omega)
  have htt1 : tt ≤ 1000 := by omega
  have hFt : F < tt := by omega
  have hr3 : r ≤ 9223372036854775807 := by omega
  obtain ⟨r2, hr2⟩ : ∃ r2, r2 = r % 256 := ⟨_, rfl⟩
  have hr256 : r2 < 256 := by rw [hr2]; exact Nat.mod_lt _ (by omega)
  have hmod : Int.tmod (r : Int) 256 = (r2 : Int) := by rw [hr2, Int.tmod_eq_emod_of_nonneg (by omega)]; omega
  have HR256 := hide hr2
  clear h0 h1 h2 rl rh tl th HR hr2
  go_wp2_with fail
  obtain ⟨FL, hFL⟩ : ∃ FL, FL = fulls b ls r tt := ⟨_, rfl⟩
  have HFL := hide hFL
  have HFLL : Hid (FL.length = n) := by show _ = _; rw [hFL, fulls_len, HLL.out]
  clear hFL
  go_loopg [10, 11, 12, 13] n (fun gg s10 s11 s12 s13 wr => ∃ (p : Nat) (od : Bool) (A' : Option Addr) (c' : Nat) (ss' : List Sl), p ≤ n ∧ gg = n - p ∧ s12 = .int .i64 (p : Int) ∧ s11 = .bool od ∧ s10 = .slice A' p c' ∧ Hid (od = (decide (0 < r) && hitB ls p)) ∧ Hid (LL w1.heap.size wr A' p c' ss' (FL.take p)) ∧ Hid (Below w1.heap.size w1 wr))
  case atStart => exact ⟨0, false, none, 0, [], by omega, rfl, rfl, rfl, rfl, by show _ = _; simp [hitB], LL.nil _ _, Below.refl _ _⟩
  case round =>
    obtain ⟨W1, hW1⟩ : ∃ W1, W1 = wr := ⟨_, rfl⟩
    subst hW1
    obtain ⟨p, od, A', c', ss', hpn, rfl, rfl, rfl, rfl, HOD, HL, HB⟩ := hrel
    have hsW := HB.out.size
    by_cases hlt : p < n
    · obtain ⟨past, hpast⟩ : ∃ past, past = ls.getD p [] := ⟨_, rfl⟩
      have HPA := hide hpast
      have HRW := hide (HRL1.out.below HB.out)
      obtain ⟨hss, hcl, -, hll⟩ := HRW.out.cell p hlt
      obtain ⟨⟨A5, n5, c5⟩, hx5⟩ : ∃ x, x = ss[p] := ⟨_, rfl⟩
      rw [← hx5] at hcl hll
      have HO5 : Hid (OwnB W1 B A5 n5 c5 past) := by
        have := HRW.out.line p hss
        rw [← hx5, ← hpast] at this
        exact this
      have hn51 : n5 ≤ 1000 := by have := HSH.out p; simp only at hll; rw [← hll]; exact this
      have HN5 : Hid (past.length = n5) := HO5.out.len
      have HAW := hide (HA1.out.belowN HB.out)
      have HTW := hide (HT1.out.below (HB.out.mono hs1))
      have hgn := HRW.out.gblk hn
      simp only at hcl
      clear hpast hll hx5
      go_upto_region 10 with (at_builtin; refine wpB_append3 rfl (.const (.slice none 0 0)) (.tmp 46) rfl W1.heap.size none 0 0 [] rfl (OwnB.nil _ _) _ A5 n5 c5 past rfl HO5.out.lies n5 past (by omega) (by simp) (by omega) (Nat.le_refl _) ?_; intro A6 c6 w6 own6 k6 hk6)
      obtain ⟨hit, hhit⟩ : ∃ hit, hit = (decide (0 < r) && !od && decide (n5 = F)) := ⟨_, rfl⟩
      obtain ⟨od', hod'⟩ : ∃ od', od' = (od || hit) := ⟨_, rfl⟩
      obtain ⟨pst, hpst⟩ : ∃ pst : List UInt8, pst = if hit = true then past ++ [(b.rank past).getD r2 0] else past := ⟨_, rfl⟩
      obtain ⟨N, hN⟩ : ∃ N, N = pst.length := ⟨_, rfl⟩
      obtain ⟨G, hG⟩ : ∃ G, G = gline b past (rankAt ls r p) tt := ⟨_, rfl⟩
      have HFIN : Hid (G = pst ++ b.chain (tt - N) pst) := by
        show _ = _
        rw [hG, hN, hpst]
        have e0 : (ls.getD p []).length = n5 := by rw [← HPA.out]; exact HN5.out
        cases hit
        · rw [if_neg (by decide)]
          have : rankAt ls r p = 0 := by
            unfold rankAt
            by_cases q1 : hitB ls p = true
            · rw [if_pos q1]
            · rw [if_neg q1, e0, ← HF.out]
              by_cases q2 : n5 = F
              · rw [if_pos q2]
                have q3 : hitB ls p = false := by simpa using q1
                rw [HOD.out, q3, decide_eq_true q2] at hhit
                simp at hhit
                exact hhit
              · rw [if_neg q2]
          rw [this]
          exact gline_zero b past tt
        · rw [if_pos rfl]
          have q := hhit.symm
          simp only [Bool.and_eq_true, decide_eq_true_eq, Bool.not_eq_true'] at q
          obtain ⟨⟨q1, q2⟩, q3⟩ := q
          have q4 : hitB ls p = false := by
            have := HOD.out
            rw [q2, decide_eq_true q1, Bool.true_and] at this
            exact this.symm
          have : rankAt ls r p = r := by
            unfold rankAt
            rw [if_neg (by rw [q4]; decide), if_pos (by rw [e0, q3, HF.out])]
          rw [this, gline_odd b past r tt (by rw [HN5.out, q3]; exact hFt), ← HR256.out]
      have HODN : Hid (od' = (decide (0 < r) && hitB ls (p + 1))) := by
        show _ = _
        have e0 : ((ls.getD p []).length == front ls) = decide (n5 = F) := by
          rw [← HPA.out, HN5.out, ← HF.out]; rw [Bool.eq_iff_iff]; simp
        rw [hod', hhit, hitB_succ, e0, HOD.out]
        cases decide (0 < r) <;> cases hitB ls p <;> cases decide (n5 = F) <;> rfl
      have hNle : N ≤ 1001 := by
        rw [hN, hpst]; split
        · rw [List.length_append, List.length_singleton, HN5.out]; omega
        · rw [HN5.out]; omega
      have HPST := hide hpst
      have HN := hide hN
      have HHIT := hide hhit
      have HOD' := hide hod'
      have HG := hide hG
      have HO6 := hide own6
      have HB6 : Hid (Below W1.heap.size W1 w6) := k6.belowOwn (OwnB.nil W1 W1.heap.size) (Nat.le_refl _)
      have hc6 := own6.cap
      clear hpst hN hhit hod' hG own6 k6 hk6 hcl
      go_cut [59] from 36 to 89 (fun s wx => s = .bool hit ∧ w6 = wx)
      case first =>
        by_cases q1 : 0 < r
        · have d1' : decide ((r : Int) > 0) = true := decide_eq_true (by omega)
          have d1'' : decide (0 < r) = true := decide_eq_true q1
          cases od
          · by_cases q3 : n5 = F
            · have d3' : ((n5 : Int) == (F : Int)) = true := by rw [beq_iff_eq]; omega
              have e : Hid (hit = true) := by show _ = _; rw [HHIT.out, d1'', decide_eq_true q3]; rfl
              clear q1 q3
              go_wp2
              go_meet
              rw [e.out]
              exact ⟨rfl, rfl⟩
            · have d3' : ((n5 : Int) == (F : Int)) = false := by rw [beq_eq_false_iff_ne]; omega
              have e : Hid (hit = false) := by show _ = _; rw [HHIT.out, d1'', decide_eq_false q3]; rfl
              clear q1 q3
              go_wp2
              go_meet
              rw [e.out]
              exact ⟨rfl, rfl⟩
          · have e : Hid (hit = false) := by show _ = _; rw [HHIT.out, d1'']; rfl
            clear q1
            go_wp2
            go_meet
            rw [e.out]
            exact ⟨rfl, rfl⟩
        · have d1' : decide ((r : Int) > 0) = false := decide_eq_false (by omega)
          have d1'' : decide (0 < r) = false := decide_eq_false q1
          have e : Hid (hit = false) := by show _ = _; rw [HHIT.out, decide_eq_false q1]; rfl
          clear q1
          go_wp2
          go_meet
          rw [e.out]
          exact ⟨rfl, rfl⟩
      case rest =>
      obtain ⟨rfl, rfl⟩ := hcut
      go_upto_if 59 with fail
      go_cut [11, 13] from 36 to 89 (fun s11 s13 wx => ∃ A7 c7, s11 = .bool od' ∧ s13 = .slice A7 N c7 ∧ N ≤ c7 ∧ Hid (OwnB wx W1.heap.size A7 N c7 pst) ∧ Hid (Below W1.heap.size W1 wx))
      case first =>
        cases hit with
        | false =>
          have e1 : Hid (pst = past) := by show _ = _; rw [HPST.out]; rfl
          have e2 : Hid (n5 = N) := by show _ = _; rw [HN.out, e1.out, HN5.out]
          have e3 : Hid (od = od') := by show _ = _; rw [HOD'.out, Bool.or_false]
          go_wp2_with fail
          go_meet
          exact ⟨A6, c6, by rw [e3.out], by rw [e2.out], by rw [← e2.out]; exact hc6, by rw [e1.out, ← e2.out]; exact HO6, HB6⟩
        | true =>
          have e1 : Hid (pst = past ++ [(b.rank past).getD r2 0]) := by show _ = _; rw [HPST.out]; rfl
          have e2 : Hid (N = n5 + 1) := by show _ = _; rw [HN.out, e1.out, List.length_append, HN5.out]; rfl
          have e3 : Hid (od' = true) := by show _ = _; rw [HOD'.out, Bool.or_true]
          obtain ⟨x, hx⟩ : ∃ x, x = (b.rank past).getD r2 0 := ⟨_, rfl⟩
          have HX := hide hx
          have hxc : x.toNat < 256 := x.toNat_lt
          have hrI : (r2 : Int) < (r2 : Int) + 1 := by omega
          have hB6 := HB6.out.size
          clear hx
          go_wp2_with (refine wpZ_load rfl (.tmp 5) rfl w.heap.size rfl b (.slice A0 n0 c0) ((HAW.out.belowN HB6.out)) ?_)
          refine Calls.mono (ref_Rank b A0 n0 c0 A6 n5 c6 w6.heap.size past _ _ HO6.out.lies ((HTW.out.below (HB6.out.mono (Nat.le_trans hs1 hsW))).more (Nat.le_trans hs1 (Nat.le_trans hsW hB6))) (Nat.le_refl _) hc6 (by omega)) ?_
          rintro e w8 ⟨A8, n8, c8, rfl, own8, hb8⟩
          rw [if_pos HM.out, show (min (max ((r2 : Int) + 1) 0) 256).toNat = r2 + 1 by omega] at own8
          obtain rfl : n8 = r2 + 1 := by have := own8.len; rw [List.length_take, By.rank_len] at this; omega
          obtain ⟨b8, o8, hl8, rfl, -, hc8⟩ := own8.lies.at_ (show r2 < r2 + 1 by omega)
          have hxe : ((b.rank past).take (r2 + 1))[r2] = x := by rw [List.getElem_take, HX.out]; exact getE _ _ _
          rw [hxe] at hc8
          have HO8 := hide (HO6.out.below hb8)
          have HB8 := hide (Below_step HB6.out hb8)
          have hs8 := HB8.out.size
          clear own8 hxe hl8 hb8
          go_wp2_with (at_builtin; refine wpB_append3 rfl (.tmp 60) (.tmp 71) rfl W1.heap.size A6 n5 c6 past rfl (HO8.out.below (Below_new _ _)) _ _ 1 1 [x] rfl (LiesB.new _ _ _ _ _ _ rfl rfl) N pst e2.out.symm (by rw [e1.out, ← HX.out]) (by omega) (by simp; omega) ?_; intro A9 c9 w9 own9 k9 hk9)
          go_meet
          exact ⟨A9, c9, by rw [e3.out], rfl, own9.cap, own9, HB8.out.trans (((Below_new _ _).mono hs8).trans (k9.belowOwn HO8.out (by simp; omega)))⟩
      case rest =>
      obtain ⟨A7, c7, rfl, rfl, hc7, HO7, HB7⟩ := hcut
      obtain ⟨w7, hw7⟩ : ∃ w7, w7 = wc := ⟨_, rfl⟩
      subst hw7
      have hs7 := HB7.out.size
      clear HO6 HB6 hc6 HO5
      go_upto_if 76 with fail
      go_cut [13] from 36 to 89 (fun s wx => ∃ A9 n9 c9, s = .slice A9 n9 c9 ∧ Hid (OwnB wx W1.heap.size A9 n9 c9 G) ∧ Hid (Below W1.heap.size W1 wx))
      case first =>
        by_cases hNt : N < tt
        · have dN : decide ((N : Int) < (tt : Int)) = true := decide_eq_true (by omega)
          have dN2 : decide (N < tt) = true := decide_eq_true hNt
          obtain ⟨e, he⟩ : ∃ e, e = tt - N := ⟨_, rfl⟩
          have hte : (tt : Int) - (N : Int) = (e : Int) := by omega
          have he1 : e ≤ 1000 := by omega
          have hNe : Hid (N + e = tt) := by show _ = _; omega
          have HE := hide he
          clear he
          go_wp2_with (refine wpZ_load rfl (.tmp 5) rfl w.heap.size rfl b (.slice A0 n0 c0) ((HAW.out.belowN HB7.out)) ?_)
          refine Calls.mono (ref_Chain b A0 n0 c0 A7 N c7 w7.heap.size pst e w7 HO7.out.lies ((HTW.out.below (HB7.out.mono (Nat.le_trans hs1 hsW))).more (Nat.le_trans hs1 (Nat.le_trans hsW hs7))) (Nat.le_refl _) hc7 (by omega)) ?_
          rintro e' w8 ⟨A8, n8, c8, rfl, own8, hb8⟩
          rw [if_pos HM.out, show (min (max (e : Int) 0) 1000).toNat = e by omega] at own8
          obtain rfl : n8 = e := by have := own8.len; rw [By.chain_len] at this; exact this.symm
          have HO8 := hide (HO7.out.below hb8)
          have HB8 := hide (Below_step HB7.out hb8)
          have hs8 := HB8.out.size
          have HL8 := hide own8.lies
          clear own8 hb8
          go_wp2_with (at_builtin; refine wpB_append3 rfl (.tmp 77) (.tmp 84) rfl W1.heap.size A7 N c7 pst rfl HO8.out _ A8 n8 c8 _ rfl HL8.out tt G hNe.out (by rw [HFIN.out, ← HE.out]) (by omega) hs8 ?_; intro A9 c9 w9 own9 k9 hk9)
          go_meet
          exact ⟨A9, tt, c9, rfl, own9, HB8.out.trans (k9.belowOwn HO8.out hs8)⟩
        · have dN : decide ((N : Int) < (tt : Int)) = false := decide_eq_false (by omega)
          have dN2 : decide (N < tt) = false := decide_eq_false hNt
          have e1 : Hid (G = pst) := by show _ = _; rw [HFIN.out, Nat.sub_eq_zero_of_le (by omega), By.chain, List.append_nil]
          go_wp2_with fail
          go_meet
          exact ⟨A7, N, c7, rfl, by rw [e1.out]; exact HO7, HB7⟩
      case rest =>
      obtain ⟨A9, n9, c9, rfl, HO9, HB9⟩ := hcut
      obtain ⟨w9, hw9⟩ : ∃ w9, w9 = wc := ⟨_, rfl⟩
      subst hw9
      have hs9 := HB9.out.size
      have HL9 := hide (HL.out.below HB9.out)
      have HB10 := hide (HB.out.trans (HB9.out.mono hsW))
      have hs10 := HB10.out.size
      have HNX : Hid (FL.take (p + 1) = FL.take p ++ [G]) := by
        show _ = _
        rw [HFL.out, fulls, range_map_take _ _ _ (by rw [HLL.out]; exact hlt), HG.out, HPA.out]
      clear HO7 HB7 HL
      go_wp2_with (at_builtin; refine wpV_append elem_rows rfl (.tmp 86) (.tmp 88) rfl w1.heap.size A' p c' _ rfl (HL9.out.row.below (Below_new _ _)) _ _ 1 1 [sv (A9, n9, c9)] rfl rfl (Lies.new _ _ _ _) (by simp [Value.oneCell']) (by omega) (p + 1) _ rfl rfl (by omega) (by omega) (by simp; omega) ?_; intro A10 c10 w10 own10 k10 hk10)
      go_roundg (n - (p + 1))
      case measure => omega
      case rel =>
        refine ⟨p + 1, od', A10, c10, ss' ++ [(A9, n9, c9)], by omega, rfl, by go_num, rfl, rfl, HODN, ?_, ?_⟩
        · show LL _ _ _ _ _ _ _
          rw [HNX.out]
          exact HL9.out.add (x := (A9, n9, c9)) (HO9.out.base_le hsW) (Below_new _ _) own10 k10
        · exact HB10.out.trans (((Below_new _ _).mono hs10).trans (k10.belowV HL9.out.row (by simp; omega)))
    · obtain rfl : p = n := by omega
      have HLM : Hid (LL w1.heap.size W1 A' p c' ss' FL) := by
        show LL _ _ _ _ _ _ _
        have := HL.out
        rwa [List.take_of_length_le (Nat.le_of_eq HFLL.out)] at this
      obtain ⟨M, hM⟩ : ∃ M, M = tt - F := ⟨_, rfl⟩
      rw [← hM] at HR2
      have hMt : M ≤ tt := by omega
      have HMM := hide hM
      clear hM HL HOD
      go_wp2_with fail
      go_loopg [14, 15, 16, 17] M (fun gg s14 s15 s16 s17 wr => ∃ (i f : Nat) (A2 : Option Addr) (c2 : Nat) (ss2 : List Sl), i ≤ M ∧ gg = M - i ∧ f ≤ F + M ∧ s15 = .int .i64 (f : Int) ∧ s14 = .slice A2 i c2 ∧ Hid (f = F + i) ∧ Hid (LL W1.heap.size wr A2 i c2 ss2 (R.take i)) ∧ Hid (Below W1.heap.size W1 wr))
      case atStart => exact ⟨0, F, none, 0, [], by omega, rfl, by omega, rfl, rfl, rfl, LL.nil _ _, Below.refl _ _⟩
      case round =>
        obtain ⟨W2, hW2⟩ : ∃ W2, W2 = wr := ⟨_, rfl⟩
        subst hW2
        obtain ⟨i, f, A2, c2, ss2, hiM, rfl, hfM, rfl, rfl, HFI, HL2, HB2⟩ := hrel
        have hs2 := HB2.out.size
        by_cases hlt2 : i < M
        · have hft : f < tt := by have := HFI.out; have := HMM.out; omega
          have hfti : (f : Int) < (tt : Int) := by omega
          obtain ⟨J, hJ⟩ : ∃ J, J = FL.map (fun x => x.getD f 0) := ⟨_, rfl⟩
          have HJ := hide hJ
          have HRN : Hid (R.take (i + 1) = R.take i ++ [J]) := by
            show _ = _
            rw [HR2.out, range_map_take _ _ _ hlt2, hJ, HFI.out, HFL.out, HF.out]; rfl
          have HJL : Hid (J.length = p) := by show _ = _; rw [hJ, List.length_map, HFLL.out]
          clear hJ
          go_wp2_with fail
          go_loopg [16, 17] p (fun gg s16 s17 wr => ∃ (k : Nat) (A3 : Option Addr) (c3 : Nat), k ≤ p ∧ gg = p - k ∧ s17 = .int .i64 (k : Int) ∧ s16 = .slice A3 k c3 ∧ Hid (OwnB wr W2.heap.size A3 k c3 (J.take k)) ∧ Hid (Below W2.heap.size W2 wr))
          case atStart => exact ⟨0, none, 0, by omega, rfl, rfl, rfl, OwnB.nil _ _, Below.refl _ _⟩
          case round =>
            obtain ⟨k, A3, c3, hkp, rfl, rfl, rfl, HO3, HB3⟩ := hrel
            have hs3 := HB3.out.size
            by_cases hlt3 : k < p
            · obtain ⟨g7, a7, k7, c7, rfl, hc7, hl7⟩ := (HLM.out.below (HB2.out.trans (HB3.out.mono hs2))).cell hlt3
              have hk7 : f < k7 := by
                rw [← hl7.len, HFL.out, fulls_getD _ _ _ _ _ (by rw [HLL.out]; exact hlt3), gline_len]; omega
              obtain ⟨b8, o8, hl8, rfl, -, hc8⟩ := hl7.at_ hk7
              obtain ⟨x, hx⟩ : ∃ x, x = (FL.getD k [])[f] := ⟨_, rfl⟩
              rw [← hx] at hc8
              have HJN : Hid (J.take k ++ [x] = J.take (k + 1)) := by
                show _ = _
                have hkJ : k < J.length := by rw [HJL.out]; exact hlt3
                rw [List.take_succ_eq_append_getElem hkJ]
                congr 2
                have e := getD_map0 (fun x : List UInt8 => x.getD f 0) FL k [] 0 (by rw [HFLL.out]; exact hlt3)
                rw [← HJ.out, List.getD_eq_getElem?_getD, List.getElem?_eq_getElem hkJ] at e
                rw [hx]
                refine Eq.trans ?_ e.symm
                exact getE _ _ hl8
              have hfk : (f : Int) < (k7 : Int) := by omega
              clear hx hl7
              go_wp2_with (at_builtin; refine wpB_append3 rfl (.tmp 102) (.tmp 110) rfl W2.heap.size A3 k c3 _ rfl (HO3.out.below (Below_new _ _)) _ _ 1 1 [x] rfl (LiesB.new _ _ _ _ _ _ rfl rfl) (k + 1) _ rfl HJN.out (by omega) (by simp; omega) ?_; intro A9 c9 w9 own9 k9 hk9)
              go_roundg (p - (k + 1))
              case measure => omega
              case rel => exact ⟨k + 1, A9, c9, by omega, rfl, by go_num, rfl, own9, HB3.out.trans (((Below_new _ _).mono hs3).trans (k9.belowOwn HO3.out (by simp; omega)))⟩
            · obtain rfl : k = p := by omega
              have HO4 : Hid (OwnB wr W2.heap.size A3 k c3 J) := by
                show OwnB _ _ _ _ _ _
                have := HO3.out
                rwa [List.take_of_length_le (Nat.le_of_eq HJL.out)] at this
              obtain ⟨W3, hW3⟩ : ∃ W3, W3 = wr := ⟨_, rfl⟩
              subst hW3
              have HL3 := hide (HL2.out.below HB3.out)
              have HB4 := hide (HB2.out.trans (HB3.out.mono hs2))
              have hs4 := HB4.out.size
              clear HO3 HL2 HB2 HB3
              go_wp2_with (at_builtin; refine wpV_append elem_rows rfl (.tmp 112) (.tmp 114) rfl W1.heap.size A2 i c2 _ rfl (HL3.out.row.below (Below_new _ _)) _ _ 1 1 [sv (A3, k, c3)] rfl rfl (Lies.new _ _ _ _) (by simp [Value.oneCell']) (by omega) (i + 1) _ rfl rfl (by omega) (by omega) (by simp; omega) ?_; intro A9 c9 w9 own9 k9 hk9)
              go_roundg (M - (i + 1))
              case measure => omega
              case rel =>
                refine ⟨i + 1, f + 1, A9, c9, ss2 ++ [(A3, k, c3)], by omega, rfl, by have := HFI.out; omega, by go_num, rfl, ?_, ?_, ?_⟩
                · show _ = _; have := HFI.out; omega
                · show LL _ _ _ _ _ _ _
                  rw [HRN.out]
                  exact HL3.out.add (x := (A3, k, c3)) (HO4.out.base_le hs2) (Below_new _ _) own9 k9
                · exact HB4.out.trans (((Below_new _ _).mono hs4).trans (k9.belowV HL3.out.row (by simp; omega)))
        · obtain rfl : i = M := by omega
          have hfti : ¬ (f : Int) < (tt : Int) := by have := HMM.out; have := HFI.out; omega
          go_wp2_with fail
          go_ret
          refine ⟨A2, i, c2, rfl, ⟨ss2, ?_⟩, ?_⟩
          · have := HL2.out
            rw [List.take_of_length_le (by rw [HR2.out]; simp)] at this
            exact this.base_le (Nat.le_trans hs1 hsW)
          · exact HB1.out.trans ((HB.out.mono hs1).trans (HB2.out.mono (Nat.le_trans hs1 hsW)))
end Go.Proofs.Ytciogjnchpeaaaa
