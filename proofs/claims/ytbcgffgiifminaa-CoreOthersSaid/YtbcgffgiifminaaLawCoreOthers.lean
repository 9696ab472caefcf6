/-
  CoreOthers: the walk.
-/
import Derived.Test.YtbcgffgiifminaaStand
namespace Go.Proofs.Ytbcgffgiifminaa
open Go.RowKit
set_option maxRecDepth 10000
set_option linter.unusedVariables false
def otherCfg : Cfg := ⟨3, 1, 6, 0, 3, 1, 0, 0, 0, 3⟩
theorem otherCfg_fine : otherCfg.Fine := otherCfg.may_iff.1 (by decide)
theorem other_front : (front (Co.new otherCfg).ls : Int) = 0 := by rfl
set_option maxHeartbeats 8000000 in
theorem law_CoreOthers (p : Pkt) (A : Option Addr) (n c : Nat) (w : World) (hA : LiesB w w.heap.size A n p.press) (hc : n ≤ c) (hcm : c ≤ maxLen) (hwf : p.WF) (hin : p.Ints) :
    Calls Try.prog 6 #[p.val (.slice A n c)] w fun e w' => e = .returned (.bool true) ∧ Below w.heap.size w w' := by
  have HA := hide hA
  have HW := hide hwf
  have HCC := hide hc
  clear hA hc hcm hin hwf
  obtain ⟨m, hm⟩ : ∃ m, m = min 32 n := ⟨_, rfl⟩
  have hm32 : m ≤ 32 := by omega
  obtain ⟨kind, src, dst, id, first, press, ack, frame, sum⟩ := p
  obtain ⟨q, hq⟩ : ∃ q : Pkt, q = ⟨kind, src, dst, id, first, press.take 32, ack, frame, sum⟩ := ⟨_, rfl⟩
  have HQ := hide hq
  have HWF : Hid q.WF := by show q.WF; rw [hq]; exact HW.out
  have HM := hide hm
  clear hq hm
  obtain ⟨z, hz⟩ : ∃ z : Bool, z = ((dst == 1) && ((id == 6) && (decide (src ≥ 0) && (decide (src < 3) && (src != 1))))) := ⟨_, rfl⟩
  have HZ := hide hz
  clear hz
  go_enter Try.func6, Try.ntmps6
  go_upto_region 1 with fail
  have HP0 : Hid (Arr 41 (w.alloc (.cells (Pkt.row ⟨kind, src, dst, id, first, press, ack, frame, sum⟩ (.slice A n c)).toArray 41)) w.heap.size (Pkt.row ⟨kind, src, dst, id, first, press, ack, frame, sum⟩ (.slice A n c))) := Arr.new 41 w _ _ rfl
  have HB0 : Hid (Below w.heap.size w (w.alloc (.cells (Pkt.row ⟨kind, src, dst, id, first, press, ack, frame, sum⟩ (.slice A n c)).toArray 41))) := Below_new _ _
  simp only [Pkt.row] at HP0 HB0
  generalize World.alloc w _ = w0 at HP0 HB0 ⊢
  go_wp2_with fail
  refine Calls.mono (begun21 _) ?_
  rintro e w1 ⟨rfl, hb1⟩
  have HP1 := hide (HP0.out.belowN hb1)
  have HB1 := hide (Below_step HB0.out hb1)
  clear hb1 HP0 HB0
  have f5 := HP1.out.frozen 5
  have c5 := HP1.out.cell (j := 5) (by simp)
  simp only [List.getElem_cons_zero, List.getElem_cons_succ] at c5
  go_wp2_with fail
  refine Calls.mono (law_Short A n c 32 32 _ HCC.out rfl (by omega)) ?_
  rintro e w2 ⟨rfl, rfl⟩
  rw [← HM.out]
  go_upto_region 5 with fail
  have HP2 : Hid (Arr 41 (w1.setCell ⟨w.heap.size, 5, none⟩ (.slice A m c)) w.heap.size (q.row (.slice A m c))) := by rw [HQ.out]; exact HP1.out.set 5 (.slice A m c)
  have HB2 := hide (HB1.out.trans ((Keeps.setCell w1 ⟨w.heap.size, 5, none⟩ (.slice A m c)).below HB1.out.size (fun k hk => by show ¬ k = w.heap.size; omega)))
  generalize World.setCell w1 _ _ = w2 at HP2 HB2 ⊢
  have HL2 : Hid (LiesB w2 w.heap.size A m q.press) := by
    show LiesB _ _ _ _ _
    have := (HA.out.below HB2.out).take 32
    rw [HQ.out, HM.out]
    exact this
  clear f5 c5 HP1 HB1
  go_wp2_with fail
  refine Calls.mono (use_New otherCfg otherCfg_fine w2) ?_
  rintro r w3 ⟨x, p3, rfl, hc3⟩
  have H3 := hide hc3
  have HP3 := hide (HP2.out.belowN hc3.bel)
  have HB3 := hide (Below_step HB2.out hc3.bel)
  have HL3 := hide (HL2.out.below (hc3.bel.mono HB2.out.size))
  have HS3 := hide HB2.out.size
  clear hc3
  have c1 := HP3.out.cell (j := 1) (by simp)
  have c2 := HP3.out.cell (j := 2) (by simp)
  have c3 := HP3.out.cell (j := 3) (by simp)
  simp only [List.getElem_cons_zero, List.getElem_cons_succ] at c1 c2 c3
  have e1 : q.src = src := by rw [HQ.out]
  have e2 : q.dst = dst := by rw [HQ.out]
  have e3 : q.id = id := by rw [HQ.out]
  rw [e1] at c1
  rw [e2] at c2
  rw [e3] at c3
  clear e1 e2 e3
  go_upto_region 8 with fail
  go_cut [43] (fun s43 wx => s43 = .bool z ∧ wx = w3)
  case first =>
    obtain ⟨z1, d1⟩ : ∃ z, (dst == 1) = z := ⟨_, rfl⟩
    obtain ⟨z2, d2⟩ : ∃ z, (id == 6) = z := ⟨_, rfl⟩
    obtain ⟨z3, d3⟩ : ∃ z, (decide (src ≥ 0)) = z := ⟨_, rfl⟩
    obtain ⟨z4, d4⟩ : ∃ z, (decide (src < 3)) = z := ⟨_, rfl⟩
    obtain ⟨z5, d5⟩ : ∃ z, (src != 1) = z := ⟨_, rfl⟩
    have e : Hid (z = (z1 && (z2 && (z3 && (z4 && z5))))) := by show _ = _; rw [HZ.out, d1, d2, d3, d4, d5]
    cases z1
    case false => go_wp2_with fail; go_meet; exact ⟨by rw [e.out]; rfl, rfl⟩
    cases z2
    case false => go_wp2_with fail; go_meet; exact ⟨by rw [e.out]; rfl, rfl⟩
    cases z3
    case false => go_wp2_with fail; go_meet; exact ⟨by rw [e.out]; rfl, rfl⟩
    cases z4
    case false => go_wp2_with fail; go_meet; exact ⟨by rw [e.out]; rfl, rfl⟩
    cases z5
    case false => go_wp2_with fail; go_meet; exact ⟨by rw [e.out]; rfl, rfl⟩
    go_wp2_with fail; go_meet; exact ⟨by rw [e.out]; rfl, rfl⟩
  case rest =>
  obtain ⟨rfl, rfl⟩ := hcut
  cases z with
  | true =>
    go_wp2_with fail
    go_ret
    exact ⟨rfl, HB3.out⟩
  | false =>
    have HNF : Hid (q.may = true → (Co.new otherCfg).fits q = false) := by
      intro hm
      have hf := Pkt.may_iff.1 hm
      have h1 := HZ.out
      have e1 : q.src = src := by rw [HQ.out]
      have e2 : q.dst = dst := by rw [HQ.out]
      have e3 : q.id = id := by rw [HQ.out]
      cases hfit : (Co.new otherCfg).fits q with
      | false => rfl
      | true =>
        exfalso
        have h2 : (decide (q.dst = 1) && (decide (q.src < 3) && decide (q.id = 6))) = true := hfit
        simp only [Bool.and_eq_true, decide_eq_true_eq] at h2
        have h3 := hf.src
        have h4 := hf.ne
        rw [e1] at h3 h4
        rw [e2] at h4
        rw [e1, e2, e3] at h2
        have : ((dst == 1) && ((id == 6) && (decide (src ≥ 0) && (decide (src < 3) && (src != 1))))) = true := by
          simp only [Bool.and_eq_true, beq_iff_eq, decide_eq_true_eq, bne_iff_ne]
          omega
        rw [this] at h1
        cases h1
    clear c1 c2 c3
    go_wp2_with (refine wpP_load rfl (.tmp 1) rfl w.heap.size rfl q (.slice A m c) HP3.out ?_)
    refine Calls.mono (ref_Packet q HL3.out (Nat.le_trans HS3.out H3.out.base) (by omega) HWF.out) ?_
    rintro r w4 ⟨A4, n4, c4, rfl, ho4, hb4⟩
    have hn4 : n4 ≤ 100 := by have := ho4.len; have := Pkt.enc_short q; omega
    have HO4 := hide ho4
    have H4 := hide (H3.out.below hb4)
    have HB4 := hide (Below_step HB3.out hb4)
    clear ho4 hb4
    go_wp2_with fail
    have key : Calls Try.prog 20 #[.pointer (some ⟨x, 0, none⟩), .slice A4 n4 c4] w4 fun r w' => r = .returned (.int .i64 1) ∧ ∃ p', HC w2.heap.size w2 w' x p' (Co.new otherCfg) := by
      cases hmay : q.may with
      | true =>
        have hnf := HNF.out hmay
        refine (use_Receive_yes H4.out rfl (by show (0 : Nat) ≤ _; omega) q (Pkt.enc_is hmay HWF.out) HO4.out.lies (Nat.le_refl _) HO4.out.cap (by omega) (R := 1) (by rw [hnf]; rfl) (S := Co.new otherCfg) (by rw [hnf]; rfl)).mono ?_
        rintro r w' ⟨hr, p', hc, -⟩
        exact ⟨hr, p', hc⟩
      | false =>
        have he : q.enc = [] := Pkt.enc_nil_iff.2 hmay
        refine (use_Receive_no H4.out rfl (b := q.enc) (by rw [he]; exact nil_no) HO4.out.lies (Nat.le_refl _) HO4.out.cap (by omega)).mono ?_
        rintro r w' ⟨hr, hc, -⟩
        exact ⟨hr, _, hc⟩
    have HK := hide key
    clear key
    refine Calls.mono HK.out ?_
    rintro r w5 ⟨rfl, p5, hc5⟩
    have H5 := hide hc5
    have HB5 := hide (Below_step HB2.out hc5.bel)
    clear hc5
    have HX5 : Hid (p5.xs.length = 3) := H5.out.core.nx
    go_wp2_with fail
    refine Calls.mono (core_Queue H5.out.core) ?_
    rintro r w6 ⟨rfl, rfl⟩
    go_wp2_with fail
    refine Calls.mono (use_Front H5.out other_front) ?_
    rintro r w6 ⟨rfl, rfl⟩
    go_wp2_with fail
    refine Calls.mono (core_Queue H5.out.core) ?_
    rintro r w6 ⟨rfl, rfl⟩
    go_wp2_with fail
    refine Calls.mono (queue_Line H5.out.core.q 0 (by rw [HX5.out]; omega) (by rw [HX5.out]; omega) rfl rfl) ?_
    rintro r w6 ⟨rfl, rfl⟩
    go_wp2_with fail
    refine Calls.mono (line_Len_v _ _ [] 0 _ (H5.out.core.line 0 (by rw [HX5.out]; omega)) rfl) ?_
    rintro r w6 ⟨rfl, rfl⟩
    go_wp2_with fail
    refine Calls.mono (core_Queue H5.out.core) ?_
    rintro r w6 ⟨rfl, rfl⟩
    go_wp2_with fail
    refine Calls.mono (queue_Line H5.out.core.q 2 (by rw [HX5.out]; omega) (by rw [HX5.out]; omega) rfl rfl) ?_
    rintro r w6 ⟨rfl, rfl⟩
    go_wp2_with fail
    refine Calls.mono (line_Len_v _ _ [] 0 _ (H5.out.core.line 2 (by rw [HX5.out]; omega)) rfl) ?_
    rintro r w6 ⟨rfl, rfl⟩
    go_wp2_with fail
    refine Calls.mono (use_Closed H5.out rfl) ?_
    rintro r w6 ⟨rfl, rfl⟩
    go_wp2_with fail
    refine Calls.mono (use_Events H5.out rfl) ?_
    rintro r w6 ⟨eA, ec, rfl, -, p6, hc6, -⟩
    go_wp2_with fail
    go_ret
    exact ⟨rfl, Below_step HB2.out hc6.bel⟩
end Go.Proofs.Ytbcgffgiifminaa
