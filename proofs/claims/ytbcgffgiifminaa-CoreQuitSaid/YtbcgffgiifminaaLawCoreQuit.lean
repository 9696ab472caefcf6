/-
  CoreQuit: the walk.
-/
import Derived.Test.YtbcgffgiifminaaStand
import Derived.Test.YtbcgffgiifminaaCores
namespace Go.Proofs.Ytbcgffgiifminaa
open Go.RowKit
set_option maxRecDepth 10000
set_option linter.unusedVariables false
theorem elem_cores : Elem 64 23 (.pointer none) 8 := ⟨Try.underlying64, by kernel_rfl, rfl⟩
def qCfg (n i : Nat) : Cfg := ⟨n, i, 4, 0, 3, 1, 0, 0, 0, 3⟩
theorem qCfg_fine {n i : Nat} (h : 2 ≤ n) (h8 : n ≤ 8) (hi : i < n) : (qCfg n i).Fine :=
  ⟨by show (2 : Int) ≤ n ∧ (n : Int) ≤ 8; omega, by show (0 : Int) ≤ i ∧ (i : Int) ≤ n - 1; omega, by show (0 : Int) ≤ 4 ∧ (4 : Int) ≤ _; omega, by show (0 : Int) ≤ 0 ∧ (0 : Int) ≤ 8; omega, by show (1 : Int) ≤ 3 ∧ (3 : Int) ≤ 16; omega, by show (1 : Int) ≤ 1 ∧ (1 : Int) ≤ 3; omega, by show (0 : Int) ≤ 0 ∧ (0 : Int) ≤ 3; omega, .inl rfl,
   by show (0 : Int) ≤ 0 ∧ (0 : Int) ≤ 8; omega, by show (0 : Int) ≤ 0 ∧ (0 : Int) ≤ 4; omega, by show (3 : Int) ≤ 3 ∧ (3 : Int) ≤ 50; omega⟩
def qNew (n i : Nat) : Co := Co.new (qCfg n i)
def qPkt (who j : Nat) : Pkt := ⟨2, who, j, 4, 0, [], 0, 0, 0⟩
theorem qPkt_may {who j : Nat} (hw : who ≤ 7) (hj : j ≤ 7) (hne : j ≠ who) : (qPkt who j).may = true := Pkt.may_iff.2 ⟨by show (0 : Int) ≤ who ∧ (who : Int) ≤ 7; omega, by show (0 : Int) ≤ j ∧ (j : Int) ≤ 7; omega, by show (who : Int) ≠ j; omega, by show (0 : Int) ≤ 4 ∧ (4 : Int) ≤ _; omega, .inr ⟨rfl, rfl, rfl, rfl, rfl, rfl⟩⟩
theorem qPkt_wf (who j : Nat) : (qPkt who j).WF := ⟨by show (0 : Int) ≤ 0; omega, by show (0 : Int) < _; omega⟩
theorem othersOf_all (n me : Nat) (h : n ≤ me) : (othersOf n me).length = n := by
  induction n with
  | zero => rfl
  | succ n ih => rw [othersOf_succ_ne (by omega), List.length_append, ih (by omega)]; rfl
theorem othersOf_count (n me : Nat) (h : me < n) : (othersOf n me).length = n - 1 := by
  induction n with
  | zero => omega
  | succ n ih =>
    by_cases e : n = me
    · subst e; rw [othersOf_succ_eq, othersOf_all _ _ (Nat.le_refl _)]; rfl
    · rw [othersOf_succ_ne e, List.length_append, ih (by omega)]; simp; omega
theorem qNew_mails (n who : Nat) : (qNew n who).quitMails = (othersOf n who).map fun j => ⟨who, j, (qPkt who j).enc⟩ := by
  rw [Co.quitMails, if_neg (by show ¬ false = true; decide), Co.them]
  have e1 : (qNew n who).peers.length = n := by show (List.replicate (n : Int).toNat _).length = n; rw [List.length_replicate]; rfl
  have e2 : (qNew n who).cfg.me.toNat = who := by show ((who : Int)).toNat = who; rfl
  rw [e1, e2]; rfl
theorem qNew_fits {n who j : Nat} (h : who < n) : (qNew n j).fits (qPkt who j) = true := by
  show (decide ((j : Int) = (j : Int)) && (decide ((who : Int) < (n : Int)) && decide ((4 : Int) = 4))) = true
  rw [decide_eq_true rfl, decide_eq_true (show (who : Int) < (n : Int) by omega)]; rfl
theorem qNew_hear (n who j : Nat) : ((qNew n j).hear (qPkt who j)).closed = true ∧ ((qNew n j).hear (qPkt who j)).events = [.quit who] := by
  rw [Co.hear, if_pos (by rfl)]
  exact ⟨rfl, rfl⟩
def xv (x : Nat) : Value := .pointer (some ⟨x, 0, none⟩)
theorem others_lt (n me : Nat) : ∀ (i j : Nat) (hi : i < (othersOf n me).length) (hj : j < (othersOf n me).length), i < j → (othersOf n me)[i] < (othersOf n me)[j] :=
  List.pairwise_iff_getElem.1 ((List.pairwise_lt_range (n := n)).filter _)
set_option maxHeartbeats 8000000 in
theorem law_CoreQuit (n who : Int) (w : World) (lo0 : -9223372036854775808 ≤ n) (hi0 : n ≤ 9223372036854775807) (lo1 : -9223372036854775808 ≤ who) (hi1 : who ≤ 9223372036854775807) :
    Calls Try.prog 10 #[.int .i64 n, .int .i64 who] w fun r w' => r = .returned (.bool true) ∧ Below w.heap.size w w' := by
  by_cases hr : n < 2 ∨ 8 < n ∨ who < 0 ∨ n ≤ who
  · obtain ⟨z1, d1⟩ : ∃ z, (decide (n < 2)) = z := ⟨_, rfl⟩
    obtain ⟨z2, d2⟩ : ∃ z, (decide (n > 8)) = z := ⟨_, rfl⟩
    obtain ⟨z3, d3⟩ : ∃ z, (decide (who < 0)) = z := ⟨_, rfl⟩
    obtain ⟨z4, d4⟩ : ∃ z, (decide (who ≥ n)) = z := ⟨_, rfl⟩
    have hz : (z1 || z2 || z3 || z4) = true := by
      rw [← d1, ← d2, ← d3, ← d4]
      simp only [Bool.or_eq_true, decide_eq_true_eq]
      omega
    have HZ := hide hz
    clear hr hz
    go_enter Try.func10, Try.ntmps10
    go_wp2_with fail
    refine Calls.mono (begun21 w) ?_
    rintro e w1 ⟨rfl, hb1⟩
    have HB1 := hide hb1
    clear hb1
    go_upto_region 4 with fail
    go_cut [31] (fun s31 wx => s31 = .bool true ∧ wx = w1)
    case first =>
      cases z1
      case true => go_wp2_with fail; go_meet; exact ⟨rfl, rfl⟩
      cases z2
      case true => go_wp2_with fail; go_meet; exact ⟨rfl, rfl⟩
      cases z3
      case true => go_wp2_with fail; go_meet; exact ⟨rfl, rfl⟩
      cases z4
      case true => go_wp2_with fail; go_meet; exact ⟨rfl, rfl⟩
      exact absurd HZ.out (by decide)
    case rest =>
    obtain ⟨rfl, rfl⟩ := hcut
    go_wp2_with fail
    go_ret
    exact ⟨rfl, HB1.out⟩
  · have d1 : decide (n < 2) = false := decide_eq_false (by omega)
    have d2 : decide (n > 8) = false := decide_eq_false (by omega)
    have d3 : decide (who < 0) = false := decide_eq_false (by omega)
    have d4 : decide (who ≥ n) = false := decide_eq_false (by omega)
    obtain ⟨m, hm⟩ : ∃ d : Nat, n = (d : Int) := ⟨n.toNat, by omega⟩
    obtain ⟨v, hv⟩ : ∃ d : Nat, who = (d : Int) := ⟨who.toNat, by omega⟩
    have HM := hide hm
    have HV := hide hv
    have hm2 : 2 ≤ m := by omega
    have hm8 : m ≤ 8 := by omega
    have hvm : v < m := by omega
    clear hr hm hv
    go_enter Try.func10, Try.ntmps10
    go_wp2_with fail
    refine Calls.mono (begun21 w) ?_
    rintro e w1 ⟨rfl, hb1⟩
    have HB1 := hide hb1
    clear hb1
    go_upto_region 6 with fail
    clear d1 d2 d3 d4
    rw [HM.out, HV.out]
    clear lo0 hi0 lo1 hi1
    go_wp2_with fail
    go_loopg [6, 7] m (fun gg s6 s7 wr => ∃ (i : Nat) (A : Option Addr) (c : Nat) (X : Nat → Nat) (P : Nat → CP), i ≤ m ∧ gg = m - i ∧ s7 = .int .i64 (i : Int) ∧ s6 = .slice A i c ∧ Hid (Cores w1.heap.size wr i X P (qNew m)) ∧ Hid (OwnV 23 wr w1.heap.size A i c ((List.range i).map fun j => xv (X j))) ∧ Hid (∀ j, j < i → ∀ b, cBlocks (X j) (P j) b → ¬ Mine A i c b) ∧ Hid (Below w1.heap.size w1 wr))
    case atStart => exact ⟨0, none, 0, fun _ => 0, fun _ => ⟨0, none, 0, [], 0, 0, none, 0, 0, none, 0, 0⟩, by omega, rfl, rfl, rfl, Cores.nil _ _ _ _ _, OwnV.nil _ _ _, fun j h => by omega, Below.refl _ _⟩
    case round =>
      obtain ⟨W1, hW1⟩ : ∃ W1, W1 = wr := ⟨_, rfl⟩
      subst hW1
      obtain ⟨i, A, c, X, P, him, rfl, rfl, rfl, HCO, HRW, HDJ, HBW⟩ := hrel
      by_cases hlt : i < m
      · have him2 : (i : Int) < (m : Int) := by omega
        have hszW : w1.heap.size ≤ W1.heap.size := HBW.out.size
        go_wp2_with fail
        refine Calls.mono (use_New (qCfg m i) (qCfg_fine hm2 hm8 hlt) W1) ?_
        rintro r w2 ⟨x, p2, rfl, hc2⟩
        have bn := Below_new w2 (.cells #[.pointer (some ⟨x, 0, none⟩)] 23)
        have HC2 := hide hc2
        have HBN := hide bn
        have HR2 := hide ((HRW.out.below hc2.bel).below bn)
        have HB2 := hide (Below_step (HBW.out.trans (hc2.bel.mono hszW)) bn)
        have HL2 := hide (Lies.new w2 #[.pointer (some ⟨x, 0, none⟩)] 23 (0, 0))
        have hB2 : w1.heap.size ≤ (World.alloc w2 (.cells #[.pointer (some ⟨x, 0, none⟩)] 23)).heap.size := HB2.out.size
        clear bn hc2
        go_upto_region 13 with fail
        go_wp2_with (refine wpV_append elem_cores rfl (.tmp 46) (.tmp 48) rfl w1.heap.size A i c _ rfl HR2.out _ _ 1 1 [.pointer (some ⟨x, 0, none⟩)] rfl rfl HL2.out (by simp [Value.oneCell']) (by omega) (i + 1) _ rfl rfl (by omega) (by omega) hB2 ?_; intro A5 c5 w5 own5 k5 hk5; have HO5 := hide own5; have HK5 := hide k5; have HKK := hide hk5; clear own5 k5 hk5)
        go_roundg (m - (i + 1))
        case measure => omega
        case rel =>
          have hp := Cores.push (S' := qNew m) (X' := fun j => if j = i then x else X j) (P' := fun j => if j = i then p2 else P j) HCO.out hszW HRW.out HDJ.out HC2.out.bel HC2.out.core HBN.out HK5.out HKK.out (fun j hj => if_neg (by omega)) (fun j hj => if_neg (by omega)) (fun _ _ => rfl) (if_pos rfl) (if_pos rfl) rfl
          refine ⟨i + 1, A5, c5, fun j => if j = i then x else X j, fun j => if j = i then p2 else P j, by omega, rfl, by go_num, rfl, hp.1, ?_, hp.2, HB2.out.trans (HK5.out.belowV HR2.out hB2)⟩
          have e : ((List.range (i + 1)).map fun j => xv (if j = i then x else X j)) = ((List.range i).map fun j => xv (X j)) ++ [xv x] := by
            rw [List.range_succ, List.map_append]
            congr 1
            · exact List.map_congr_left fun j hj => by rw [if_neg (by have := List.mem_range.1 hj; omega)]
            · simp
          show OwnV _ _ _ _ _ _ _
          rw [e]
          exact HO5.out
      · obtain rfl : m = i := by omega
        clear hlt him
        obtain ⟨g, hg, hbg, -⟩ := HRW.out.form (by omega)
        subst hg
        have hXC : ∀ j, j < m → W1.cell? ⟨g, j, none⟩ = some (xv (X j)) := by
          intro j hj
          obtain ⟨hl, c1⟩ := HRW.out.cell hj
          rw [c1, List.getElem_map, List.getElem_range]
        have HXC := hide hXC
        have cv : W1.cell? ⟨g, v, none⟩ = some (.pointer (some ⟨X v, 0, none⟩)) := hXC v hvm
        have HGN : Hid (∀ j, j < m → ¬ cBlocks (X j) (P j) g) := fun j hj hb => HDJ.out j hj g hb rfl
        have HLW : Hid (∀ j, j < m → ∀ b, cBlocks (X j) (P j) b → b < W1.heap.size) := fun j hj b hb => ((HCO.out.core j hj).blocks b hb).2
        obtain ⟨L, hL⟩ : ∃ L, L = othersOf m v := ⟨_, rfl⟩
        obtain ⟨n, hn⟩ : ∃ n, n = L.length := ⟨_, rfl⟩
        have hnm : n = m - 1 := by rw [hn, hL, othersOf_count _ _ hvm]
        have HL := hide hL
        have HN := hide hn
        have HLM : Hid (∀ j ∈ L, j < m ∧ j ≠ v) := fun j hj => mem_others.1 (by rw [← hL]; exact hj)
        have hmv : (v : Int) < (m : Int) := by omega
        have H1 : Hid (HC w1.heap.size w1 W1 (X v) (P v) (qNew m v)) := ⟨HCO.out.core v hvm, HBW.out, HBW.out.size⟩
        clear hL hn hXC hbg
        go_wp2_with fail
        refine Calls.mono (use_Quit H1.out (qNew_mails m v)) ?_
        rintro r w2 ⟨mA, mn, mc, xs, rfl, hml, hxs, hc2, st2⟩
        have hxl : xs.length = n := by have := congrArg List.length hxs; rw [List.length_map, List.length_map, ← HL.out, ← HN.out] at this; exact this
        obtain rfl : mn = n := by rw [← hml.len]; exact hxl
        have HML := hide hml
        have HXS := hide hxs
        have H2 := hide hc2
        have HST := hide st2
        have HXL := hide hxl
        have c2 := keeps_cell' st2.keeps cv (HGN.out v hvm)
        have hmv2 : IntKind.i64.wrap ((m : Int) - 1) = (mn : Int) := by rw [IntWalk.i64_in _ ⟨by omega, by omega⟩]; omega
        clear hml hxs hc2 st2 hxl cv
        go_wp2_with fail
        refine Calls.mono (use_Closed H2.out (z := true) rfl) ?_
        rintro r w3 ⟨rfl, rfl⟩
        go_wp2_with fail
        refine Calls.mono (use_Events H2.out (l := []) rfl) ?_
        rintro r w3 ⟨eA, ec, rfl, -, p3, hc3, st3⟩
        have H3 := hide hc3
        have HST3 := hide (HST.out.trans st3)
        have HSB3 := hide st3
        have c3 := keeps_cell' HST3.out.keeps (HXC.out v hvm) (HGN.out v hvm)
        have c3 : w3.cell? ⟨g, v, none⟩ = some (.pointer (some ⟨X v, 0, none⟩)) := c3
        clear hc3 st3 c2
        go_wp2_with fail
        refine Calls.mono (use_Quit H3.out (M := []) rfl) ?_
        rintro r w4 ⟨qA, qn, qc, ys, rfl, hml4, hys, hc4, st4⟩
        obtain rfl : qn = 0 := by rw [← hml4.len]; have := congrArg List.length hys; simpa using this
        have H4 := hide hc4
        have HST4 := hide (HST3.out.trans st4)
        have HSB4 := hide (HSB3.out.trans st4)
        have c4 : w4.cell? ⟨g, v, none⟩ = some (.pointer (some ⟨X v, 0, none⟩)) := keeps_cell' HST4.out.keeps (HXC.out v hvm) (HGN.out v hvm)
        clear hc4 st4 c3 hml4 hys
        go_wp2_with fail
        refine Calls.mono (use_Tick H4.out (M := []) (by show (0 : Int) < _; omega) (by show (0 : Nat) ≤ _; omega) rfl rfl) ?_
        rintro r w5 ⟨qA, qn, qc, ys, rfl, hml5, hys, p5, hc5, st5, -⟩
        obtain rfl : qn = 0 := by rw [← hml5.len]; have := congrArg List.length hys; simpa using this
        have H5 := hide hc5
        have HST5 := hide (HST4.out.trans st5)
        have HSB5 := hide (HSB4.out.trans st5)
        have c5 : w5.cell? ⟨g, v, none⟩ = some (.pointer (some ⟨X v, 0, none⟩)) := keeps_cell' HST5.out.keeps (HXC.out v hvm) (HGN.out v hvm)
        clear hc5 st5 c4 hml5 hys
        go_wp2_with fail
        refine Calls.mono (use_Press H5.out 1 (v := 1) rfl (E := 6) rfl rfl) ?_
        rintro r w6 ⟨rfl, p6, hc6, st6⟩
        have HST6 := hide (HST5.out.trans st6)
        have HSB6 := hide (HSB5.out.trans st6)
        have HB6 := hide hc6.bel
        clear hc6 st6 c5
        go_wp2_with fail
        go_loopg [11] mn (fun gg s11 wr => ∃ (k : Nat), k ≤ mn ∧ gg = mn - k ∧ s11 = .int .i64 (k : Int) ∧ Hid (∀ (j : Nat) (hj : j < L.length), k ≤ j → CAt w1.heap.size wr (X L[j]) (P L[j]) (qNew m L[j])) ∧ Hid (∀ j, j < m → wr.cell? ⟨g, j, none⟩ = some (xv (X j))) ∧ Hid (ML 47 W1.heap.size wr mA mn mc xs) ∧ Hid (Below w1.heap.size w1 wr))
        case atStart =>
          refine ⟨0, by omega, rfl, rfl, ?_, ?_, ?_, HB6⟩
          · intro j hj _
            have hm := HLM.out _ (List.getElem_mem hj)
            exact (HCO.out.core _ hm.1).keeps HST6.out.keeps (HCO.out.apart _ _ hm.1 hvm hm.2)
          · exact fun j hj => keeps_cell' HST6.out.keeps (HXC.out j hj) (HGN.out v hvm)
          · exact HML.out.keepsLow HSB6.out.keeps (HLW.out v hvm)
        case round =>
          obtain ⟨W2, hW2⟩ : ∃ W2, W2 = wr := ⟨_, rfl⟩
          subst hW2
          obtain ⟨k, hkn, rfl, rfl, HCS, HCL, HM2, HB2⟩ := hrel
          by_cases hlt : k < mn
          · have hkL : k < L.length := by rw [← HN.out]; exact hlt
            have hkx : k < xs.length := by rw [HXL.out]; exact hlt
            obtain ⟨t, ht⟩ : ∃ t, t = L[k] := ⟨_, rfl⟩
            obtain ⟨htm, htv⟩ := HLM.out _ (List.getElem_mem hkL)
            rw [← ht] at htm htv
            have HT : Hid (HC w1.heap.size w1 W2 (X t) (P t) (qNew m t)) := ⟨by rw [ht]; exact HCS.out k hkL (Nat.le_refl _), HB2.out, HB2.out.size⟩
            have hx1 : (xs[k]'hkx).1 = ⟨v, t, (qPkt v t).enc⟩ := by
              have h2 : (xs.map Prod.fst)[k]? = some ⟨v, t, (qPkt v t).enc⟩ := by
                rw [HXS.out, List.getElem?_map, ← HL.out, List.getElem?_eq_getElem hkL, ht]; rfl
              rw [List.getElem?_map, List.getElem?_eq_getElem hkx] at h2
              injection h2 with h2
            obtain ⟨⟨bA, bn, bc⟩, hbs⟩ : ∃ b : Sl, b = (xs[k]'hkx).2 := ⟨_, rfl⟩
            obtain ⟨mg, rfl, ma, md, mb⟩ := mail_cell HM2.out.row (i := k) hlt hkx
            have ho := HM2.out.line _ (List.getElem_mem hkx)
            rw [hx1] at ma md ho
            rw [← hbs] at mb ho
            have ma : W2.cell? ⟨mg, k * 3, none⟩ = some (.int .i64 (v : Int)) := ma
            have md : W2.cell? ⟨mg, k * 3 + 1, none⟩ = some (.int .i64 (t : Int)) := md
            have mb : W2.cell? ⟨mg, k * 3 + 2, none⟩ = some (.slice bA bn bc) := mb
            have HO : Hid (OwnB W2 W1.heap.size bA bn bc (qPkt v t).enc) := ho
            have hbn : bn ≤ 100 := by have h1 := ho.len; have := Pkt.enc_short (qPkt v t); simp only at h1; omega
            have ct : W2.cell? ⟨g, t, none⟩ = some (.pointer (some ⟨X t, 0, none⟩)) := HCL.out t htm
            have HTE := hide ht
            have HTV := hide htv
            have HBS := hide hbs
            have htm2 : (t : Int) < (m : Int) := by omega
            have hkn2 : (k : Int) < (mn : Int) := by omega
            have hvv : ((v : Int) != (v : Int)) = false := by simp
            have HMG : Hid (∀ b, cBlocks (X t) (P t) b → b ≠ mg) := fun b hb e => by
              have := HLW.out t htm b hb
              have := (World.ownsRow.lt HM2.out.row mg rfl).1
              omega
            clear ht htv hx1 hbs ho
            go_wp2_with fail
            refine Calls.mono (use_Receive_yes HT.out rfl (by show (0 : Nat) ≤ _; omega) (qPkt v t) (Pkt.enc_is (qPkt_may (by omega) (by omega) HTV.out) (qPkt_wf v t)) HO.out.lies (Nat.le_refl _) HO.out.cap (show bn ≤ 1000000 by omega) (R := 0) (by rw [if_pos (qNew_fits hvm)]) (S := (qNew m t).hear (qPkt v t)) (by rw [if_pos (qNew_fits hvm)])) ?_
            rintro r w3 ⟨rfl, p3, hc3, st3⟩
            have H3 := hide hc3
            have HS3 := hide st3
            clear hc3 st3
            go_wp2_with fail
            refine Calls.mono (use_Closed H3.out (qNew_hear m v t).1) ?_
            rintro r w4 ⟨rfl, rfl⟩
            go_wp2_with fail
            refine Calls.mono (use_Events H3.out (qNew_hear m v t).2) ?_
            rintro r w4 ⟨eA, ec, rfl, ho4, p4, hc4, st4⟩
            have H4 := hide hc4
            have HS4 := hide (HS3.out.trans st4)
            have HO4 : Hid (OwnV 114 w4 w1.heap.size eA 1 ec (([.quit (v : Int)] : List Ev).map Ev.val)) := ho4
            clear hc4 st4 ho4
            go_wp2_with fail
            refine Calls.mono (law_Raws HO4.out (by omega)) ?_
            rintro r w5 ⟨rA, rc, rfl, hr5, hb5⟩
            have H5 := hide (H4.out.below hb5)
            have HB5 := hide hb5
            have HS5 := hide (HS4.out.trans (Stp.of_below hb5))
            obtain ⟨rg, rfl⟩ : ∃ g, rA = some ⟨g, 0, none⟩ := by
              rcases hr5.2 with ⟨hv, hx⟩ | ⟨g, cap, cur, hv, _⟩
              · omega
              · injection hv with h1 _ _; exact ⟨g, h1⟩
            have c0 : w5.cell? ⟨rg, 0, none⟩ = some (.int .i64 1) := World.ownsRow.cellAt hr5 0 (by omega)
            have c1 : w5.cell? ⟨rg, 1, none⟩ = some (.int .i64 (v : Int)) := World.ownsRow.cellAt hr5 1 (by omega)
            have mb5 : w5.cell? ⟨mg, k * 3 + 2, none⟩ = some (.slice bA bn bc) := keeps_cell' HS5.out.keeps mb (fun hb => HMG.out mg hb rfl)
            have HCL5 : Hid (({ (qNew m t).hear (qPkt v t) with events := [] } : Co).closed = true) := (qNew_hear m v t).1
            clear hr5 hb5 ma md mb ct
            go_wp2_with fail
            refine Calls.mono (use_Receive_closed H5.out HCL5.out bA bn bc) ?_
            rintro r w6 ⟨rfl, rfl⟩
            go_wp2_with fail
            go_roundg (mn - (k + 1))
            case measure => omega
            case rel =>
              refine ⟨k + 1, by omega, rfl, by go_num, ?_, ?_, HM2.out.keepsLow HS5.out.keeps (HLW.out t htm), H5.out.bel⟩
              · intro j hj hkj
                have hm := HLM.out _ (List.getElem_mem hj)
                have hlt2 : L[k] < L[j] := by
                  have := others_lt m v k j (by rw [← HL.out]; exact hkL) (by rw [← HL.out]; exact hj) (by omega)
                  simpa only [← HL.out] using this
                exact (HCS.out j hj (by omega)).keeps HS5.out.keeps (HCO.out.apart _ _ hm.1 htm (by rw [HTE.out]; omega))
              · exact fun j hj => keeps_cell' HS5.out.keeps (HCL.out j hj) (HGN.out t htm)
          · obtain rfl : mn = k := by omega
            go_wp2_with fail
            go_ret
            exact ⟨rfl, Below_step HB1.out HB2.out⟩
end Go.Proofs.Ytbcgffgiifminaa
