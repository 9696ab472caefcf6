/-
  CoreSends: the walk.
-/
import Derived.Test.YtbcgffgiifminaaStand
namespace Go.Proofs.Ytbcgffgiifminaa
open Go.RowKit
set_option maxRecDepth 10000
set_option linter.unusedVariables false
theorem hold_same {s : Co} (h : ∀ (i : Nat) (q : Peer), s.peers[i]? = some q → q.bad s.marks = false) : s.hold = s := by
  have : ∀ k, s.holdK k = s := by
    intro k
    induction k with
    | zero => rfl
    | succ k ih =>
      rw [Co.holdK, ih, Co.hold1]
      split
      · rename_i q hq
        rw [if_neg (by rw [h k q hq]; decide)]
      · rfl
  exact this _
def sCfg : Cfg := ⟨2, 0, 3, 0, 16, 1, 0, 0, 0, 3⟩
theorem sCfg_fine : sCfg.Fine := sCfg.may_iff.1 (by decide)
/-- A player that pressed l; of which the other one has k. -/
def sSt (l : List UInt8) (k t : Int) : Co := ⟨sCfg, [l, []], [⟨0, 0, 0, 0, false⟩, ⟨k, 0, 0, 0, false⟩], [], [], t, false⟩
def aPkt (a : Int) : Pkt := ⟨1, 1, 0, 3, 0, [], a, 0, 0⟩
theorem sSt_front (l : List UInt8) (k t : Int) : front (sSt l k t).ls = 0 := by
  show front [l, []] = 0
  simp [front, frontK]
theorem sSt_err {l : List UInt8} (h : l.length < 16) : (sSt l 0 0).pressErr = 0 := by
  have h1 : (sSt l 0 0).mine = l := rfl
  rw [Co.pressErr, h1, sSt_front, if_neg (by show ¬ false = true; decide), if_neg (by omega), if_neg (by show ¬ (16 : Int) ≤ _; omega)]
theorem sSt_press {l : List UInt8} (h : l.length < 16) (b : UInt8) : (sSt l 0 0).press b = sSt (l ++ [b]) 0 0 := by
  rw [Co.press, if_pos (sSt_err h)]; rfl
theorem aPkt_may {a : Int} (h : 0 ≤ a) (h2 : a ≤ 1000) : (aPkt a).may = true := Pkt.may_iff.2 ⟨by show (0 : Int) ≤ 1 ∧ (1 : Int) ≤ 7; omega, by show (0 : Int) ≤ 0 ∧ (0 : Int) ≤ 7; omega, by show (1 : Int) ≠ 0; omega, by show (0 : Int) ≤ 3 ∧ (3 : Int) ≤ _; omega,
  .inl ⟨rfl, by show (0 : Int) ≤ 0 ∧ (0 : Int) ≤ 1000; omega, by show 0 ≤ a ∧ a ≤ 1000; omega, by show (0 : Int) ≤ 0 ∧ (0 : Int) ≤ 1000; omega, by show (0 : Nat) ≤ 32; omega⟩⟩
theorem sSt_same (l : List UInt8) (k t : Int) : (sSt l k t).hold = sSt l k t := hold_same fun i q hq => by
  match i, hq with
  | 0, hq =>
    have : q = ⟨0, 0, 0, 0, false⟩ := by simpa [sSt] using hq.symm
    rw [this]; rfl
  | 1, hq =>
    have : q = ⟨k, 0, 0, 0, false⟩ := by simpa [sSt] using hq.symm
    rw [this]; rfl
  | i + 2, hq => simp [sSt] at hq
theorem sSt_hear {l : List UInt8} {a : Nat} : (sSt l 0 0).hear (aPkt a) = sSt l ((if a ≤ l.length then a else 0 : Nat) : Int) 0 := by
  have e1 : ((sSt l 0 0).hear1 1).hear2 1 (aPkt a) = sSt l 0 0 := by rfl
  have e2 : (sSt l 0 0).hear3 1 (aPkt a) = sSt l ((if a ≤ l.length then a else 0 : Nat) : Int) 0 := by
    rw [Co.hear3]
    have e : (sSt l 0 0).acks 1 (aPkt a) = (decide ((a : Int) > 0) && decide ((a : Int) ≤ (l.length : Int))) := rfl
    rw [e]
    by_cases h : a ≤ l.length
    · rw [if_pos h, decide_eq_true (show (a : Int) ≤ (l.length : Int) by omega)]
      by_cases h0 : a = 0
      · subst h0; rfl
      · rw [decide_eq_true (show (a : Int) > 0 by omega)]; rfl
    · rw [if_neg h, decide_eq_false (show ¬ (a : Int) ≤ (l.length : Int) by omega), Bool.and_false]; rfl
  have e3 : ∀ k : Int, (sSt l k 0).hear4 1 (aPkt a) = sSt l k 0 := fun k => rfl
  show (((((sSt l 0 0).hear1 1).hear2 1 (aPkt a)).hear3 1 (aPkt a)).hear4 1 (aPkt a)).hold = _
  rw [e1, e2, e3]
  exact sSt_same _ _ _
def sPkt (l : List UInt8) (k : Nat) : Pkt := ⟨1, 0, 1, 3, k, l.drop k, 0, 0, 0⟩
theorem fromLine_drop {l : List UInt8} {k : Nat} (hl : l.length ≤ 16) (hk : k ≤ l.length) : fromLine l k 32 = l.drop k := by
  by_cases h : k < l.length
  · rw [fromLine_some h (by omega), List.take_of_length_le]
    rw [List.length_drop]
    show l.length - k ≤ min 32 1000
    omega
  · rw [fromLine_none (.inr (.inl (by omega))), List.drop_of_length_le (by omega)]
theorem sSt_mails {l : List UInt8} {k : Nat} (hl : l.length ≤ 16) (hk : k ≤ l.length) : (sSt l k 0).tickMails = [⟨0, 1, (sPkt l k).enc⟩] := by
  have e : (sSt l k 0).tickMails = [(sSt l k 0).ticked.tellTo 1] := rfl
  rw [e]
  show [(⟨0, 1, (Co.telling _ 1).enc⟩ : Mle)] = _
  have e2 : (sSt l k 0).ticked.telling 1 = ⟨1, 0, 1, 3, k, fromLine l k 32, 0, 0, 0⟩ := rfl
  rw [e2, fromLine_drop hl hk]; rfl
theorem sPkt_may {l : List UInt8} {k : Nat} (hl : l.length ≤ 16) (hk : k ≤ l.length) : (sPkt l k).may = true := Pkt.may_iff.2 ⟨by show (0 : Int) ≤ 0 ∧ (0 : Int) ≤ 7; omega, by show (0 : Int) ≤ 1 ∧ (1 : Int) ≤ 7; omega, by show (0 : Int) ≠ 1; omega, by show (0 : Int) ≤ 3 ∧ (3 : Int) ≤ _; omega,
  .inl ⟨rfl, by show (0 : Int) ≤ k ∧ (k : Int) ≤ 1000; omega, by show (0 : Int) ≤ 0 ∧ (0 : Int) ≤ 1000; omega, by show (0 : Int) ≤ 0 ∧ (0 : Int) ≤ 1000; omega, by show (l.drop k).length ≤ 32; rw [List.length_drop]; omega⟩⟩
theorem sPkt_wf (l : List UInt8) (k : Nat) : (sPkt l k).WF := ⟨by show (0 : Int) ≤ 0; omega, by show (0 : Int) < _; omega⟩
theorem aPkt_wf (a : Int) : (aPkt a).WF := ⟨by show (0 : Int) ≤ 0; omega, by show (0 : Int) < _; omega⟩
set_option maxHeartbeats 8000000 in
theorem law_CoreSends (A : Option Addr) (n c : Nat) (l0 : List UInt8) (ack : Int) (w : World) (hA : LiesB w w.heap.size A n l0) (hc : n ≤ c) (hcm : c ≤ maxLen) (lo1 : -9223372036854775808 ≤ ack) (hi1 : ack ≤ 9223372036854775807) :
    Calls Try.prog 5 #[.slice A n c, .int .i64 ack] w fun e w' => e = .returned (.bool true) ∧ Below w.heap.size w w' := by
  have HA0 := hide hA
  have HCC := hide hc
  obtain ⟨l, hl⟩ : ∃ l, l = l0.take 16 := ⟨_, rfl⟩
  obtain ⟨m, hm⟩ : ∃ m, m = min 16 n := ⟨_, rfl⟩
  have HA : Hid (LiesB w w.heap.size A m l) := by show LiesB _ _ _ _ _; rw [hm, hl]; exact hA.take 16
  have hm16 : m ≤ 16 := by omega
  have hmc : m ≤ c := by omega
  have HM := hide hm
  have HLN : Hid (l.length = m) := HA.out.len
  clear hA hc hcm hl hm
  go_enter Try.func5, Try.ntmps5
  go_wp2_with fail
  refine Calls.mono (begun21 _) ?_
  rintro e w1 ⟨rfl, hb1⟩
  have HB1 := hide hb1
  have HA1 := hide (HA.out.below hb1)
  clear hb1
  go_wp2_with fail
  refine Calls.mono (law_Short A n c 16 16 _ HCC.out rfl (by omega)) ?_
  rintro e w2 ⟨rfl, rfl⟩
  rw [← HM.out]
  go_wp2_with fail
  refine Calls.mono (use_New sCfg sCfg_fine w1) ?_
  rintro r w2 ⟨x, p2, rfl, hc2⟩
  have H2 : Hid (HC w1.heap.size w1 w2 x p2 (sSt [] 0 0)) := hc2
  have HS1 : Hid (w.heap.size ≤ w1.heap.size) := HB1.out.size
  clear hc2
  go_wp2_with fail
  go_loopg [8] m (fun gg s8 wr => ∃ (k : Nat) (p : CP), k ≤ m ∧ gg = m - k ∧ s8 = .int .i64 (k : Int) ∧ Hid (HC w1.heap.size w1 wr x p (sSt (l.take k) 0 0)))
  case atStart => exact ⟨0, p2, by omega, rfl, rfl, H2⟩
  case round =>
    obtain ⟨W1, hW1⟩ : ∃ W1, W1 = wr := ⟨_, rfl⟩
    subst hW1
    obtain ⟨k, p, hkm, rfl, rfl, H3⟩ := hrel
    have HAW : Hid (LiesB W1 w.heap.size A m l) := HA1.out.below (H3.out.bel.mono HS1.out)
    by_cases hlt : k < m
    · obtain ⟨ab, ao, hlk, rfl, hab, hcell⟩ := HAW.out.at_ hlt
      have hkm2 : (k : Int) < (m : Int) := by omega
      have hkl : (l.take k).length < 16 := by rw [List.length_take]; omega
      have HE : Hid ((sSt (l.take k) 0 0).pressErr = 0) := sSt_err hkl
      have HP : Hid ((sSt (l.take k) 0 0).press l[k] = sSt (l.take (k + 1)) 0 0) := by show _ = _; rw [sSt_press hkl, List.take_succ_eq_append_getElem hlk]
      clear hkl
      go_wp2_with fail
      refine Calls.mono (use_Press H3.out l[k] rfl HE.out HP.out) ?_
      rintro r w4 ⟨rfl, p4, hc4, -⟩
      have H4 := hide hc4
      clear hc4
      go_wp2_with fail
      go_roundg (m - (k + 1))
      case measure => omega
      case rel => exact ⟨k + 1, p4, by omega, rfl, by go_num, H4⟩
    · obtain rfl : m = k := by omega
      have H4 : Hid (HC w1.heap.size w1 W1 x p (sSt l 0 0)) := by
        have := H3.out
        rw [List.take_of_length_le (by rw [HLN.out]; exact Nat.le_refl _)] at this
        exact this
      clear H3 hlt hkm
      by_cases hr : ack < 0 ∨ 1000 < ack
      · obtain ⟨z1, d1⟩ : ∃ z, (decide (ack < 0)) = z := ⟨_, rfl⟩
        obtain ⟨z2, d2⟩ : ∃ z, (decide (ack > 1000)) = z := ⟨_, rfl⟩
        have hz : (z1 || z2) = true := by
          rw [← d1, ← d2]
          simp only [Bool.or_eq_true, decide_eq_true_eq]
          omega
        have HZ := hide hz
        clear hr hz
        go_upto_region 13 with fail
        go_cut [43] (fun s43 wx => s43 = .bool true ∧ wx = W1)
        case first =>
          cases z1
          case true => go_wp2_with fail; go_meet; exact ⟨rfl, rfl⟩
          cases z2
          case true => go_wp2_with fail; go_meet; exact ⟨rfl, rfl⟩
          exact absurd HZ.out (by decide)
        case rest =>
        obtain ⟨rfl, rfl⟩ := hcut
        go_wp2_with fail
        go_ret
        exact ⟨rfl, HB1.out.trans (H4.out.bel.mono HS1.out)⟩
      · have d1 : decide (ack < 0) = false := decide_eq_false (by omega)
        have d2 : decide (ack > 1000) = false := decide_eq_false (by omega)
        obtain ⟨a, ha⟩ : ∃ a : Nat, ack = (a : Int) := ⟨ack.toNat, by omega⟩
        have ha1000 : a ≤ 1000 := by omega
        have HACK := hide ha
        clear hr ha
        go_upto_region 15 with fail
        clear d1 d2
        rw [HACK.out]
        go_wp2_with fail
        refine Calls.mono (ref_Packet (aPkt a) (LiesB.nil W1 0 none) (Nat.zero_le _) (by omega) (aPkt_wf a)) ?_
        rintro r w4 ⟨A4, n4, c4, rfl, ho4, hb4⟩
        have hn4 : n4 ≤ 100 := by have := ho4.len; have := Pkt.enc_short (aPkt a); omega
        have HO4 := hide ho4
        have H5 := hide (H4.out.below hb4)
        clear ho4 hb4
        obtain ⟨k, hk⟩ : ∃ k : Nat, k = (if a ≤ l.length then a else 0) := ⟨_, rfl⟩
        have hkm : k ≤ m := by rw [hk]; have := HLN.out; split <;> omega
        have HK := hide hk
        clear hk
        go_wp2_with fail
        refine Calls.mono (use_Receive_yes H5.out rfl (by show (0 : Nat) ≤ _; omega) (aPkt a) (Pkt.enc_is (aPkt_may (by omega) (by omega)) (aPkt_wf a)) HO4.out.lies (Nat.le_refl _) HO4.out.cap (by omega) (R := 0) rfl (S := sSt l k 0) (by rw [if_pos (show (sSt l 0 0).fits (aPkt a) = true from rfl), sSt_hear, HK.out])) ?_
        rintro r w6 ⟨rfl, p6, hc6, -⟩
        have H6 := hide hc6
        clear hc6
        go_wp2_with fail
        refine Calls.mono (use_Tick H6.out (by show (0 : Int) < _; omega) (by show (0 : Nat) ≤ _; omega) (sSt_mails (by rw [HLN.out]; exact hm16) (by rw [HLN.out]; exact hkm)) (S := sSt l k 1) rfl) ?_
        rintro r w7 ⟨mA, mn, mc, xs, rfl, hml, hxs, p7, hc7, -, -⟩
        have hx1 : xs.length = 1 := by have := congrArg List.length hxs; simpa using this
        have hmn : mn = 1 := by rw [← hml.len]; exact hx1
        subst hmn
        have H7 := hide hc7
        obtain ⟨mg, rfl, -, -, mb⟩ := mail_cell hml.row (i := 0) (by omega) (by omega)
        have hb1 : (xs[0]'(by omega)).1.b = (sPkt l k).enc := by
          have h2 : (xs.map Prod.fst)[0]? = some ⟨0, 1, (sPkt l k).enc⟩ := by rw [hxs]; rfl
          rw [List.getElem?_map, List.getElem?_eq_getElem (by omega)] at h2
          injection h2 with h2
          rw [h2]
        have hob := hml.line _ (List.getElem_mem (show 0 < xs.length by omega))
        rw [hb1] at hob
        obtain ⟨⟨bA, bn, bc⟩, hbs⟩ : ∃ b : Sl, b = (xs[0]'(by omega)).2 := ⟨_, rfl⟩
        rw [← hbs] at mb hob
        have mb2 : w7.cell? ⟨mg, 2, none⟩ = some (.slice bA bn bc) := mb
        have HOB := hide hob
        have HIS : Hid (Pkt.Is (sPkt l k).enc (sPkt l k)) := Pkt.enc_is (sPkt_may (by rw [HLN.out]; exact hm16) (by rw [HLN.out]; exact hkm)) (sPkt_wf l k)
        have hbn : bn ≤ 100 := by have h1 := hob.len; have := Pkt.enc_short (sPkt l k); simp only at h1; omega
        clear hml hxs hc7 hx1 hb1 hob hbs mb
        go_wp2_with fail
        refine Calls.mono (ref_Unpacket_yes (sPkt l k) HIS.out HOB.out.lies (Nat.le_refl _) HOB.out.cap (by omega)) ?_
        rintro r w8 ⟨A8, n8, c8, rfl, hl8, hb8⟩
        have HL8 := hide hl8
        have H8 := hide (H7.out.below hb8)
        clear hl8 hb8 mb2
        go_upto_region 20 with (refine wpP_init rfl (.tmp 10) (.tmp 60) rfl (sPkt l k) A8 n8 c8 rfl rfl rfl ?_; intro w9 ha9 hb9 hs9)
        have HP9 := hide ha9
        have HL9 := hide (HL8.out.below hb9)
        have H9 := hide (H8.out.below hb9)
        have HAX : Hid (LiesB w9 w.heap.size A m l) := HA1.out.below (H9.out.bel.mono HS1.out)
        generalize w8.heap.size = g at ha9 HP9 ⊢
        clear ha9 hb9 hs9
        by_cases hgt : a > m
        · obtain rfl : k = 0 := by rw [HK.out, HLN.out, if_neg (by omega)]
          have d1 : decide ((a : Int) > (m : Int)) = true := decide_eq_true (by omega)
          have d2 : m < a := hgt
          clear hgt
          go_upto_region 23 with fail
          have HRA : Hid (Reads A8 n8 c8 l w9.drew) := LiesB.reads (B := w8.heap.size) (l := l) HL9.out.drew
          have HRB : Hid (Reads A m c l w9.drew) := HAX.out.drew.reads
          have q4 : w9.cell? ⟨g, 4, none⟩ = some (.int .i64 ((0 : Nat) : Int)) := HP9.out.cell (j := 4) (by simp)
          have q5 : w9.cell? ⟨g, 5, none⟩ = some (.slice A8 n8 c8) := HP9.out.cell (j := 5) (by simp)
          have q6 : w9.cell? ⟨g, 6, none⟩ = some (.int .i64 0) := HP9.out.cell (j := 6) (by simp)
          have q7 : w9.cell? ⟨g, 7, none⟩ = some (.int .i64 0) := HP9.out.cell (j := 7) (by simp)
          have q2 : w9.cell? ⟨g, 2, none⟩ = some (.int .i64 1) := HP9.out.cell (j := 2) (by simp)
          clear d1 d2
          refine wp_region_noPanic ?_
          refine wp_region_held_drew (S := (fun w' => w'.cell? ⟨g, 4, none⟩ = some (.int .i64 ((0 : Nat) : Int)) ∧ w'.cell? ⟨g, 5, none⟩ = some (.slice A8 n8 c8) ∧ w'.cell? ⟨g, 6, none⟩ = some (.int .i64 0) ∧ w'.cell? ⟨g, 7, none⟩ = some (.int .i64 0) ∧ w'.cell? ⟨g, 2, none⟩ = some (.int .i64 1) ∧ Reads A8 n8 c8 l w' ∧ Reads A m c l w')) (by kernel_rfl) ⟨q4, q5, q6, q7, q2, HRA.out, HRB.out⟩ (fun hHeld => ?_)
          refine wpAnyH_take (i := 0) (oi := ?_) (v := ?_) ?_ (by kernel_rfl) (by kernel_rfl) (by kernel_rfl) ?_ ?_ (by assumption) ?_
          rotate_left 2
          · (simp only [List.getElem?_toArray, List.getElem?_cons_zero]; rfl)
          · exact fun _ _ _ h => h
          · (refine Or.inl ⟨by rfl, ?_⟩; intro w hSw; (try dsimp only at hSw); go_simp <;> with_reducible rfl)
          try simp only [Act.put, List.setIfInBounds_toArray, List.set_cons_zero, List.set_cons_succ]
          refine wpAnyH_take (i := 1) (oi := ?_) (v := ?_) ?_ (by kernel_rfl) (by kernel_rfl) (by kernel_rfl) ?_ ?_ (by assumption) ?_
          rotate_left 2
          · (simp only [List.getElem?_toArray, List.getElem?_cons_succ, List.getElem?_cons_zero]; rfl)
          · exact fun _ _ _ h => h
          · (refine Or.inl ⟨by rfl, ?_⟩; intro w hSw; (try dsimp only at hSw); go_simp <;> with_reducible rfl)
          try simp only [Act.put, List.setIfInBounds_toArray, List.set_cons_zero, List.set_cons_succ]
          refine wpAnyH_take (i := 2) (oi := ?_) (v := ?_) ?_ (by kernel_rfl) (by kernel_rfl) (by kernel_rfl) ?_ ?_ (by assumption) ?_
          rotate_left 2
          · (simp only [List.getElem?_toArray, List.getElem?_cons_succ, List.getElem?_cons_zero]; rfl)
          · exact fun _ _ _ h => h
          · (refine Or.inl ⟨by rfl, ?_⟩; intro w hSw; (try dsimp only at hSw); go_simp <;> with_reducible rfl)
          try simp only [Act.put, List.setIfInBounds_toArray, List.set_cons_zero, List.set_cons_succ]
          refine wpAnyH_take (i := 3) (oi := ?_) (v := ?_) ?_ (by kernel_rfl) (by kernel_rfl) (by kernel_rfl) ?_ ?_ (by assumption) ?_
          rotate_left 2
          · (simp only [List.getElem?_toArray, List.getElem?_cons_succ, List.getElem?_cons_zero]; rfl)
          · exact fun _ _ _ h => h
          · (refine Or.inl ⟨by rfl, ?_⟩; intro w hSw; (try dsimp only at hSw); go_simp <;> with_reducible rfl)
          try simp only [Act.put, List.setIfInBounds_toArray, List.set_cons_zero, List.set_cons_succ]
          refine wpAnyH_take (i := 4) (oi := ?_) (v := ?_) ?_ (by kernel_rfl) (by kernel_rfl) (by kernel_rfl) ?_ ?_ (by assumption) ?_
          rotate_left 2
          · (simp only [List.getElem?_toArray, List.getElem?_cons_succ, List.getElem?_cons_zero]; rfl)
          · exact fun _ _ _ h => h
          · (refine Or.inl ⟨by rfl, ?_⟩; intro w hSw; (try dsimp only at hSw); go_simp <;> with_reducible rfl)
          try simp only [Act.put, List.setIfInBounds_toArray, List.set_cons_zero, List.set_cons_succ]
          refine wpAnyH_take (i := 5) (oi := ?_) (v := ?_) ?_ (by kernel_rfl) (by kernel_rfl) (by kernel_rfl) ?_ ?_ (by assumption) ?_
          rotate_left 2
          · (simp only [List.getElem?_toArray, List.getElem?_cons_succ, List.getElem?_cons_zero]; rfl)
          · exact fun _ _ _ h => h
          · (refine Or.inl ⟨by rfl, ?_⟩; intro w hSw; (try dsimp only at hSw); go_simp <;> with_reducible rfl)
          try simp only [Act.put, List.setIfInBounds_toArray, List.set_cons_zero, List.set_cons_succ]
          refine wpAnyH_take (i := 6) (oi := ?_) (v := ?_) ?_ (by kernel_rfl) (by kernel_rfl) (by kernel_rfl) ?_ ?_ (by assumption) ?_
          rotate_left 2
          · (simp only [List.getElem?_toArray, List.getElem?_cons_succ, List.getElem?_cons_zero]; rfl)
          · exact fun _ _ _ h => h
          · (refine Or.inl ⟨by rfl, ?_⟩; intro w hSw; (try dsimp only at hSw); go_simp <;> with_reducible rfl)
          try simp only [Act.put, List.setIfInBounds_toArray, List.set_cons_zero, List.set_cons_succ]
          refine wpAnyH_take (i := 7) (oi := ?_) (v := ?_) ?_ (by kernel_rfl) (by kernel_rfl) (by kernel_rfl) ?_ ?_ (by assumption) ?_
          rotate_left 2
          · (simp only [List.getElem?_toArray, List.getElem?_cons_succ, List.getElem?_cons_zero]; rfl)
          · exact fun _ _ _ h => h
          · (refine Or.inl ⟨by rfl, ?_⟩; intro w hSw; (try dsimp only at hSw); go_simp <;> with_reducible rfl)
          try simp only [Act.put, List.setIfInBounds_toArray, List.set_cons_zero, List.set_cons_succ]
          refine wpAnyH_take (i := 8) (oi := ?_) (v := ?_) ?_ (by kernel_rfl) (by kernel_rfl) (by kernel_rfl) ?_ ?_ (by assumption) ?_
          rotate_left 2
          · (simp only [List.getElem?_toArray, List.getElem?_cons_succ, List.getElem?_cons_zero]; rfl)
          · exact fun _ _ _ h => h
          · (refine Or.inl ⟨by rfl, ?_⟩; intro w hSw; (try dsimp only at hSw); go_simp <;> with_reducible rfl)
          try simp only [Act.put, List.setIfInBounds_toArray, List.set_cons_zero, List.set_cons_succ]
          refine wpAnyH_take (i := 9) (oi := ?_) (v := ?_) ?_ (by kernel_rfl) (by kernel_rfl) (by kernel_rfl) ?_ ?_ (by assumption) ?_
          rotate_left 2
          · (simp only [List.getElem?_toArray, List.getElem?_cons_succ, List.getElem?_cons_zero]; rfl)
          · exact fun _ _ _ h => h
          · (refine Or.inl ⟨by rfl, ?_⟩; intro w hSw; (try dsimp only at hSw); go_simp <;> with_reducible rfl)
          try simp only [Act.put, List.setIfInBounds_toArray, List.set_cons_zero, List.set_cons_succ]
          refine wpAnyH_take (i := 10) (oi := ?_) (v := ?_) ?_ (by kernel_rfl) (by kernel_rfl) (by kernel_rfl) ?_ ?_ (by assumption) ?_
          rotate_left 2
          · (simp only [List.getElem?_toArray, List.getElem?_cons_succ, List.getElem?_cons_zero]; rfl)
          · exact fun _ _ _ h => h
          · (refine Or.inl ⟨by rfl, ?_⟩; intro w hSw; (try dsimp only at hSw); have q1 := hSw.2.2.2.2.2.1; unfold Reads at q1; go_simp <;> with_reducible rfl)
          try simp only [Act.put, List.setIfInBounds_toArray, List.set_cons_zero, List.set_cons_succ]
          refine wpAnyH_take (i := 11) (oi := ?_) (v := ?_) ?_ (by kernel_rfl) (by kernel_rfl) (by kernel_rfl) ?_ ?_ (by assumption) ?_
          rotate_left 2
          · (simp only [List.getElem?_toArray, List.getElem?_cons_succ, List.getElem?_cons_zero]; rfl)
          · exact fun _ _ _ h => h
          · (refine Or.inl ⟨by rfl, ?_⟩; intro w hSw; (try dsimp only at hSw); go_simp <;> with_reducible rfl)
          try simp only [Act.put, List.setIfInBounds_toArray, List.set_cons_zero, List.set_cons_succ]
          refine wpAnyH_take (i := 12) (oi := ?_) (v := ?_) ?_ (by kernel_rfl) (by kernel_rfl) (by kernel_rfl) ?_ ?_ (by assumption) ?_
          rotate_left 2
          · (simp only [List.getElem?_toArray, List.getElem?_cons_succ, List.getElem?_cons_zero]; rfl)
          · exact fun _ _ _ h => h
          · (refine Or.inl ⟨by rfl, ?_⟩; intro w hSw; (try dsimp only at hSw); go_simp <;> with_reducible rfl)
          try simp only [Act.put, List.setIfInBounds_toArray, List.set_cons_zero, List.set_cons_succ]
          refine wpAnyH_take (i := 13) (oi := ?_) (v := .slice A m c) ?_ (by kernel_rfl) (by kernel_rfl) (by kernel_rfl) ?_ ?_ (by assumption) ?_
          rotate_left 1
          · (simp only [List.getElem?_toArray, List.getElem?_cons_succ, List.getElem?_cons_zero]; rfl)
          · exact fun _ _ _ h => h
          · (refine Or.inl ⟨by rfl, ?_⟩; intro w hSw; (try dsimp only at hSw); (go_simp <;> with_reducible rfl))
          try simp only [Act.put, List.setIfInBounds_toArray, List.set_cons_zero, List.set_cons_succ]
          refine wpAnyH_take (i := 14) (oi := ?_) (v := ?_) ?_ (by kernel_rfl) (by kernel_rfl) (by kernel_rfl) ?_ ?_ (by assumption) ?_
          rotate_left 2
          · (simp only [List.getElem?_toArray, List.getElem?_cons_succ, List.getElem?_cons_zero]; rfl)
          · exact fun _ _ _ h => h
          · (refine Or.inl ⟨by rfl, ?_⟩; intro w hSw; (try dsimp only at hSw); have q1 := hSw.2.2.2.2.2.2; unfold Reads at q1; go_simp <;> with_reducible rfl)
          try simp only [Act.put, List.setIfInBounds_toArray, List.set_cons_zero, List.set_cons_succ]
          refine wpAnyH_take (i := 15) (oi := ?_) (v := ?_) ?_ (by kernel_rfl) (by kernel_rfl) (by kernel_rfl) ?_ ?_ (by assumption) ?_
          rotate_left 2
          · (simp only [List.getElem?_toArray, List.getElem?_cons_succ, List.getElem?_cons_zero]; rfl)
          · exact fun _ _ _ h => h
          · (refine Or.inl ⟨by rfl, ?_⟩; intro w hSw; (try dsimp only at hSw); go_simp <;> with_reducible rfl)
          try simp only [Act.put, List.setIfInBounds_toArray, List.set_cons_zero, List.set_cons_succ]
          refine wpAnyH_take (i := 16) (oi := ?_) (v := ?_) ?_ (by kernel_rfl) (by kernel_rfl) (by kernel_rfl) ?_ ?_ (by assumption) ?_
          rotate_left 2
          · (simp only [List.getElem?_toArray, List.getElem?_cons_succ, List.getElem?_cons_zero]; rfl)
          · exact fun _ _ _ h => h
          · (refine Or.inl ⟨by rfl, ?_⟩; intro w hSw; (try dsimp only at hSw); go_simp <;> with_reducible rfl)
          try simp only [Act.put, List.setIfInBounds_toArray, List.set_cons_zero, List.set_cons_succ]
          refine wpAnyH_take (i := 17) (oi := ?_) (v := ?_) ?_ (by kernel_rfl) (by kernel_rfl) (by kernel_rfl) ?_ ?_ (by assumption) ?_
          rotate_left 2
          · (simp only [List.getElem?_toArray, List.getElem?_cons_succ, List.getElem?_cons_zero]; rfl)
          · exact fun _ _ _ h => h
          · (refine Or.inl ⟨by rfl, ?_⟩; intro w hSw; (try dsimp only at hSw); go_simp <;> with_reducible rfl)
          try simp only [Act.put, List.setIfInBounds_toArray, List.set_cons_zero, List.set_cons_succ]
          refine wpAnyH_take (i := 18) (oi := ?_) (v := ?_) ?_ (by kernel_rfl) (by kernel_rfl) (by kernel_rfl) ?_ ?_ (by assumption) ?_
          rotate_left 2
          · (simp only [List.getElem?_toArray, List.getElem?_cons_succ, List.getElem?_cons_zero]; rfl)
          · exact fun _ _ _ h => h
          · (refine Or.inl ⟨by rfl, ?_⟩; intro w hSw; (try dsimp only at hSw); go_simp <;> with_reducible rfl)
          try simp only [Act.put, List.setIfInBounds_toArray, List.set_cons_zero, List.set_cons_succ]
          refine wpAnyH_take (i := 19) (oi := ?_) (v := ?_) ?_ (by kernel_rfl) (by kernel_rfl) (by kernel_rfl) ?_ ?_ (by assumption) ?_
          rotate_left 2
          · (simp only [List.getElem?_toArray, List.getElem?_cons_succ, List.getElem?_cons_zero]; rfl)
          · exact fun _ _ _ h => h
          · (refine Or.inl ⟨by rfl, ?_⟩; intro w hSw; (try dsimp only at hSw); go_simp <;> with_reducible rfl)
          try simp only [Act.put, List.setIfInBounds_toArray, List.set_cons_zero, List.set_cons_succ]
          refine wpAnyH_take (i := 20) (oi := ?_) (v := ?_) ?_ (by kernel_rfl) (by kernel_rfl) (by kernel_rfl) ?_ ?_ (by assumption) ?_
          rotate_left 2
          · (simp only [List.getElem?_toArray, List.getElem?_cons_succ, List.getElem?_cons_zero]; rfl)
          · exact fun _ _ _ h => h
          · (refine Or.inl ⟨by rfl, ?_⟩; intro w hSw; (try dsimp only at hSw); go_simp <;> with_reducible rfl)
          try simp only [Act.put, List.setIfInBounds_toArray, List.set_cons_zero, List.set_cons_succ]
          refine wpAnyH_take (i := 21) (oi := ?_) (v := ?_) ?_ (by kernel_rfl) (by kernel_rfl) (by kernel_rfl) ?_ ?_ (by assumption) ?_
          rotate_left 2
          · (simp only [List.getElem?_toArray, List.getElem?_cons_succ, List.getElem?_cons_zero]; rfl)
          · exact fun _ _ _ h => h
          · (refine Or.inl ⟨by rfl, ?_⟩; intro w hSw; (try dsimp only at hSw); go_simp <;> with_reducible rfl)
          try simp only [Act.put, List.setIfInBounds_toArray, List.set_cons_zero, List.set_cons_succ]
          refine wpAnyH_take (i := 22) (oi := ?_) (v := ?_) ?_ (by kernel_rfl) (by kernel_rfl) (by kernel_rfl) ?_ ?_ (by assumption) ?_
          rotate_left 2
          · (simp only [List.getElem?_toArray, List.getElem?_cons_succ, List.getElem?_cons_zero]; rfl)
          · exact fun _ _ _ h => h
          · (refine Or.inl ⟨by rfl, ?_⟩; intro w hSw; (try dsimp only at hSw); go_simp <;> with_reducible rfl)
          try simp only [Act.put, List.setIfInBounds_toArray, List.set_cons_zero, List.set_cons_succ]
          refine wpAnyH_take (i := 23) (oi := ?_) (v := ?_) ?_ (by kernel_rfl) (by kernel_rfl) (by kernel_rfl) ?_ ?_ (by assumption) ?_
          rotate_left 2
          · (simp only [List.getElem?_toArray, List.getElem?_cons_succ, List.getElem?_cons_zero]; rfl)
          · exact fun _ _ _ h => h
          · (refine Or.inl ⟨by rfl, ?_⟩; intro w hSw; (try dsimp only at hSw); go_simp <;> with_reducible rfl)
          try simp only [Act.put, List.setIfInBounds_toArray, List.set_cons_zero, List.set_cons_succ]
          refine wpAnyH_take (i := 24) (oi := ?_) (v := ?_) ?_ (by kernel_rfl) (by kernel_rfl) (by kernel_rfl) ?_ ?_ (by assumption) ?_
          rotate_left 2
          · (simp only [List.getElem?_toArray, List.getElem?_cons_succ, List.getElem?_cons_zero]; rfl)
          · exact fun _ _ _ h => h
          · (refine Or.inl ⟨by rfl, ?_⟩; intro w hSw; (try dsimp only at hSw); go_simp <;> with_reducible rfl)
          try simp only [Act.put, List.setIfInBounds_toArray, List.set_cons_zero, List.set_cons_succ]
          refine wpAnyH_take (i := 25) (oi := ?_) (v := ?_) ?_ (by kernel_rfl) (by kernel_rfl) (by kernel_rfl) ?_ ?_ (by assumption) ?_
          rotate_left 2
          · (simp only [List.getElem?_toArray, List.getElem?_cons_succ, List.getElem?_cons_zero]; rfl)
          · exact fun _ _ _ h => h
          · (refine Or.inl ⟨by rfl, ?_⟩; intro w hSw; (try dsimp only at hSw); go_simp <;> with_reducible rfl)
          try simp only [Act.put, List.setIfInBounds_toArray, List.set_cons_zero, List.set_cons_succ]
          refine wpAnyH_take (i := 26) (oi := ?_) (v := ?_) ?_ (by kernel_rfl) (by kernel_rfl) (by kernel_rfl) ?_ ?_ (by assumption) ?_
          rotate_left 2
          · (simp only [List.getElem?_toArray, List.getElem?_cons_succ, List.getElem?_cons_zero]; rfl)
          · exact fun _ _ _ h => h
          · (refine Or.inl ⟨by rfl, ?_⟩; intro w hSw; (try dsimp only at hSw); go_simp <;> with_reducible rfl)
          try simp only [Act.put, List.setIfInBounds_toArray, List.set_cons_zero, List.set_cons_succ]
          refine wpAnyH_take (i := 27) (oi := ?_) (v := ?_) ?_ (by kernel_rfl) (by kernel_rfl) (by kernel_rfl) ?_ ?_ (by assumption) ?_
          rotate_left 2
          · (simp only [List.getElem?_toArray, List.getElem?_cons_succ, List.getElem?_cons_zero]; rfl)
          · exact fun _ _ _ h => h
          · (refine Or.inl ⟨by rfl, ?_⟩; intro w hSw; (try dsimp only at hSw); go_simp <;> with_reducible rfl)
          try simp only [Act.put, List.setIfInBounds_toArray, List.set_cons_zero, List.set_cons_succ]
          refine wpAnyH_take (i := 28) (oi := ?_) (v := ?_) ?_ (by kernel_rfl) (by kernel_rfl) (by kernel_rfl) ?_ ?_ (by assumption) ?_
          rotate_left 2
          · (simp only [List.getElem?_toArray, List.getElem?_cons_succ, List.getElem?_cons_zero]; rfl)
          · exact fun _ _ _ h => h
          · (refine Or.inl ⟨by rfl, ?_⟩; intro w hSw; (try dsimp only at hSw); go_simp <;> with_reducible rfl)
          try simp only [Act.put, List.setIfInBounds_toArray, List.set_cons_zero, List.set_cons_succ]
          refine wpAnyH_take (i := 29) (oi := ?_) (v := ?_) ?_ (by kernel_rfl) (by kernel_rfl) (by kernel_rfl) ?_ ?_ (by assumption) ?_
          rotate_left 2
          · (simp only [List.getElem?_toArray, List.getElem?_cons_succ, List.getElem?_cons_zero]; rfl)
          · exact fun _ _ _ h => h
          · (refine Or.inl ⟨by rfl, ?_⟩; intro w hSw; (try dsimp only at hSw); go_simp <;> with_reducible rfl)
          try simp only [Act.put, List.setIfInBounds_toArray, List.set_cons_zero, List.set_cons_succ]
          refine wpAnyH_take (i := 30) (oi := ?_) (v := ?_) ?_ (by kernel_rfl) (by kernel_rfl) (by kernel_rfl) ?_ ?_ (by assumption) ?_
          rotate_left 2
          · (simp only [List.getElem?_toArray, List.getElem?_cons_succ, List.getElem?_cons_zero]; rfl)
          · exact fun _ _ _ h => h
          · (refine Or.inl ⟨by rfl, ?_⟩; intro w hSw; (try dsimp only at hSw); go_simp <;> with_reducible rfl)
          try simp only [Act.put, List.setIfInBounds_toArray, List.set_cons_zero, List.set_cons_succ]
          refine wpAnyH_take (i := 31) (oi := ?_) (v := ?_) ?_ (by kernel_rfl) (by kernel_rfl) (by kernel_rfl) ?_ ?_ (by assumption) ?_
          rotate_left 2
          · (simp only [List.getElem?_toArray, List.getElem?_cons_succ, List.getElem?_cons_zero]; rfl)
          · exact fun _ _ _ h => h
          · (refine Or.inl ⟨by rfl, ?_⟩; intro w hSw; (try dsimp only at hSw); go_simp <;> with_reducible rfl)
          try simp only [Act.put, List.setIfInBounds_toArray, List.set_cons_zero, List.set_cons_succ]
          refine wpAnyH_take (i := 32) (oi := ?_) (v := ?_) ?_ (by kernel_rfl) (by kernel_rfl) (by kernel_rfl) ?_ ?_ (by assumption) ?_
          rotate_left 2
          · (simp only [List.getElem?_toArray, List.getElem?_cons_succ, List.getElem?_cons_zero]; rfl)
          · exact fun _ _ _ h => h
          · (refine Or.inl ⟨by rfl, ?_⟩; intro w hSw; (try dsimp only at hSw); go_simp <;> with_reducible rfl)
          try simp only [Act.put, List.setIfInBounds_toArray, List.set_cons_zero, List.set_cons_succ]
          refine wpAnyH_done (by kernel_rfl) (NoPanic.normal ?_) _
          go_wp2_with fail
          go_ret
          exact ⟨rfl, (HB1.out.trans (H9.out.bel.mono HS1.out)).drew⟩
        · obtain rfl : a = k := by rw [HK.out, HLN.out, if_pos (by omega)]
          have d1 : decide ((a : Int) > (m : Int)) = false := decide_eq_false (by omega)
          have d2 : ¬ m < a := hgt
          clear hgt
          go_upto_region 23 with fail
          have HRA : Hid (Reads A8 n8 c8 (l.drop a) w9.drew) := HL9.out.drew.reads
          have HRB : Hid (Reads (cutA A c a 1) (m - a) (c - a) (l.drop a) w9.drew) := (LiesB.cut HAX.out.drew (k := a) (cap := c) hmc).reads
          have q4 : w9.cell? ⟨g, 4, none⟩ = some (.int .i64 ((a : Nat) : Int)) := HP9.out.cell (j := 4) (by simp)
          have q5 : w9.cell? ⟨g, 5, none⟩ = some (.slice A8 n8 c8) := HP9.out.cell (j := 5) (by simp)
          have q6 : w9.cell? ⟨g, 6, none⟩ = some (.int .i64 0) := HP9.out.cell (j := 6) (by simp)
          have q7 : w9.cell? ⟨g, 7, none⟩ = some (.int .i64 0) := HP9.out.cell (j := 7) (by simp)
          have q2 : w9.cell? ⟨g, 2, none⟩ = some (.int .i64 1) := HP9.out.cell (j := 2) (by simp)
          clear d1 d2
          refine wp_region_noPanic ?_
          refine wp_region_held_drew (S := (fun w' => w'.cell? ⟨g, 4, none⟩ = some (.int .i64 ((a : Nat) : Int)) ∧ w'.cell? ⟨g, 5, none⟩ = some (.slice A8 n8 c8) ∧ w'.cell? ⟨g, 6, none⟩ = some (.int .i64 0) ∧ w'.cell? ⟨g, 7, none⟩ = some (.int .i64 0) ∧ w'.cell? ⟨g, 2, none⟩ = some (.int .i64 1) ∧ Reads A8 n8 c8 (l.drop a) w' ∧ Reads (cutA A c a 1) (m - a) (c - a) (l.drop a) w')) (by kernel_rfl) ⟨q4, q5, q6, q7, q2, HRA.out, HRB.out⟩ (fun hHeld => ?_)
          refine wpAnyH_take (i := 0) (oi := ?_) (v := ?_) ?_ (by kernel_rfl) (by kernel_rfl) (by kernel_rfl) ?_ ?_ (by assumption) ?_
          rotate_left 2
          · (simp only [List.getElem?_toArray, List.getElem?_cons_zero]; rfl)
          · exact fun _ _ _ h => h
          · (refine Or.inl ⟨by rfl, ?_⟩; intro w hSw; (try dsimp only at hSw); go_simp <;> with_reducible rfl)
          try simp only [Act.put, List.setIfInBounds_toArray, List.set_cons_zero, List.set_cons_succ]
          refine wpAnyH_take (i := 1) (oi := ?_) (v := ?_) ?_ (by kernel_rfl) (by kernel_rfl) (by kernel_rfl) ?_ ?_ (by assumption) ?_
          rotate_left 2
          · (simp only [List.getElem?_toArray, List.getElem?_cons_succ, List.getElem?_cons_zero]; rfl)
          · exact fun _ _ _ h => h
          · (refine Or.inl ⟨by rfl, ?_⟩; intro w hSw; (try dsimp only at hSw); go_simp <;> with_reducible rfl)
          try simp only [Act.put, List.setIfInBounds_toArray, List.set_cons_zero, List.set_cons_succ]
          refine wpAnyH_take (i := 2) (oi := ?_) (v := ?_) ?_ (by kernel_rfl) (by kernel_rfl) (by kernel_rfl) ?_ ?_ (by assumption) ?_
          rotate_left 2
          · (simp only [List.getElem?_toArray, List.getElem?_cons_succ, List.getElem?_cons_zero]; rfl)
          · exact fun _ _ _ h => h
          · (refine Or.inl ⟨by rfl, ?_⟩; intro w hSw; (try dsimp only at hSw); go_simp <;> with_reducible rfl)
          try simp only [Act.put, List.setIfInBounds_toArray, List.set_cons_zero, List.set_cons_succ]
          refine wpAnyH_take (i := 3) (oi := ?_) (v := ?_) ?_ (by kernel_rfl) (by kernel_rfl) (by kernel_rfl) ?_ ?_ (by assumption) ?_
          rotate_left 2
          · (simp only [List.getElem?_toArray, List.getElem?_cons_succ, List.getElem?_cons_zero]; rfl)
          · exact fun _ _ _ h => h
          · (refine Or.inl ⟨by rfl, ?_⟩; intro w hSw; (try dsimp only at hSw); go_simp <;> with_reducible rfl)
          try simp only [Act.put, List.setIfInBounds_toArray, List.set_cons_zero, List.set_cons_succ]
          refine wpAnyH_take (i := 4) (oi := ?_) (v := ?_) ?_ (by kernel_rfl) (by kernel_rfl) (by kernel_rfl) ?_ ?_ (by assumption) ?_
          rotate_left 2
          · (simp only [List.getElem?_toArray, List.getElem?_cons_succ, List.getElem?_cons_zero]; rfl)
          · exact fun _ _ _ h => h
          · (refine Or.inl ⟨by rfl, ?_⟩; intro w hSw; (try dsimp only at hSw); go_simp <;> with_reducible rfl)
          try simp only [Act.put, List.setIfInBounds_toArray, List.set_cons_zero, List.set_cons_succ]
          refine wpAnyH_take (i := 5) (oi := ?_) (v := ?_) ?_ (by kernel_rfl) (by kernel_rfl) (by kernel_rfl) ?_ ?_ (by assumption) ?_
          rotate_left 2
          · (simp only [List.getElem?_toArray, List.getElem?_cons_succ, List.getElem?_cons_zero]; rfl)
          · exact fun _ _ _ h => h
          · (refine Or.inl ⟨by rfl, ?_⟩; intro w hSw; (try dsimp only at hSw); go_simp <;> with_reducible rfl)
          try simp only [Act.put, List.setIfInBounds_toArray, List.set_cons_zero, List.set_cons_succ]
          refine wpAnyH_take (i := 6) (oi := ?_) (v := ?_) ?_ (by kernel_rfl) (by kernel_rfl) (by kernel_rfl) ?_ ?_ (by assumption) ?_
          rotate_left 2
          · (simp only [List.getElem?_toArray, List.getElem?_cons_succ, List.getElem?_cons_zero]; rfl)
          · exact fun _ _ _ h => h
          · (refine Or.inl ⟨by rfl, ?_⟩; intro w hSw; (try dsimp only at hSw); go_simp <;> with_reducible rfl)
          try simp only [Act.put, List.setIfInBounds_toArray, List.set_cons_zero, List.set_cons_succ]
          refine wpAnyH_take (i := 7) (oi := ?_) (v := ?_) ?_ (by kernel_rfl) (by kernel_rfl) (by kernel_rfl) ?_ ?_ (by assumption) ?_
          rotate_left 2
          · (simp only [List.getElem?_toArray, List.getElem?_cons_succ, List.getElem?_cons_zero]; rfl)
          · exact fun _ _ _ h => h
          · (refine Or.inl ⟨by rfl, ?_⟩; intro w hSw; (try dsimp only at hSw); go_simp <;> with_reducible rfl)
          try simp only [Act.put, List.setIfInBounds_toArray, List.set_cons_zero, List.set_cons_succ]
          refine wpAnyH_take (i := 8) (oi := ?_) (v := ?_) ?_ (by kernel_rfl) (by kernel_rfl) (by kernel_rfl) ?_ ?_ (by assumption) ?_
          rotate_left 2
          · (simp only [List.getElem?_toArray, List.getElem?_cons_succ, List.getElem?_cons_zero]; rfl)
          · exact fun _ _ _ h => h
          · (refine Or.inl ⟨by rfl, ?_⟩; intro w hSw; (try dsimp only at hSw); go_simp <;> with_reducible rfl)
          try simp only [Act.put, List.setIfInBounds_toArray, List.set_cons_zero, List.set_cons_succ]
          refine wpAnyH_take (i := 9) (oi := ?_) (v := ?_) ?_ (by kernel_rfl) (by kernel_rfl) (by kernel_rfl) ?_ ?_ (by assumption) ?_
          rotate_left 2
          · (simp only [List.getElem?_toArray, List.getElem?_cons_succ, List.getElem?_cons_zero]; rfl)
          · exact fun _ _ _ h => h
          · (refine Or.inl ⟨by rfl, ?_⟩; intro w hSw; (try dsimp only at hSw); go_simp <;> with_reducible rfl)
          try simp only [Act.put, List.setIfInBounds_toArray, List.set_cons_zero, List.set_cons_succ]
          refine wpAnyH_take (i := 10) (oi := ?_) (v := ?_) ?_ (by kernel_rfl) (by kernel_rfl) (by kernel_rfl) ?_ ?_ (by assumption) ?_
          rotate_left 2
          · (simp only [List.getElem?_toArray, List.getElem?_cons_succ, List.getElem?_cons_zero]; rfl)
          · exact fun _ _ _ h => h
          · (refine Or.inl ⟨by rfl, ?_⟩; intro w hSw; (try dsimp only at hSw); have q1 := hSw.2.2.2.2.2.1; unfold Reads at q1; go_simp <;> with_reducible rfl)
          try simp only [Act.put, List.setIfInBounds_toArray, List.set_cons_zero, List.set_cons_succ]
          refine wpAnyH_take (i := 11) (oi := ?_) (v := ?_) ?_ (by kernel_rfl) (by kernel_rfl) (by kernel_rfl) ?_ ?_ (by assumption) ?_
          rotate_left 2
          · (simp only [List.getElem?_toArray, List.getElem?_cons_succ, List.getElem?_cons_zero]; rfl)
          · exact fun _ _ _ h => h
          · (refine Or.inl ⟨by rfl, ?_⟩; intro w hSw; (try dsimp only at hSw); go_simp <;> with_reducible rfl)
          try simp only [Act.put, List.setIfInBounds_toArray, List.set_cons_zero, List.set_cons_succ]
          refine wpAnyH_take (i := 12) (oi := ?_) (v := ?_) ?_ (by kernel_rfl) (by kernel_rfl) (by kernel_rfl) ?_ ?_ (by assumption) ?_
          rotate_left 2
          · (simp only [List.getElem?_toArray, List.getElem?_cons_succ, List.getElem?_cons_zero]; rfl)
          · exact fun _ _ _ h => h
          · (refine Or.inl ⟨by rfl, ?_⟩; intro w hSw; (try dsimp only at hSw); go_simp <;> with_reducible rfl)
          try simp only [Act.put, List.setIfInBounds_toArray, List.set_cons_zero, List.set_cons_succ]
          refine wpAnyH_take (i := 13) (oi := ?_) (v := .slice (cutA A c a 1) (m - a) (c - a)) ?_ (by kernel_rfl) (by kernel_rfl) (by kernel_rfl) ?_ ?_ (by assumption) ?_
          rotate_left 1
          · (simp only [List.getElem?_toArray, List.getElem?_cons_succ, List.getElem?_cons_zero]; rfl)
          · exact fun _ _ _ h => h
          · (refine Or.inl ⟨by rfl, ?_⟩; intro w hSw; (try dsimp only at hSw); (go_simp <;> with_reducible rfl))
          try simp only [Act.put, List.setIfInBounds_toArray, List.set_cons_zero, List.set_cons_succ]
          refine wpAnyH_take (i := 14) (oi := ?_) (v := ?_) ?_ (by kernel_rfl) (by kernel_rfl) (by kernel_rfl) ?_ ?_ (by assumption) ?_
          rotate_left 2
          · (simp only [List.getElem?_toArray, List.getElem?_cons_succ, List.getElem?_cons_zero]; rfl)
          · exact fun _ _ _ h => h
          · (refine Or.inl ⟨by rfl, ?_⟩; intro w hSw; (try dsimp only at hSw); have q1 := hSw.2.2.2.2.2.2; unfold Reads at q1; go_simp <;> with_reducible rfl)
          try simp only [Act.put, List.setIfInBounds_toArray, List.set_cons_zero, List.set_cons_succ]
          refine wpAnyH_take (i := 15) (oi := ?_) (v := ?_) ?_ (by kernel_rfl) (by kernel_rfl) (by kernel_rfl) ?_ ?_ (by assumption) ?_
          rotate_left 2
          · (simp only [List.getElem?_toArray, List.getElem?_cons_succ, List.getElem?_cons_zero]; rfl)
          · exact fun _ _ _ h => h
          · (refine Or.inl ⟨by rfl, ?_⟩; intro w hSw; (try dsimp only at hSw); go_simp <;> with_reducible rfl)
          try simp only [Act.put, List.setIfInBounds_toArray, List.set_cons_zero, List.set_cons_succ]
          refine wpAnyH_take (i := 16) (oi := ?_) (v := ?_) ?_ (by kernel_rfl) (by kernel_rfl) (by kernel_rfl) ?_ ?_ (by assumption) ?_
          rotate_left 2
          · (simp only [List.getElem?_toArray, List.getElem?_cons_succ, List.getElem?_cons_zero]; rfl)
          · exact fun _ _ _ h => h
          · (refine Or.inl ⟨by rfl, ?_⟩; intro w hSw; (try dsimp only at hSw); go_simp <;> with_reducible rfl)
          try simp only [Act.put, List.setIfInBounds_toArray, List.set_cons_zero, List.set_cons_succ]
          refine wpAnyH_take (i := 17) (oi := ?_) (v := ?_) ?_ (by kernel_rfl) (by kernel_rfl) (by kernel_rfl) ?_ ?_ (by assumption) ?_
          rotate_left 2
          · (simp only [List.getElem?_toArray, List.getElem?_cons_succ, List.getElem?_cons_zero]; rfl)
          · exact fun _ _ _ h => h
          · (refine Or.inl ⟨by rfl, ?_⟩; intro w hSw; (try dsimp only at hSw); go_simp <;> with_reducible rfl)
          try simp only [Act.put, List.setIfInBounds_toArray, List.set_cons_zero, List.set_cons_succ]
          refine wpAnyH_take (i := 18) (oi := ?_) (v := ?_) ?_ (by kernel_rfl) (by kernel_rfl) (by kernel_rfl) ?_ ?_ (by assumption) ?_
          rotate_left 2
          · (simp only [List.getElem?_toArray, List.getElem?_cons_succ, List.getElem?_cons_zero]; rfl)
          · exact fun _ _ _ h => h
          · (refine Or.inl ⟨by rfl, ?_⟩; intro w hSw; (try dsimp only at hSw); go_simp <;> with_reducible rfl)
          try simp only [Act.put, List.setIfInBounds_toArray, List.set_cons_zero, List.set_cons_succ]
          refine wpAnyH_take (i := 19) (oi := ?_) (v := ?_) ?_ (by kernel_rfl) (by kernel_rfl) (by kernel_rfl) ?_ ?_ (by assumption) ?_
          rotate_left 2
          · (simp only [List.getElem?_toArray, List.getElem?_cons_succ, List.getElem?_cons_zero]; rfl)
          · exact fun _ _ _ h => h
          · (refine Or.inl ⟨by rfl, ?_⟩; intro w hSw; (try dsimp only at hSw); go_simp <;> with_reducible rfl)
          try simp only [Act.put, List.setIfInBounds_toArray, List.set_cons_zero, List.set_cons_succ]
          refine wpAnyH_take (i := 20) (oi := ?_) (v := ?_) ?_ (by kernel_rfl) (by kernel_rfl) (by kernel_rfl) ?_ ?_ (by assumption) ?_
          rotate_left 2
          · (simp only [List.getElem?_toArray, List.getElem?_cons_succ, List.getElem?_cons_zero]; rfl)
          · exact fun _ _ _ h => h
          · (refine Or.inl ⟨by rfl, ?_⟩; intro w hSw; (try dsimp only at hSw); go_simp <;> with_reducible rfl)
          try simp only [Act.put, List.setIfInBounds_toArray, List.set_cons_zero, List.set_cons_succ]
          refine wpAnyH_take (i := 21) (oi := ?_) (v := ?_) ?_ (by kernel_rfl) (by kernel_rfl) (by kernel_rfl) ?_ ?_ (by assumption) ?_
          rotate_left 2
          · (simp only [List.getElem?_toArray, List.getElem?_cons_succ, List.getElem?_cons_zero]; rfl)
          · exact fun _ _ _ h => h
          · (refine Or.inl ⟨by rfl, ?_⟩; intro w hSw; (try dsimp only at hSw); go_simp <;> with_reducible rfl)
          try simp only [Act.put, List.setIfInBounds_toArray, List.set_cons_zero, List.set_cons_succ]
          refine wpAnyH_take (i := 22) (oi := ?_) (v := ?_) ?_ (by kernel_rfl) (by kernel_rfl) (by kernel_rfl) ?_ ?_ (by assumption) ?_
          rotate_left 2
          · (simp only [List.getElem?_toArray, List.getElem?_cons_succ, List.getElem?_cons_zero]; rfl)
          · exact fun _ _ _ h => h
          · (refine Or.inl ⟨by rfl, ?_⟩; intro w hSw; (try dsimp only at hSw); go_simp <;> with_reducible rfl)
          try simp only [Act.put, List.setIfInBounds_toArray, List.set_cons_zero, List.set_cons_succ]
          refine wpAnyH_take (i := 23) (oi := ?_) (v := ?_) ?_ (by kernel_rfl) (by kernel_rfl) (by kernel_rfl) ?_ ?_ (by assumption) ?_
          rotate_left 2
          · (simp only [List.getElem?_toArray, List.getElem?_cons_succ, List.getElem?_cons_zero]; rfl)
          · exact fun _ _ _ h => h
          · (refine Or.inl ⟨by rfl, ?_⟩; intro w hSw; (try dsimp only at hSw); go_simp <;> with_reducible rfl)
          try simp only [Act.put, List.setIfInBounds_toArray, List.set_cons_zero, List.set_cons_succ]
          refine wpAnyH_take (i := 24) (oi := ?_) (v := ?_) ?_ (by kernel_rfl) (by kernel_rfl) (by kernel_rfl) ?_ ?_ (by assumption) ?_
          rotate_left 2
          · (simp only [List.getElem?_toArray, List.getElem?_cons_succ, List.getElem?_cons_zero]; rfl)
          · exact fun _ _ _ h => h
          · (refine Or.inl ⟨by rfl, ?_⟩; intro w hSw; (try dsimp only at hSw); go_simp <;> with_reducible rfl)
          try simp only [Act.put, List.setIfInBounds_toArray, List.set_cons_zero, List.set_cons_succ]
          refine wpAnyH_take (i := 25) (oi := ?_) (v := ?_) ?_ (by kernel_rfl) (by kernel_rfl) (by kernel_rfl) ?_ ?_ (by assumption) ?_
          rotate_left 2
          · (simp only [List.getElem?_toArray, List.getElem?_cons_succ, List.getElem?_cons_zero]; rfl)
          · exact fun _ _ _ h => h
          · (refine Or.inl ⟨by rfl, ?_⟩; intro w hSw; (try dsimp only at hSw); go_simp <;> with_reducible rfl)
          try simp only [Act.put, List.setIfInBounds_toArray, List.set_cons_zero, List.set_cons_succ]
          refine wpAnyH_take (i := 26) (oi := ?_) (v := ?_) ?_ (by kernel_rfl) (by kernel_rfl) (by kernel_rfl) ?_ ?_ (by assumption) ?_
          rotate_left 2
          · (simp only [List.getElem?_toArray, List.getElem?_cons_succ, List.getElem?_cons_zero]; rfl)
          · exact fun _ _ _ h => h
          · (refine Or.inl ⟨by rfl, ?_⟩; intro w hSw; (try dsimp only at hSw); go_simp <;> with_reducible rfl)
          try simp only [Act.put, List.setIfInBounds_toArray, List.set_cons_zero, List.set_cons_succ]
          refine wpAnyH_take (i := 27) (oi := ?_) (v := ?_) ?_ (by kernel_rfl) (by kernel_rfl) (by kernel_rfl) ?_ ?_ (by assumption) ?_
          rotate_left 2
          · (simp only [List.getElem?_toArray, List.getElem?_cons_succ, List.getElem?_cons_zero]; rfl)
          · exact fun _ _ _ h => h
          · (refine Or.inl ⟨by rfl, ?_⟩; intro w hSw; (try dsimp only at hSw); go_simp <;> with_reducible rfl)
          try simp only [Act.put, List.setIfInBounds_toArray, List.set_cons_zero, List.set_cons_succ]
          refine wpAnyH_take (i := 28) (oi := ?_) (v := ?_) ?_ (by kernel_rfl) (by kernel_rfl) (by kernel_rfl) ?_ ?_ (by assumption) ?_
          rotate_left 2
          · (simp only [List.getElem?_toArray, List.getElem?_cons_succ, List.getElem?_cons_zero]; rfl)
          · exact fun _ _ _ h => h
          · (refine Or.inl ⟨by rfl, ?_⟩; intro w hSw; (try dsimp only at hSw); go_simp <;> with_reducible rfl)
          try simp only [Act.put, List.setIfInBounds_toArray, List.set_cons_zero, List.set_cons_succ]
          refine wpAnyH_take (i := 29) (oi := ?_) (v := ?_) ?_ (by kernel_rfl) (by kernel_rfl) (by kernel_rfl) ?_ ?_ (by assumption) ?_
          rotate_left 2
          · (simp only [List.getElem?_toArray, List.getElem?_cons_succ, List.getElem?_cons_zero]; rfl)
          · exact fun _ _ _ h => h
          · (refine Or.inl ⟨by rfl, ?_⟩; intro w hSw; (try dsimp only at hSw); go_simp <;> with_reducible rfl)
          try simp only [Act.put, List.setIfInBounds_toArray, List.set_cons_zero, List.set_cons_succ]
          refine wpAnyH_take (i := 30) (oi := ?_) (v := ?_) ?_ (by kernel_rfl) (by kernel_rfl) (by kernel_rfl) ?_ ?_ (by assumption) ?_
          rotate_left 2
          · (simp only [List.getElem?_toArray, List.getElem?_cons_succ, List.getElem?_cons_zero]; rfl)
          · exact fun _ _ _ h => h
          · (refine Or.inl ⟨by rfl, ?_⟩; intro w hSw; (try dsimp only at hSw); go_simp <;> with_reducible rfl)
          try simp only [Act.put, List.setIfInBounds_toArray, List.set_cons_zero, List.set_cons_succ]
          refine wpAnyH_take (i := 31) (oi := ?_) (v := ?_) ?_ (by kernel_rfl) (by kernel_rfl) (by kernel_rfl) ?_ ?_ (by assumption) ?_
          rotate_left 2
          · (simp only [List.getElem?_toArray, List.getElem?_cons_succ, List.getElem?_cons_zero]; rfl)
          · exact fun _ _ _ h => h
          · (refine Or.inl ⟨by rfl, ?_⟩; intro w hSw; (try dsimp only at hSw); go_simp <;> with_reducible rfl)
          try simp only [Act.put, List.setIfInBounds_toArray, List.set_cons_zero, List.set_cons_succ]
          refine wpAnyH_take (i := 32) (oi := ?_) (v := ?_) ?_ (by kernel_rfl) (by kernel_rfl) (by kernel_rfl) ?_ ?_ (by assumption) ?_
          rotate_left 2
          · (simp only [List.getElem?_toArray, List.getElem?_cons_succ, List.getElem?_cons_zero]; rfl)
          · exact fun _ _ _ h => h
          · (refine Or.inl ⟨by rfl, ?_⟩; intro w hSw; (try dsimp only at hSw); go_simp <;> with_reducible rfl)
          try simp only [Act.put, List.setIfInBounds_toArray, List.set_cons_zero, List.set_cons_succ]
          refine wpAnyH_done (by kernel_rfl) (NoPanic.normal ?_) _
          go_wp2_with fail
          go_ret
          exact ⟨rfl, (HB1.out.trans (H9.out.bel.mono HS1.out)).drew⟩
end Go.Proofs.Ytbcgffgiifminaa
