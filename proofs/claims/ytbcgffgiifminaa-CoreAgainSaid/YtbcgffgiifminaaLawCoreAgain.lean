/-
  CoreAgain: the walk.
-/
import Derived.Test.YtbcgffgiifminaaStand
namespace Go.Proofs.Ytbcgffgiifminaa
open Go.RowKit
set_option maxRecDepth 10000
set_option linter.unusedVariables false
theorem hold_same {s : Co} (h : ∀ (i : Nat) (q : Peer), s.peers[i]? = some q → q.bad s.marks = false) : s.hold = s := by
  have : ∀ k, s.holdK k = s := by
    intro k
    induction k with
    | zero => rfl
    | succ k ih =>
      rw [Co.holdK, ih, Co.hold1]
      split
      · rename_i q hq
        rw [if_neg (by rw [h k q hq]; decide)]
      · rfl
  exact this _
def gCfg : Cfg := ⟨3, 0, 3, 0, 16, 1, 0, 0, 0, 3⟩
theorem gCfg_fine : gCfg.Fine := gCfg.may_iff.1 (by decide)
/-- A player that pressed l; of which the last one has k, and was heard at h. -/
def gSt (l : List UInt8) (k h t : Int) : Co := ⟨gCfg, [l, [], []], [⟨0, 0, 0, 0, false⟩, ⟨0, 0, 0, 0, false⟩, ⟨k, h, 0, 0, false⟩], [], [], t, false⟩
def gAck (a : Int) : Pkt := ⟨1, 2, 0, 3, 0, [], a, 0, 0⟩
theorem gSt_front (l : List UInt8) (k h t : Int) : front (gSt l k h t).ls = 0 := by
  show front [l, [], []] = 0
  simp [front, frontK]
theorem gSt_err {l : List UInt8} (h : l.length < 16) : (gSt l 0 0 0).pressErr = 0 := by
  have h1 : (gSt l 0 0 0).mine = l := rfl
  rw [Co.pressErr, h1, gSt_front, if_neg (by show ¬ false = true; decide), if_neg (by omega), if_neg (by show ¬ (16 : Int) ≤ _; omega)]
theorem gSt_press {l : List UInt8} (h : l.length < 16) (b : UInt8) : (gSt l 0 0 0).press b = gSt (l ++ [b]) 0 0 0 := by
  rw [Co.press, if_pos (gSt_err h)]; rfl
theorem gAck_may {a : Int} (h : 0 ≤ a) (h2 : a ≤ 1000) : (gAck a).may = true := Pkt.may_iff.2 ⟨by show (0 : Int) ≤ 2 ∧ (2 : Int) ≤ 7; omega, by show (0 : Int) ≤ 0 ∧ (0 : Int) ≤ 7; omega, by show (2 : Int) ≠ 0; omega, by show (0 : Int) ≤ 3 ∧ (3 : Int) ≤ _; omega,
  .inl ⟨rfl, by show (0 : Int) ≤ 0 ∧ (0 : Int) ≤ 1000; omega, by show 0 ≤ a ∧ a ≤ 1000; omega, by show (0 : Int) ≤ 0 ∧ (0 : Int) ≤ 1000; omega, by show (0 : Nat) ≤ 32; omega⟩⟩
theorem gAck_wf (a : Int) : (gAck a).WF := ⟨by show (0 : Int) ≤ 0; omega, by show (0 : Int) < _; omega⟩
theorem gSt_same (l : List UInt8) (k h t : Int) : (gSt l k h t).hold = gSt l k h t := hold_same fun i q hq => by
  match i, hq with
  | 0, hq =>
    have : q = ⟨0, 0, 0, 0, false⟩ := by simpa [gSt] using hq.symm
    rw [this]; rfl
  | 1, hq =>
    have : q = ⟨0, 0, 0, 0, false⟩ := by simpa [gSt] using hq.symm
    rw [this]; rfl
  | 2, hq =>
    have : q = ⟨k, h, 0, 0, false⟩ := by simpa [gSt] using hq.symm
    rw [this]; rfl
  | i + 3, hq => simp [gSt] at hq
def hadOf (l : List UInt8) (k a : Nat) : Nat := if a ≤ l.length then max k a else k
theorem gSt_hear {l : List UInt8} {k a : Nat} {h t : Int} : (gSt l k h t).hear (gAck a) = gSt l (hadOf l k a : Nat) t t := by
  have e1 : ((gSt l k h t).hear1 2).hear2 2 (gAck a) = gSt l k t t := by rfl
  have e2 : (gSt l k t t).hear3 2 (gAck a) = gSt l (hadOf l k a : Nat) t t := by
    rw [Co.hear3]
    have e : (gSt l k t t).acks 2 (gAck a) = (decide ((a : Int) > (k : Int)) && decide ((a : Int) ≤ (l.length : Int))) := rfl
    rw [e, hadOf]
    by_cases h : a ≤ l.length
    · rw [if_pos h, decide_eq_true (show (a : Int) ≤ (l.length : Int) by omega)]
      by_cases h0 : k < a
      · rw [decide_eq_true (show (a : Int) > (k : Int) by omega), Nat.max_eq_right (by omega)]; rfl
      · rw [decide_eq_false (show ¬ (a : Int) > (k : Int) by omega), Nat.max_eq_left (by omega)]; rfl
    · rw [if_neg h, decide_eq_false (show ¬ (a : Int) ≤ (l.length : Int) by omega), Bool.and_false]; rfl
  have e3 : ∀ k : Int, (gSt l k t t).hear4 2 (gAck a) = gSt l k t t := fun k => rfl
  show (((((gSt l k h t).hear1 2).hear2 2 (gAck a)).hear3 2 (gAck a)).hear4 2 (gAck a)).hold = _
  rw [e1, e2, e3]
  exact gSt_same _ _ _ _
def gPkt (j : Int) (l : List UInt8) (k : Nat) : Pkt := ⟨1, 0, j, 3, k, l.drop k, 0, 0, 0⟩
theorem fromLine_drop {l : List UInt8} {k : Nat} (hl : l.length ≤ 16) (hk : k ≤ l.length) : fromLine l k 32 = l.drop k := by
  by_cases h : k < l.length
  · rw [fromLine_some h (by omega), List.take_of_length_le]
    rw [List.length_drop]
    show l.length - k ≤ min 32 1000
    omega
  · rw [fromLine_none (.inr (.inl (by omega))), List.drop_of_length_le (by omega)]
theorem gSt_late {l : List UInt8} {k : Nat} {t : Int} (ht : 0 ≤ t ∧ t < 20) : (gSt l k t t).ticked.lateWho = none := by
  have e : (gSt l k t t).ticked.lateWho = [1, 2].find? (gSt l k t t).ticked.isLate := rfl
  rw [e, List.find?_eq_none]
  intro j hj
  have h1 : (gSt l k t t).ticked.isLate 1 = decide (40 ≤ t + 1 - 0) := rfl
  have h2 : (gSt l k t t).ticked.isLate 2 = decide (40 ≤ t + 1 - t) := rfl
  simp only [List.mem_cons, List.not_mem_nil, or_false] at hj
  rcases hj with rfl | rfl
  · rw [h1]; simp; omega
  · rw [h2]; simp; omega
theorem gSt_tick {l : List UInt8} {k : Nat} {t : Int} (ht : 0 ≤ t ∧ t < 20) : (gSt l k t t).tick = gSt l k t (t + 1) := by
  rw [Co.tick, if_neg (by show ¬ false = true; decide), gSt_late ht]; rfl
theorem gSt_mails {l : List UInt8} {k : Nat} {t : Int} (ht : 0 ≤ t ∧ t < 20) (hl : l.length ≤ 16) (hk : k ≤ l.length) : (gSt l k t t).tickMails = [⟨0, 1, (gPkt 1 l 0).enc⟩, ⟨0, 2, (gPkt 2 l k).enc⟩] := by
  rw [Co.tickMails, if_neg (by show ¬ false = true; decide), gSt_late ht]
  show [(gSt l k t t).ticked.tellTo 1, (gSt l k t t).ticked.tellTo 2] = _
  have e1 : (gSt l k t t).ticked.telling 1 = ⟨1, 0, 1, 3, (0 : Nat), fromLine l (0 : Nat) 32, 0, 0, 0⟩ := rfl
  have e2 : (gSt l k t t).ticked.telling 2 = ⟨1, 0, 2, 3, k, fromLine l k 32, 0, 0, 0⟩ := rfl
  rw [Co.tellTo, Co.tellTo, e1, e2, fromLine_drop hl hk, fromLine_drop hl (Nat.zero_le _)]; rfl
theorem gPkt_may {j : Int} (hj : j = 1 ∨ j = 2) {l : List UInt8} {k : Nat} (hl : l.length ≤ 16) (hk : k ≤ l.length) : (gPkt j l k).may = true := Pkt.may_iff.2 ⟨by show (0 : Int) ≤ 0 ∧ (0 : Int) ≤ 7; omega, by show 0 ≤ j ∧ j ≤ 7; omega, by show (0 : Int) ≠ j; omega, by show (0 : Int) ≤ 3 ∧ (3 : Int) ≤ _; omega,
  .inl ⟨rfl, by show (0 : Int) ≤ k ∧ (k : Int) ≤ 1000; omega, by show (0 : Int) ≤ 0 ∧ (0 : Int) ≤ 1000; omega, by show (0 : Int) ≤ 0 ∧ (0 : Int) ≤ 1000; omega, by show (l.drop k).length ≤ 32; rw [List.length_drop]; omega⟩⟩
theorem gPkt_wf (j : Int) (l : List UInt8) (k : Nat) : (gPkt j l k).WF := ⟨by show (0 : Int) ≤ 0; omega, by show (0 : Int) < _; omega⟩
set_option maxHeartbeats 8000000 in
theorem law_CoreAgain (A : Option Addr) (n c : Nat) (l0 : List UInt8) (A2 : Option Addr) (n2 c2 : Nat) (acks : List Int) (w : World) (hA : LiesB w w.heap.size A n l0) (hc : n ≤ c) (hcm : c ≤ maxLen) (hA2 : LiesI .i64 w w.heap.size A2 n2 acks) (hc2 : n2 ≤ c2) (hcm2 : c2 ≤ maxLen) :
    Calls Try.prog 4 #[.slice A n c, .slice A2 n2 c2] w fun e w' => e = .returned (.bool true) ∧ Below w.heap.size w w' := by
  have HA0 := hide hA
  have HCC := hide hc
  have HA2 := hide hA2
  have hn2 : n2 ≤ 9223372036854775807 := by simp only [maxLen] at *; omega
  obtain ⟨l, hl⟩ : ∃ l, l = l0.take 16 := ⟨_, rfl⟩
  obtain ⟨m, hm⟩ : ∃ m, m = min 16 n := ⟨_, rfl⟩
  have HA : Hid (LiesB w w.heap.size A m l) := by show LiesB _ _ _ _ _; rw [hm, hl]; exact hA.take 16
  have hm16 : m ≤ 16 := by omega
  have hmc : m ≤ c := by omega
  have HM := hide hm
  have HLN : Hid (l.length = m) := HA.out.len
  clear hA hc hcm hl hm hA2 hc2 hcm2
  go_enter Try.func4, Try.ntmps4
  go_wp2_with fail
  refine Calls.mono (begun21 _) ?_
  rintro e w1 ⟨rfl, hb1⟩
  have HB1 := hide hb1
  have HA1 := hide (HA.out.below hb1)
  have HA21 := hide (HA2.out.below hb1)
  clear hb1
  go_wp2_with fail
  refine Calls.mono (law_Short A n c 16 16 _ HCC.out rfl (by omega)) ?_
  rintro e w2 ⟨rfl, rfl⟩
  rw [← HM.out]
  go_wp2_with fail
  refine Calls.mono (use_New gCfg gCfg_fine w1) ?_
  rintro r w2 ⟨x, p2, rfl, hc2⟩
  have H2 : Hid (HC w1.heap.size w1 w2 x p2 (gSt [] 0 0 0)) := hc2
  have HS1 : Hid (w.heap.size ≤ w1.heap.size) := HB1.out.size
  clear hc2
  go_wp2_with fail
  go_loopg [8] m (fun gg s8 wr => ∃ (k : Nat) (p : CP), k ≤ m ∧ gg = m - k ∧ s8 = .int .i64 (k : Int) ∧ Hid (HC w1.heap.size w1 wr x p (gSt (l.take k) 0 0 0)))
  case atStart => exact ⟨0, p2, by omega, rfl, rfl, H2⟩
  case round =>
    obtain ⟨W1, hW1⟩ : ∃ W1, W1 = wr := ⟨_, rfl⟩
    subst hW1
    obtain ⟨k, p, hkm, rfl, rfl, H3⟩ := hrel
    have HAW : Hid (LiesB W1 w.heap.size A m l) := HA1.out.below (H3.out.bel.mono HS1.out)
    by_cases hlt : k < m
    · obtain ⟨ab, ao, hlk, rfl, hab, hcell⟩ := HAW.out.at_ hlt
      have hkm2 : (k : Int) < (m : Int) := by omega
      have hkl : (l.take k).length < 16 := by rw [List.length_take]; omega
      have HE : Hid ((gSt (l.take k) 0 0 0).pressErr = 0) := gSt_err hkl
      have HP : Hid ((gSt (l.take k) 0 0 0).press l[k] = gSt (l.take (k + 1)) 0 0 0) := by show _ = _; rw [gSt_press hkl, List.take_succ_eq_append_getElem hlk]
      clear hkl
      go_wp2_with fail
      refine Calls.mono (use_Press H3.out l[k] rfl HE.out HP.out) ?_
      rintro r w4 ⟨rfl, p4, hc4, -⟩
      have H4 := hide hc4
      clear hc4
      go_wp2_with fail
      go_roundg (m - (k + 1))
      case measure => omega
      case rel => exact ⟨k + 1, p4, by omega, rfl, by go_num, H4⟩
    · obtain rfl : m = k := by omega
      have H4 : Hid (HC w1.heap.size w1 W1 x p (gSt l (0 : Nat) 0 0)) := by
        have := H3.out
        rw [List.take_of_length_le (by rw [HLN.out]; exact Nat.le_refl _)] at this
        exact this
      clear H3 hlt hkm
      go_wp2_with fail
      go_loopg [9, 10] 20 (fun gg s9 s10 wr => ∃ (i k : Nat) (h : Int) (p : CP), i ≤ 20 ∧ i ≤ n2 ∧ k ≤ m ∧ gg = 20 - i ∧ s10 = .int .i64 (i : Int) ∧ s9 = .int .i64 (k : Int) ∧ Hid (HC w1.heap.size w1 wr x p (gSt l k h i)))
      case atStart => exact ⟨0, 0, 0, p, by omega, by omega, by omega, rfl, rfl, rfl, H4⟩
      case round =>
        obtain ⟨W2, hW2⟩ : ∃ W2, W2 = wr := ⟨_, rfl⟩
        subst hW2
        obtain ⟨i, k, h, p5, hi20, hin, hkm, rfl, rfl, rfl, H5⟩ := hrel
        have HAX : Hid (LiesB W2 w.heap.size A m l) := HA1.out.below (H5.out.bel.mono HS1.out)
        have HA2X : Hid (LiesI .i64 W2 w.heap.size A2 n2 acks) := HA21.out.below (H5.out.bel.mono HS1.out)
        by_cases hlt : i < n2 ∧ i < 20
        · have hin2 : (i : Int) < (n2 : Int) := by omega
          have d1 : decide ((i : Int) < (n2 : Int)) = true := decide_eq_true hin2
          have d1b : i < n2 := hlt.1
          have d2 : decide ((i : Int) < 20) = true := decide_eq_true (by omega)
          have hi2 : i < 20 := hlt.2
          obtain ⟨g0, off0, hlk, rfl, hlt0, hcx⟩ := HA2X.out.at_ hlt.1
          obtain ⟨y, hy⟩ : ∃ y, y = acks[i] := ⟨_, rfl⟩
          rw [← hy] at hcx
          have hyb : -9223372036854775808 ≤ y ∧ y ≤ 9223372036854775807 := by rw [hy]; exact bounds_i64 (HA2.out.2.2 _ (List.getElem_mem hlk))
          clear hy hlt
          go_upto_region 16 with fail
          go_cut [11] from 51 to 130 (fun s11 wx => ∃ a : Nat, a < 20 ∧ s11 = .int .i64 (a : Int) ∧ wx = W2)
          case first =>
            go_wp2_with fail
            go_meet
            obtain ⟨r, hr⟩ : ∃ r, y.tmod 20 = r := ⟨_, rfl⟩
            have hrb : -20 < r ∧ r < 20 := by rw [← hr]; exact ⟨Int.lt_tmod_of_pos _ (by omega), Int.tmod_lt_of_pos _ (by omega)⟩
            rw [hr]
            have e1 : wrap64 (r + 20) = r + 20 := IntWalk.wrap64_in _ ⟨by omega, by omega⟩
            have e2 : (r + 20).tmod 20 = (r + 20) % 20 := Int.tmod_eq_emod_of_nonneg (by omega)
            rw [e1, e2]
            exact ⟨((r + 20) % 20).toNat, by omega, by rw [Int.toNat_of_nonneg (by omega)], rfl⟩
          case rest =>
          obtain ⟨a, ha20, rfl, rfl⟩ := hcut
          go_upto_region 17 with fail
          go_wp2_with fail
          refine Calls.mono (ref_Packet (gAck a) (LiesB.nil _ 0 none) (Nat.zero_le _) (by omega) (gAck_wf a)) ?_
          rintro r w4 ⟨A4, n4, c4, rfl, ho4, hb4⟩
          have hn4 : n4 ≤ 100 := by have := ho4.len; have := Pkt.enc_short (gAck a); omega
          have HO4 := hide ho4
          have H6 := hide (H5.out.below hb4)
          clear ho4 hb4
          obtain ⟨q, hq⟩ : ∃ q : Nat, q = hadOf l k a := ⟨_, rfl⟩
          have hqm : q ≤ m := by rw [hq, hadOf]; have := HLN.out; split <;> omega
          have HQ := hide hq
          have hll : l.length = m := HLN.out
          go_wp2_with fail
          refine Calls.mono (use_Receive_yes H6.out rfl (by show (0 : Nat) ≤ _; omega) (gAck a) (Pkt.enc_is (gAck_may (by omega) (by omega)) (gAck_wf a)) HO4.out.lies (Nat.le_refl _) HO4.out.cap (by omega) (R := 0) rfl (S := gSt l q i i) (by rw [if_pos (show (gSt l k h i).fits (gAck a) = true from rfl), gSt_hear, hq])) ?_
          rintro r w6 ⟨rfl, p6, hc6, -⟩
          have H7 := hide hc6
          clear hc6
          have hit : (0 : Int) ≤ (i : Int) ∧ (i : Int) < 20 := by omega
          by_cases ham : a ≤ m
          · have d3 : decide ((a : Int) ≤ (m : Int)) = true := decide_eq_true (by omega)
            have hqk : max (k : Int) (a : Int) = (q : Int) := by rw [hq, hadOf, if_pos (by omega)]; omega
            clear hq hll
            go_wp2_with fail
            refine Calls.mono (use_Tick H7.out (by show (i : Int) < _; omega) (by show (0 : Nat) ≤ _; omega) (gSt_mails hit (by rw [HLN.out]; exact hm16) (by rw [HLN.out]; exact hqm)) (S := gSt l q i ((i : Int) + 1)) (gSt_tick hit)) ?_
            rintro r w7 ⟨mA, mn, mc, xs, rfl, hml, hxs, p7, hc7, -, -⟩
            have hx2 : xs.length = 2 := by have := congrArg List.length hxs; simpa using this
            have hmn : mn = 2 := by rw [← hml.len]; exact hx2
            subst hmn
            have H8 := hide hc7
            obtain ⟨mg, hmg, -, -, mb0⟩ := mail_cell hml.row (i := 0) (by omega) (by omega)
            obtain ⟨mg2, hmg2, -, -, mb1⟩ := mail_cell hml.row (i := 1) (by omega) (by omega)
            subst hmg
            obtain rfl : mg = mg2 := by injection hmg2 with e; injection e
            have hb0 : (xs[0]'(by omega)).1.b = (gPkt 1 l 0).enc := by
              have h2 : (xs.map Prod.fst)[0]? = some ⟨0, 1, (gPkt 1 l 0).enc⟩ := by rw [hxs]; rfl
              rw [List.getElem?_map, List.getElem?_eq_getElem (by omega)] at h2
              injection h2 with h2
              rw [h2]
            have hb1 : (xs[1]'(by omega)).1.b = (gPkt 2 l q).enc := by
              have h2 : (xs.map Prod.fst)[1]? = some ⟨0, 2, (gPkt 2 l q).enc⟩ := by rw [hxs]; rfl
              rw [List.getElem?_map, List.getElem?_eq_getElem (by omega)] at h2
              injection h2 with h2
              rw [h2]
            have ho0 := hml.line _ (List.getElem_mem (show 0 < xs.length by omega))
            have ho1 := hml.line _ (List.getElem_mem (show 1 < xs.length by omega))
            rw [hb0] at ho0
            rw [hb1] at ho1
            obtain ⟨⟨bA, bn, bc⟩, hbs⟩ : ∃ b : Sl, b = (xs[0]'(by omega)).2 := ⟨_, rfl⟩
            obtain ⟨⟨eA, en, ec⟩, hes⟩ : ∃ b : Sl, b = (xs[1]'(by omega)).2 := ⟨_, rfl⟩
            rw [← hbs] at mb0 ho0
            rw [← hes] at mb1 ho1
            have mb0 : w7.cell? ⟨mg, 2, none⟩ = some (.slice bA bn bc) := mb0
            have mb1 : w7.cell? ⟨mg, 5, none⟩ = some (.slice eA en ec) := mb1
            have HO0 := hide ho0
            have HO1 := hide ho1
            have HIS0 : Hid (Pkt.Is (gPkt 1 l 0).enc (gPkt 1 l 0)) := Pkt.enc_is (gPkt_may (.inl rfl) (by rw [HLN.out]; exact hm16) (Nat.zero_le _)) (gPkt_wf 1 l 0)
            have HIS1 : Hid (Pkt.Is (gPkt 2 l q).enc (gPkt 2 l q)) := Pkt.enc_is (gPkt_may (.inr rfl) (by rw [HLN.out]; exact hm16) (by rw [HLN.out]; exact hqm)) (gPkt_wf 2 l q)
            have hbn : bn ≤ 100 := by have h1 := ho0.len; have := Pkt.enc_short (gPkt 1 l 0); simp only at h1; omega
            have hen : en ≤ 100 := by have h1 := ho1.len; have := Pkt.enc_short (gPkt 2 l q); simp only at h1; omega
            clear hml hxs hc7 hx2 hb0 hb1 ho0 ho1 hbs hes hmg2
            go_wp2_with fail
            refine Calls.mono (ref_Unpacket_yes (gPkt 1 l 0) HIS0.out HO0.out.lies (Nat.le_refl _) HO0.out.cap (show bn ≤ 1000000 by omega)) ?_
            rintro r w8 ⟨A8, n8, c8, rfl, hl8, hb8⟩
            have HL8 := hide hl8
            have H9 := hide (H8.out.below hb8)
            have HO18 := hide (HO1.out.below hb8)
            have mb1 := below_cell hb8 mb1
            clear hl8 hb8 mb0
            go_upto_region 24 with (refine wpP_init rfl (.tmp 13) (.tmp 81) rfl (gPkt 1 l 0) A8 n8 c8 rfl rfl rfl ?_; intro w9 ha9 hb9 hs9)
            have HP9 := hide ha9
            have HL9 := hide (HL8.out.below hb9)
            have H10 := hide (H9.out.below hb9)
            have HO19 := hide (HO18.out.below hb9)
            have mb1 := below_cell hb9 mb1
            obtain ⟨g1, hg1⟩ : ∃ g, g = w8.heap.size := ⟨_, rfl⟩
            have HW8 : Hid (w8.heap.size ≤ w9.heap.size) := hb9.size
            rw [← hg1] at HP9 ⊢
            clear ha9 hb9 hs9 hg1
            go_wp2_with fail
            refine Calls.mono (ref_Unpacket_yes (gPkt 2 l q) HIS1.out HO19.out.lies (Nat.le_refl _) HO19.out.cap (show en ≤ 1000000 by omega)) ?_
            rintro r w10 ⟨A10, n10, c10, rfl, hl10, hb10⟩
            have HL10 := hide hl10
            have H11 := hide (H10.out.below hb10)
            have HP10 := hide (HP9.out.belowN hb10)
            have HL9b := hide (HL9.out.below (hb10.mono HW8.out))
            have HW10 : Hid (w8.heap.size ≤ w10.heap.size) := Nat.le_trans HW8.out hb10.size
            clear hl10 hb10 mb1
            go_upto_region 25 with (refine wpP_init rfl (.tmp 15) (.tmp 89) rfl (gPkt 2 l q) A10 n10 c10 rfl rfl rfl ?_; intro w11 ha11 hb11 hs11)
            have HQ11 := hide ha11
            have HL11 := hide (HL10.out.below hb11)
            have H12 := hide (H11.out.below hb11)
            have HP11 := hide (HP10.out.belowN hb11)
            have HL9c := hide (HL9b.out.below (hb11.mono HW10.out))
            obtain ⟨g2, hg2⟩ : ∃ g, g = w10.heap.size := ⟨_, rfl⟩
            rw [← hg2] at HQ11 ⊢
            clear ha11 hb11 hs11 hg2
            have HAX : Hid (LiesB w11 w.heap.size A m l) := HA1.out.below (H12.out.bel.mono HS1.out)
            have q12 : w11.cell? ⟨g1, 2, none⟩ = some (.int .i64 1) := HP11.out.cell (j := 2) (by simp)
            have q15 : w11.cell? ⟨g1, 5, none⟩ = some (.slice A8 n8 c8) := HP11.out.cell (j := 5) (by simp)
            have q22 : w11.cell? ⟨g2, 2, none⟩ = some (.int .i64 2) := HQ11.out.cell (j := 2) (by simp)
            have q24 : w11.cell? ⟨g2, 4, none⟩ = some (.int .i64 (q : Int)) := HQ11.out.cell (j := 4) (by simp)
            have q25 : w11.cell? ⟨g2, 5, none⟩ = some (.slice A10 n10 c10) := HQ11.out.cell (j := 5) (by simp)
            have HRA : Hid (Reads A8 n8 c8 l w11.drew) := LiesB.reads (B := w8.heap.size) (l := l) HL9c.out.drew
            have HRM : Hid (Reads A m c l w11.drew) := HAX.out.drew.reads
            have HRB : Hid (Reads A10 n10 c10 (l.drop q) w11.drew) := HL11.out.drew.reads
            have HRC : Hid (Reads (cutA A c q 1) (m - q) (c - q) (l.drop q) w11.drew) := (LiesB.cut HAX.out.drew (k := q) (cap := c) hmc).reads
            go_cut [130] from 51 to 130 (fun s130 wx => s130 = .bool false ∧ wx = w11.drew)
            case first =>
              refine wp_region_noPanic ?_
              refine wp_region_held_drew (S := (fun w' => w'.cell? ⟨g1, 2, none⟩ = some (.int .i64 1) ∧ w'.cell? ⟨g1, 5, none⟩ = some (.slice A8 n8 c8) ∧ w'.cell? ⟨g2, 2, none⟩ = some (.int .i64 2) ∧ w'.cell? ⟨g2, 4, none⟩ = some (.int .i64 (q : Int)) ∧ w'.cell? ⟨g2, 5, none⟩ = some (.slice A10 n10 c10) ∧ Reads A8 n8 c8 l w' ∧ Reads A m c l w' ∧ Reads A10 n10 c10 (l.drop q) w' ∧ Reads (cutA A c q 1) (m - q) (c - q) (l.drop q) w')) (by kernel_rfl) ⟨q12, q15, q22, q24, q25, HRA.out, HRM.out, HRB.out, HRC.out⟩ (fun hHeld => ?_)
              refine wpAnyH_take (i := 0) (oi := ?_) (v := ?_) ?_ (by kernel_rfl) (by kernel_rfl) (by kernel_rfl) ?_ ?_ (by assumption) ?_
              rotate_left 2
              · (simp only [List.getElem?_toArray, List.getElem?_cons_zero]; rfl)
              · exact fun _ _ _ h => h
              · (refine Or.inl ⟨by rfl, ?_⟩; intro w hSw; (try dsimp only at hSw); go_simp <;> with_reducible rfl)
              try simp only [Act.put, List.setIfInBounds_toArray, List.set_cons_zero, List.set_cons_succ]
              refine wpAnyH_take (i := 1) (oi := ?_) (v := ?_) ?_ (by kernel_rfl) (by kernel_rfl) (by kernel_rfl) ?_ ?_ (by assumption) ?_
              rotate_left 2
              · (simp only [List.getElem?_toArray, List.getElem?_cons_succ, List.getElem?_cons_zero]; rfl)
              · exact fun _ _ _ h => h
              · (refine Or.inl ⟨by rfl, ?_⟩; intro w hSw; (try dsimp only at hSw); go_simp <;> with_reducible rfl)
              try simp only [Act.put, List.setIfInBounds_toArray, List.set_cons_zero, List.set_cons_succ]
              refine wpAnyH_take (i := 2) (oi := ?_) (v := ?_) ?_ (by kernel_rfl) (by kernel_rfl) (by kernel_rfl) ?_ ?_ (by assumption) ?_
              rotate_left 2
              · (simp only [List.getElem?_toArray, List.getElem?_cons_succ, List.getElem?_cons_zero]; rfl)
              · exact fun _ _ _ h => h
              · (refine Or.inl ⟨by rfl, ?_⟩; intro w hSw; (try dsimp only at hSw); go_simp <;> with_reducible rfl)
              try simp only [Act.put, List.setIfInBounds_toArray, List.set_cons_zero, List.set_cons_succ]
              refine wpAnyH_take (i := 3) (oi := ?_) (v := ?_) ?_ (by kernel_rfl) (by kernel_rfl) (by kernel_rfl) ?_ ?_ (by assumption) ?_
              rotate_left 2
              · (simp only [List.getElem?_toArray, List.getElem?_cons_succ, List.getElem?_cons_zero]; rfl)
              · exact fun _ _ _ h => h
              · (refine Or.inl ⟨by rfl, ?_⟩; intro w hSw; (try dsimp only at hSw); go_simp <;> with_reducible rfl)
              try simp only [Act.put, List.setIfInBounds_toArray, List.set_cons_zero, List.set_cons_succ]
              refine wpAnyH_take (i := 4) (oi := ?_) (v := ?_) ?_ (by kernel_rfl) (by kernel_rfl) (by kernel_rfl) ?_ ?_ (by assumption) ?_
              rotate_left 2
              · (simp only [List.getElem?_toArray, List.getElem?_cons_succ, List.getElem?_cons_zero]; rfl)
              · exact fun _ _ _ h => h
              · (refine Or.inl ⟨by rfl, ?_⟩; intro w hSw; (try dsimp only at hSw); go_simp <;> with_reducible rfl)
              try simp only [Act.put, List.setIfInBounds_toArray, List.set_cons_zero, List.set_cons_succ]
              refine wpAnyH_take (i := 5) (oi := ?_) (v := ?_) ?_ (by kernel_rfl) (by kernel_rfl) (by kernel_rfl) ?_ ?_ (by assumption) ?_
              rotate_left 2
              · (simp only [List.getElem?_toArray, List.getElem?_cons_succ, List.getElem?_cons_zero]; rfl)
              · exact fun _ _ _ h => h
              · (refine Or.inl ⟨by rfl, ?_⟩; intro w hSw; (try dsimp only at hSw); go_simp <;> with_reducible rfl)
              try simp only [Act.put, List.setIfInBounds_toArray, List.set_cons_zero, List.set_cons_succ]
              refine wpAnyH_take (i := 6) (oi := ?_) (v := ?_) ?_ (by kernel_rfl) (by kernel_rfl) (by kernel_rfl) ?_ ?_ (by assumption) ?_
              rotate_left 2
              · (simp only [List.getElem?_toArray, List.getElem?_cons_succ, List.getElem?_cons_zero]; rfl)
              · exact fun _ _ _ h => h
              · (refine Or.inl ⟨by rfl, ?_⟩; intro w hSw; (try dsimp only at hSw); go_simp <;> with_reducible rfl)
              try simp only [Act.put, List.setIfInBounds_toArray, List.set_cons_zero, List.set_cons_succ]
              refine wpAnyH_take (i := 7) (oi := ?_) (v := ?_) ?_ (by kernel_rfl) (by kernel_rfl) (by kernel_rfl) ?_ ?_ (by assumption) ?_
              rotate_left 2
              · (simp only [List.getElem?_toArray, List.getElem?_cons_succ, List.getElem?_cons_zero]; rfl)
              · exact fun _ _ _ h => h
              · (refine Or.inl ⟨by rfl, ?_⟩; intro w hSw; (try dsimp only at hSw); go_simp <;> with_reducible rfl)
              try simp only [Act.put, List.setIfInBounds_toArray, List.set_cons_zero, List.set_cons_succ]
              refine wpAnyH_take (i := 8) (oi := ?_) (v := ?_) ?_ (by kernel_rfl) (by kernel_rfl) (by kernel_rfl) ?_ ?_ (by assumption) ?_
              rotate_left 2
              · (simp only [List.getElem?_toArray, List.getElem?_cons_succ, List.getElem?_cons_zero]; rfl)
              · exact fun _ _ _ h => h
              · (refine Or.inl ⟨by rfl, ?_⟩; intro w hSw; (try dsimp only at hSw); go_simp <;> with_reducible rfl)
              try simp only [Act.put, List.setIfInBounds_toArray, List.set_cons_zero, List.set_cons_succ]
              refine wpAnyH_take (i := 9) (oi := ?_) (v := ?_) ?_ (by kernel_rfl) (by kernel_rfl) (by kernel_rfl) ?_ ?_ (by assumption) ?_
              rotate_left 2
              · (simp only [List.getElem?_toArray, List.getElem?_cons_succ, List.getElem?_cons_zero]; rfl)
              · exact fun _ _ _ h => h
              · (refine Or.inl ⟨by rfl, ?_⟩; intro w hSw; (try dsimp only at hSw); go_simp <;> with_reducible rfl)
              try simp only [Act.put, List.setIfInBounds_toArray, List.set_cons_zero, List.set_cons_succ]
              refine wpAnyH_take (i := 10) (oi := ?_) (v := ?_) ?_ (by kernel_rfl) (by kernel_rfl) (by kernel_rfl) ?_ ?_ (by assumption) ?_
              rotate_left 2
              · (simp only [List.getElem?_toArray, List.getElem?_cons_succ, List.getElem?_cons_zero]; rfl)
              · exact fun _ _ _ h => h
              · (refine Or.inl ⟨by rfl, ?_⟩; intro w hSw; (try dsimp only at hSw); go_simp <;> with_reducible rfl)
              try simp only [Act.put, List.setIfInBounds_toArray, List.set_cons_zero, List.set_cons_succ]
              refine wpAnyH_take (i := 11) (oi := ?_) (v := ?_) ?_ (by kernel_rfl) (by kernel_rfl) (by kernel_rfl) ?_ ?_ (by assumption) ?_
              rotate_left 2
              · (simp only [List.getElem?_toArray, List.getElem?_cons_succ, List.getElem?_cons_zero]; rfl)
              · exact fun _ _ _ h => h
              · (refine Or.inl ⟨by rfl, ?_⟩; intro w hSw; (try dsimp only at hSw); go_simp <;> with_reducible rfl)
              try simp only [Act.put, List.setIfInBounds_toArray, List.set_cons_zero, List.set_cons_succ]
              refine wpAnyH_take (i := 12) (oi := ?_) (v := ?_) ?_ (by kernel_rfl) (by kernel_rfl) (by kernel_rfl) ?_ ?_ (by assumption) ?_
              rotate_left 2
              · (simp only [List.getElem?_toArray, List.getElem?_cons_succ, List.getElem?_cons_zero]; rfl)
              · exact fun _ _ _ h => h
              · (refine Or.inl ⟨by rfl, ?_⟩; intro w hSw; (try dsimp only at hSw); go_simp <;> with_reducible rfl)
              try simp only [Act.put, List.setIfInBounds_toArray, List.set_cons_zero, List.set_cons_succ]
              refine wpAnyH_take (i := 13) (oi := ?_) (v := ?_) ?_ (by kernel_rfl) (by kernel_rfl) (by kernel_rfl) ?_ ?_ (by assumption) ?_
              rotate_left 2
              · (simp only [List.getElem?_toArray, List.getElem?_cons_succ, List.getElem?_cons_zero]; rfl)
              · exact fun _ _ _ h => h
              · (refine Or.inl ⟨by rfl, ?_⟩; intro w hSw; (try dsimp only at hSw); go_simp <;> with_reducible rfl)
              try simp only [Act.put, List.setIfInBounds_toArray, List.set_cons_zero, List.set_cons_succ]
              refine wpAnyH_take (i := 14) (oi := ?_) (v := ?_) ?_ (by kernel_rfl) (by kernel_rfl) (by kernel_rfl) ?_ ?_ (by assumption) ?_
              rotate_left 2
              · (simp only [List.getElem?_toArray, List.getElem?_cons_succ, List.getElem?_cons_zero]; rfl)
              · exact fun _ _ _ h => h
              · (refine Or.inl ⟨by rfl, ?_⟩; intro w hSw; (try dsimp only at hSw); have q1 := hSw.2.2.2.2.2.1; unfold Reads at q1; go_simp <;> with_reducible rfl)
              try simp only [Act.put, List.setIfInBounds_toArray, List.set_cons_zero, List.set_cons_succ]
              refine wpAnyH_take (i := 15) (oi := ?_) (v := ?_) ?_ (by kernel_rfl) (by kernel_rfl) (by kernel_rfl) ?_ ?_ (by assumption) ?_
              rotate_left 2
              · (simp only [List.getElem?_toArray, List.getElem?_cons_succ, List.getElem?_cons_zero]; rfl)
              · exact fun _ _ _ h => h
              · (refine Or.inl ⟨by rfl, ?_⟩; intro w hSw; (try dsimp only at hSw); go_simp <;> with_reducible rfl)
              try simp only [Act.put, List.setIfInBounds_toArray, List.set_cons_zero, List.set_cons_succ]
              refine wpAnyH_take (i := 16) (oi := ?_) (v := ?_) ?_ (by kernel_rfl) (by kernel_rfl) (by kernel_rfl) ?_ ?_ (by assumption) ?_
              rotate_left 2
              · (simp only [List.getElem?_toArray, List.getElem?_cons_succ, List.getElem?_cons_zero]; rfl)
              · exact fun _ _ _ h => h
              · (refine Or.inl ⟨by rfl, ?_⟩; intro w hSw; (try dsimp only at hSw); have q1 := hSw.2.2.2.2.2.2.1; unfold Reads at q1; go_simp <;> with_reducible rfl)
              try simp only [Act.put, List.setIfInBounds_toArray, List.set_cons_zero, List.set_cons_succ]
              refine wpAnyH_take (i := 17) (oi := ?_) (v := ?_) ?_ (by kernel_rfl) (by kernel_rfl) (by kernel_rfl) ?_ ?_ (by assumption) ?_
              rotate_left 2
              · (simp only [List.getElem?_toArray, List.getElem?_cons_succ, List.getElem?_cons_zero]; rfl)
              · exact fun _ _ _ h => h
              · (refine Or.inl ⟨by rfl, ?_⟩; intro w hSw; (try dsimp only at hSw); go_simp <;> with_reducible rfl)
              try simp only [Act.put, List.setIfInBounds_toArray, List.set_cons_zero, List.set_cons_succ]
              refine wpAnyH_take (i := 18) (oi := ?_) (v := ?_) ?_ (by kernel_rfl) (by kernel_rfl) (by kernel_rfl) ?_ ?_ (by assumption) ?_
              rotate_left 2
              · (simp only [List.getElem?_toArray, List.getElem?_cons_succ, List.getElem?_cons_zero]; rfl)
              · exact fun _ _ _ h => h
              · (refine Or.inl ⟨by rfl, ?_⟩; intro w hSw; (try dsimp only at hSw); go_simp <;> with_reducible rfl)
              try simp only [Act.put, List.setIfInBounds_toArray, List.set_cons_zero, List.set_cons_succ]
              refine wpAnyH_take (i := 19) (oi := ?_) (v := ?_) ?_ (by kernel_rfl) (by kernel_rfl) (by kernel_rfl) ?_ ?_ (by assumption) ?_
              rotate_left 2
              · (simp only [List.getElem?_toArray, List.getElem?_cons_succ, List.getElem?_cons_zero]; rfl)
              · exact fun _ _ _ h => h
              · (refine Or.inl ⟨by rfl, ?_⟩; intro w hSw; (try dsimp only at hSw); go_simp <;> with_reducible rfl)
              try simp only [Act.put, List.setIfInBounds_toArray, List.set_cons_zero, List.set_cons_succ]
              refine wpAnyH_take (i := 20) (oi := ?_) (v := ?_) ?_ (by kernel_rfl) (by kernel_rfl) (by kernel_rfl) ?_ ?_ (by assumption) ?_
              rotate_left 2
              · (simp only [List.getElem?_toArray, List.getElem?_cons_succ, List.getElem?_cons_zero]; rfl)
              · exact fun _ _ _ h => h
              · (refine Or.inl ⟨by rfl, ?_⟩; intro w hSw; (try dsimp only at hSw); go_simp <;> with_reducible rfl)
              try simp only [Act.put, List.setIfInBounds_toArray, List.set_cons_zero, List.set_cons_succ]
              refine wpAnyH_take (i := 21) (oi := ?_) (v := ?_) ?_ (by kernel_rfl) (by kernel_rfl) (by kernel_rfl) ?_ ?_ (by assumption) ?_
              rotate_left 2
              · (simp only [List.getElem?_toArray, List.getElem?_cons_succ, List.getElem?_cons_zero]; rfl)
              · exact fun _ _ _ h => h
              · (refine Or.inl ⟨by rfl, ?_⟩; intro w hSw; (try dsimp only at hSw); go_simp <;> with_reducible rfl)
              try simp only [Act.put, List.setIfInBounds_toArray, List.set_cons_zero, List.set_cons_succ]
              refine wpAnyH_take (i := 22) (oi := ?_) (v := ?_) ?_ (by kernel_rfl) (by kernel_rfl) (by kernel_rfl) ?_ ?_ (by assumption) ?_
              rotate_left 2
              · (simp only [List.getElem?_toArray, List.getElem?_cons_succ, List.getElem?_cons_zero]; rfl)
              · exact fun _ _ _ h => h
              · (refine Or.inl ⟨by rfl, ?_⟩; intro w hSw; (try dsimp only at hSw); go_simp <;> with_reducible rfl)
              try simp only [Act.put, List.setIfInBounds_toArray, List.set_cons_zero, List.set_cons_succ]
              refine wpAnyH_take (i := 23) (oi := ?_) (v := ?_) ?_ (by kernel_rfl) (by kernel_rfl) (by kernel_rfl) ?_ ?_ (by assumption) ?_
              rotate_left 2
              · (simp only [List.getElem?_toArray, List.getElem?_cons_succ, List.getElem?_cons_zero]; rfl)
              · exact fun _ _ _ h => h
              · (refine Or.inl ⟨by rfl, ?_⟩; intro w hSw; (try dsimp only at hSw); go_simp <;> with_reducible rfl)
              try simp only [Act.put, List.setIfInBounds_toArray, List.set_cons_zero, List.set_cons_succ]
              refine wpAnyH_take (i := 24) (oi := ?_) (v := ?_) ?_ (by kernel_rfl) (by kernel_rfl) (by kernel_rfl) ?_ ?_ (by assumption) ?_
              rotate_left 2
              · (simp only [List.getElem?_toArray, List.getElem?_cons_succ, List.getElem?_cons_zero]; rfl)
              · exact fun _ _ _ h => h
              · (refine Or.inl ⟨by rfl, ?_⟩; intro w hSw; (try dsimp only at hSw); go_simp <;> with_reducible rfl)
              try simp only [Act.put, List.setIfInBounds_toArray, List.set_cons_zero, List.set_cons_succ]
              refine wpAnyH_take (i := 25) (oi := ?_) (v := ?_) ?_ (by kernel_rfl) (by kernel_rfl) (by kernel_rfl) ?_ ?_ (by assumption) ?_
              rotate_left 2
              · (simp only [List.getElem?_toArray, List.getElem?_cons_succ, List.getElem?_cons_zero]; rfl)
              · exact fun _ _ _ h => h
              · (refine Or.inl ⟨by rfl, ?_⟩; intro w hSw; (try dsimp only at hSw); go_simp <;> with_reducible rfl)
              try simp only [Act.put, List.setIfInBounds_toArray, List.set_cons_zero, List.set_cons_succ]
              refine wpAnyH_take (i := 26) (oi := ?_) (v := ?_) ?_ (by kernel_rfl) (by kernel_rfl) (by kernel_rfl) ?_ ?_ (by assumption) ?_
              rotate_left 2
              · (simp only [List.getElem?_toArray, List.getElem?_cons_succ, List.getElem?_cons_zero]; rfl)
              · exact fun _ _ _ h => h
              · (refine Or.inl ⟨by rfl, ?_⟩; intro w hSw; (try dsimp only at hSw); go_simp <;> with_reducible rfl)
              try simp only [Act.put, List.setIfInBounds_toArray, List.set_cons_zero, List.set_cons_succ]
              refine wpAnyH_take (i := 27) (oi := ?_) (v := ?_) ?_ (by kernel_rfl) (by kernel_rfl) (by kernel_rfl) ?_ ?_ (by assumption) ?_
              rotate_left 2
              · (simp only [List.getElem?_toArray, List.getElem?_cons_succ, List.getElem?_cons_zero]; rfl)
              · exact fun _ _ _ h => h
              · (refine Or.inl ⟨by rfl, ?_⟩; intro w hSw; (try dsimp only at hSw); go_simp <;> with_reducible rfl)
              try simp only [Act.put, List.setIfInBounds_toArray, List.set_cons_zero, List.set_cons_succ]
              refine wpAnyH_take (i := 28) (oi := ?_) (v := ?_) ?_ (by kernel_rfl) (by kernel_rfl) (by kernel_rfl) ?_ ?_ (by assumption) ?_
              rotate_left 2
              · (simp only [List.getElem?_toArray, List.getElem?_cons_succ, List.getElem?_cons_zero]; rfl)
              · exact fun _ _ _ h => h
              · (refine Or.inl ⟨by rfl, ?_⟩; intro w hSw; (try dsimp only at hSw); go_simp <;> with_reducible rfl)
              try simp only [Act.put, List.setIfInBounds_toArray, List.set_cons_zero, List.set_cons_succ]
              refine wpAnyH_take (i := 29) (oi := ?_) (v := ?_) ?_ (by kernel_rfl) (by kernel_rfl) (by kernel_rfl) ?_ ?_ (by assumption) ?_
              rotate_left 2
              · (simp only [List.getElem?_toArray, List.getElem?_cons_succ, List.getElem?_cons_zero]; rfl)
              · exact fun _ _ _ h => h
              · (refine Or.inl ⟨by rfl, ?_⟩; intro w hSw; (try dsimp only at hSw); go_simp <;> with_reducible rfl)
              try simp only [Act.put, List.setIfInBounds_toArray, List.set_cons_zero, List.set_cons_succ]
              refine wpAnyH_take (i := 30) (oi := ?_) (v := ?_) ?_ (by kernel_rfl) (by kernel_rfl) (by kernel_rfl) ?_ ?_ (by assumption) ?_
              rotate_left 2
              · (simp only [List.getElem?_toArray, List.getElem?_cons_succ, List.getElem?_cons_zero]; rfl)
              · exact fun _ _ _ h => h
              · (refine Or.inl ⟨by rfl, ?_⟩; intro w hSw; (try dsimp only at hSw); go_simp <;> with_reducible rfl)
              try simp only [Act.put, List.setIfInBounds_toArray, List.set_cons_zero, List.set_cons_succ]
              refine wpAnyH_take (i := 31) (oi := ?_) (v := ?_) ?_ (by kernel_rfl) (by kernel_rfl) (by kernel_rfl) ?_ ?_ (by assumption) ?_
              rotate_left 2
              · (simp only [List.getElem?_toArray, List.getElem?_cons_succ, List.getElem?_cons_zero]; rfl)
              · exact fun _ _ _ h => h
              · (refine Or.inl ⟨by rfl, ?_⟩; intro w hSw; (try dsimp only at hSw); go_simp <;> with_reducible rfl)
              try simp only [Act.put, List.setIfInBounds_toArray, List.set_cons_zero, List.set_cons_succ]
              refine wpAnyH_take (i := 32) (oi := ?_) (v := ?_) ?_ (by kernel_rfl) (by kernel_rfl) (by kernel_rfl) ?_ ?_ (by assumption) ?_
              rotate_left 2
              · (simp only [List.getElem?_toArray, List.getElem?_cons_succ, List.getElem?_cons_zero]; rfl)
              · exact fun _ _ _ h => h
              · (refine Or.inl ⟨by rfl, ?_⟩; intro w hSw; (try dsimp only at hSw); go_simp <;> with_reducible rfl)
              try simp only [Act.put, List.setIfInBounds_toArray, List.set_cons_zero, List.set_cons_succ]
              refine wpAnyH_take (i := 33) (oi := ?_) (v := ?_) ?_ (by kernel_rfl) (by kernel_rfl) (by kernel_rfl) ?_ ?_ (by assumption) ?_
              rotate_left 2
              · (simp only [List.getElem?_toArray, List.getElem?_cons_succ, List.getElem?_cons_zero]; rfl)
              · exact fun _ _ _ h => h
              · (refine Or.inl ⟨by rfl, ?_⟩; intro w hSw; (try dsimp only at hSw); have q1 := hSw.2.2.2.2.2.2.2.1; unfold Reads at q1; go_simp <;> with_reducible rfl)
              try simp only [Act.put, List.setIfInBounds_toArray, List.set_cons_zero, List.set_cons_succ]
              refine wpAnyH_take (i := 34) (oi := ?_) (v := ?_) ?_ (by kernel_rfl) (by kernel_rfl) (by kernel_rfl) ?_ ?_ (by assumption) ?_
              rotate_left 2
              · (simp only [List.getElem?_toArray, List.getElem?_cons_succ, List.getElem?_cons_zero]; rfl)
              · exact fun _ _ _ h => h
              · (refine Or.inl ⟨by rfl, ?_⟩; intro w hSw; (try dsimp only at hSw); go_simp <;> with_reducible rfl)
              try simp only [Act.put, List.setIfInBounds_toArray, List.set_cons_zero, List.set_cons_succ]
              refine wpAnyH_take (i := 35) (oi := ?_) (v := ?_) ?_ (by kernel_rfl) (by kernel_rfl) (by kernel_rfl) ?_ ?_ (by assumption) ?_
              rotate_left 2
              · (simp only [List.getElem?_toArray, List.getElem?_cons_succ, List.getElem?_cons_zero]; rfl)
              · exact fun _ _ _ h => h
              · (refine Or.inl ⟨by rfl, ?_⟩; intro w hSw; (try dsimp only at hSw); go_simp <;> with_reducible rfl)
              try simp only [Act.put, List.setIfInBounds_toArray, List.set_cons_zero, List.set_cons_succ]
              refine wpAnyH_take (i := 36) (oi := ?_) (v := .slice (cutA A c q 1) (m - q) (c - q)) ?_ (by kernel_rfl) (by kernel_rfl) (by kernel_rfl) ?_ ?_ (by assumption) ?_
              rotate_left 1
              · (simp only [List.getElem?_toArray, List.getElem?_cons_succ, List.getElem?_cons_zero]; rfl)
              · exact fun _ _ _ h => h
              · (refine Or.inl ⟨by rfl, ?_⟩; intro w hSw; (try dsimp only at hSw); (go_simp <;> with_reducible rfl))
              try simp only [Act.put, List.setIfInBounds_toArray, List.set_cons_zero, List.set_cons_succ]
              refine wpAnyH_take (i := 37) (oi := ?_) (v := ?_) ?_ (by kernel_rfl) (by kernel_rfl) (by kernel_rfl) ?_ ?_ (by assumption) ?_
              rotate_left 2
              · (simp only [List.getElem?_toArray, List.getElem?_cons_succ, List.getElem?_cons_zero]; rfl)
              · exact fun _ _ _ h => h
              · (refine Or.inl ⟨by rfl, ?_⟩; intro w hSw; (try dsimp only at hSw); have q1 := hSw.2.2.2.2.2.2.2.2; unfold Reads at q1; go_simp <;> with_reducible rfl)
              try simp only [Act.put, List.setIfInBounds_toArray, List.set_cons_zero, List.set_cons_succ]
              refine wpAnyH_take (i := 38) (oi := ?_) (v := ?_) ?_ (by kernel_rfl) (by kernel_rfl) (by kernel_rfl) ?_ ?_ (by assumption) ?_
              rotate_left 2
              · (simp only [List.getElem?_toArray, List.getElem?_cons_succ, List.getElem?_cons_zero]; rfl)
              · exact fun _ _ _ h => h
              · (refine Or.inl ⟨by rfl, ?_⟩; intro w hSw; (try dsimp only at hSw); go_simp <;> with_reducible rfl)
              try simp only [Act.put, List.setIfInBounds_toArray, List.set_cons_zero, List.set_cons_succ]
              refine wpAnyH_take (i := 39) (oi := ?_) (v := ?_) ?_ (by kernel_rfl) (by kernel_rfl) (by kernel_rfl) ?_ ?_ (by assumption) ?_
              rotate_left 2
              · (simp only [List.getElem?_toArray, List.getElem?_cons_succ, List.getElem?_cons_zero]; rfl)
              · exact fun _ _ _ h => h
              · (refine Or.inl ⟨by rfl, ?_⟩; intro w hSw; (try dsimp only at hSw); go_simp <;> with_reducible rfl)
              try simp only [Act.put, List.setIfInBounds_toArray, List.set_cons_zero, List.set_cons_succ]
              refine wpAnyH_done (by kernel_rfl) (NoPanic.normal ?_) _
              go_wp2_with fail
              go_meet
              exact ⟨rfl, rfl⟩
            case rest =>
            obtain ⟨rfl, rfl⟩ := hcut
            have H13 : Hid (HC w1.heap.size w1 w11.drew x p7 (gSt l q i ((i + 1 : Nat) : Int))) := H12.out.drewN 1
            go_wp2_with fail
            go_roundg (20 - (i + 1))
            case measure => omega
            case rel => exact ⟨i + 1, q, i, p7, by omega, by omega, hqm, rfl, by go_num, rfl, H13⟩
          · have d3 : decide ((a : Int) ≤ (m : Int)) = false := decide_eq_false (by omega)
            have d3b : m < a := by omega
            obtain rfl : q = k := by rw [hq, hadOf, if_neg (by omega)]
            clear hq hll
            go_wp2_with fail
            refine Calls.mono (use_Tick H7.out (by show (i : Int) < _; omega) (by show (0 : Nat) ≤ _; omega) (gSt_mails hit (by rw [HLN.out]; exact hm16) (by rw [HLN.out]; exact hqm)) (S := gSt l q i ((i : Int) + 1)) (gSt_tick hit)) ?_
            rintro r w7 ⟨mA, mn, mc, xs, rfl, hml, hxs, p7, hc7, -, -⟩
            have hx2 : xs.length = 2 := by have := congrArg List.length hxs; simpa using this
            have hmn : mn = 2 := by rw [← hml.len]; exact hx2
            subst hmn
            have H8 := hide hc7
            obtain ⟨mg, hmg, -, -, mb0⟩ := mail_cell hml.row (i := 0) (by omega) (by omega)
            obtain ⟨mg2, hmg2, -, -, mb1⟩ := mail_cell hml.row (i := 1) (by omega) (by omega)
            subst hmg
            obtain rfl : mg = mg2 := by injection hmg2 with e; injection e
            have hb0 : (xs[0]'(by omega)).1.b = (gPkt 1 l 0).enc := by
              have h2 : (xs.map Prod.fst)[0]? = some ⟨0, 1, (gPkt 1 l 0).enc⟩ := by rw [hxs]; rfl
              rw [List.getElem?_map, List.getElem?_eq_getElem (by omega)] at h2
              injection h2 with h2
              rw [h2]
            have hb1 : (xs[1]'(by omega)).1.b = (gPkt 2 l q).enc := by
              have h2 : (xs.map Prod.fst)[1]? = some ⟨0, 2, (gPkt 2 l q).enc⟩ := by rw [hxs]; rfl
              rw [List.getElem?_map, List.getElem?_eq_getElem (by omega)] at h2
              injection h2 with h2
              rw [h2]
            have ho0 := hml.line _ (List.getElem_mem (show 0 < xs.length by omega))
            have ho1 := hml.line _ (List.getElem_mem (show 1 < xs.length by omega))
            rw [hb0] at ho0
            rw [hb1] at ho1
            obtain ⟨⟨bA, bn, bc⟩, hbs⟩ : ∃ b : Sl, b = (xs[0]'(by omega)).2 := ⟨_, rfl⟩
            obtain ⟨⟨eA, en, ec⟩, hes⟩ : ∃ b : Sl, b = (xs[1]'(by omega)).2 := ⟨_, rfl⟩
            rw [← hbs] at mb0 ho0
            rw [← hes] at mb1 ho1
            have mb0 : w7.cell? ⟨mg, 2, none⟩ = some (.slice bA bn bc) := mb0
            have mb1 : w7.cell? ⟨mg, 5, none⟩ = some (.slice eA en ec) := mb1
            have HO0 := hide ho0
            have HO1 := hide ho1
            have HIS0 : Hid (Pkt.Is (gPkt 1 l 0).enc (gPkt 1 l 0)) := Pkt.enc_is (gPkt_may (.inl rfl) (by rw [HLN.out]; exact hm16) (Nat.zero_le _)) (gPkt_wf 1 l 0)
            have HIS1 : Hid (Pkt.Is (gPkt 2 l q).enc (gPkt 2 l q)) := Pkt.enc_is (gPkt_may (.inr rfl) (by rw [HLN.out]; exact hm16) (by rw [HLN.out]; exact hqm)) (gPkt_wf 2 l q)
            have hbn : bn ≤ 100 := by have h1 := ho0.len; have := Pkt.enc_short (gPkt 1 l 0); simp only at h1; omega
            have hen : en ≤ 100 := by have h1 := ho1.len; have := Pkt.enc_short (gPkt 2 l q); simp only at h1; omega
            clear hml hxs hc7 hx2 hb0 hb1 ho0 ho1 hbs hes hmg2
            go_wp2_with fail
            refine Calls.mono (ref_Unpacket_yes (gPkt 1 l 0) HIS0.out HO0.out.lies (Nat.le_refl _) HO0.out.cap (show bn ≤ 1000000 by omega)) ?_
            rintro r w8 ⟨A8, n8, c8, rfl, hl8, hb8⟩
            have HL8 := hide hl8
            have H9 := hide (H8.out.below hb8)
            have HO18 := hide (HO1.out.below hb8)
            have mb1 := below_cell hb8 mb1
            clear hl8 hb8 mb0
            go_upto_region 24 with (refine wpP_init rfl (.tmp 13) (.tmp 81) rfl (gPkt 1 l 0) A8 n8 c8 rfl rfl rfl ?_; intro w9 ha9 hb9 hs9)
            have HP9 := hide ha9
            have HL9 := hide (HL8.out.below hb9)
            have H10 := hide (H9.out.below hb9)
            have HO19 := hide (HO18.out.below hb9)
            have mb1 := below_cell hb9 mb1
            obtain ⟨g1, hg1⟩ : ∃ g, g = w8.heap.size := ⟨_, rfl⟩
            have HW8 : Hid (w8.heap.size ≤ w9.heap.size) := hb9.size
            rw [← hg1] at HP9 ⊢
            clear ha9 hb9 hs9 hg1
            go_wp2_with fail
            refine Calls.mono (ref_Unpacket_yes (gPkt 2 l q) HIS1.out HO19.out.lies (Nat.le_refl _) HO19.out.cap (show en ≤ 1000000 by omega)) ?_
            rintro r w10 ⟨A10, n10, c10, rfl, hl10, hb10⟩
            have HL10 := hide hl10
            have H11 := hide (H10.out.below hb10)
            have HP10 := hide (HP9.out.belowN hb10)
            have HL9b := hide (HL9.out.below (hb10.mono HW8.out))
            have HW10 : Hid (w8.heap.size ≤ w10.heap.size) := Nat.le_trans HW8.out hb10.size
            clear hl10 hb10 mb1
            go_upto_region 25 with (refine wpP_init rfl (.tmp 15) (.tmp 89) rfl (gPkt 2 l q) A10 n10 c10 rfl rfl rfl ?_; intro w11 ha11 hb11 hs11)
            have HQ11 := hide ha11
            have HL11 := hide (HL10.out.below hb11)
            have H12 := hide (H11.out.below hb11)
            have HP11 := hide (HP10.out.belowN hb11)
            have HL9c := hide (HL9b.out.below (hb11.mono HW10.out))
            obtain ⟨g2, hg2⟩ : ∃ g, g = w10.heap.size := ⟨_, rfl⟩
            rw [← hg2] at HQ11 ⊢
            clear ha11 hb11 hs11 hg2
            have HAX : Hid (LiesB w11 w.heap.size A m l) := HA1.out.below (H12.out.bel.mono HS1.out)
            have q12 : w11.cell? ⟨g1, 2, none⟩ = some (.int .i64 1) := HP11.out.cell (j := 2) (by simp)
            have q15 : w11.cell? ⟨g1, 5, none⟩ = some (.slice A8 n8 c8) := HP11.out.cell (j := 5) (by simp)
            have q22 : w11.cell? ⟨g2, 2, none⟩ = some (.int .i64 2) := HQ11.out.cell (j := 2) (by simp)
            have q24 : w11.cell? ⟨g2, 4, none⟩ = some (.int .i64 (q : Int)) := HQ11.out.cell (j := 4) (by simp)
            have q25 : w11.cell? ⟨g2, 5, none⟩ = some (.slice A10 n10 c10) := HQ11.out.cell (j := 5) (by simp)
            have HRA : Hid (Reads A8 n8 c8 l w11.drew) := LiesB.reads (B := w8.heap.size) (l := l) HL9c.out.drew
            have HRM : Hid (Reads A m c l w11.drew) := HAX.out.drew.reads
            have HRB : Hid (Reads A10 n10 c10 (l.drop q) w11.drew) := HL11.out.drew.reads
            have HRC : Hid (Reads (cutA A c q 1) (m - q) (c - q) (l.drop q) w11.drew) := (LiesB.cut HAX.out.drew (k := q) (cap := c) hmc).reads
            go_cut [130] from 51 to 130 (fun s130 wx => s130 = .bool false ∧ wx = w11.drew)
            case first =>
              refine wp_region_noPanic ?_
              refine wp_region_held_drew (S := (fun w' => w'.cell? ⟨g1, 2, none⟩ = some (.int .i64 1) ∧ w'.cell? ⟨g1, 5, none⟩ = some (.slice A8 n8 c8) ∧ w'.cell? ⟨g2, 2, none⟩ = some (.int .i64 2) ∧ w'.cell? ⟨g2, 4, none⟩ = some (.int .i64 (q : Int)) ∧ w'.cell? ⟨g2, 5, none⟩ = some (.slice A10 n10 c10) ∧ Reads A8 n8 c8 l w' ∧ Reads A m c l w' ∧ Reads A10 n10 c10 (l.drop q) w' ∧ Reads (cutA A c q 1) (m - q) (c - q) (l.drop q) w')) (by kernel_rfl) ⟨q12, q15, q22, q24, q25, HRA.out, HRM.out, HRB.out, HRC.out⟩ (fun hHeld => ?_)
              refine wpAnyH_take (i := 0) (oi := ?_) (v := ?_) ?_ (by kernel_rfl) (by kernel_rfl) (by kernel_rfl) ?_ ?_ (by assumption) ?_
              rotate_left 2
              · (simp only [List.getElem?_toArray, List.getElem?_cons_zero]; rfl)
              · exact fun _ _ _ h => h
              · (refine Or.inl ⟨by rfl, ?_⟩; intro w hSw; (try dsimp only at hSw); go_simp <;> with_reducible rfl)
              try simp only [Act.put, List.setIfInBounds_toArray, List.set_cons_zero, List.set_cons_succ]
              refine wpAnyH_take (i := 1) (oi := ?_) (v := ?_) ?_ (by kernel_rfl) (by kernel_rfl) (by kernel_rfl) ?_ ?_ (by assumption) ?_
              rotate_left 2
              · (simp only [List.getElem?_toArray, List.getElem?_cons_succ, List.getElem?_cons_zero]; rfl)
              · exact fun _ _ _ h => h
              · (refine Or.inl ⟨by rfl, ?_⟩; intro w hSw; (try dsimp only at hSw); go_simp <;> with_reducible rfl)
              try simp only [Act.put, List.setIfInBounds_toArray, List.set_cons_zero, List.set_cons_succ]
              refine wpAnyH_take (i := 2) (oi := ?_) (v := ?_) ?_ (by kernel_rfl) (by kernel_rfl) (by kernel_rfl) ?_ ?_ (by assumption) ?_
              rotate_left 2
              · (simp only [List.getElem?_toArray, List.getElem?_cons_succ, List.getElem?_cons_zero]; rfl)
              · exact fun _ _ _ h => h
              · (refine Or.inl ⟨by rfl, ?_⟩; intro w hSw; (try dsimp only at hSw); go_simp <;> with_reducible rfl)
              try simp only [Act.put, List.setIfInBounds_toArray, List.set_cons_zero, List.set_cons_succ]
              refine wpAnyH_take (i := 3) (oi := ?_) (v := ?_) ?_ (by kernel_rfl) (by kernel_rfl) (by kernel_rfl) ?_ ?_ (by assumption) ?_
              rotate_left 2
              · (simp only [List.getElem?_toArray, List.getElem?_cons_succ, List.getElem?_cons_zero]; rfl)
              · exact fun _ _ _ h => h
              · (refine Or.inl ⟨by rfl, ?_⟩; intro w hSw; (try dsimp only at hSw); go_simp <;> with_reducible rfl)
              try simp only [Act.put, List.setIfInBounds_toArray, List.set_cons_zero, List.set_cons_succ]
              refine wpAnyH_take (i := 4) (oi := ?_) (v := ?_) ?_ (by kernel_rfl) (by kernel_rfl) (by kernel_rfl) ?_ ?_ (by assumption) ?_
              rotate_left 2
              · (simp only [List.getElem?_toArray, List.getElem?_cons_succ, List.getElem?_cons_zero]; rfl)
              · exact fun _ _ _ h => h
              · (refine Or.inl ⟨by rfl, ?_⟩; intro w hSw; (try dsimp only at hSw); go_simp <;> with_reducible rfl)
              try simp only [Act.put, List.setIfInBounds_toArray, List.set_cons_zero, List.set_cons_succ]
              refine wpAnyH_take (i := 5) (oi := ?_) (v := ?_) ?_ (by kernel_rfl) (by kernel_rfl) (by kernel_rfl) ?_ ?_ (by assumption) ?_
              rotate_left 2
              · (simp only [List.getElem?_toArray, List.getElem?_cons_succ, List.getElem?_cons_zero]; rfl)
              · exact fun _ _ _ h => h
              · (refine Or.inl ⟨by rfl, ?_⟩; intro w hSw; (try dsimp only at hSw); go_simp <;> with_reducible rfl)
              try simp only [Act.put, List.setIfInBounds_toArray, List.set_cons_zero, List.set_cons_succ]
              refine wpAnyH_take (i := 6) (oi := ?_) (v := ?_) ?_ (by kernel_rfl) (by kernel_rfl) (by kernel_rfl) ?_ ?_ (by assumption) ?_
              rotate_left 2
              · (simp only [List.getElem?_toArray, List.getElem?_cons_succ, List.getElem?_cons_zero]; rfl)
              · exact fun _ _ _ h => h
              · (refine Or.inl ⟨by rfl, ?_⟩; intro w hSw; (try dsimp only at hSw); go_simp <;> with_reducible rfl)
              try simp only [Act.put, List.setIfInBounds_toArray, List.set_cons_zero, List.set_cons_succ]
              refine wpAnyH_take (i := 7) (oi := ?_) (v := ?_) ?_ (by kernel_rfl) (by kernel_rfl) (by kernel_rfl) ?_ ?_ (by assumption) ?_
              rotate_left 2
              · (simp only [List.getElem?_toArray, List.getElem?_cons_succ, List.getElem?_cons_zero]; rfl)
              · exact fun _ _ _ h => h
              · (refine Or.inl ⟨by rfl, ?_⟩; intro w hSw; (try dsimp only at hSw); go_simp <;> with_reducible rfl)
              try simp only [Act.put, List.setIfInBounds_toArray, List.set_cons_zero, List.set_cons_succ]
              refine wpAnyH_take (i := 8) (oi := ?_) (v := ?_) ?_ (by kernel_rfl) (by kernel_rfl) (by kernel_rfl) ?_ ?_ (by assumption) ?_
              rotate_left 2
              · (simp only [List.getElem?_toArray, List.getElem?_cons_succ, List.getElem?_cons_zero]; rfl)
              · exact fun _ _ _ h => h
              · (refine Or.inl ⟨by rfl, ?_⟩; intro w hSw; (try dsimp only at hSw); go_simp <;> with_reducible rfl)
              try simp only [Act.put, List.setIfInBounds_toArray, List.set_cons_zero, List.set_cons_succ]
              refine wpAnyH_take (i := 9) (oi := ?_) (v := ?_) ?_ (by kernel_rfl) (by kernel_rfl) (by kernel_rfl) ?_ ?_ (by assumption) ?_
              rotate_left 2
              · (simp only [List.getElem?_toArray, List.getElem?_cons_succ, List.getElem?_cons_zero]; rfl)
              · exact fun _ _ _ h => h
              · (refine Or.inl ⟨by rfl, ?_⟩; intro w hSw; (try dsimp only at hSw); go_simp <;> with_reducible rfl)
              try simp only [Act.put, List.setIfInBounds_toArray, List.set_cons_zero, List.set_cons_succ]
              refine wpAnyH_take (i := 10) (oi := ?_) (v := ?_) ?_ (by kernel_rfl) (by kernel_rfl) (by kernel_rfl) ?_ ?_ (by assumption) ?_
              rotate_left 2
              · (simp only [List.getElem?_toArray, List.getElem?_cons_succ, List.getElem?_cons_zero]; rfl)
              · exact fun _ _ _ h => h
              · (refine Or.inl ⟨by rfl, ?_⟩; intro w hSw; (try dsimp only at hSw); go_simp <;> with_reducible rfl)
              try simp only [Act.put, List.setIfInBounds_toArray, List.set_cons_zero, List.set_cons_succ]
              refine wpAnyH_take (i := 11) (oi := ?_) (v := ?_) ?_ (by kernel_rfl) (by kernel_rfl) (by kernel_rfl) ?_ ?_ (by assumption) ?_
              rotate_left 2
              · (simp only [List.getElem?_toArray, List.getElem?_cons_succ, List.getElem?_cons_zero]; rfl)
              · exact fun _ _ _ h => h
              · (refine Or.inl ⟨by rfl, ?_⟩; intro w hSw; (try dsimp only at hSw); go_simp <;> with_reducible rfl)
              try simp only [Act.put, List.setIfInBounds_toArray, List.set_cons_zero, List.set_cons_succ]
              refine wpAnyH_take (i := 12) (oi := ?_) (v := ?_) ?_ (by kernel_rfl) (by kernel_rfl) (by kernel_rfl) ?_ ?_ (by assumption) ?_
              rotate_left 2
              · (simp only [List.getElem?_toArray, List.getElem?_cons_succ, List.getElem?_cons_zero]; rfl)
              · exact fun _ _ _ h => h
              · (refine Or.inl ⟨by rfl, ?_⟩; intro w hSw; (try dsimp only at hSw); go_simp <;> with_reducible rfl)
              try simp only [Act.put, List.setIfInBounds_toArray, List.set_cons_zero, List.set_cons_succ]
              refine wpAnyH_take (i := 13) (oi := ?_) (v := ?_) ?_ (by kernel_rfl) (by kernel_rfl) (by kernel_rfl) ?_ ?_ (by assumption) ?_
              rotate_left 2
              · (simp only [List.getElem?_toArray, List.getElem?_cons_succ, List.getElem?_cons_zero]; rfl)
              · exact fun _ _ _ h => h
              · (refine Or.inl ⟨by rfl, ?_⟩; intro w hSw; (try dsimp only at hSw); go_simp <;> with_reducible rfl)
              try simp only [Act.put, List.setIfInBounds_toArray, List.set_cons_zero, List.set_cons_succ]
              refine wpAnyH_take (i := 14) (oi := ?_) (v := ?_) ?_ (by kernel_rfl) (by kernel_rfl) (by kernel_rfl) ?_ ?_ (by assumption) ?_
              rotate_left 2
              · (simp only [List.getElem?_toArray, List.getElem?_cons_succ, List.getElem?_cons_zero]; rfl)
              · exact fun _ _ _ h => h
              · (refine Or.inl ⟨by rfl, ?_⟩; intro w hSw; (try dsimp only at hSw); have q1 := hSw.2.2.2.2.2.1; unfold Reads at q1; go_simp <;> with_reducible rfl)
              try simp only [Act.put, List.setIfInBounds_toArray, List.set_cons_zero, List.set_cons_succ]
              refine wpAnyH_take (i := 15) (oi := ?_) (v := ?_) ?_ (by kernel_rfl) (by kernel_rfl) (by kernel_rfl) ?_ ?_ (by assumption) ?_
              rotate_left 2
              · (simp only [List.getElem?_toArray, List.getElem?_cons_succ, List.getElem?_cons_zero]; rfl)
              · exact fun _ _ _ h => h
              · (refine Or.inl ⟨by rfl, ?_⟩; intro w hSw; (try dsimp only at hSw); go_simp <;> with_reducible rfl)
              try simp only [Act.put, List.setIfInBounds_toArray, List.set_cons_zero, List.set_cons_succ]
              refine wpAnyH_take (i := 16) (oi := ?_) (v := ?_) ?_ (by kernel_rfl) (by kernel_rfl) (by kernel_rfl) ?_ ?_ (by assumption) ?_
              rotate_left 2
              · (simp only [List.getElem?_toArray, List.getElem?_cons_succ, List.getElem?_cons_zero]; rfl)
              · exact fun _ _ _ h => h
              · (refine Or.inl ⟨by rfl, ?_⟩; intro w hSw; (try dsimp only at hSw); have q1 := hSw.2.2.2.2.2.2.1; unfold Reads at q1; go_simp <;> with_reducible rfl)
              try simp only [Act.put, List.setIfInBounds_toArray, List.set_cons_zero, List.set_cons_succ]
              refine wpAnyH_take (i := 17) (oi := ?_) (v := ?_) ?_ (by kernel_rfl) (by kernel_rfl) (by kernel_rfl) ?_ ?_ (by assumption) ?_
              rotate_left 2
              · (simp only [List.getElem?_toArray, List.getElem?_cons_succ, List.getElem?_cons_zero]; rfl)
              · exact fun _ _ _ h => h
              · (refine Or.inl ⟨by rfl, ?_⟩; intro w hSw; (try dsimp only at hSw); go_simp <;> with_reducible rfl)
              try simp only [Act.put, List.setIfInBounds_toArray, List.set_cons_zero, List.set_cons_succ]
              refine wpAnyH_take (i := 18) (oi := ?_) (v := ?_) ?_ (by kernel_rfl) (by kernel_rfl) (by kernel_rfl) ?_ ?_ (by assumption) ?_
              rotate_left 2
              · (simp only [List.getElem?_toArray, List.getElem?_cons_succ, List.getElem?_cons_zero]; rfl)
              · exact fun _ _ _ h => h
              · (refine Or.inl ⟨by rfl, ?_⟩; intro w hSw; (try dsimp only at hSw); go_simp <;> with_reducible rfl)
              try simp only [Act.put, List.setIfInBounds_toArray, List.set_cons_zero, List.set_cons_succ]
              refine wpAnyH_take (i := 19) (oi := ?_) (v := ?_) ?_ (by kernel_rfl) (by kernel_rfl) (by kernel_rfl) ?_ ?_ (by assumption) ?_
              rotate_left 2
              · (simp only [List.getElem?_toArray, List.getElem?_cons_succ, List.getElem?_cons_zero]; rfl)
              · exact fun _ _ _ h => h
              · (refine Or.inl ⟨by rfl, ?_⟩; intro w hSw; (try dsimp only at hSw); go_simp <;> with_reducible rfl)
              try simp only [Act.put, List.setIfInBounds_toArray, List.set_cons_zero, List.set_cons_succ]
              refine wpAnyH_take (i := 20) (oi := ?_) (v := ?_) ?_ (by kernel_rfl) (by kernel_rfl) (by kernel_rfl) ?_ ?_ (by assumption) ?_
              rotate_left 2
              · (simp only [List.getElem?_toArray, List.getElem?_cons_succ, List.getElem?_cons_zero]; rfl)
              · exact fun _ _ _ h => h
              · (refine Or.inl ⟨by rfl, ?_⟩; intro w hSw; (try dsimp only at hSw); go_simp <;> with_reducible rfl)
              try simp only [Act.put, List.setIfInBounds_toArray, List.set_cons_zero, List.set_cons_succ]
              refine wpAnyH_take (i := 21) (oi := ?_) (v := ?_) ?_ (by kernel_rfl) (by kernel_rfl) (by kernel_rfl) ?_ ?_ (by assumption) ?_
              rotate_left 2
              · (simp only [List.getElem?_toArray, List.getElem?_cons_succ, List.getElem?_cons_zero]; rfl)
              · exact fun _ _ _ h => h
              · (refine Or.inl ⟨by rfl, ?_⟩; intro w hSw; (try dsimp only at hSw); go_simp <;> with_reducible rfl)
              try simp only [Act.put, List.setIfInBounds_toArray, List.set_cons_zero, List.set_cons_succ]
              refine wpAnyH_take (i := 22) (oi := ?_) (v := ?_) ?_ (by kernel_rfl) (by kernel_rfl) (by kernel_rfl) ?_ ?_ (by assumption) ?_
              rotate_left 2
              · (simp only [List.getElem?_toArray, List.getElem?_cons_succ, List.getElem?_cons_zero]; rfl)
              · exact fun _ _ _ h => h
              · (refine Or.inl ⟨by rfl, ?_⟩; intro w hSw; (try dsimp only at hSw); go_simp <;> with_reducible rfl)
              try simp only [Act.put, List.setIfInBounds_toArray, List.set_cons_zero, List.set_cons_succ]
              refine wpAnyH_take (i := 23) (oi := ?_) (v := ?_) ?_ (by kernel_rfl) (by kernel_rfl) (by kernel_rfl) ?_ ?_ (by assumption) ?_
              rotate_left 2
              · (simp only [List.getElem?_toArray, List.getElem?_cons_succ, List.getElem?_cons_zero]; rfl)
              · exact fun _ _ _ h => h
              · (refine Or.inl ⟨by rfl, ?_⟩; intro w hSw; (try dsimp only at hSw); go_simp <;> with_reducible rfl)
              try simp only [Act.put, List.setIfInBounds_toArray, List.set_cons_zero, List.set_cons_succ]
              refine wpAnyH_take (i := 24) (oi := ?_) (v := ?_) ?_ (by kernel_rfl) (by kernel_rfl) (by kernel_rfl) ?_ ?_ (by assumption) ?_
              rotate_left 2
              · (simp only [List.getElem?_toArray, List.getElem?_cons_succ, List.getElem?_cons_zero]; rfl)
              · exact fun _ _ _ h => h
              · (refine Or.inl ⟨by rfl, ?_⟩; intro w hSw; (try dsimp only at hSw); go_simp <;> with_reducible rfl)
              try simp only [Act.put, List.setIfInBounds_toArray, List.set_cons_zero, List.set_cons_succ]
              refine wpAnyH_take (i := 25) (oi := ?_) (v := ?_) ?_ (by kernel_rfl) (by kernel_rfl) (by kernel_rfl) ?_ ?_ (by assumption) ?_
              rotate_left 2
              · (simp only [List.getElem?_toArray, List.getElem?_cons_succ, List.getElem?_cons_zero]; rfl)
              · exact fun _ _ _ h => h
              · (refine Or.inl ⟨by rfl, ?_⟩; intro w hSw; (try dsimp only at hSw); go_simp <;> with_reducible rfl)
              try simp only [Act.put, List.setIfInBounds_toArray, List.set_cons_zero, List.set_cons_succ]
              refine wpAnyH_take (i := 26) (oi := ?_) (v := ?_) ?_ (by kernel_rfl) (by kernel_rfl) (by kernel_rfl) ?_ ?_ (by assumption) ?_
              rotate_left 2
              · (simp only [List.getElem?_toArray, List.getElem?_cons_succ, List.getElem?_cons_zero]; rfl)
              · exact fun _ _ _ h => h
              · (refine Or.inl ⟨by rfl, ?_⟩; intro w hSw; (try dsimp only at hSw); go_simp <;> with_reducible rfl)
              try simp only [Act.put, List.setIfInBounds_toArray, List.set_cons_zero, List.set_cons_succ]
              refine wpAnyH_take (i := 27) (oi := ?_) (v := ?_) ?_ (by kernel_rfl) (by kernel_rfl) (by kernel_rfl) ?_ ?_ (by assumption) ?_
              rotate_left 2
              · (simp only [List.getElem?_toArray, List.getElem?_cons_succ, List.getElem?_cons_zero]; rfl)
              · exact fun _ _ _ h => h
              · (refine Or.inl ⟨by rfl, ?_⟩; intro w hSw; (try dsimp only at hSw); go_simp <;> with_reducible rfl)
              try simp only [Act.put, List.setIfInBounds_toArray, List.set_cons_zero, List.set_cons_succ]
              refine wpAnyH_take (i := 28) (oi := ?_) (v := ?_) ?_ (by kernel_rfl) (by kernel_rfl) (by kernel_rfl) ?_ ?_ (by assumption) ?_
              rotate_left 2
              · (simp only [List.getElem?_toArray, List.getElem?_cons_succ, List.getElem?_cons_zero]; rfl)
              · exact fun _ _ _ h => h
              · (refine Or.inl ⟨by rfl, ?_⟩; intro w hSw; (try dsimp only at hSw); go_simp <;> with_reducible rfl)
              try simp only [Act.put, List.setIfInBounds_toArray, List.set_cons_zero, List.set_cons_succ]
              refine wpAnyH_take (i := 29) (oi := ?_) (v := ?_) ?_ (by kernel_rfl) (by kernel_rfl) (by kernel_rfl) ?_ ?_ (by assumption) ?_
              rotate_left 2
              · (simp only [List.getElem?_toArray, List.getElem?_cons_succ, List.getElem?_cons_zero]; rfl)
              · exact fun _ _ _ h => h
              · (refine Or.inl ⟨by rfl, ?_⟩; intro w hSw; (try dsimp only at hSw); go_simp <;> with_reducible rfl)
              try simp only [Act.put, List.setIfInBounds_toArray, List.set_cons_zero, List.set_cons_succ]
              refine wpAnyH_take (i := 30) (oi := ?_) (v := ?_) ?_ (by kernel_rfl) (by kernel_rfl) (by kernel_rfl) ?_ ?_ (by assumption) ?_
              rotate_left 2
              · (simp only [List.getElem?_toArray, List.getElem?_cons_succ, List.getElem?_cons_zero]; rfl)
              · exact fun _ _ _ h => h
              · (refine Or.inl ⟨by rfl, ?_⟩; intro w hSw; (try dsimp only at hSw); go_simp <;> with_reducible rfl)
              try simp only [Act.put, List.setIfInBounds_toArray, List.set_cons_zero, List.set_cons_succ]
              refine wpAnyH_take (i := 31) (oi := ?_) (v := ?_) ?_ (by kernel_rfl) (by kernel_rfl) (by kernel_rfl) ?_ ?_ (by assumption) ?_
              rotate_left 2
              · (simp only [List.getElem?_toArray, List.getElem?_cons_succ, List.getElem?_cons_zero]; rfl)
              · exact fun _ _ _ h => h
              · (refine Or.inl ⟨by rfl, ?_⟩; intro w hSw; (try dsimp only at hSw); go_simp <;> with_reducible rfl)
              try simp only [Act.put, List.setIfInBounds_toArray, List.set_cons_zero, List.set_cons_succ]
              refine wpAnyH_take (i := 32) (oi := ?_) (v := ?_) ?_ (by kernel_rfl) (by kernel_rfl) (by kernel_rfl) ?_ ?_ (by assumption) ?_
              rotate_left 2
              · (simp only [List.getElem?_toArray, List.getElem?_cons_succ, List.getElem?_cons_zero]; rfl)
              · exact fun _ _ _ h => h
              · (refine Or.inl ⟨by rfl, ?_⟩; intro w hSw; (try dsimp only at hSw); go_simp <;> with_reducible rfl)
              try simp only [Act.put, List.setIfInBounds_toArray, List.set_cons_zero, List.set_cons_succ]
              refine wpAnyH_take (i := 33) (oi := ?_) (v := ?_) ?_ (by kernel_rfl) (by kernel_rfl) (by kernel_rfl) ?_ ?_ (by assumption) ?_
              rotate_left 2
              · (simp only [List.getElem?_toArray, List.getElem?_cons_succ, List.getElem?_cons_zero]; rfl)
              · exact fun _ _ _ h => h
              · (refine Or.inl ⟨by rfl, ?_⟩; intro w hSw; (try dsimp only at hSw); have q1 := hSw.2.2.2.2.2.2.2.1; unfold Reads at q1; go_simp <;> with_reducible rfl)
              try simp only [Act.put, List.setIfInBounds_toArray, List.set_cons_zero, List.set_cons_succ]
              refine wpAnyH_take (i := 34) (oi := ?_) (v := ?_) ?_ (by kernel_rfl) (by kernel_rfl) (by kernel_rfl) ?_ ?_ (by assumption) ?_
              rotate_left 2
              · (simp only [List.getElem?_toArray, List.getElem?_cons_succ, List.getElem?_cons_zero]; rfl)
              · exact fun _ _ _ h => h
              · (refine Or.inl ⟨by rfl, ?_⟩; intro w hSw; (try dsimp only at hSw); go_simp <;> with_reducible rfl)
              try simp only [Act.put, List.setIfInBounds_toArray, List.set_cons_zero, List.set_cons_succ]
              refine wpAnyH_take (i := 35) (oi := ?_) (v := ?_) ?_ (by kernel_rfl) (by kernel_rfl) (by kernel_rfl) ?_ ?_ (by assumption) ?_
              rotate_left 2
              · (simp only [List.getElem?_toArray, List.getElem?_cons_succ, List.getElem?_cons_zero]; rfl)
              · exact fun _ _ _ h => h
              · (refine Or.inl ⟨by rfl, ?_⟩; intro w hSw; (try dsimp only at hSw); go_simp <;> with_reducible rfl)
              try simp only [Act.put, List.setIfInBounds_toArray, List.set_cons_zero, List.set_cons_succ]
              refine wpAnyH_take (i := 36) (oi := ?_) (v := .slice (cutA A c q 1) (m - q) (c - q)) ?_ (by kernel_rfl) (by kernel_rfl) (by kernel_rfl) ?_ ?_ (by assumption) ?_
              rotate_left 1
              · (simp only [List.getElem?_toArray, List.getElem?_cons_succ, List.getElem?_cons_zero]; rfl)
              · exact fun _ _ _ h => h
              · (refine Or.inl ⟨by rfl, ?_⟩; intro w hSw; (try dsimp only at hSw); (go_simp <;> with_reducible rfl))
              try simp only [Act.put, List.setIfInBounds_toArray, List.set_cons_zero, List.set_cons_succ]
              refine wpAnyH_take (i := 37) (oi := ?_) (v := ?_) ?_ (by kernel_rfl) (by kernel_rfl) (by kernel_rfl) ?_ ?_ (by assumption) ?_
              rotate_left 2
              · (simp only [List.getElem?_toArray, List.getElem?_cons_succ, List.getElem?_cons_zero]; rfl)
              · exact fun _ _ _ h => h
              · (refine Or.inl ⟨by rfl, ?_⟩; intro w hSw; (try dsimp only at hSw); have q1 := hSw.2.2.2.2.2.2.2.2; unfold Reads at q1; go_simp <;> with_reducible rfl)
              try simp only [Act.put, List.setIfInBounds_toArray, List.set_cons_zero, List.set_cons_succ]
              refine wpAnyH_take (i := 38) (oi := ?_) (v := ?_) ?_ (by kernel_rfl) (by kernel_rfl) (by kernel_rfl) ?_ ?_ (by assumption) ?_
              rotate_left 2
              · (simp only [List.getElem?_toArray, List.getElem?_cons_succ, List.getElem?_cons_zero]; rfl)
              · exact fun _ _ _ h => h
              · (refine Or.inl ⟨by rfl, ?_⟩; intro w hSw; (try dsimp only at hSw); go_simp <;> with_reducible rfl)
              try simp only [Act.put, List.setIfInBounds_toArray, List.set_cons_zero, List.set_cons_succ]
              refine wpAnyH_take (i := 39) (oi := ?_) (v := ?_) ?_ (by kernel_rfl) (by kernel_rfl) (by kernel_rfl) ?_ ?_ (by assumption) ?_
              rotate_left 2
              · (simp only [List.getElem?_toArray, List.getElem?_cons_succ, List.getElem?_cons_zero]; rfl)
              · exact fun _ _ _ h => h
              · (refine Or.inl ⟨by rfl, ?_⟩; intro w hSw; (try dsimp only at hSw); go_simp <;> with_reducible rfl)
              try simp only [Act.put, List.setIfInBounds_toArray, List.set_cons_zero, List.set_cons_succ]
              refine wpAnyH_done (by kernel_rfl) (NoPanic.normal ?_) _
              go_wp2_with fail
              go_meet
              exact ⟨rfl, rfl⟩
            case rest =>
            obtain ⟨rfl, rfl⟩ := hcut
            have H13 : Hid (HC w1.heap.size w1 w11.drew x p7 (gSt l q i ((i + 1 : Nat) : Int))) := H12.out.drewN 1
            go_wp2_with fail
            go_roundg (20 - (i + 1))
            case measure => omega
            case rel => exact ⟨i + 1, q, i, p7, by omega, by omega, hqm, rfl, by go_num, rfl, H13⟩
        · by_cases h1 : i < n2
          · obtain rfl : i = 20 := by omega
            have d1 : decide (((20 : Nat) : Int) < (n2 : Int)) = true := decide_eq_true (by omega)
            have d2 : (20 : Int) < (n2 : Int) := by omega
            clear hlt
            go_wp2_with fail
            go_ret
            exact ⟨rfl, HB1.out.trans (H5.out.bel.mono HS1.out)⟩
          · obtain rfl : n2 = i := by omega
            clear hlt
            go_wp2_with fail
            go_ret
            exact ⟨rfl, HB1.out.trans (H5.out.bel.mono HS1.out)⟩
end Go.Proofs.Ytbcgffgiifminaa
