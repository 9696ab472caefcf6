/-
  CoreApart: the walk.
-/
import Derived.Test.YtbcgffgiifminaaStand
namespace Go.Proofs.Ytbcgffgiifminaa
open Go.RowKit
set_option maxRecDepth 10000
set_option linter.unusedVariables false
def aCfg : Cfg := ⟨3, 0, 3, 0, 16, 1, 0, 0, 0, 3⟩
theorem aCfg_fine : aCfg.Fine := aCfg.may_iff.1 (by decide)
def aSt (f s : Int) (ap : Bool) (ms : List Int) (ev : List Ev) : Co := ⟨aCfg, [[], [], []], [⟨0, 0, 0, 0, false⟩, ⟨0, 0, 0, 0, false⟩, ⟨0, 0, f, s, ap⟩], ms, ev, 0, false⟩
def aPkt (j : Nat) (s : Int) : Pkt := ⟨1, 2, 0, 3, 0, [], 0, (j : Int) + 1, s⟩
theorem aPkt_may {j : Nat} (h : j < 30) (s : Int) : (aPkt j s).may = true := Pkt.may_iff.2 ⟨by show (0 : Int) ≤ 2 ∧ (2 : Int) ≤ 7; omega, by show (0 : Int) ≤ 0 ∧ (0 : Int) ≤ 7; omega, by show (2 : Int) ≠ 0; omega, by show (0 : Int) ≤ 3 ∧ (3 : Int) ≤ _; omega,
  .inl ⟨rfl, by show (0 : Int) ≤ 0 ∧ (0 : Int) ≤ 1000; omega, by show (0 : Int) ≤ 0 ∧ (0 : Int) ≤ 1000; omega, by show (0 : Int) ≤ (j : Int) + 1 ∧ (j : Int) + 1 ≤ 1000; omega, by show (0 : Nat) ≤ 32; omega⟩⟩
/-- Is the word another one than the mark? -/
def aBad (j : Nat) (s : Int) (ms : List Int) : Bool := decide (j < ms.length) && !(s == ms.getD j 0)
def aEnd (j : Nat) (s : Int) (ms : List Int) : Co := aSt ((j : Int) + 1) s (aBad j s ms) ms (if aBad j s ms = true then [.apart 2 ((j : Int) + 1)] else [])
theorem aSt_hold (f s : Int) (ap : Bool) (ms : List Int) (ev : List Ev) : (aSt f s ap ms ev).hold = if (⟨0, 0, f, s, ap⟩ : Peer).bad ms = true then aSt f s true ms (ev ++ [.apart 2 f]) else aSt f s ap ms ev := by
  have e : (aSt f s ap ms ev).hold = (((aSt f s ap ms ev).hold1 0).hold1 1).hold1 2 := rfl
  have e0 : (aSt f s ap ms ev).hold1 0 = aSt f s ap ms ev := by
    show (if (⟨0, 0, 0, 0, false⟩ : Peer).bad ms = true then ({ aSt f s ap ms ev with peers := (aSt f s ap ms ev).peers.set 0 ⟨0, 0, 0, 0, true⟩, events := ev ++ [.apart 0 0] } : Co) else aSt f s ap ms ev) = _
    exact if_neg (by rw [Peer.bad]; simp)
  have e1 : (aSt f s ap ms ev).hold1 1 = aSt f s ap ms ev := by
    show (if (⟨0, 0, 0, 0, false⟩ : Peer).bad ms = true then ({ aSt f s ap ms ev with peers := (aSt f s ap ms ev).peers.set 1 ⟨0, 0, 0, 0, true⟩, events := ev ++ [.apart 1 0] } : Co) else aSt f s ap ms ev) = _
    exact if_neg (by rw [Peer.bad]; simp)
  rw [e, e0, e1]; rfl
theorem aBad_bad (j : Nat) (s : Int) (ap : Bool) (ms : List Int) : (⟨0, 0, (j : Int) + 1, s, ap⟩ : Peer).bad ms = (aBad j s ms && !ap) := by
  show (decide (1 ≤ (j : Int) + 1) && decide ((j : Int) + 1 ≤ (ms.length : Int)) && !ap && !(s == ms.getD ((j : Int) + 1 - 1).toNat 0)) = _
  have e1 : ((j : Int) + 1 - 1).toNat = j := by omega
  have e2 : decide ((j : Int) + 1 ≤ (ms.length : Int)) = decide (j < ms.length) := decide_eq_decide.2 (by omega)
  rw [e1, e2, decide_eq_true (show 1 ≤ (j : Int) + 1 by omega), aBad]
  cases decide (j < ms.length) <;> cases ap <;> simp
theorem aSt_tell {j : Nat} {s : Int} {ms : List Int} : (aSt ((j : Int) + 1) s false ms []).hold = aEnd j s ms := by
  rw [aSt_hold, aBad_bad, aEnd]
  cases aBad j s ms <;> rfl
theorem aEnd_hold {j : Nat} {s : Int} {ms : List Int} : (aEnd j s ms).hold = aEnd j s ms := by
  rw [aEnd, aSt_hold, aBad_bad]
  cases aBad j s ms <;> rfl
theorem aSt_hear (f s0 : Int) (ap : Bool) (ms : List Int) (ev : List Ev) (j : Nat) (s : Int) (h : f ≤ (j : Int) + 1) : (aSt f s0 ap ms ev).hear (aPkt j s) = (aSt ((j : Int) + 1) s ap ms ev).hold := by
  have e1 : ((((aSt f s0 ap ms ev).hear1 2).hear2 2 (aPkt j s)).hear3 2 (aPkt j s)) = aSt f s0 ap ms ev := by rfl
  have e2 : (aSt f s0 ap ms ev).hear4 2 (aPkt j s) = aSt ((j : Int) + 1) s ap ms ev := by
    rw [Co.hear4, if_pos]
    · rfl
    · show (decide ((j : Int) + 1 > 0) && decide ((j : Int) + 1 ≥ f)) = true
      rw [decide_eq_true (by omega), decide_eq_true (by omega)]; rfl
  show ((((((aSt f s0 ap ms ev).hear1 2).hear2 2 (aPkt j s)).hear3 2 (aPkt j s)).hear4 2 (aPkt j s)).hold) = _
  rw [e1, e2]
theorem aSt_hear0 (ms : List Int) (j : Nat) (s : Int) : (aSt 0 0 false ms []).hear (aPkt j s) = aEnd j s ms := by rw [aSt_hear _ _ _ _ _ _ _ (by omega), aSt_tell]
theorem aEnd_hear (ms : List Int) (j : Nat) (s : Int) : (aEnd j s ms).hear (aPkt j s) = aEnd j s ms := by
  rw [aEnd, aSt_hear _ _ _ _ _ _ _ (by omega)]
  exact aEnd_hold
theorem aEnd_nil (j : Nat) (s : Int) : aEnd j s [] = aSt ((j : Int) + 1) s false [] [] := by
  have e : aBad j s [] = false := by rw [aBad, decide_eq_false (by simp)]; rfl
  rw [aEnd, e]; rfl
theorem aSt_mark0 {ms : List Int} (h : ms.length < 1000) (m : Int) : (aSt 0 0 false ms []).mark m = aSt 0 0 false (ms ++ [m]) [] := by
  rw [Co.mark, if_pos (show (aSt 0 0 false ms []).marks.length < 1000 from h)]
  show (aSt 0 0 false (ms ++ [m]) []).hold = _
  rw [aSt_hold, if_neg]
  rw [Peer.bad, decide_eq_false (show ¬ (1 : Int) ≤ 0 by omega)]; simp
theorem aEnd_mark {ms : List Int} (h : ms.length < 1000) (j : Nat) (s m : Int) : (aEnd j s ms).mark m = aEnd j s (ms ++ [m]) := by
  rw [Co.mark, if_pos (show (aEnd j s ms).marks.length < 1000 from h)]
  show (aSt ((j : Int) + 1) s (aBad j s ms) (ms ++ [m]) (if aBad j s ms = true then [.apart 2 ((j : Int) + 1)] else [])).hold = _
  cases hb : aBad j s ms with
  | false => exact aSt_tell
  | true =>
    have hb2 : aBad j s (ms ++ [m]) = true := by
      rw [aBad, Bool.and_eq_true, decide_eq_true_eq] at hb
      rw [aBad, decide_eq_true (by rw [List.length_append]; omega), List.getD_eq_getElem?_getD, List.getElem?_append_left hb.1, ← List.getD_eq_getElem?_getD]
      exact hb.2
    rw [aSt_hold, aBad_bad, hb2, aEnd, hb2]; rfl
theorem aEnd_fits (j : Nat) (s : Int) (ms : List Int) : (aEnd j s ms).fits (aPkt j s) = true := rfl
theorem aEnd_ev (j : Nat) (s : Int) (ms : List Int) : (aEnd j s ms).events.length ≤ 999999000 := by
  show (if aBad j s ms = true then [Ev.apart 2 ((j : Int) + 1)] else []).length ≤ _
  split <;> simp
theorem aSt_fits (f s0 : Int) (ap : Bool) (ms : List Int) (ev : List Ev) (j : Nat) (s : Int) : (aSt f s0 ap ms ev).fits (aPkt j s) = true := rfl
set_option maxHeartbeats 8000000 in
theorem law_CoreApart (A : Option Addr) (n c : Nat) (l : List Int) (frame sum : Int) (late : Bool) (w : World) (hA : LiesI .u32 w w.heap.size A n l) (hc : n ≤ c) (hcm : c ≤ maxLen) (lo1 : -9223372036854775808 ≤ frame) (hi1 : frame ≤ 9223372036854775807) (lo2 : 0 ≤ sum) (hi2 : sum ≤ 4294967295) :
    Calls Try.prog 9 #[.slice A n c, .int .i64 frame, .int .u32 sum, .bool late] w fun r w' => r = .returned (.bool true) ∧ Below w.heap.size w w' := by
  have HA := hide hA
  have HC0 := hide hc
  have hn9 : n ≤ 9223372036854775807 := by simp only [maxLen] at hcm; omega
  have hc9 : c ≤ 9223372036854775807 := by simp only [maxLen] at hcm; omega
  obtain ⟨m, hm⟩ : ∃ m, m = min n 20 := ⟨_, rfl⟩
  have HM := hide hm
  have hmn : m ≤ n := by omega
  have hm20 : m ≤ 20 := by omega
  clear hA hcm hm
  go_enter Try.func9, Try.ntmps9
  go_wp2_with fail
  refine Calls.mono (begun21 w) ?_
  rintro e w1 ⟨rfl, hb1⟩
  have HB1 := hide hb1
  have HA1 := hide (HA.out.below hb1)
  have HS1 : Hid (w.heap.size ≤ w1.heap.size) := hb1.size
  clear hb1
  by_cases h20 : 20 < n
  · have d20 : decide ((n : Int) > 20) = true := decide_eq_true (by omega)
    have d20c : 20 ≤ c := by omega
    have hme : m = 20 := by rw [HM.out]; omega
    go_upto_region 6 with fail
    clear d20 d20c h20
    subst hme
    by_cases hr : frame < 1 ∨ 30 < frame
    · obtain ⟨z1, d1⟩ : ∃ z, (decide (frame < 1)) = z := ⟨_, rfl⟩
      obtain ⟨z2, d2⟩ : ∃ z, (decide (frame > 30)) = z := ⟨_, rfl⟩
      have hz : (z1 || z2) = true := by
        rw [← d1, ← d2]
        simp only [Bool.or_eq_true, decide_eq_true_eq]
        omega
      have HZ := hide hz
      clear hr hz
      go_cut [28] (fun s28 wx => s28 = .bool true ∧ w1 = wx)
      case first =>
        cases z1
        case true => go_wp2_with fail; go_meet; exact ⟨rfl, rfl⟩
        cases z2
        case true => go_wp2_with fail; go_meet; exact ⟨rfl, rfl⟩
        exact absurd HZ.out (by decide)
      case rest =>
      obtain ⟨rfl, rfl⟩ := hcut
      go_wp2_with fail
      go_ret
      exact ⟨rfl, HB1.out⟩
    have d1 : decide (frame < 1) = false := decide_eq_false (by omega)
    have d2 : decide (frame > 30) = false := decide_eq_false (by omega)
    obtain ⟨j, hj⟩ : ∃ j : Nat, frame = (j : Int) + 1 := ⟨(frame - 1).toNat, by omega⟩
    have HJ := hide hj
    have hj30 : j < 30 := by omega
    have HWF : Hid ((aPkt j sum).WF) := by show 0 ≤ sum ∧ sum < _; omega
    clear hr hj
    go_upto_region 8 with fail
    clear d1 d2
    rw [HJ.out]
    go_wp2_with fail
    refine Calls.mono (use_New aCfg aCfg_fine w1) ?_
    rintro r w2 ⟨x, p2, rfl, hc2⟩
    have H2 : Hid (HC w1.heap.size w1 w2 x p2 (aSt 0 0 false [] [])) := hc2
    clear hc2
    go_wp2_with fail
    refine Calls.mono (ref_Packet (aPkt j sum) (LiesB.nil w2 0 none) (Nat.zero_le _) (by omega) HWF.out) ?_
    rintro r w3 ⟨Ab, nb, cb, rfl, ho3, hb3⟩
    have hnb : nb ≤ 100 := by have := ho3.len; have := Pkt.enc_short (aPkt j sum); omega
    have H3 := hide (H2.out.below hb3)
    have HAS3 : Hid (Aside w3 x p2 Ab nb cb (aPkt j sum).enc) := Aside.new H2.out.core ho3
    clear ho3 hb3
    cases late with
    | true =>
      go_wp2_with fail
      go_loopg [13] 20 (fun gg s13 wr => ∃ (i : Nat) (p : CP), i ≤ 20 ∧ gg = 20 - i ∧ s13 = .int .i64 (i : Int) ∧ Hid (HC w1.heap.size w1 wr x p (aSt 0 0 false (l.take i) [])) ∧ Hid (Aside wr x p Ab nb cb (aPkt j sum).enc))
      case atStart => exact ⟨0, p2, by omega, rfl, rfl, H3, HAS3⟩
      case round =>
        obtain ⟨W1, hW1⟩ : ∃ W1, W1 = wr := ⟨_, rfl⟩
        subst hW1
        obtain ⟨i, p, hit, rfl, rfl, H6, HAS6⟩ := hrel
        have HAW : Hid (LiesI .u32 W1 w.heap.size A n l) := HA1.out.below (H6.out.bel.mono HS1.out)
        by_cases hlt : i < 20
        · obtain ⟨g0, off0, hlk, rfl, hlt0, hcx⟩ := HAW.out.at_ (j := i) (by omega)
          have hi2 : (i : Int) < (20 : Int) := by omega
          obtain ⟨y, hy⟩ : ∃ y, y = l[i] := ⟨_, rfl⟩
          rw [← hy] at hcx
          have hyb : 0 ≤ y ∧ y < 4294967296 := by have := bounds_u32 (HA.out.2.2 _ (List.getElem_mem hlk)); rw [hy]; omega
          have HMK : Hid ((aSt 0 0 false (l.take i) []).mark y = aSt 0 0 false (l.take (i + 1)) []) := by
            show _ = _
            rw [List.take_succ_eq_append_getElem hlk, ← hy]
            exact aSt_mark0 (by rw [List.length_take]; omega) _
          clear hy
          go_wp2_with fail
          refine Calls.mono (use_Mark H6.out (by show (0 : Nat) ≤ _; omega) y hyb HMK.out) ?_
          rintro r w7 ⟨rfl, p7, hc7, st⟩
          have H7 := hide hc7
          have HAS7 := hide (HAS6.out.step st)
          clear hc7 st
          go_wp2_with fail
          go_roundg (20 - (i + 1))
          case measure => omega
          case rel => exact ⟨i + 1, p7, by omega, rfl, by go_num, H7, HAS7⟩
        · obtain rfl : 20 = i := by omega
          clear hlt hit
          obtain ⟨L, hL⟩ : ∃ L, L = l.take 20 := ⟨_, rfl⟩
          rw [← hL] at H6
          have HL := hide hL
          clear hL
          go_wp2_with fail
          refine Calls.mono (use_Receive_yes H6.out rfl (by show (0 : Nat) ≤ _; omega) (aPkt j sum) (Pkt.enc_is (aPkt_may hj30 sum) HWF.out) HAS6.out.own.lies (Nat.le_refl _) HAS6.out.own.cap (show nb ≤ 1000000 by omega) (R := 0) (by rw [if_pos (aSt_fits _ _ _ _ _ _ _)]) (S := aEnd j sum L) (by rw [if_pos (aSt_fits _ _ _ _ _ _ _)]; exact aSt_hear0 _ _ _)) ?_
          rintro r w8 ⟨rfl, p8, hc8, st⟩
          have H8 := hide hc8
          have HAS8 := hide (HAS6.out.step st)
          clear hc8 st

          go_wp2_with fail
          refine Calls.mono (use_Receive_yes H8.out rfl (aEnd_ev _ _ _) (aPkt j sum) (Pkt.enc_is (aPkt_may hj30 sum) HWF.out) HAS8.out.own.lies (Nat.le_refl _) HAS8.out.own.cap (show nb ≤ 1000000 by omega) (R := 0) (by rw [if_pos (aEnd_fits _ _ _)]) (S := aEnd j sum L) (by rw [if_pos (aEnd_fits _ _ _)]; exact aEnd_hear _ _ _)) ?_
          rintro r w9 ⟨rfl, p9, hc9, st⟩
          have H9 := hide hc9
          have HAS9 := hide (HAS8.out.step st)
          clear hc9 st

          have hLl : L.length = 20 := by rw [HL.out, List.length_take, HA.out.1]; omega
          have hw5 : IntKind.i64.wrap ((j : Int) + 1 - 1) = (j : Int) := by rw [IntWalk.i64_in _ ⟨by omega, by omega⟩]; omega
          by_cases hfl : 20 ≤ j
          · have d5 : decide ((j : Int) + 1 > (20 : Int)) = true := decide_eq_true (by omega)
            have HEV : Hid ((aEnd j sum L).events = []) := by
              show (if aBad j sum L = true then _ else _) = _
              rw [if_neg]
              rw [aBad, decide_eq_false (by omega)]; simp
            clear hLl hfl
            go_wp2_with fail
            refine Calls.mono (use_Events H9.out HEV.out) ?_
            rintro r w10 ⟨eA, ec, rfl, ho10, p10, hc10, -⟩
            have H10 := hide hc10
            have HO10 : Hid (OwnV 114 w10 w1.heap.size eA 0 ec (([] : List Ev).map Ev.val)) := ho10
            clear hc10 ho10
            go_wp2_with fail
            refine Calls.mono (law_Raws HO10.out (by omega)) ?_
            rintro r w11 ⟨rA, rc, rfl, hr11, hb11⟩
            have H11 := hide (H10.out.below hb11)
            clear hr11 hb11
            go_wp2_with fail
            go_ret
            exact ⟨rfl, Below_step HB1.out H11.out.bel⟩
          · have d5 : decide ((j : Int) + 1 > (20 : Int)) = false := decide_eq_false (by omega)
            have hjm : j < 20 := by omega
            have hjn : j < n := by omega
            have hjn2 : (j : Int) < (20 : Int) := by omega
            obtain ⟨g0, off0, hlk, hA0, -, -⟩ := HA.out.at_ (j := j) hjn
            subst hA0
            obtain ⟨y, hy⟩ : ∃ y, y = l[j] := ⟨_, rfl⟩
            have hbad : aBad j sum L = !(sum == y) := by
              rw [aBad, decide_eq_true (by omega), HL.out, List.getD_eq_getElem?_getD, List.getElem?_take_of_lt hjm, List.getElem?_eq_getElem hlk, ← hy]; rfl
            have HY := hide hy
            by_cases hys : y = sum
            · have d6 : (y == sum) = true := by simp [hys]
              have HEV : Hid ((aEnd j sum L).events = []) := by
                show (if aBad j sum L = true then _ else _) = _
                rw [hbad, hys]; simp
              clear hbad hys hLl hfl hy
              go_wp2_with fail
              refine Calls.mono (use_Events H9.out HEV.out) ?_
              rintro r w10 ⟨eA, ec, rfl, ho10, p10, hc10, -⟩
              have H10 := hide hc10
              have HO10 : Hid (OwnV 114 w10 w1.heap.size eA 0 ec (([] : List Ev).map Ev.val)) := ho10
              clear hc10 ho10
              go_wp2_with fail
              refine Calls.mono (law_Raws HO10.out (by omega)) ?_
              rintro r w11 ⟨rA, rc, rfl, hr11, hb11⟩
              have H11 := hide (H10.out.below hb11)
              obtain ⟨g1, off1, hlk1, hA1, -, hcx⟩ := (HA1.out.below (H11.out.bel.mono HS1.out)).at_ (j := j) hjn
              injection hA1 with hA1
              injection hA1 with hg1 hg2
              subst hg1 hg2
              rw [← HY.out] at hcx
              clear hr11 hb11
              go_wp2_with fail
              go_ret
              exact ⟨rfl, Below_step HB1.out H11.out.bel⟩
            · have d6 : (y == sum) = false := by simp [hys]
              have HEV : Hid ((aEnd j sum L).events = [.apart 2 ((j : Int) + 1)]) := by
                show (if aBad j sum L = true then _ else _) = _
                rw [hbad, if_pos]
                have : ¬ sum = y := fun h => hys h.symm
                simp [this]
              clear hbad hys hLl hfl hy
              go_wp2_with fail
              refine Calls.mono (use_Events H9.out HEV.out) ?_
              rintro r w10 ⟨eA, ec, rfl, ho10, p10, hc10, -⟩
              have H10 := hide hc10
              have HO10 : Hid (OwnV 114 w10 w1.heap.size eA 1 ec (([.apart 2 ((j : Int) + 1)] : List Ev).map Ev.val)) := ho10
              clear hc10 ho10
              go_wp2_with fail
              refine Calls.mono (law_Raws HO10.out (by omega)) ?_
              rintro r w11 ⟨rA, rc, rfl, hr11, hb11⟩
              have H11 := hide (H10.out.below hb11)
              obtain ⟨g1, off1, hlk1, hA1, -, hcx⟩ := (HA1.out.below (H11.out.bel.mono HS1.out)).at_ (j := j) hjn
              injection hA1 with hA1
              injection hA1 with hg1 hg2
              subst hg1 hg2
              rw [← HY.out] at hcx
              obtain ⟨rg, rfl⟩ : ∃ g, rA = some ⟨g, 0, none⟩ := by
                rcases hr11.2 with ⟨hv, hx⟩ | ⟨g, cap, cur, hv, _⟩
                · omega
                · injection hv with h1 _ _; exact ⟨g, h1⟩
              have c0 : w11.cell? ⟨rg, 0, none⟩ = some (.int .i64 3) := World.ownsRow.cellAt hr11 0 (by omega)
              have c1 : w11.cell? ⟨rg, 1, none⟩ = some (.int .i64 2) := World.ownsRow.cellAt hr11 1 (by omega)
              have c2 : w11.cell? ⟨rg, 2, none⟩ = some (.int .i64 ((j : Int) + 1)) := World.ownsRow.cellAt hr11 2 (by omega)
              clear hr11 hb11
              go_wp2_with fail
              refine Calls.mono (use_Closed H11.out (z := false) rfl) ?_
              rintro r w12 ⟨rfl, rfl⟩
              go_wp2_with fail
              go_ret
              exact ⟨rfl, Below_step HB1.out H11.out.bel⟩
    | false =>
      go_wp2_with fail
      refine Calls.mono (use_Receive_yes H3.out rfl (by show (0 : Nat) ≤ _; omega) (aPkt j sum) (Pkt.enc_is (aPkt_may hj30 sum) HWF.out) HAS3.out.own.lies (Nat.le_refl _) HAS3.out.own.cap (show nb ≤ 1000000 by omega) (R := 0) (by rw [if_pos (aSt_fits _ _ _ _ _ _ _)]) (S := aEnd j sum []) (by rw [if_pos (aSt_fits _ _ _ _ _ _ _)]; exact aSt_hear0 _ _ _)) ?_
      rintro r w5 ⟨rfl, p5, hc5, st⟩
      have H5 := hide hc5
      have HAS5 := hide (HAS3.out.step st)
      clear hc5 st

      go_wp2_with fail
      go_loopg [13] 20 (fun gg s13 wr => ∃ (i : Nat) (p : CP), i ≤ 20 ∧ gg = 20 - i ∧ s13 = .int .i64 (i : Int) ∧ Hid (HC w1.heap.size w1 wr x p (aEnd j sum (l.take i))) ∧ Hid (Aside wr x p Ab nb cb (aPkt j sum).enc))
      case atStart => exact ⟨0, p5, by omega, rfl, rfl, H5, HAS5⟩
      case round =>
        obtain ⟨W1, hW1⟩ : ∃ W1, W1 = wr := ⟨_, rfl⟩
        subst hW1
        obtain ⟨i, p, hit, rfl, rfl, H6, HAS6⟩ := hrel
        have HAW : Hid (LiesI .u32 W1 w.heap.size A n l) := HA1.out.below (H6.out.bel.mono HS1.out)
        by_cases hlt : i < 20
        · obtain ⟨g0, off0, hlk, rfl, hlt0, hcx⟩ := HAW.out.at_ (j := i) (by omega)
          have hi2 : (i : Int) < (20 : Int) := by omega
          obtain ⟨y, hy⟩ : ∃ y, y = l[i] := ⟨_, rfl⟩
          rw [← hy] at hcx
          have hyb : 0 ≤ y ∧ y < 4294967296 := by have := bounds_u32 (HA.out.2.2 _ (List.getElem_mem hlk)); rw [hy]; omega
          have HMK : Hid ((aEnd j sum (l.take i)).mark y = aEnd j sum (l.take (i + 1))) := by
            show _ = _
            rw [List.take_succ_eq_append_getElem hlk, ← hy]
            exact aEnd_mark (by rw [List.length_take]; omega) _ _ _
          clear hy
          go_wp2_with fail
          refine Calls.mono (use_Mark H6.out (aEnd_ev _ _ _) y hyb HMK.out) ?_
          rintro r w7 ⟨rfl, p7, hc7, st⟩
          have H7 := hide hc7
          have HAS7 := hide (HAS6.out.step st)
          clear hc7 st
          go_wp2_with fail
          go_roundg (20 - (i + 1))
          case measure => omega
          case rel => exact ⟨i + 1, p7, by omega, rfl, by go_num, H7, HAS7⟩
        · obtain rfl : 20 = i := by omega
          clear hlt hit
          obtain ⟨L, hL⟩ : ∃ L, L = l.take 20 := ⟨_, rfl⟩
          rw [← hL] at H6
          have HL := hide hL
          clear hL
          go_wp2_with fail
          refine Calls.mono (use_Receive_yes H6.out rfl (aEnd_ev _ _ _) (aPkt j sum) (Pkt.enc_is (aPkt_may hj30 sum) HWF.out) HAS6.out.own.lies (Nat.le_refl _) HAS6.out.own.cap (show nb ≤ 1000000 by omega) (R := 0) (by rw [if_pos (aEnd_fits _ _ _)]) (S := aEnd j sum L) (by rw [if_pos (aEnd_fits _ _ _)]; exact aEnd_hear _ _ _)) ?_
          rintro r w9 ⟨rfl, p9, hc9, st⟩
          have H9 := hide hc9
          have HAS9 := hide (HAS6.out.step st)
          clear hc9 st

          have hLl : L.length = 20 := by rw [HL.out, List.length_take, HA.out.1]; omega
          have hw5 : IntKind.i64.wrap ((j : Int) + 1 - 1) = (j : Int) := by rw [IntWalk.i64_in _ ⟨by omega, by omega⟩]; omega
          by_cases hfl : 20 ≤ j
          · have d5 : decide ((j : Int) + 1 > (20 : Int)) = true := decide_eq_true (by omega)
            have HEV : Hid ((aEnd j sum L).events = []) := by
              show (if aBad j sum L = true then _ else _) = _
              rw [if_neg]
              rw [aBad, decide_eq_false (by omega)]; simp
            clear hLl hfl
            go_wp2_with fail
            refine Calls.mono (use_Events H9.out HEV.out) ?_
            rintro r w10 ⟨eA, ec, rfl, ho10, p10, hc10, -⟩
            have H10 := hide hc10
            have HO10 : Hid (OwnV 114 w10 w1.heap.size eA 0 ec (([] : List Ev).map Ev.val)) := ho10
            clear hc10 ho10
            go_wp2_with fail
            refine Calls.mono (law_Raws HO10.out (by omega)) ?_
            rintro r w11 ⟨rA, rc, rfl, hr11, hb11⟩
            have H11 := hide (H10.out.below hb11)
            clear hr11 hb11
            go_wp2_with fail
            go_ret
            exact ⟨rfl, Below_step HB1.out H11.out.bel⟩
          · have d5 : decide ((j : Int) + 1 > (20 : Int)) = false := decide_eq_false (by omega)
            have hjm : j < 20 := by omega
            have hjn : j < n := by omega
            have hjn2 : (j : Int) < (20 : Int) := by omega
            obtain ⟨g0, off0, hlk, hA0, -, -⟩ := HA.out.at_ (j := j) hjn
            subst hA0
            obtain ⟨y, hy⟩ : ∃ y, y = l[j] := ⟨_, rfl⟩
            have hbad : aBad j sum L = !(sum == y) := by
              rw [aBad, decide_eq_true (by omega), HL.out, List.getD_eq_getElem?_getD, List.getElem?_take_of_lt hjm, List.getElem?_eq_getElem hlk, ← hy]; rfl
            have HY := hide hy
            by_cases hys : y = sum
            · have d6 : (y == sum) = true := by simp [hys]
              have HEV : Hid ((aEnd j sum L).events = []) := by
                show (if aBad j sum L = true then _ else _) = _
                rw [hbad, hys]; simp
              clear hbad hys hLl hfl hy
              go_wp2_with fail
              refine Calls.mono (use_Events H9.out HEV.out) ?_
              rintro r w10 ⟨eA, ec, rfl, ho10, p10, hc10, -⟩
              have H10 := hide hc10
              have HO10 : Hid (OwnV 114 w10 w1.heap.size eA 0 ec (([] : List Ev).map Ev.val)) := ho10
              clear hc10 ho10
              go_wp2_with fail
              refine Calls.mono (law_Raws HO10.out (by omega)) ?_
              rintro r w11 ⟨rA, rc, rfl, hr11, hb11⟩
              have H11 := hide (H10.out.below hb11)
              obtain ⟨g1, off1, hlk1, hA1, -, hcx⟩ := (HA1.out.below (H11.out.bel.mono HS1.out)).at_ (j := j) hjn
              injection hA1 with hA1
              injection hA1 with hg1 hg2
              subst hg1 hg2
              rw [← HY.out] at hcx
              clear hr11 hb11
              go_wp2_with fail
              go_ret
              exact ⟨rfl, Below_step HB1.out H11.out.bel⟩
            · have d6 : (y == sum) = false := by simp [hys]
              have HEV : Hid ((aEnd j sum L).events = [.apart 2 ((j : Int) + 1)]) := by
                show (if aBad j sum L = true then _ else _) = _
                rw [hbad, if_pos]
                have : ¬ sum = y := fun h => hys h.symm
                simp [this]
              clear hbad hys hLl hfl hy
              go_wp2_with fail
              refine Calls.mono (use_Events H9.out HEV.out) ?_
              rintro r w10 ⟨eA, ec, rfl, ho10, p10, hc10, -⟩
              have H10 := hide hc10
              have HO10 : Hid (OwnV 114 w10 w1.heap.size eA 1 ec (([.apart 2 ((j : Int) + 1)] : List Ev).map Ev.val)) := ho10
              clear hc10 ho10
              go_wp2_with fail
              refine Calls.mono (law_Raws HO10.out (by omega)) ?_
              rintro r w11 ⟨rA, rc, rfl, hr11, hb11⟩
              have H11 := hide (H10.out.below hb11)
              obtain ⟨g1, off1, hlk1, hA1, -, hcx⟩ := (HA1.out.below (H11.out.bel.mono HS1.out)).at_ (j := j) hjn
              injection hA1 with hA1
              injection hA1 with hg1 hg2
              subst hg1 hg2
              rw [← HY.out] at hcx
              obtain ⟨rg, rfl⟩ : ∃ g, rA = some ⟨g, 0, none⟩ := by
                rcases hr11.2 with ⟨hv, hx⟩ | ⟨g, cap, cur, hv, _⟩
                · omega
                · injection hv with h1 _ _; exact ⟨g, h1⟩
              have c0 : w11.cell? ⟨rg, 0, none⟩ = some (.int .i64 3) := World.ownsRow.cellAt hr11 0 (by omega)
              have c1 : w11.cell? ⟨rg, 1, none⟩ = some (.int .i64 2) := World.ownsRow.cellAt hr11 1 (by omega)
              have c2 : w11.cell? ⟨rg, 2, none⟩ = some (.int .i64 ((j : Int) + 1)) := World.ownsRow.cellAt hr11 2 (by omega)
              clear hr11 hb11
              go_wp2_with fail
              refine Calls.mono (use_Closed H11.out (z := false) rfl) ?_
              rintro r w12 ⟨rfl, rfl⟩
              go_wp2_with fail
              go_ret
              exact ⟨rfl, Below_step HB1.out H11.out.bel⟩
  · have d20 : decide ((n : Int) > 20) = false := decide_eq_false (by omega)
    have hme : m = n := by rw [HM.out]; omega
    go_upto_region 6 with fail
    clear d20 h20
    obtain rfl : n = m := hme.symm
    clear hme
    by_cases hr : frame < 1 ∨ 30 < frame
    · obtain ⟨z1, d1⟩ : ∃ z, (decide (frame < 1)) = z := ⟨_, rfl⟩
      obtain ⟨z2, d2⟩ : ∃ z, (decide (frame > 30)) = z := ⟨_, rfl⟩
      have hz : (z1 || z2) = true := by
        rw [← d1, ← d2]
        simp only [Bool.or_eq_true, decide_eq_true_eq]
        omega
      have HZ := hide hz
      clear hr hz
      go_cut [28] (fun s28 wx => s28 = .bool true ∧ w1 = wx)
      case first =>
        cases z1
        case true => go_wp2_with fail; go_meet; exact ⟨rfl, rfl⟩
        cases z2
        case true => go_wp2_with fail; go_meet; exact ⟨rfl, rfl⟩
        exact absurd HZ.out (by decide)
      case rest =>
      obtain ⟨rfl, rfl⟩ := hcut
      go_wp2_with fail
      go_ret
      exact ⟨rfl, HB1.out⟩
    have d1 : decide (frame < 1) = false := decide_eq_false (by omega)
    have d2 : decide (frame > 30) = false := decide_eq_false (by omega)
    obtain ⟨j, hj⟩ : ∃ j : Nat, frame = (j : Int) + 1 := ⟨(frame - 1).toNat, by omega⟩
    have HJ := hide hj
    have hj30 : j < 30 := by omega
    have HWF : Hid ((aPkt j sum).WF) := by show 0 ≤ sum ∧ sum < _; omega
    clear hr hj
    go_upto_region 8 with fail
    clear d1 d2
    rw [HJ.out]
    go_wp2_with fail
    refine Calls.mono (use_New aCfg aCfg_fine w1) ?_
    rintro r w2 ⟨x, p2, rfl, hc2⟩
    have H2 : Hid (HC w1.heap.size w1 w2 x p2 (aSt 0 0 false [] [])) := hc2
    clear hc2
    go_wp2_with fail
    refine Calls.mono (ref_Packet (aPkt j sum) (LiesB.nil w2 0 none) (Nat.zero_le _) (by omega) HWF.out) ?_
    rintro r w3 ⟨Ab, nb, cb, rfl, ho3, hb3⟩
    have hnb : nb ≤ 100 := by have := ho3.len; have := Pkt.enc_short (aPkt j sum); omega
    have H3 := hide (H2.out.below hb3)
    have HAS3 : Hid (Aside w3 x p2 Ab nb cb (aPkt j sum).enc) := Aside.new H2.out.core ho3
    clear ho3 hb3
    cases late with
    | true =>
      go_wp2_with fail
      go_loopg [13] n (fun gg s13 wr => ∃ (i : Nat) (p : CP), i ≤ n ∧ gg = n - i ∧ s13 = .int .i64 (i : Int) ∧ Hid (HC w1.heap.size w1 wr x p (aSt 0 0 false (l.take i) [])) ∧ Hid (Aside wr x p Ab nb cb (aPkt j sum).enc))
      case atStart => exact ⟨0, p2, by omega, rfl, rfl, H3, HAS3⟩
      case round =>
        obtain ⟨W1, hW1⟩ : ∃ W1, W1 = wr := ⟨_, rfl⟩
        subst hW1
        obtain ⟨i, p, hit, rfl, rfl, H6, HAS6⟩ := hrel
        have HAW : Hid (LiesI .u32 W1 w.heap.size A n l) := HA1.out.below (H6.out.bel.mono HS1.out)
        by_cases hlt : i < n
        · obtain ⟨g0, off0, hlk, rfl, hlt0, hcx⟩ := HAW.out.at_ (j := i) (by omega)
          have hi2 : (i : Int) < (n : Int) := by omega
          obtain ⟨y, hy⟩ : ∃ y, y = l[i] := ⟨_, rfl⟩
          rw [← hy] at hcx
          have hyb : 0 ≤ y ∧ y < 4294967296 := by have := bounds_u32 (HA.out.2.2 _ (List.getElem_mem hlk)); rw [hy]; omega
          have HMK : Hid ((aSt 0 0 false (l.take i) []).mark y = aSt 0 0 false (l.take (i + 1)) []) := by
            show _ = _
            rw [List.take_succ_eq_append_getElem hlk, ← hy]
            exact aSt_mark0 (by rw [List.length_take]; omega) _
          clear hy
          go_wp2_with fail
          refine Calls.mono (use_Mark H6.out (by show (0 : Nat) ≤ _; omega) y hyb HMK.out) ?_
          rintro r w7 ⟨rfl, p7, hc7, st⟩
          have H7 := hide hc7
          have HAS7 := hide (HAS6.out.step st)
          clear hc7 st
          go_wp2_with fail
          go_roundg (n - (i + 1))
          case measure => omega
          case rel => exact ⟨i + 1, p7, by omega, rfl, by go_num, H7, HAS7⟩
        · obtain rfl : n = i := by omega
          clear hlt hit
          obtain ⟨L, hL⟩ : ∃ L, L = l.take n := ⟨_, rfl⟩
          rw [← hL] at H6
          have HL := hide hL
          clear hL
          go_wp2_with fail
          refine Calls.mono (use_Receive_yes H6.out rfl (by show (0 : Nat) ≤ _; omega) (aPkt j sum) (Pkt.enc_is (aPkt_may hj30 sum) HWF.out) HAS6.out.own.lies (Nat.le_refl _) HAS6.out.own.cap (show nb ≤ 1000000 by omega) (R := 0) (by rw [if_pos (aSt_fits _ _ _ _ _ _ _)]) (S := aEnd j sum L) (by rw [if_pos (aSt_fits _ _ _ _ _ _ _)]; exact aSt_hear0 _ _ _)) ?_
          rintro r w8 ⟨rfl, p8, hc8, st⟩
          have H8 := hide hc8
          have HAS8 := hide (HAS6.out.step st)
          clear hc8 st

          go_wp2_with fail
          refine Calls.mono (use_Receive_yes H8.out rfl (aEnd_ev _ _ _) (aPkt j sum) (Pkt.enc_is (aPkt_may hj30 sum) HWF.out) HAS8.out.own.lies (Nat.le_refl _) HAS8.out.own.cap (show nb ≤ 1000000 by omega) (R := 0) (by rw [if_pos (aEnd_fits _ _ _)]) (S := aEnd j sum L) (by rw [if_pos (aEnd_fits _ _ _)]; exact aEnd_hear _ _ _)) ?_
          rintro r w9 ⟨rfl, p9, hc9, st⟩
          have H9 := hide hc9
          have HAS9 := hide (HAS8.out.step st)
          clear hc9 st

          have hLl : L.length = n := by rw [HL.out, List.length_take, HA.out.1]; omega
          have hw5 : IntKind.i64.wrap ((j : Int) + 1 - 1) = (j : Int) := by rw [IntWalk.i64_in _ ⟨by omega, by omega⟩]; omega
          by_cases hfl : n ≤ j
          · have d5 : decide ((j : Int) + 1 > (n : Int)) = true := decide_eq_true (by omega)
            have HEV : Hid ((aEnd j sum L).events = []) := by
              show (if aBad j sum L = true then _ else _) = _
              rw [if_neg]
              rw [aBad, decide_eq_false (by omega)]; simp
            clear hLl hfl
            go_wp2_with fail
            refine Calls.mono (use_Events H9.out HEV.out) ?_
            rintro r w10 ⟨eA, ec, rfl, ho10, p10, hc10, -⟩
            have H10 := hide hc10
            have HO10 : Hid (OwnV 114 w10 w1.heap.size eA 0 ec (([] : List Ev).map Ev.val)) := ho10
            clear hc10 ho10
            go_wp2_with fail
            refine Calls.mono (law_Raws HO10.out (by omega)) ?_
            rintro r w11 ⟨rA, rc, rfl, hr11, hb11⟩
            have H11 := hide (H10.out.below hb11)
            clear hr11 hb11
            go_wp2_with fail
            go_ret
            exact ⟨rfl, Below_step HB1.out H11.out.bel⟩
          · have d5 : decide ((j : Int) + 1 > (n : Int)) = false := decide_eq_false (by omega)
            have hjm : j < n := by omega
            have hjn : j < n := by omega
            have hjn2 : (j : Int) < (n : Int) := by omega
            obtain ⟨g0, off0, hlk, hA0, -, -⟩ := HA.out.at_ (j := j) hjn
            subst hA0
            obtain ⟨y, hy⟩ : ∃ y, y = l[j] := ⟨_, rfl⟩
            have hbad : aBad j sum L = !(sum == y) := by
              rw [aBad, decide_eq_true (by omega), HL.out, List.getD_eq_getElem?_getD, List.getElem?_take_of_lt hjm, List.getElem?_eq_getElem hlk, ← hy]; rfl
            have HY := hide hy
            by_cases hys : y = sum
            · have d6 : (y == sum) = true := by simp [hys]
              have HEV : Hid ((aEnd j sum L).events = []) := by
                show (if aBad j sum L = true then _ else _) = _
                rw [hbad, hys]; simp
              clear hbad hys hLl hfl hy
              go_wp2_with fail
              refine Calls.mono (use_Events H9.out HEV.out) ?_
              rintro r w10 ⟨eA, ec, rfl, ho10, p10, hc10, -⟩
              have H10 := hide hc10
              have HO10 : Hid (OwnV 114 w10 w1.heap.size eA 0 ec (([] : List Ev).map Ev.val)) := ho10
              clear hc10 ho10
              go_wp2_with fail
              refine Calls.mono (law_Raws HO10.out (by omega)) ?_
              rintro r w11 ⟨rA, rc, rfl, hr11, hb11⟩
              have H11 := hide (H10.out.below hb11)
              obtain ⟨g1, off1, hlk1, hA1, -, hcx⟩ := (HA1.out.below (H11.out.bel.mono HS1.out)).at_ (j := j) hjn
              injection hA1 with hA1
              injection hA1 with hg1 hg2
              subst hg1 hg2
              rw [← HY.out] at hcx
              clear hr11 hb11
              go_wp2_with fail
              go_ret
              exact ⟨rfl, Below_step HB1.out H11.out.bel⟩
            · have d6 : (y == sum) = false := by simp [hys]
              have HEV : Hid ((aEnd j sum L).events = [.apart 2 ((j : Int) + 1)]) := by
                show (if aBad j sum L = true then _ else _) = _
                rw [hbad, if_pos]
                have : ¬ sum = y := fun h => hys h.symm
                simp [this]
              clear hbad hys hLl hfl hy
              go_wp2_with fail
              refine Calls.mono (use_Events H9.out HEV.out) ?_
              rintro r w10 ⟨eA, ec, rfl, ho10, p10, hc10, -⟩
              have H10 := hide hc10
              have HO10 : Hid (OwnV 114 w10 w1.heap.size eA 1 ec (([.apart 2 ((j : Int) + 1)] : List Ev).map Ev.val)) := ho10
              clear hc10 ho10
              go_wp2_with fail
              refine Calls.mono (law_Raws HO10.out (by omega)) ?_
              rintro r w11 ⟨rA, rc, rfl, hr11, hb11⟩
              have H11 := hide (H10.out.below hb11)
              obtain ⟨g1, off1, hlk1, hA1, -, hcx⟩ := (HA1.out.below (H11.out.bel.mono HS1.out)).at_ (j := j) hjn
              injection hA1 with hA1
              injection hA1 with hg1 hg2
              subst hg1 hg2
              rw [← HY.out] at hcx
              obtain ⟨rg, rfl⟩ : ∃ g, rA = some ⟨g, 0, none⟩ := by
                rcases hr11.2 with ⟨hv, hx⟩ | ⟨g, cap, cur, hv, _⟩
                · omega
                · injection hv with h1 _ _; exact ⟨g, h1⟩
              have c0 : w11.cell? ⟨rg, 0, none⟩ = some (.int .i64 3) := World.ownsRow.cellAt hr11 0 (by omega)
              have c1 : w11.cell? ⟨rg, 1, none⟩ = some (.int .i64 2) := World.ownsRow.cellAt hr11 1 (by omega)
              have c2 : w11.cell? ⟨rg, 2, none⟩ = some (.int .i64 ((j : Int) + 1)) := World.ownsRow.cellAt hr11 2 (by omega)
              clear hr11 hb11
              go_wp2_with fail
              refine Calls.mono (use_Closed H11.out (z := false) rfl) ?_
              rintro r w12 ⟨rfl, rfl⟩
              go_wp2_with fail
              go_ret
              exact ⟨rfl, Below_step HB1.out H11.out.bel⟩
    | false =>
      go_wp2_with fail
      refine Calls.mono (use_Receive_yes H3.out rfl (by show (0 : Nat) ≤ _; omega) (aPkt j sum) (Pkt.enc_is (aPkt_may hj30 sum) HWF.out) HAS3.out.own.lies (Nat.le_refl _) HAS3.out.own.cap (show nb ≤ 1000000 by omega) (R := 0) (by rw [if_pos (aSt_fits _ _ _ _ _ _ _)]) (S := aEnd j sum []) (by rw [if_pos (aSt_fits _ _ _ _ _ _ _)]; exact aSt_hear0 _ _ _)) ?_
      rintro r w5 ⟨rfl, p5, hc5, st⟩
      have H5 := hide hc5
      have HAS5 := hide (HAS3.out.step st)
      clear hc5 st

      go_wp2_with fail
      go_loopg [13] n (fun gg s13 wr => ∃ (i : Nat) (p : CP), i ≤ n ∧ gg = n - i ∧ s13 = .int .i64 (i : Int) ∧ Hid (HC w1.heap.size w1 wr x p (aEnd j sum (l.take i))) ∧ Hid (Aside wr x p Ab nb cb (aPkt j sum).enc))
      case atStart => exact ⟨0, p5, by omega, rfl, rfl, H5, HAS5⟩
      case round =>
        obtain ⟨W1, hW1⟩ : ∃ W1, W1 = wr := ⟨_, rfl⟩
        subst hW1
        obtain ⟨i, p, hit, rfl, rfl, H6, HAS6⟩ := hrel
        have HAW : Hid (LiesI .u32 W1 w.heap.size A n l) := HA1.out.below (H6.out.bel.mono HS1.out)
        by_cases hlt : i < n
        · obtain ⟨g0, off0, hlk, rfl, hlt0, hcx⟩ := HAW.out.at_ (j := i) (by omega)
          have hi2 : (i : Int) < (n : Int) := by omega
          obtain ⟨y, hy⟩ : ∃ y, y = l[i] := ⟨_, rfl⟩
          rw [← hy] at hcx
          have hyb : 0 ≤ y ∧ y < 4294967296 := by have := bounds_u32 (HA.out.2.2 _ (List.getElem_mem hlk)); rw [hy]; omega
          have HMK : Hid ((aEnd j sum (l.take i)).mark y = aEnd j sum (l.take (i + 1))) := by
            show _ = _
            rw [List.take_succ_eq_append_getElem hlk, ← hy]
            exact aEnd_mark (by rw [List.length_take]; omega) _ _ _
          clear hy
          go_wp2_with fail
          refine Calls.mono (use_Mark H6.out (aEnd_ev _ _ _) y hyb HMK.out) ?_
          rintro r w7 ⟨rfl, p7, hc7, st⟩
          have H7 := hide hc7
          have HAS7 := hide (HAS6.out.step st)
          clear hc7 st
          go_wp2_with fail
          go_roundg (n - (i + 1))
          case measure => omega
          case rel => exact ⟨i + 1, p7, by omega, rfl, by go_num, H7, HAS7⟩
        · obtain rfl : n = i := by omega
          clear hlt hit
          obtain ⟨L, hL⟩ : ∃ L, L = l.take n := ⟨_, rfl⟩
          rw [← hL] at H6
          have HL := hide hL
          clear hL
          go_wp2_with fail
          refine Calls.mono (use_Receive_yes H6.out rfl (aEnd_ev _ _ _) (aPkt j sum) (Pkt.enc_is (aPkt_may hj30 sum) HWF.out) HAS6.out.own.lies (Nat.le_refl _) HAS6.out.own.cap (show nb ≤ 1000000 by omega) (R := 0) (by rw [if_pos (aEnd_fits _ _ _)]) (S := aEnd j sum L) (by rw [if_pos (aEnd_fits _ _ _)]; exact aEnd_hear _ _ _)) ?_
          rintro r w9 ⟨rfl, p9, hc9, st⟩
          have H9 := hide hc9
          have HAS9 := hide (HAS6.out.step st)
          clear hc9 st

          have hLl : L.length = n := by rw [HL.out, List.length_take, HA.out.1]; omega
          have hw5 : IntKind.i64.wrap ((j : Int) + 1 - 1) = (j : Int) := by rw [IntWalk.i64_in _ ⟨by omega, by omega⟩]; omega
          by_cases hfl : n ≤ j
          · have d5 : decide ((j : Int) + 1 > (n : Int)) = true := decide_eq_true (by omega)
            have HEV : Hid ((aEnd j sum L).events = []) := by
              show (if aBad j sum L = true then _ else _) = _
              rw [if_neg]
              rw [aBad, decide_eq_false (by omega)]; simp
            clear hLl hfl
            go_wp2_with fail
            refine Calls.mono (use_Events H9.out HEV.out) ?_
            rintro r w10 ⟨eA, ec, rfl, ho10, p10, hc10, -⟩
            have H10 := hide hc10
            have HO10 : Hid (OwnV 114 w10 w1.heap.size eA 0 ec (([] : List Ev).map Ev.val)) := ho10
            clear hc10 ho10
            go_wp2_with fail
            refine Calls.mono (law_Raws HO10.out (by omega)) ?_
            rintro r w11 ⟨rA, rc, rfl, hr11, hb11⟩
            have H11 := hide (H10.out.below hb11)
            clear hr11 hb11
            go_wp2_with fail
            go_ret
            exact ⟨rfl, Below_step HB1.out H11.out.bel⟩
          · have d5 : decide ((j : Int) + 1 > (n : Int)) = false := decide_eq_false (by omega)
            have hjm : j < n := by omega
            have hjn : j < n := by omega
            have hjn2 : (j : Int) < (n : Int) := by omega
            obtain ⟨g0, off0, hlk, hA0, -, -⟩ := HA.out.at_ (j := j) hjn
            subst hA0
            obtain ⟨y, hy⟩ : ∃ y, y = l[j] := ⟨_, rfl⟩
            have hbad : aBad j sum L = !(sum == y) := by
              rw [aBad, decide_eq_true (by omega), HL.out, List.getD_eq_getElem?_getD, List.getElem?_take_of_lt hjm, List.getElem?_eq_getElem hlk, ← hy]; rfl
            have HY := hide hy
            by_cases hys : y = sum
            · have d6 : (y == sum) = true := by simp [hys]
              have HEV : Hid ((aEnd j sum L).events = []) := by
                show (if aBad j sum L = true then _ else _) = _
                rw [hbad, hys]; simp
              clear hbad hys hLl hfl hy
              go_wp2_with fail
              refine Calls.mono (use_Events H9.out HEV.out) ?_
              rintro r w10 ⟨eA, ec, rfl, ho10, p10, hc10, -⟩
              have H10 := hide hc10
              have HO10 : Hid (OwnV 114 w10 w1.heap.size eA 0 ec (([] : List Ev).map Ev.val)) := ho10
              clear hc10 ho10
              go_wp2_with fail
              refine Calls.mono (law_Raws HO10.out (by omega)) ?_
              rintro r w11 ⟨rA, rc, rfl, hr11, hb11⟩
              have H11 := hide (H10.out.below hb11)
              obtain ⟨g1, off1, hlk1, hA1, -, hcx⟩ := (HA1.out.below (H11.out.bel.mono HS1.out)).at_ (j := j) hjn
              injection hA1 with hA1
              injection hA1 with hg1 hg2
              subst hg1 hg2
              rw [← HY.out] at hcx
              clear hr11 hb11
              go_wp2_with fail
              go_ret
              exact ⟨rfl, Below_step HB1.out H11.out.bel⟩
            · have d6 : (y == sum) = false := by simp [hys]
              have HEV : Hid ((aEnd j sum L).events = [.apart 2 ((j : Int) + 1)]) := by
                show (if aBad j sum L = true then _ else _) = _
                rw [hbad, if_pos]
                have : ¬ sum = y := fun h => hys h.symm
                simp [this]
              clear hbad hys hLl hfl hy
              go_wp2_with fail
              refine Calls.mono (use_Events H9.out HEV.out) ?_
              rintro r w10 ⟨eA, ec, rfl, ho10, p10, hc10, -⟩
              have H10 := hide hc10
              have HO10 : Hid (OwnV 114 w10 w1.heap.size eA 1 ec (([.apart 2 ((j : Int) + 1)] : List Ev).map Ev.val)) := ho10
              clear hc10 ho10
              go_wp2_with fail
              refine Calls.mono (law_Raws HO10.out (by omega)) ?_
              rintro r w11 ⟨rA, rc, rfl, hr11, hb11⟩
              have H11 := hide (H10.out.below hb11)
              obtain ⟨g1, off1, hlk1, hA1, -, hcx⟩ := (HA1.out.below (H11.out.bel.mono HS1.out)).at_ (j := j) hjn
              injection hA1 with hA1
              injection hA1 with hg1 hg2
              subst hg1 hg2
              rw [← HY.out] at hcx
              obtain ⟨rg, rfl⟩ : ∃ g, rA = some ⟨g, 0, none⟩ := by
                rcases hr11.2 with ⟨hv, hx⟩ | ⟨g, cap, cur, hv, _⟩
                · omega
                · injection hv with h1 _ _; exact ⟨g, h1⟩
              have c0 : w11.cell? ⟨rg, 0, none⟩ = some (.int .i64 3) := World.ownsRow.cellAt hr11 0 (by omega)
              have c1 : w11.cell? ⟨rg, 1, none⟩ = some (.int .i64 2) := World.ownsRow.cellAt hr11 1 (by omega)
              have c2 : w11.cell? ⟨rg, 2, none⟩ = some (.int .i64 ((j : Int) + 1)) := World.ownsRow.cellAt hr11 2 (by omega)
              clear hr11 hb11
              go_wp2_with fail
              refine Calls.mono (use_Closed H11.out (z := false) rfl) ?_
              rintro r w12 ⟨rfl, rfl⟩
              go_wp2_with fail
              go_ret
              exact ⟨rfl, Below_step HB1.out H11.out.bel⟩
end Go.Proofs.Ytbcgffgiifminaa
