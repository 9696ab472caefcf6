/-
  GuessKnown: the walk.
-/
import Derived.Test.YtciogjnchpeaaaaLaw19B
namespace Go.Proofs.Ytciogjnchpeaaaa
open Go.RowKit
set_option maxRecDepth 10000
set_option linter.unusedVariables false
open Prd
theorem ahead_known (b : By) (ls : List (List UInt8)) (r tt i p : Nat) (hi : i < tt - front ls) (hp : p < ls.length) (hk : front ls + i < (ls.getD p []).length) : ((aheadAt b ls r tt i).getD p 0) = (ls.getD p []).getD (front ls + i) 0 := by
  unfold aheadAt
  rw [getD_map0 (fun x : List UInt8 => x.getD (front ls + i) 0) (fulls b ls r tt) p [] 0 (by rw [fulls_len]; exact hp), fulls_getD _ _ _ _ _ hp]
  have h := gline_pre b (ls.getD p []) (rankAt ls r p) tt
  show (gline b (ls.getD p []) (rankAt ls r p) tt).getD (front ls + i) 0 = _
  have h2 : ((gline b (ls.getD p []) (rankAt ls r p) tt).take (ls.getD p []).length).getD (front ls + i) 0 = (ls.getD p []).getD (front ls + i) 0 := by rw [h]

  rw [← h2, List.getD_eq_getElem?_getD, List.getD_eq_getElem?_getD (l := List.take _ _), List.getElem?_take, if_pos hk]
set_option maxHeartbeats 4000000 in
set_option maxRecDepth 20000 in
theorem law_GuessKnown (n : Int) (A3 : Option Addr) (n3 c3 : Nat) (ri mo : Int) (w : World) (lo0 : -9223372036854775808 ≤ n) (hi0 : n ≤ 9223372036854775807)
    (hO : LiesOps w w.heap.size A3 n3) (hc : n3 ≤ c3) (hcm : c3 ≤ maxLen)
    (rl : -9223372036854775808 ≤ ri) (rh : ri ≤ 9223372036854775807) (tl : -9223372036854775808 ≤ mo) (th : mo ≤ 9223372036854775807) :
    Calls Try.prog 4 #[.int .i64 n, .slice A3 n3 c3, .int .i64 ri, .int .i64 mo] w fun e w' => e = .returned (.bool true) ∧ Below w.heap.size w w' := by
  have hn3 : n3 ≤ 9223372036854775807 := by simp only [maxLen] at *; omega
  have HO := hide hO
  obtain ⟨m, hm⟩ : ∃ m : Nat, max 2 (min n 8) = (m : Int) := ⟨(max 2 (min n 8)).toNat, by omega⟩
  have hm2 : 2 ≤ m := by omega
  have hm8 : m ≤ 8 := by omega
  have HM := hide hm
  have HM2 : Hid (min (max (m : Int) 2) 8 = (m : Int)) := by show _ = _; omega
  clear hO hcm hm lo0 hi0
  go_enter Try.func4, Try.ntmps4
  go_wp2_with fail
  refine Calls.mono (begun19 w) ?_
  rintro e w1 ⟨rfl, hb1⟩
  have HB1 := hide hb1
  have hs1 := hb1.size
  clear hb1
  go_upto_region 5 with fail
  rw [HM.out]
  by_cases h0 : ri < 0
  · have d0 : decide (ri < 0) = true := decide_eq_true h0
    clear h0
    go_wp2_with fail
    go_ret
    exact ⟨rfl, HB1.out⟩
  have d0 : decide (ri < 0) = false := decide_eq_false h0
  by_cases h1 : ri > 300
  · have d1 : decide (ri > 300) = true := decide_eq_true h1
    clear h0 h1
    go_wp2_with fail
    go_ret
    exact ⟨rfl, HB1.out⟩
  have d1 : decide (ri > 300) = false := decide_eq_false h1
  by_cases h2 : mo < 0
  · have d2 : decide (mo < 0) = true := decide_eq_true h2
    clear h0 h1 h2
    go_wp2_with fail
    go_ret
    exact ⟨rfl, HB1.out⟩
  have d2 : decide (mo < 0) = false := decide_eq_false h2
  by_cases h3 : mo > 10
  · have d3 : decide (mo > 10) = true := decide_eq_true h3
    clear h0 h1 h2 h3
    go_wp2_with fail
    go_ret
    exact ⟨rfl, HB1.out⟩
  have d3 : decide (mo > 10) = false := decide_eq_false h3
  obtain ⟨r, rfl⟩ : ∃ r : Nat, ri = (r : Int) := ⟨ri.toNat, by omega⟩
  obtain ⟨k, rfl⟩ : ∃ k : Nat, mo = (k : Int) := ⟨mo.toNat, by omega⟩
  have hr : r ≤ 300 := by omega
  have hk : k ≤ 10 := by omega
  clear h0 h1 h2 h3 rl rh tl th
  go_wp2_with fail
  refine Calls.mono (queue_New m 0 m 0 w1 HM2.out (by decide)) ?_
  rintro e w5 ⟨q, A, c, xs, rfl, hx, hq, hb5⟩
  have HQ5 := hide hq
  have HX5 := hide hx
  have hs45 := hb5.size
  have HB45 := hide hb5
  clear hx hq hb5
  go_wp2_with fail
  refine Calls.mono (law_Lines m 0 hm2 hm8 (by omega) _ rfl rfl) ?_
  rintro e w6 ⟨g, cg, ss, rfl, hr6, hb6⟩
  have HB6 := hide (Below_step HB1.out (Below_step HB45.out hb6))
  have HT6 := hide (TS.new HQ5.out hb6 hr6 hs45 HX5.out)
  have hs46 : w1.heap.size ≤ w6.heap.size := Nat.le_trans hs45 hb6.size
  clear hr6 hb6 HQ5 HB45
  go_wp2_with fail
  go_loopg [12] (21 + n3) (fun gg s wr => ∃ (i : Nat) (xs : List (Nat × Option Nat)) (ss : List Sl) (ls : List (List UInt8)), i ≤ n3 ∧ i ≤ 20 ∧ gg = 21 + n3 - i ∧ s = .int .i64 i ∧ Hid (TS w1.heap.size wr q A c xs g m cg ss ls) ∧ Hid (∀ p, (ls.getD p []).length ≤ 12 * i) ∧ Hid (Below w1.heap.size w6 wr) ∧ w1.heap.size ≤ wr.heap.size)
  case atStart => exact ⟨0, _, _, _, by omega, by omega, rfl, rfl, HT6, short0 m, Below.refl _ _, hs46⟩
  case round =>
    obtain ⟨W1, hW1⟩ : ∃ W1, W1 = wr := ⟨_, rfl⟩
    subst hW1
    obtain ⟨i, xs, ss, ls, hi, hi50, rfl, rfl, HT, H12, HB, hsW⟩ := hrel
    obtain ⟨go, hgo'⟩ : ∃ go, go = decide (i < n3 ∧ i < 20) := ⟨_, rfl⟩
    have HGO := hide hgo'
    clear hgo' HT6
    go_upto_region 10 with fail
    go_cut [48] from 41 to 58 (fun s wx => s = .bool go ∧ W1 = wx)
    case first =>
      by_cases h0 : i < n3
      · by_cases h1 : i < 20
        · have e : Hid (go = true) := by have := HGO.out; rw [decide_eq_true ⟨h0, h1⟩] at this; exact this
          have d' : decide ((i : Int) < 20) = true := by simp; omega
          go_wp2
          go_meet
          rw [e.out]
          exact ⟨rfl, rfl⟩
        · have e : Hid (go = false) := by have := HGO.out; rw [decide_eq_false (by omega)] at this; exact this
          have d : decide (i < 20) = false := by simp; omega
          have d' : decide ((i : Int) < 20) = false := by simp; omega
          go_wp2
          go_meet
          rw [e.out]
          exact ⟨rfl, rfl⟩
      · have e : Hid (go = false) := by have := HGO.out; rw [decide_eq_false (by omega)] at this; exact this
        have d : decide (i < n3) = false := by simp; omega
        go_wp2
        go_meet
        rw [e.out]
        exact ⟨rfl, rfl⟩
    case rest =>
    obtain ⟨rfl, rfl⟩ := hcut
    cases go with
    | true =>
      obtain ⟨h0, h1⟩ := of_decide_eq_true HGO.out.symm
      obtain ⟨o, ob, off, ho⟩ := HO.out i h0
      have hAA := ho.at_
      subst hAA
      have HOA := hide (ho.below (HB6.out.trans (HB.out.mono hs1)))
      clear ho
      go_wp2_with (refine wpList_load_mid rfl 34 (.tmp 55) rfl ob (off + i * 4) rfl (opRow o.kind o.p o.first (.slice o.A o.n o.c)) _ HOA.out.range Try.underlying34 rfl info_op ?_)
      refine Calls.mono (law_Do2 HT.out hsW (by omega) (by omega) (HOA.out.lies.more hs1) HOA.out.cap HOA.out.f1 HOA.out.f2 HOA.out.p1 HOA.out.p2) ?_
      rintro e w8 ⟨rfl, ⟨xs4, ss4, ls4, ht4, hg4⟩, hb4⟩
      have H12' : Hid (∀ p, (ls4.getD p []).length ≤ 12 * (i + 1)) := fun p => by have := hg4 p; have := H12.out p; omega
      have HT4 := hide ht4
      have HB8 := hide (HB.out.trans hb4)
      have hs8 := Nat.le_trans hsW hb4.size
      clear ht4 hb4 hg4 HOA
      go_wp2_with fail
      go_roundg (21 + n3 - (i + 1))
      case measure => omega
      case rel => exact ⟨i + 1, _, _, _, by omega, by omega, rfl, by go_num, HT4, H12', HB8, hs8⟩
    | false =>
      have HBW := hide (HB6.out.trans (HB.out.mono hs1))
      have HSH : Hid (∀ i, (ls.getD i []).length ≤ 1000) := HT.out.r.short
      have hsww := HBW.out.size
      have hp0 : Hid (0 < xs.length ∧ xs.length ≤ 1000) := by rw [HT.out.nx]; exact ⟨by omega, by omega⟩
      obtain ⟨F, hF⟩ : ∃ F, F = front ls := ⟨_, rfl⟩
      have HF := hide hF
      have HFI : Hid ((F : Int) = (front ls : Int)) := by show _ = _; rw [hF]
      have HLL : Hid (ls.length = m) := HT.out.r.len
      have hF1 : F ≤ 240 := by
        have := front_mem ls 0 (by rw [HLL.out]; omega)
        have := H12.out 0
        omega
      clear hF
      go_wp2_with fail
      refine Calls.mono (ref_Front HT.out.r (by omega) (by omega) HFI.out) ?_
      rintro e w9 ⟨rfl, rfl⟩
      go_wp2_with fail
      obtain ⟨L, hL⟩ : ∃ L, L = aheadOf ⟨2, 2, []⟩ ls r ((F : Int) + (k : Int)) := ⟨_, rfl⟩
      have HL := hide hL
      have HL2 : Hid (L = (List.range k).map (aheadAt ⟨2, 2, []⟩ ls r (F + k))) := by
        show _ = _
        rw [hL, aheadOf, if_pos ⟨by decide +kernel, by omega, by omega⟩, ← HF.out, Int.toNat_natCast, show ((F : Int) + (k : Int)).toNat = F + k by omega, Nat.add_sub_cancel_left]
      clear hL
      refine Calls.mono (guess_Ahead HT.out.q hsW hp0.out.1 hp0.out.2 HSH.out ⟨2, 2, []⟩ none 0 0 (LiesB.nil _ _ _) (r : Int) ((F : Int) + (k : Int)) (by omega) (by omega) (by omega) (by omega)) ?_
      rintro e w9 ⟨A9, n9, c9, ss9, rfl, l9, hb9⟩
      rw [← HL.out] at l9
      have HX := hide l9
      have HT9 := hide (HT.out.below hb9)
      have HB9 := hide (Below_step HBW.out hb9)
      have hn9 : n9 = k := by rw [← l9.len, HL2.out]; simp
      subst hn9
      clear l9 hb9 HT HBW
      go_wp2_with fail
      go_loopg [15, 16] n9 (fun gg s15 s16 wr => ∃ i nd : Nat, i ≤ n9 ∧ gg = n9 - i ∧ s15 = .int .i64 (i : Int) ∧ wr = w9.drewN nd)
      case atStart => exact ⟨0, 0, by omega, rfl, rfl, rfl⟩
      case round =>
        obtain ⟨i, nd, hi1, rfl, rfl, rfl⟩ := hrel
        by_cases hlt : i < n9
        · obtain ⟨g7, a7, k7, c7, rfl, hc7, hl7⟩ := HX.out.cell hlt
          have hLi : Hid (L.getD i [] = aheadAt ⟨2, 2, []⟩ ls r (F + n9) i) := by
            show _ = _
            rw [HL2.out, List.getD_eq_getElem?_getD, List.getElem?_map, List.getElem?_range hlt]; rfl
          rw [hLi.out] at hl7
          obtain rfl : k7 = m := by
            rw [← hl7.len, aheadAt, List.length_map, fulls_len, HLL.out]
          have HL7 := hide hl7
          have hmm : ((k7 : Int) != (k7 : Int)) = false := by simp
          clear hl7
          go_wp2_with fail
          go_loopg [16] k7 (fun gg s16 wr => ∃ p nd : Nat, p ≤ k7 ∧ gg = k7 - p ∧ s16 = .int .i64 (p : Int) ∧ wr = w9.drewN nd)
          case atStart => exact ⟨0, nd, by omega, rfl, rfl, rfl⟩
          case round =>
            obtain ⟨p, nd, hp1, rfl, rfl, rfl⟩ := hrel
            by_cases hlt2 : p < k7
            · obtain ⟨hss, hcl, -, hll⟩ := HT9.out.r.cell p hlt2
              obtain ⟨⟨A5, n5, c5⟩, hx5⟩ : ∃ x, x = ss[p] := ⟨_, rfl⟩
              have HO5 := HT9.out.r.line p hss
              rw [← hx5] at hcl hll HO5
              simp only at hcl hll HO5
              have hn51 : n5 ≤ 240 := by have := H12.out p; omega
              by_cases hf : F + i < n5
              · have df : decide ((F : Int) + (i : Int) < (n5 : Int)) = true := decide_eq_true (by omega)
                obtain ⟨b8, o8, hl8, rfl, -, hc8⟩ := HO5.lies.at_ hf
                obtain ⟨b9, o9, hl9, rfl, -, hc9⟩ := HL7.out.at_ hlt2
                obtain ⟨x, hx⟩ : ∃ x, x = (ls.getD p [])[F + i] := ⟨_, rfl⟩
                have hxe : (aheadAt ⟨2, 2, []⟩ ls r (F + n9) i)[p] = x := by
                  have := ahead_known ⟨2, 2, []⟩ ls r (F + n9) i p (by rw [← HF.out]; omega) (by rw [HLL.out]; exact hlt2) (by rw [← HF.out, hll]; exact hf)
                  rw [← HF.out] at this
                  rw [getE _ _ hl9, this, hx, getE _ _ hl8]
                rw [← hx] at hc8
                rw [hxe] at hc9
                have hxx : ((x.toNat : Int) != (x.toNat : Int)) = false := by simp
                clear hx hxe hll hl8 hl9 hx5 HO5
                go_wp2_with fail
                go_quiet (fail)
                go_wp2_with fail
                go_roundg (k7 - (p + 1))
                case measure => omega
                case rel => exact ⟨p + 1, _, by omega, rfl, by go_num, rfl⟩
              · have df : decide ((F : Int) + (i : Int) < (n5 : Int)) = false := decide_eq_false (by omega)
                clear hll hx5 HO5
                go_wp2_with fail
                go_quiet (fail)
                go_wp2_with fail
                go_roundg (k7 - (p + 1))
                case measure => omega
                case rel => exact ⟨p + 1, _, by omega, rfl, by go_num, rfl⟩
            · obtain rfl : p = k7 := by omega
              go_wp2_with fail
              go_roundg (n9 - (i + 1))
              case measure => omega
              case rel => exact ⟨i + 1, _, by omega, rfl, by go_num, rfl⟩
        · obtain rfl : i = n9 := by omega
          go_wp2_with fail
          go_ret
          exact ⟨rfl, Below_drewN HB9.out nd⟩
end Go.Proofs.Ytciogjnchpeaaaa
