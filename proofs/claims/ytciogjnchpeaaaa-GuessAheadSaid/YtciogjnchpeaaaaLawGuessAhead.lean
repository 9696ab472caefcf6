/-
  GuessAhead: the walk.
-/
import Derived.Test.YtciogjnchpeaaaaLaw19B
namespace Go.Proofs.Ytciogjnchpeaaaa
open Go.RowKit
set_option maxRecDepth 10000
set_option linter.unusedVariables false
open Prd
set_option maxHeartbeats 4000000 in
set_option maxRecDepth 20000 in
theorem law_GuessAhead (n delay : Int) (A3 : Option Addr) (n3 c3 : Nat) (b0 : By) (A0 : Option Addr) (n0 c0 : Nat) (ri ti : Int) (w : World) (lo0 : -9223372036854775808 ≤ n) (hi0 : n ≤ 9223372036854775807) (lo1 : -9223372036854775808 ≤ delay) (hi1 : delay ≤ 9223372036854775807)
    (hO : LiesOps w w.heap.size A3 n3) (hc : n3 ≤ c3) (hcm : c3 ≤ maxLen) (hT : LiesB w w.heap.size A0 n0 b0.table) (hc0 : n0 ≤ c0) (hcm0 : c0 ≤ maxLen) (hik : Is64 b0.kind) (hio : Is64 b0.order)
    (rl : -9223372036854775808 ≤ ri) (rh : ri ≤ 9223372036854775807) (tl : -9223372036854775808 ≤ ti) (th : ti ≤ 9223372036854775807) :
    Calls Try.prog 3 #[.int .i64 n, .int .i64 delay, .slice A3 n3 c3, b0.val (.slice A0 n0 c0), .int .i64 ri, .int .i64 ti] w fun e w' => e = .returned (.bool true) ∧ Below w.heap.size w w' := by
  have hn3 : n3 ≤ 9223372036854775807 := by simp only [maxLen] at *; omega
  have HO := hide hO
  have HT0 := hide hT
  have HRT := hide (And.intro (And.intro rl rh) (And.intro tl th))
  obtain ⟨m, hm⟩ : ∃ m : Nat, max 2 (min n 8) = (m : Int) := ⟨(max 2 (min n 8)).toNat, by omega⟩
  have hm2 : 2 ≤ m := by omega
  have hm8 : m ≤ 8 := by omega
  obtain ⟨d, hd⟩ : ∃ d : Nat, max 0 (min delay 8) = (d : Int) := ⟨(max 0 (min delay 8)).toNat, by omega⟩
  have hd8 : d ≤ 8 := by omega
  have HM := hide hm
  have HD := hide hd
  have HM2 : Hid (min (max (m : Int) 2) 8 = (m : Int)) := by show _ = _; omega
  have HD2 : Hid ((min (max (d : Int) 0) 8).toNat = d) := by show _ = _; omega
  clear hO hcm hm hd hT hcm0 rl rh tl th lo0 hi0 lo1 hi1
  rw [show b0.val (.slice A0 n0 c0) = .agg #[.int .i64 b0.kind, .int .i64 b0.order, .slice A0 n0 c0] from rfl]
  go_enter Try.func3, Try.ntmps3
  go_upto_region 1 with fail
  generalize hw0 : World.alloc w _ = w0
  have hA0 : Arr 25 w0 w.heap.size (b0.row (.slice A0 n0 c0)) := by rw [← hw0]; exact Arr.new 25 w _ _ rfl
  have HB0 : Hid (Below w.heap.size w w0) := by show Below _ _ _; rw [← hw0]; exact Below_new w _
  have hsz0 : w.heap.size < w0.heap.size := hA0.lt
  have HA0 := hide hA0
  clear hw0 hA0
  go_wp2_with fail
  refine Calls.mono (begun19 w0) ?_
  rintro e w1 ⟨rfl, hb1⟩
  have HB1 := hide (Below_step HB0.out hb1)
  have HA1 := hide (HA0.out.belowN hb1)
  have hs1 := hb1.size
  clear hb1 HA0 HB0
  go_wp2_with (refine wpZ_load rfl (.tmp 9) rfl w.heap.size rfl b0 (.slice A0 n0 c0) HA1.out ?_)
  refine Calls.mono (law_Cut b0 A0 n0 c0 w1 hc0) ?_
  rintro e w2 ⟨rfl, hb2⟩
  have HB2 := hide (Below_step HB1.out hb2)
  have HA2 := hide (HA1.out.belowN hb2)
  have hs2 := hb2.size
  clear hb2 HA1 HB1
  obtain ⟨b, hb⟩ : ∃ b : By, b = b0.cut 40 := ⟨_, rfl⟩
  obtain ⟨q0, hq⟩ : ∃ q, q = min 40 n0 := ⟨_, rfl⟩
  rw [show b0.val (.slice A0 (min 40 n0) c0) = b.val (.slice A0 q0 c0) by rw [hb, hq]; rfl]
  have hq40 : q0 ≤ 40 := by omega
  have hqc : q0 ≤ c0 := by omega
  have HCU := hide (And.intro hb hq)
  clear hb hq
  go_upto_region 5 with (refine wpZ_store rfl (.tmp 9) (.tmp 32) rfl w.heap.size b A0 q0 c0 rfl rfl b0 (.slice A0 n0 c0) HA2.out ?_; intro w4 ha4 hk4 hs4)
  have HA4 := hide ha4
  have HB4 := hide (HB2.out.trans (hk4.below (by omega) (fun k hk => by omega)))
  have hsz4 : w.heap.size < w4.heap.size := by omega
  have HQ4 : Hid (LiesB w4 w.heap.size A0 q0 b.table) := by
    have := (HT0.out.below HB4.out).take 40
    rw [HCU.out.1]
    rwa [← HCU.out.2] at this
  rw [HM.out, HD.out]
  clear ha4 hk4 hs4 HT0 HCU HA2 HB2 hs1 hs2
  go_wp2_with fail
  refine Calls.mono (queue_New m d m d w4 HM2.out HD2.out) ?_
  rintro e w5 ⟨q, A, c, xs, rfl, hx, hq, hb5⟩
  have HB5 := hide (Below_step HB4.out hb5)
  have HA5 := hide (HA4.out.belowN hb5)
  have HQ5 := hide hq
  have HX5 := hide hx
  have hs45 := hb5.size
  have HB45 := hide hb5
  clear hx hq hb5 HA4
  go_wp2_with fail
  refine Calls.mono (law_Lines m d hm2 hm8 hd8 _ rfl rfl) ?_
  rintro e w6 ⟨g, cg, ss, rfl, hr, hb6⟩
  have HB6 := hide (Below_step HB5.out hb6)
  have HA6 := hide (HA5.out.belowN hb6)
  have HT6 := hide (TS.new HQ5.out hb6 hr hs45 HX5.out)
  have hs46 : w4.heap.size ≤ w6.heap.size := Nat.le_trans hs45 hb6.size
  have HQ6 := hide (HQ4.out.below ((Below_step HB45.out hb6).mono (Nat.le_of_lt hsz4)))
  clear hr hb6 HQ5 HB5 HA5 HB45 HQ4
  go_wp2_with fail
  go_loopg [16] (21 + n3) (fun gg s wr => ∃ (i : Nat) (xs : List (Nat × Option Nat)) (ss : List Sl) (ls : List (List UInt8)), i ≤ n3 ∧ i ≤ 20 ∧ gg = 21 + n3 - i ∧ s = .int .i64 i ∧ Hid (TS w4.heap.size wr q A c xs g m cg ss ls) ∧ Hid (Below w4.heap.size w6 wr) ∧ w4.heap.size ≤ wr.heap.size)
  case atStart => exact ⟨0, _, _, _, by omega, by omega, rfl, rfl, HT6, Below.refl _ _, hs46⟩
  case round =>
    obtain ⟨W1, hW1⟩ : ∃ W1, W1 = wr := ⟨_, rfl⟩
    subst hW1
    obtain ⟨i, xs, ss, ls, hi, hi50, rfl, rfl, HT, HB, hsW⟩ := hrel
    obtain ⟨go, hgo'⟩ : ∃ go, go = decide (i < n3 ∧ i < 20) := ⟨_, rfl⟩
    have HGO := hide hgo'
    clear hgo' HT6
    go_upto_region 8 with fail
    go_cut [46] from 39 to 56 (fun s wx => s = .bool go ∧ W1 = wx)
    case first =>
      by_cases h0 : i < n3
      · by_cases h1 : i < 20
        · have e : Hid (go = true) := by have := HGO.out; rw [decide_eq_true ⟨h0, h1⟩] at this; exact this
          have d' : decide ((i : Int) < 20) = true := by simp; omega
          go_wp2
          go_meet
          rw [e.out]
          exact ⟨rfl, rfl⟩
        · have e : Hid (go = false) := by have := HGO.out; rw [decide_eq_false (by omega)] at this; exact this
          have d : decide (i < 20) = false := by simp; omega
          have d' : decide ((i : Int) < 20) = false := by simp; omega
          go_wp2
          go_meet
          rw [e.out]
          exact ⟨rfl, rfl⟩
      · have e : Hid (go = false) := by have := HGO.out; rw [decide_eq_false (by omega)] at this; exact this
        have d : decide (i < n3) = false := by simp; omega
        go_wp2
        go_meet
        rw [e.out]
        exact ⟨rfl, rfl⟩
    case rest =>
    obtain ⟨rfl, rfl⟩ := hcut
    cases go with
    | true =>
      obtain ⟨h0, h1⟩ := of_decide_eq_true HGO.out.symm
      obtain ⟨o, ob, off, ho⟩ := HO.out i h0
      have hAA := ho.at_
      subst hAA
      have HOA := hide (ho.below (HB6.out.trans (HB.out.mono (Nat.le_of_lt hsz4))))
      clear ho
      go_wp2_with (refine wpList_load_mid rfl 34 (.tmp 53) rfl ob (off + i * 4) rfl (opRow o.kind o.p o.first (.slice o.A o.n o.c)) _ HOA.out.range Try.underlying34 rfl info_op ?_)
      refine Calls.mono (law_Do HT.out hsW (by omega) (by omega) (HOA.out.lies.more (Nat.le_of_lt hsz4)) HOA.out.cap HOA.out.f1 HOA.out.f2 HOA.out.p1 HOA.out.p2) ?_
      rintro e w8 ⟨rfl, ⟨xs4, ss4, ls4, ht4⟩, hb4⟩
      have HT4 := hide ht4
      have HB8 := hide (HB.out.trans hb4)
      have hs8 := Nat.le_trans hsW hb4.size
      clear ht4 hb4 HOA
      go_wp2_with fail
      go_roundg (21 + n3 - (i + 1))
      case measure => omega
      case rel => exact ⟨i + 1, _, _, _, by omega, by omega, rfl, by go_num, HT4, HB8, hs8⟩
    | false =>
      have HAW := hide (HA6.out.below HB.out (by omega))
      have HBW := hide (HB6.out.trans (HB.out.mono (Nat.le_of_lt hsz4)))
      have HQW := hide (HQ6.out.below (HB.out.mono (Nat.le_of_lt hsz4)))
      have HSH : Hid (∀ i, (ls.getD i []).length ≤ 1000) := HT.out.r.short
      have hsww := HBW.out.size
      go_wp2_with fail
      go_loopg [17, 18] m (fun gg s17 s18 wr => ∃ (p : Nat) (M : Nat), p ≤ m ∧ M ≤ 1000 ∧ gg = m - p ∧ s18 = .int .i64 (p : Int) ∧ s17 = .int .i64 (M : Int) ∧ W1 = wr)
      case atStart => exact ⟨0, 0, by omega, by omega, rfl, rfl, rfl, rfl⟩
      case round =>
        obtain ⟨p, M, hpm, hM, rfl, rfl, rfl, rfl⟩ := hrel
        by_cases hpl : p < m
        · obtain ⟨hss, hcl, -, hll⟩ := HT.out.r.cell p hpl
          obtain ⟨⟨A5, n5, c5⟩, hx5⟩ : ∃ x, x = ss[p] := ⟨_, rfl⟩
          rw [← hx5] at hcl hll
          simp only at hcl hll
          have hn51 : n5 ≤ 1000 := by have := HSH.out p; omega
          have hmx : max (M : Int) (n5 : Int) = ((max M n5 : Nat) : Int) := by omega
          clear hll hx5
          go_wp2_with fail
          go_roundg (m - (p + 1))
          case measure => omega
          case rel => exact ⟨p + 1, max M n5, by omega, by omega, rfl, by go_num, by first | rfl | exact congrArg _ hmx, rfl⟩
        · obtain rfl : p = m := by omega
          go_upto_region 17 with fail
          go_cut [77] (fun s wx => ∃ bb : Bool, s = .bool bb ∧ W1 = wx)
          case first =>
            by_cases h1 : ti > (M : Int) + 10
            · have d1 : decide (ti > (M : Int) + 10) = true := decide_eq_true h1
              by_cases h2 : ti ≤ 1000
              · have d2 : decide (ti ≤ 1000) = true := decide_eq_true h2
                clear h1 h2
                go_wp2
                go_meet
                exact ⟨_, rfl, rfl⟩
              · have d2 : decide (ti ≤ 1000) = false := decide_eq_false h2
                clear h1 h2
                go_wp2
                go_meet
                exact ⟨_, rfl, rfl⟩
            · have d1 : decide (ti > (M : Int) + 10) = false := decide_eq_false h1
              clear h1
              go_wp2
              go_meet
              exact ⟨_, rfl, rfl⟩
          case rest =>
          obtain ⟨bb, rfl, rfl⟩ := hcut
          go_upto_if 77 with fail
          go_cut [5] (fun s wx => ∃ t' : Int, s = .int .i64 t' ∧ Hid (-9223372036854775808 ≤ t' ∧ t' ≤ 9223372036854775807) ∧ W1 = wx)
          case first =>
            cases bb
            · go_wp2_with fail
              go_meet
              exact ⟨ti, rfl, HRT.out.2, rfl⟩
            · go_wp2_with fail
              go_meet
              exact ⟨(M : Int) + 10, rfl, ⟨by omega, by omega⟩, rfl⟩
          case rest =>
          obtain ⟨t', rfl, HTB, rfl⟩ := hcut
          have hp0 : Hid (0 < xs.length ∧ xs.length ≤ 1000) := by rw [HT.out.nx]; exact ⟨by omega, by omega⟩
          obtain ⟨L, hL⟩ : ∃ L, L = aheadOf b ls ri t' := ⟨_, rfl⟩
          have HL := hide hL
          clear hL
          go_upto_region 19 with fail
          go_cut [19, 20] (fun s19 s20 wx => ∃ (A1 A2 : Option Addr) (n1 c1 c2 : Nat) (ss1 ss2 : List Sl), s19 = .slice A1 n1 c1 ∧ s20 = .slice A2 n1 c2 ∧ Hid (LL W1.heap.size wx A1 n1 c1 ss1 L) ∧ Hid (LL W1.heap.size wx A2 n1 c2 ss2 L) ∧ Hid (Below W1.heap.size W1 wx))
          case first =>
            refine wp_region_noPanic ?_
            refine wp_region_held_drew (S := (fun w' => WholeZ w.heap.size (b.val (.slice A0 q0 c0)) w')) (by kernel_rfl) HAW.out.drew.wholeZ (fun hHeld => ?_)
            refine wpAnyH_take (i := 0) (oi := ?_) (v := ?_) ?_ (by kernel_rfl) (by kernel_rfl) (by kernel_rfl) ?_ ?_ (by assumption) ?_
            rotate_left 2
            · (simp only [List.getElem?_toArray, List.getElem?_cons_zero]; rfl)
            · exact fun _ _ _ h => h
            · (refine Or.inl ⟨by rfl, ?_⟩; intro w hSw; (try dsimp only at hSw); go_simp <;> with_reducible rfl)
            try simp only [Act.put, List.setIfInBounds_toArray, List.set_cons_zero, List.set_cons_succ]
            refine wpAnyH_take (i := 1) (oi := ?_) (v := b.val (.slice A0 q0 c0)) ?_ (by kernel_rfl) (by kernel_rfl) (by kernel_rfl) ?_ ?_ (by assumption) ?_
            rotate_left 1
            · (simp only [List.getElem?_toArray, List.getElem?_cons_succ, List.getElem?_cons_zero]; rfl)
            · exact fun _ _ _ h => h
            · (refine Or.inl ⟨by rfl, ?_⟩; intro w hSw; (try dsimp only at hSw); exact exec_wholeZ (x := .tmp 9) hSw rfl rfl)
            try simp only [Act.put, List.setIfInBounds_toArray, List.set_cons_zero, List.set_cons_succ]
            refine wpAnyH_take (i := 3) (oi := ?_) (v := ?_) ?_ (by kernel_rfl) (by kernel_rfl) (by kernel_rfl) ?_ ?_ (by assumption) ?_
            rotate_left 2
            · (simp only [List.getElem?_toArray, List.getElem?_cons_succ, List.getElem?_cons_zero]; rfl)
            · exact fun _ _ _ h => h
            · (refine Or.inl ⟨by rfl, ?_⟩; intro w hSw; (try dsimp only at hSw); go_simp <;> with_reducible rfl)
            try simp only [Act.put, List.setIfInBounds_toArray, List.set_cons_zero, List.set_cons_succ]
            refine wpAnyH_take (i := 4) (oi := ?_) (v := ?_) ?_ (by kernel_rfl) (by kernel_rfl) (by kernel_rfl) ?_ ?_ (by assumption) ?_
            rotate_left 2
            · (simp only [List.getElem?_toArray, List.getElem?_cons_succ, List.getElem?_cons_zero]; rfl)
            · exact fun _ _ _ h => h
            · (refine Or.inl ⟨by rfl, ?_⟩; intro w hSw; (try dsimp only at hSw); go_simp <;> with_reducible rfl)
            try simp only [Act.put, List.setIfInBounds_toArray, List.set_cons_zero, List.set_cons_succ]
            refine wpAnyH_take (i := 6) (oi := ?_) (v := ?_) ?_ (by kernel_rfl) (by kernel_rfl) (by kernel_rfl) ?_ ?_ (by assumption) ?_
            rotate_left 2
            · (simp only [List.getElem?_toArray, List.getElem?_cons_succ, List.getElem?_cons_zero]; rfl)
            · exact fun _ _ _ h => h
            · (refine Or.inl ⟨by rfl, ?_⟩; intro w hSw; (try dsimp only at hSw); go_simp <;> with_reducible rfl)
            try simp only [Act.put, List.setIfInBounds_toArray, List.set_cons_zero, List.set_cons_succ]
            refine wpAnyH_take (i := 7) (oi := ?_) (v := b.val (.slice A0 q0 c0)) ?_ (by kernel_rfl) (by kernel_rfl) (by kernel_rfl) ?_ ?_ (by assumption) ?_
            rotate_left 1
            · (simp only [List.getElem?_toArray, List.getElem?_cons_succ, List.getElem?_cons_zero]; rfl)
            · exact fun _ _ _ h => h
            · (refine Or.inl ⟨by rfl, ?_⟩; intro w hSw; (try dsimp only at hSw); exact exec_wholeZ (x := .tmp 9) hSw rfl rfl)
            try simp only [Act.put, List.setIfInBounds_toArray, List.set_cons_zero, List.set_cons_succ]
            refine wpAnyH_take (i := 8) (oi := ?_) (v := ?_) ?_ (by kernel_rfl) (by kernel_rfl) (by kernel_rfl) ?_ ?_ (by assumption) ?_
            rotate_left 2
            · (simp only [List.getElem?_toArray, List.getElem?_cons_succ, List.getElem?_cons_zero]; rfl)
            · exact fun _ _ _ h => h
            · (refine Or.inl ⟨by rfl, ?_⟩; intro w hSw; (try dsimp only at hSw); go_simp <;> with_reducible rfl)
            try simp only [Act.put, List.setIfInBounds_toArray, List.set_cons_zero, List.set_cons_succ]
            refine wpAnyH_take (i := 9) (oi := ?_) (v := ?_) ?_ (by kernel_rfl) (by kernel_rfl) (by kernel_rfl) ?_ ?_ (by assumption) ?_
            rotate_left 2
            · (simp only [List.getElem?_toArray, List.getElem?_cons_succ, List.getElem?_cons_zero]; rfl)
            · exact fun _ _ _ h => h
            · (refine Or.inl ⟨by rfl, ?_⟩; intro w hSw; (try dsimp only at hSw); go_simp <;> with_reducible rfl)
            try simp only [Act.put, List.setIfInBounds_toArray, List.set_cons_zero, List.set_cons_succ]
            refine wpAnyH_ready (rs := [2]) (by kernel_rfl) (by simp) ?_
            refine AllReadyH.cons (o := ?_) ?_ (fun K hK => ?_) AllReadyH.nil
            rotate_left 1
            · (simp only [List.getElem?_toArray, List.getElem?_cons_succ, List.getElem?_cons_zero]; rfl)
            go_simp
            refine Calls.mono (law_Of b A0 q0 c0 _) ?_
            rintro e w7 ⟨rfl, hb7⟩
            have HA7 := HAW.out.drew.belowN hb7
            have HB7 := (Below.refl W1.heap.size W1).drew.trans hb7
            refine hK.out _ _ HA7.wholeZ (fun hHeld => ?_)
            clear hK K
            try simp only [Act.put, List.setIfInBounds_toArray, List.set_cons_zero, List.set_cons_succ]
            refine wpAnyH_ready (rs := [5]) (by kernel_rfl) (by simp) ?_
            refine AllReadyH.cons (o := ?_) ?_ (fun K hK => ?_) AllReadyH.nil
            rotate_left 1
            · (simp only [List.getElem?_toArray, List.getElem?_cons_succ, List.getElem?_cons_zero]; rfl)
            go_simp
            refine Calls.mono (guess_Ahead (HT.out.q.drew.below hb7) (Nat.le_trans hsW hb7.size) hp0.out.1 hp0.out.2 HSH.out b A0 q0 c0 ((HQW.out.drew.below (hb7.mono hsww)).more (Nat.le_trans hsww hb7.size)) ri t' HRT.out.1.1 HRT.out.1.2 HTB.out.1 HTB.out.2) ?_
            rintro e w8 ⟨A8, n8, c8, ss8, rfl, l8, hb8⟩
            rw [← HL.out] at l8
            have HA8 := HA7.belowN hb8
            have HB8 := Below_step HB7 hb8
            refine hK.out _ _ HA8.wholeZ (fun hHeld => ?_)
            clear hK K
            try simp only [Act.put, List.setIfInBounds_toArray, List.set_cons_zero, List.set_cons_succ]
            refine wpAnyH_ready (rs := [10]) (by kernel_rfl) (by simp) ?_
            refine AllReadyH.cons (o := ?_) ?_ (fun K hK => ?_) AllReadyH.nil
            rotate_left 1
            · (simp only [List.getElem?_toArray, List.getElem?_cons_succ, List.getElem?_cons_zero]; rfl)
            go_simp
            refine Calls.mono (ref_Ahead (HT.out.r.below HB8) (Nat.le_trans hsW HB8.size) (by omega) (by omega) b A0 q0 c0 ((HQW.out.below (HB8.mono hsww)).more (Nat.le_trans hsww HB8.size)) ri t' HRT.out.1.1 HRT.out.1.2 HTB.out.1 HTB.out.2) ?_
            rintro e w9 ⟨A9, n9, c9, ss9, rfl, l9, hb9⟩
            rw [← HL.out] at l9
            have HA9 := HA8.belowN hb9
            refine hK.out _ _ HA9.wholeZ (fun hHeld => ?_)
            clear hK K
            try simp only [Act.put, List.setIfInBounds_toArray, List.set_cons_zero, List.set_cons_succ]
            refine wpAnyH_take (i := 11) (oi := ?_) (v := ?_) ?_ (by kernel_rfl) (by kernel_rfl) (by kernel_rfl) ?_ ?_ (by assumption) ?_
            rotate_left 2
            · (simp only [List.getElem?_toArray, List.getElem?_cons_succ, List.getElem?_cons_zero]; rfl)
            · exact fun _ _ _ h => h
            · (refine Or.inl ⟨by rfl, ?_⟩; intro w hSw; (try dsimp only at hSw); go_simp <;> with_reducible rfl)
            try simp only [Act.put, List.setIfInBounds_toArray, List.set_cons_zero, List.set_cons_succ]
            refine wpAnyH_take (i := 12) (oi := ?_) (v := ?_) ?_ (by kernel_rfl) (by kernel_rfl) (by kernel_rfl) ?_ ?_ (by assumption) ?_
            rotate_left 2
            · (simp only [List.getElem?_toArray, List.getElem?_cons_succ, List.getElem?_cons_zero]; rfl)
            · exact fun _ _ _ h => h
            · (refine Or.inl ⟨by rfl, ?_⟩; intro w hSw; (try dsimp only at hSw); go_simp <;> with_reducible rfl)
            try simp only [Act.put, List.setIfInBounds_toArray, List.set_cons_zero, List.set_cons_succ]
            refine wpAnyH_done (by kernel_rfl) (NoPanic.normal ?_) _
            go_wp2_with fail
            go_meet
            have h89 : n9 = n8 := by rw [← l8.len, ← l9.len]
            subst h89
            exact ⟨A8, A9, n9, c8, c9, ss8, ss9, rfl, rfl, (l8.below hb9).base_le hb7.size, l9.base_le (Nat.le_trans hb7.size hb8.size), Below_step HB8 hb9⟩
          case rest =>
          obtain ⟨A1, A2, n1, c1, c2, ss1, ss2, rfl, rfl, HX, HY, HBX⟩ := hcut
          obtain ⟨W2, hW2⟩ : ∃ W2, W2 = wc := ⟨_, rfl⟩
          subst hW2
          have HA2 := hide (HAW.out.below HBX.out (by omega))
          have hs2 := HBX.out.size
          have hn1 : n1 ≤ 1000 := by rw [← HX.out.len, HL.out]; exact aheadOf_len _ _ _ _
          go_upto_region 20 with fail
          go_cut [109] (fun s wx => s = .bool false ∧ Hid (Below W2.heap.size W2 wx))
          case first =>
            have hnn : ((n1 : Int) != (n1 : Int)) = false := by simp
            go_wp2_with (refine wpZG_load rfl (.tmp 9) rfl w.heap.size rfl b (.slice A0 q0 c0) HA2.out ?_)
            refine Calls.mono (law_Of b A0 q0 c0 W2) ?_
            rintro e w7 ⟨rfl, hb7⟩
            go_wp2_with fail
            refine Calls.mono (guess_Differs b A0 q0 c0 _ ri w7) ?_
            rintro e w8 ⟨rfl, hb8⟩
            have HB8 := hide (Below_step hb7 hb8)
            clear hb7 hb8
            by_cases h1 : ri ≥ 1
            · have d1 : decide (ri ≥ 1) = true := decide_eq_true h1
              by_cases h2 : ri ≤ 255
              · have d2 : decide (ri ≤ 255) = true := decide_eq_true h2
                rw [show decide (1 ≤ ri ∧ ri ≤ 255) = true from decide_eq_true ⟨h1, h2⟩]
                clear h1 h2
                go_wp2_with fail
                go_meet
                exact ⟨rfl, HB8⟩
              · have d2 : decide (ri ≤ 255) = false := decide_eq_false h2
                rw [show decide (1 ≤ ri ∧ ri ≤ 255) = false from decide_eq_false (fun h => h2 h.2)]
                clear h1 h2
                go_wp2_with fail
                go_meet
                exact ⟨rfl, HB8⟩
            · have d1 : decide (ri ≥ 1) = false := decide_eq_false h1
              rw [show decide (1 ≤ ri ∧ ri ≤ 255) = false from decide_eq_false (fun h => h1 h.1)]
              clear h1
              go_wp2_with fail
              go_meet
              exact ⟨rfl, HB8⟩
          case rest =>
          obtain ⟨rfl, HB3⟩ := hcut
          obtain ⟨W3, hW3⟩ : ∃ W3, W3 = wc := ⟨_, rfl⟩
          subst hW3
          have HX3 := hide (HX.out.below HB3.out)
          have HY3 := hide (HY.out.below HB3.out)
          have HT3 := hide ((HT.out.below HBX.out).below (HB3.out))
          have HW3 := hide ((Below_step HBX.out HB3.out).mono hsww)
          have hs3 := HB3.out.size
          clear HX HY HB3 HA2 HBX HT
          go_wp2_with fail
          go_loopg [21] n1 (fun gg s wr => ∃ i nd : Nat, i ≤ n1 ∧ gg = n1 - i ∧ s = .int .i64 (i : Int) ∧ wr = W3.drewN nd)
          case atStart => exact ⟨0, 0, by omega, rfl, rfl, rfl⟩
          case round =>
            obtain ⟨i, nd, hi1, rfl, rfl, rfl⟩ := hrel
            by_cases hlt : i < n1
            · obtain ⟨g7, a7, k7, c7, rfl, hc7, hl7⟩ := HX3.out.cell hlt
              obtain ⟨g8, a8, k8, c8, rfl, hc8, hl8⟩ := HY3.out.cell hlt
              obtain ⟨X, hX⟩ : ∃ X, X = L.getD i [] := ⟨_, rfl⟩
              rw [← hX] at hl7 hl8
              have hs7 := fun k => run_stringB (c := c7) (hl7.drewN k)
              have hs8 := fun k => run_stringB (c := c8) (hl8.drewN k)
              have hXX : (X != X) = false := by simp
              clear hX hl7 hl8
              go_wp2_with fail
              go_quiet (fail)
              clear hs7 hs8
              go_wp2_with fail
              go_roundg (n1 - (i + 1))
              case measure => omega
              case rel => exact ⟨i + 1, _, by omega, rfl, by go_num, rfl⟩
            · obtain rfl : i = n1 := by omega
              obtain ⟨F, hF⟩ : ∃ F, F = front ls := ⟨_, rfl⟩
              have HFI : Hid ((F : Int) = (front ls : Int)) := by show _ = _; rw [hF]
              have HT9 := hide (HT3.out.drewN nd)
              have hFF : ((F : Int) == (F : Int)) = true := by simp
              clear hF
              go_wp2_with fail
              refine Calls.mono (ref_Front HT9.out.r (by omega) (by omega) HFI.out) ?_
              rintro e w9 ⟨rfl, rfl⟩
              go_wp2_with fail
              refine Calls.mono (queue_Front HT9.out.q hp0.out.1 hp0.out.2 HFI.out) ?_
              rintro e w9 ⟨rfl, rfl⟩
              go_wp2_with fail
              go_ret
              exact ⟨rfl, Below_drewN (HBW.out.trans HW3.out) nd⟩
end Go.Proofs.Ytciogjnchpeaaaa
