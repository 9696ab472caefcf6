/-
  GuessRanks: the walk.
-/
import Derived.Test.YtciogjnchpeaaaaLaw19B
namespace Go.Proofs.Ytciogjnchpeaaaa
open Go.RowKit
set_option maxRecDepth 10000
set_option linter.unusedVariables false
open Prd
theorem hit_first {ls : List (List UInt8)} : ∀ k, hitB ls k = true → ∃ p, p < k ∧ hitB ls p = false ∧ (ls.getD p []).length = front ls
  | 0, h => by simp [hitB] at h
  | k + 1, h => by
    rw [hitB_succ] at h
    cases hk : hitB ls k
    · rw [hk, Bool.false_or, beq_iff_eq] at h
      exact ⟨k, by omega, hk, h⟩
    · obtain ⟨p, h1, h2, h3⟩ := hit_first k hk
      exact ⟨p, by omega, h2, h3⟩
theorem hit_all {ls : List (List UInt8)} (h0 : 0 < ls.length) : hitB ls ls.length = true := by
  obtain ⟨i, hi, e⟩ := frontK_mem ls ls.length (Nat.le_refl _) h0
  unfold hitB
  rw [List.any_eq_true]
  exact ⟨i, List.mem_range.2 hi, by rw [beq_iff_eq]; exact e.symm⟩
theorem gline_at (b : By) (past : List UInt8) (r tt : Nat) (h : past.length < tt) : (gline b past r tt).getD past.length 0 = (b.rank past).getD (r % 256) 0 := by
  rw [gline_odd b past r tt h, List.append_assoc, List.getD_eq_getElem?_getD, List.getElem?_append_right (Nat.le_refl _), Nat.sub_self]
  rfl
theorem rank_getD_inj (b : By) (past : List UInt8) {r s : Nat} (hr : r < 256) (hs : s < 256) (h : (b.rank past).getD r 0 = (b.rank past).getD s 0) : r = s := by
  have hS := b.rank_sorted past
  have hl := b.rank_len past
  rcases Nat.lt_trichotomy r s with h1 | h1 | h1
  · have := hS.idx h1 (by omega); rw [h] at this; omega
  · exact h1
  · have := hS.idx h1 (by omega); rw [h] at this; omega
theorem ranks_iff (b : By) (ls : List (List UInt8)) (h0 : 0 < ls.length) {r s : Nat} (hr : r < 256) (hs : s < 256) : (aheadAt b ls r (front ls + 1) 0 == aheadAt b ls s (front ls + 1) 0) = ((r : Int) == (s : Int)) := by
  rw [Bool.eq_iff_iff, beq_iff_eq, beq_iff_eq]
  constructor
  · intro h
    obtain ⟨p, hp, h1, h2⟩ := hit_first _ (hit_all h0)
    have e : ∀ r, r < 256 → (aheadAt b ls r (front ls + 1) 0).getD p 0 = (b.rank (ls.getD p [])).getD r 0 := by
      intro r hr
      unfold aheadAt
      rw [getD_map0 (fun x : List UInt8 => x.getD (front ls + 0) 0) (fulls b ls r (front ls + 1)) p [] 0 (by rw [fulls_len]; exact hp), fulls_getD _ _ _ _ _ hp]
      have hra : rankAt ls r p = r := by unfold rankAt; rw [if_neg (by rw [h1]; decide), if_pos h2]
      rw [hra]
      show (gline b (ls.getD p []) r (front ls + 1)).getD (front ls + 0) 0 = _
      rw [Nat.add_zero]
      have q := gline_at b (ls.getD p []) r (front ls + 1) (by omega)
      rw [h2, Nat.mod_eq_of_lt hr] at q
      exact q
    have := congrArg (fun x : List UInt8 => x.getD p 0) h
    have h3 : (b.rank (ls.getD p [])).getD r 0 = (b.rank (ls.getD p [])).getD s 0 := by rw [← e r hr, ← e s hs]; exact this
    have := rank_getD_inj b _ hr hs h3
    omega
  · intro h
    have : r = s := by omega
    rw [this]
set_option maxHeartbeats 4000000 in
set_option maxRecDepth 20000 in
theorem law_GuessRanks (n : Int) (A3 : Option Addr) (n3 c3 : Nat) (ri si : Int) (w : World) (lo0 : -9223372036854775808 ≤ n) (hi0 : n ≤ 9223372036854775807)
    (hO : LiesOps w w.heap.size A3 n3) (hc : n3 ≤ c3) (hcm : c3 ≤ maxLen)
    (rl : -9223372036854775808 ≤ ri) (rh : ri ≤ 9223372036854775807) (tl : -9223372036854775808 ≤ si) (th : si ≤ 9223372036854775807) :
    Calls Try.prog 5 #[.int .i64 n, .slice A3 n3 c3, .int .i64 ri, .int .i64 si] w fun e w' => e = .returned (.bool true) ∧ Below w.heap.size w w' := by
  have hn3 : n3 ≤ 9223372036854775807 := by simp only [maxLen] at *; omega
  have HO := hide hO
  obtain ⟨m, hm⟩ : ∃ m : Nat, max 2 (min n 8) = (m : Int) := ⟨(max 2 (min n 8)).toNat, by omega⟩
  have hm2 : 2 ≤ m := by omega
  have hm8 : m ≤ 8 := by omega
  have HM := hide hm
  have HM2 : Hid (min (max (m : Int) 2) 8 = (m : Int)) := by show _ = _; omega
  clear hO hcm hm lo0 hi0
  go_enter Try.func5, Try.ntmps5
  go_wp2_with fail
  refine Calls.mono (begun19 w) ?_
  rintro e w1 ⟨rfl, hb1⟩
  have HB1 := hide hb1
  have hs1 := hb1.size
  clear hb1
  go_upto_region 5 with fail
  rw [HM.out]
  by_cases h0 : ri < 0
  · have d0 : decide (ri < 0) = true := decide_eq_true h0
    clear h0
    go_wp2_with fail
    go_ret
    exact ⟨rfl, HB1.out⟩
  have d0 : decide (ri < 0) = false := decide_eq_false h0
  by_cases h1 : ri > 255
  · have d1 : decide (ri > 255) = true := decide_eq_true h1
    clear h0 h1
    go_wp2_with fail
    go_ret
    exact ⟨rfl, HB1.out⟩
  have d1 : decide (ri > 255) = false := decide_eq_false h1
  by_cases h2 : si < 0
  · have d2 : decide (si < 0) = true := decide_eq_true h2
    clear h0 h1 h2
    go_wp2_with fail
    go_ret
    exact ⟨rfl, HB1.out⟩
  have d2 : decide (si < 0) = false := decide_eq_false h2
  by_cases h3 : si > 255
  · have d3 : decide (si > 255) = true := decide_eq_true h3
    clear h0 h1 h2 h3
    go_wp2_with fail
    go_ret
    exact ⟨rfl, HB1.out⟩
  have d3 : decide (si > 255) = false := decide_eq_false h3
  obtain ⟨r, rfl⟩ : ∃ r : Nat, ri = (r : Int) := ⟨ri.toNat, by omega⟩
  obtain ⟨k, rfl⟩ : ∃ k : Nat, si = (k : Int) := ⟨si.toNat, by omega⟩
  have hr : r ≤ 255 := by omega
  have hk : k ≤ 255 := by omega
  clear h0 h1 h2 h3 rl rh tl th
  go_wp2_with fail
  refine Calls.mono (queue_New m 0 m 0 w1 HM2.out (by decide)) ?_
  rintro e w5 ⟨q, A, c, xs, rfl, hx, hq, hb5⟩
  have HQ5 := hide hq
  have HX5 := hide hx
  have hs45 := hb5.size
  have HB45 := hide hb5
  clear hx hq hb5
  go_wp2_with fail
  refine Calls.mono (law_Lines m 0 hm2 hm8 (by omega) _ rfl rfl) ?_
  rintro e w6 ⟨g, cg, ss, rfl, hr6, hb6⟩
  have HB6 := hide (Below_step HB1.out (Below_step HB45.out hb6))
  have HT6 := hide (TS.new HQ5.out hb6 hr6 hs45 HX5.out)
  have hs46 : w1.heap.size ≤ w6.heap.size := Nat.le_trans hs45 hb6.size
  clear hr6 hb6 HQ5 HB45
  go_wp2_with fail
  go_loopg [12] (13 + n3) (fun gg s wr => ∃ (i : Nat) (xs : List (Nat × Option Nat)) (ss : List Sl) (ls : List (List UInt8)), i ≤ n3 ∧ i ≤ 12 ∧ gg = 13 + n3 - i ∧ s = .int .i64 i ∧ Hid (TS w1.heap.size wr q A c xs g m cg ss ls) ∧ Hid (∀ p, (ls.getD p []).length ≤ 12 * i) ∧ Hid (Below w1.heap.size w6 wr) ∧ w1.heap.size ≤ wr.heap.size)
  case atStart => exact ⟨0, _, _, _, by omega, by omega, rfl, rfl, HT6, short0 m, Below.refl _ _, hs46⟩
  case round =>
    obtain ⟨W1, hW1⟩ : ∃ W1, W1 = wr := ⟨_, rfl⟩
    subst hW1
    obtain ⟨i, xs, ss, ls, hi, hi50, rfl, rfl, HT, H12, HB, hsW⟩ := hrel
    obtain ⟨go, hgo'⟩ : ∃ go, go = decide (i < n3 ∧ i < 12) := ⟨_, rfl⟩
    have HGO := hide hgo'
    clear hgo' HT6
    go_upto_region 10 with fail
    go_cut [48] from 41 to 58 (fun s wx => s = .bool go ∧ W1 = wx)
    case first =>
      by_cases h0 : i < n3
      · by_cases h1 : i < 12
        · have e : Hid (go = true) := by have := HGO.out; rw [decide_eq_true ⟨h0, h1⟩] at this; exact this
          have d' : decide ((i : Int) < 12) = true := by simp; omega
          go_wp2
          go_meet
          rw [e.out]
          exact ⟨rfl, rfl⟩
        · have e : Hid (go = false) := by have := HGO.out; rw [decide_eq_false (by omega)] at this; exact this
          have d : decide (i < 12) = false := by simp; omega
          have d' : decide ((i : Int) < 12) = false := by simp; omega
          go_wp2
          go_meet
          rw [e.out]
          exact ⟨rfl, rfl⟩
      · have e : Hid (go = false) := by have := HGO.out; rw [decide_eq_false (by omega)] at this; exact this
        have d : decide (i < n3) = false := by simp; omega
        go_wp2
        go_meet
        rw [e.out]
        exact ⟨rfl, rfl⟩
    case rest =>
    obtain ⟨rfl, rfl⟩ := hcut
    cases go with
    | true =>
      obtain ⟨h0, h1⟩ := of_decide_eq_true HGO.out.symm
      obtain ⟨o, ob, off, ho⟩ := HO.out i h0
      have hAA := ho.at_
      subst hAA
      have HOA := hide (ho.below (HB6.out.trans (HB.out.mono hs1)))
      clear ho
      go_wp2_with (refine wpList_load_mid rfl 34 (.tmp 55) rfl ob (off + i * 4) rfl (opRow o.kind o.p o.first (.slice o.A o.n o.c)) _ HOA.out.range Try.underlying34 rfl info_op ?_)
      refine Calls.mono (law_Do2 HT.out hsW (by omega) (by omega) (HOA.out.lies.more hs1) HOA.out.cap HOA.out.f1 HOA.out.f2 HOA.out.p1 HOA.out.p2) ?_
      rintro e w8 ⟨rfl, ⟨xs4, ss4, ls4, ht4, hg4⟩, hb4⟩
      have H12' : Hid (∀ p, (ls4.getD p []).length ≤ 12 * (i + 1)) := fun p => by have := hg4 p; have := H12.out p; omega
      have HT4 := hide ht4
      have HB8 := hide (HB.out.trans hb4)
      have hs8 := Nat.le_trans hsW hb4.size
      clear ht4 hb4 hg4 HOA
      go_wp2_with fail
      go_roundg (13 + n3 - (i + 1))
      case measure => omega
      case rel => exact ⟨i + 1, _, _, _, by omega, by omega, rfl, by go_num, HT4, H12', HB8, hs8⟩
    | false =>
      have HBW := hide (HB6.out.trans (HB.out.mono hs1))
      have HSH : Hid (∀ i, (ls.getD i []).length ≤ 1000) := HT.out.r.short
      have hsww := HBW.out.size
      have hp0 : Hid (0 < xs.length ∧ xs.length ≤ 1000) := by rw [HT.out.nx]; exact ⟨by omega, by omega⟩
      obtain ⟨F, hF⟩ : ∃ F, F = front ls := ⟨_, rfl⟩
      have HF := hide hF
      have HFI : Hid ((F : Int) = (front ls : Int)) := by show _ = _; rw [hF]
      have HLL : Hid (ls.length = m) := HT.out.r.len
      have hF1 : F ≤ 240 := by
        have := front_mem ls 0 (by rw [HLL.out]; omega)
        have := H12.out 0
        omega
      clear hF
      go_upto_region 15 with fail
      generalize hw2 : World.alloc W1 _ = w2
      obtain ⟨g3, hg3⟩ : ∃ g, g = W1.heap.size := ⟨_, rfl⟩
      have T2 : Hid (Arr 39 w2 g3 ((⟨2, 1, []⟩ : By).row (.slice none 0 0)) ∧ QAt w1.heap.size w2 q A c xs ls ∧ Below W1.heap.size W1 w2) := by
        show _ ∧ _
        rw [← hw2, hg3]
        exact ⟨Arr.new 39 W1 _ _ rfl, HT.out.q.below (Below_new _ _), Below_new _ _⟩
      rw [← hg3]
      have hs2 := T2.out.2.2.size
      have hwf : IntKind.i64.wrap ((F : Int) + 1) = (F : Int) + 1 := IntWalk.i64_in _ ⟨by omega, by omega⟩
      clear hw2 hg3 HT
      obtain ⟨LX, hLX⟩ : ∃ L, L = aheadAt ⟨2, 1, []⟩ ls r (F + 1) 0 := ⟨_, rfl⟩
      obtain ⟨LY, hLY⟩ : ∃ L, L = aheadAt ⟨2, 1, []⟩ ls k (F + 1) 0 := ⟨_, rfl⟩
      have hone : ∀ r : Nat, aheadOf ⟨2, 1, []⟩ ls (r : Int) ((F : Int) + 1) = [aheadAt ⟨2, 1, []⟩ ls r (F + 1) 0] := by
        intro r
        rw [aheadOf, if_pos ⟨by decide +kernel, by omega, by omega⟩, ← HF.out, Int.toNat_natCast, show ((F : Int) + 1).toNat = F + 1 by omega, Nat.add_sub_cancel_left]
        rfl
      have HX1 : Hid (aheadOf ⟨2, 1, []⟩ ls (r : Int) ((F : Int) + 1) = [LX]) := by show _ = _; rw [hLX]; exact hone r
      have HY1 : Hid (aheadOf ⟨2, 1, []⟩ ls (k : Int) ((F : Int) + 1) = [LY]) := by show _ = _; rw [hLY]; exact hone k
      obtain ⟨z, hz⟩ : ∃ z : Bool, ((r : Int) == (k : Int)) = z := ⟨_, rfl⟩
      have HXY : Hid ((LX == LY) = z) := by
        show _ = _
        rw [← hz, hLX, hLY, HF.out]
        exact ranks_iff ⟨2, 1, []⟩ ls (by rw [HLL.out]; omega) (by omega) (by omega)
      have HZ := hide hz
      clear hone hLX hLY hz
      go_wp2_with fail
      refine Calls.mono (queue_Front T2.out.2.1 hp0.out.1 hp0.out.2 HFI.out) ?_
      rintro e w9 ⟨rfl, rfl⟩
      go_upto_region 16 with fail
      go_cut [15, 16] (fun s15 s16 wx => ∃ (A1 A2 : Option Addr) (c1 c2 : Nat) (ss1 ss2 : List Sl), s15 = .slice A1 1 c1 ∧ s16 = .slice A2 1 c2 ∧ Hid (LL W1.heap.size wx A1 1 c1 ss1 [LX]) ∧ Hid (LL W1.heap.size wx A2 1 c2 ss2 [LY]) ∧ Hid (Below W1.heap.size W1 wx))
      case first =>
        refine wp_region_noPanic ?_
        refine wp_region_held_drew (S := (fun w' => WholeY g3 ((⟨2, 1, []⟩ : By).val (.slice none 0 0)) w')) (by kernel_rfl) T2.out.1.drew.wholeY (fun hHeld => ?_)
        refine wpAnyH_take (i := 0) (oi := ?_) (v := ?_) ?_ (by kernel_rfl) (by kernel_rfl) (by kernel_rfl) ?_ ?_ (by assumption) ?_
        rotate_left 2
        · (simp only [List.getElem?_toArray, List.getElem?_cons_zero]; rfl)
        · exact fun _ _ _ h => h
        · (refine Or.inl ⟨by rfl, ?_⟩; intro w hSw; (try dsimp only at hSw); go_simp <;> with_reducible rfl)
        try simp only [Act.put, List.setIfInBounds_toArray, List.set_cons_zero, List.set_cons_succ]
        refine wpAnyH_take (i := 1) (oi := ?_) (v := (⟨2, 1, []⟩ : By).val (.slice none 0 0)) ?_ (by kernel_rfl) (by kernel_rfl) (by kernel_rfl) ?_ ?_ (by assumption) ?_
        rotate_left 1
        · (simp only [List.getElem?_toArray, List.getElem?_cons_succ, List.getElem?_cons_zero]; rfl)
        · exact fun _ _ _ h => h
        · (refine Or.inl ⟨by rfl, ?_⟩; intro w hSw; (try dsimp only at hSw); exact exec_wholeY (x := .tmp 13) hSw rfl rfl)
        try simp only [Act.put, List.setIfInBounds_toArray, List.set_cons_zero, List.set_cons_succ]
        refine wpAnyH_take (i := 2) (oi := ?_) (v := ?_) ?_ (by kernel_rfl) (by kernel_rfl) (by kernel_rfl) ?_ ?_ (by assumption) ?_
        rotate_left 2
        · (simp only [List.getElem?_toArray, List.getElem?_cons_succ, List.getElem?_cons_zero]; rfl)
        · exact fun _ _ _ h => h
        · (refine Or.inl ⟨by rfl, ?_⟩; intro w hSw; (try dsimp only at hSw); go_simp <;> with_reducible rfl)
        try simp only [Act.put, List.setIfInBounds_toArray, List.set_cons_zero, List.set_cons_succ]
        refine wpAnyH_take (i := 3) (oi := ?_) (v := ?_) ?_ (by kernel_rfl) (by kernel_rfl) (by kernel_rfl) ?_ ?_ (by assumption) ?_
        rotate_left 2
        · (simp only [List.getElem?_toArray, List.getElem?_cons_succ, List.getElem?_cons_zero]; rfl)
        · exact fun _ _ _ h => h
        · (refine Or.inl ⟨by rfl, ?_⟩; intro w hSw; (try dsimp only at hSw); go_simp <;> with_reducible rfl)
        try simp only [Act.put, List.setIfInBounds_toArray, List.set_cons_zero, List.set_cons_succ]
        refine wpAnyH_take (i := 4) (oi := ?_) (v := ?_) ?_ (by kernel_rfl) (by kernel_rfl) (by kernel_rfl) ?_ ?_ (by assumption) ?_
        rotate_left 2
        · (simp only [List.getElem?_toArray, List.getElem?_cons_succ, List.getElem?_cons_zero]; rfl)
        · exact fun _ _ _ h => h
        · (refine Or.inl ⟨by rfl, ?_⟩; intro w hSw; (try dsimp only at hSw); go_simp <;> with_reducible rfl)
        try simp only [Act.put, List.setIfInBounds_toArray, List.set_cons_zero, List.set_cons_succ]
        refine wpAnyH_take (i := 6) (oi := ?_) (v := ?_) ?_ (by kernel_rfl) (by kernel_rfl) (by kernel_rfl) ?_ ?_ (by assumption) ?_
        rotate_left 2
        · (simp only [List.getElem?_toArray, List.getElem?_cons_succ, List.getElem?_cons_zero]; rfl)
        · exact fun _ _ _ h => h
        · (refine Or.inl ⟨by rfl, ?_⟩; intro w hSw; (try dsimp only at hSw); go_simp <;> with_reducible rfl)
        try simp only [Act.put, List.setIfInBounds_toArray, List.set_cons_zero, List.set_cons_succ]
        refine wpAnyH_take (i := 7) (oi := ?_) (v := (⟨2, 1, []⟩ : By).val (.slice none 0 0)) ?_ (by kernel_rfl) (by kernel_rfl) (by kernel_rfl) ?_ ?_ (by assumption) ?_
        rotate_left 1
        · (simp only [List.getElem?_toArray, List.getElem?_cons_succ, List.getElem?_cons_zero]; rfl)
        · exact fun _ _ _ h => h
        · (refine Or.inl ⟨by rfl, ?_⟩; intro w hSw; (try dsimp only at hSw); exact exec_wholeY (x := .tmp 13) hSw rfl rfl)
        try simp only [Act.put, List.setIfInBounds_toArray, List.set_cons_zero, List.set_cons_succ]
        refine wpAnyH_take (i := 8) (oi := ?_) (v := ?_) ?_ (by kernel_rfl) (by kernel_rfl) (by kernel_rfl) ?_ ?_ (by assumption) ?_
        rotate_left 2
        · (simp only [List.getElem?_toArray, List.getElem?_cons_succ, List.getElem?_cons_zero]; rfl)
        · exact fun _ _ _ h => h
        · (refine Or.inl ⟨by rfl, ?_⟩; intro w hSw; (try dsimp only at hSw); go_simp <;> with_reducible rfl)
        try simp only [Act.put, List.setIfInBounds_toArray, List.set_cons_zero, List.set_cons_succ]
        refine wpAnyH_take (i := 9) (oi := ?_) (v := ?_) ?_ (by kernel_rfl) (by kernel_rfl) (by kernel_rfl) ?_ ?_ (by assumption) ?_
        rotate_left 2
        · (simp only [List.getElem?_toArray, List.getElem?_cons_succ, List.getElem?_cons_zero]; rfl)
        · exact fun _ _ _ h => h
        · (refine Or.inl ⟨by rfl, ?_⟩; intro w hSw; (try dsimp only at hSw); go_simp <;> with_reducible rfl)
        try simp only [Act.put, List.setIfInBounds_toArray, List.set_cons_zero, List.set_cons_succ]
        refine wpAnyH_take (i := 10) (oi := ?_) (v := ?_) ?_ (by kernel_rfl) (by kernel_rfl) (by kernel_rfl) ?_ ?_ (by assumption) ?_
        rotate_left 2
        · (simp only [List.getElem?_toArray, List.getElem?_cons_succ, List.getElem?_cons_zero]; rfl)
        · exact fun _ _ _ h => h
        · (refine Or.inl ⟨by rfl, ?_⟩; intro w hSw; (try dsimp only at hSw); go_simp <;> with_reducible rfl)
        try simp only [Act.put, List.setIfInBounds_toArray, List.set_cons_zero, List.set_cons_succ]
        refine wpAnyH_ready (rs := [5]) (by kernel_rfl) (by simp) ?_
        refine AllReadyH.cons (o := ?_) ?_ (fun K hK => ?_) AllReadyH.nil
        rotate_left 1
        · (simp only [List.getElem?_toArray, List.getElem?_cons_succ, List.getElem?_cons_zero]; rfl)
        go_simp
        refine Calls.mono (guess_Ahead T2.out.2.1.drew (Nat.le_trans hsW hs2) hp0.out.1 hp0.out.2 HSH.out ⟨2, 1, []⟩ none 0 0 (LiesB.nil _ _ _) (r : Int) ((F : Int) + 1) (by omega) (by omega) (by omega) (by omega)) ?_
        rintro e w8 ⟨A8, n8, c8, ss8, rfl, l8, hb8⟩
        rw [HX1.out] at l8
        obtain rfl : n8 = 1 := l8.len.symm
        have HA8 := T2.out.1.drew.belowN hb8
        have HQ8 := T2.out.2.1.drew.below hb8
        have HB8 := T2.out.2.2.drew.trans (hb8.mono hs2)
        refine hK.out _ _ HA8.wholeY (fun hHeld => ?_)
        clear hK K
        try simp only [Act.put, List.setIfInBounds_toArray, List.set_cons_zero, List.set_cons_succ]
        refine wpAnyH_ready (rs := [11]) (by kernel_rfl) (by simp) ?_
        refine AllReadyH.cons (o := ?_) ?_ (fun K hK => ?_) AllReadyH.nil
        rotate_left 1
        · (simp only [List.getElem?_toArray, List.getElem?_cons_succ, List.getElem?_cons_zero]; rfl)
        go_simp
        refine Calls.mono (guess_Ahead HQ8 (Nat.le_trans hsW HB8.size) hp0.out.1 hp0.out.2 HSH.out ⟨2, 1, []⟩ none 0 0 (LiesB.nil _ _ _) (k : Int) ((F : Int) + 1) (by omega) (by omega) (by omega) (by omega)) ?_
        rintro e w9 ⟨A9, n9, c9, ss9, rfl, l9, hb9⟩
        rw [HY1.out] at l9
        obtain rfl : n9 = 1 := l9.len.symm
        have HA9 := HA8.belowN hb9
        refine hK.out _ _ HA9.wholeY (fun hHeld => ?_)
        clear hK K
        try simp only [Act.put, List.setIfInBounds_toArray, List.set_cons_zero, List.set_cons_succ]
        refine wpAnyH_take (i := 12) (oi := ?_) (v := ?_) ?_ (by kernel_rfl) (by kernel_rfl) (by kernel_rfl) ?_ ?_ (by assumption) ?_
        rotate_left 2
        · (simp only [List.getElem?_toArray, List.getElem?_cons_succ, List.getElem?_cons_zero]; rfl)
        · exact fun _ _ _ h => h
        · (refine Or.inl ⟨by rfl, ?_⟩; intro w hSw; (try dsimp only at hSw); go_simp <;> with_reducible rfl)
        try simp only [Act.put, List.setIfInBounds_toArray, List.set_cons_zero, List.set_cons_succ]
        refine wpAnyH_take (i := 13) (oi := ?_) (v := ?_) ?_ (by kernel_rfl) (by kernel_rfl) (by kernel_rfl) ?_ ?_ (by assumption) ?_
        rotate_left 2
        · (simp only [List.getElem?_toArray, List.getElem?_cons_succ, List.getElem?_cons_zero]; rfl)
        · exact fun _ _ _ h => h
        · (refine Or.inl ⟨by rfl, ?_⟩; intro w hSw; (try dsimp only at hSw); go_simp <;> with_reducible rfl)
        try simp only [Act.put, List.setIfInBounds_toArray, List.set_cons_zero, List.set_cons_succ]
        refine wpAnyH_done (by kernel_rfl) (NoPanic.normal ?_) _
        go_wp2_with fail
        go_meet
        exact ⟨A8, A9, c8, c9, ss8, ss9, rfl, rfl, (l8.below hb9).base_le hs2, l9.base_le HB8.size, HB8.trans (hb9.mono HB8.size)⟩
      case rest =>
      obtain ⟨A1, A2, c1, c2, ss1, ss2, rfl, rfl, HX, HY, HBX⟩ := hcut
      obtain ⟨W2, hW2⟩ : ∃ W2, W2 = wc := ⟨_, rfl⟩
      subst hW2
      obtain ⟨g7, a7, k7, c7, rfl, hc7, hl7⟩ := HX.out.cell (i := 0) (by omega)
      obtain ⟨g8, a8, k8, c8, rfl, hc8, hl8⟩ := HY.out.cell (i := 0) (by omega)
      rw [show [LX].getD 0 [] = LX from rfl] at hl7
      rw [show [LY].getD 0 [] = LY from rfl] at hl8
      have hs7 := fun k => run_stringB (c := c7) (hl7.drewN k)
      have hs8 := fun k => run_stringB (c := c8) (hl8.drewN k)
      have hxy := HXY.out
      have hz := HZ.out
      have hzz : (z == z) = true := by simp
      clear hl7 hl8
      go_wp2_with fail
      go_quiet (fail)
      go_wp2_with fail
      go_ret
      exact ⟨rfl, Below_drewN (HBW.out.trans (HBX.out.mono hsww)) _⟩
end Go.Proofs.Ytciogjnchpeaaaa
