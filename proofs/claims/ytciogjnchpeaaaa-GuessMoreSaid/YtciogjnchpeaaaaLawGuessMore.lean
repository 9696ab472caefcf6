/-
  GuessMore: the walk.
-/
import Derived.Test.YtciogjnchpeaaaaLaw19B
namespace Go.Proofs.Ytciogjnchpeaaaa
open Go.RowKit
set_option maxRecDepth 10000
set_option linter.unusedVariables false
open Prd
theorem gline_mono (b : By) (past : List UInt8) (r tt tt2 j : Nat) (h : tt ≤ tt2) (hj : j < tt) : (gline b past r tt).getD j 0 = (gline b past r tt2).getD j 0 := by
  have pre : ∀ t, j < past.length → (gline b past r t).getD j 0 = past.getD j 0 := by
    intro t hl
    have h1 := gline_pre b past r t
    have h2 : ((gline b past r t).take past.length).getD j 0 = past.getD j 0 := by rw [h1]
    rw [← h2, List.getD_eq_getElem?_getD, List.getD_eq_getElem?_getD (l := List.take _ _), List.getElem?_take, if_pos hl]
  by_cases hlt : j < past.length
  · rw [pre tt hlt, pre tt2 hlt]
  · have e1 := gline_odd b past r tt (by omega)
    have e2 := gline_odd b past r tt2 (by omega)
    have hN : (past ++ [(b.rank past).getD (r % 256) 0]).length ≤ tt := by rw [List.length_append, List.length_singleton]; omega
    have hL := gline_len b past r tt
    generalize (past ++ [(b.rank past).getD (r % 256) 0]) = pst at e1 e2 hN
    rw [show tt2 - pst.length = (tt - pst.length) + (tt2 - tt) by omega, By.chain_add, ← List.append_assoc, ← e1] at e2
    rw [e2, List.getD_eq_getElem?_getD, List.getD_eq_getElem?_getD, List.getElem?_append_left (by omega)]
theorem aheadAt_mono (b : By) (ls : List (List UInt8)) (r tt tt2 i : Nat) (h : tt ≤ tt2) (hi : front ls + i < tt) : aheadAt b ls r tt i = aheadAt b ls r tt2 i := by
  unfold aheadAt fulls
  rw [List.map_map, List.map_map]
  refine List.map_congr_left fun p hp => ?_
  exact gline_mono b _ _ tt tt2 _ h hi
theorem putAdd_all {l : List UInt8} (h : l.length ≤ 1000) : putAdd [] 0 l = l := by
  rw [putAdd, if_neg (by simp)]
  simp
  exact List.take_of_length_le h
theorem putErr_all {l : List UInt8} (h : l.length ≤ 1000) : putErr [] 0 l = 0 := by
  unfold putErr
  rw [if_neg (by omega), if_neg (by simp), if_neg (by simp; omega)]
set_option maxHeartbeats 4000000 in
set_option maxRecDepth 20000 in
theorem law_GuessMore (A1 : Option Addr) (n1 c1 : Nat) (l1 : List UInt8) (A2 : Option Addr) (n2 c2 : Nat) (l2 : List UInt8) (ri li mi : Int) (w : World) (hA1 : LiesB w w.heap.size A1 n1 l1) (hc1 : n1 ≤ c1) (hcm1 : c1 ≤ maxLen) (hA2 : LiesB w w.heap.size A2 n2 l2) (hc2 : n2 ≤ c2) (hcm2 : c2 ≤ maxLen)
    (rl : -9223372036854775808 ≤ ri) (rh : ri ≤ 9223372036854775807) (ll : -9223372036854775808 ≤ li) (lh : li ≤ 9223372036854775807) (ml : -9223372036854775808 ≤ mi) (mh : mi ≤ 9223372036854775807) :
    Calls Try.prog 6 #[.slice A1 n1 c1, .slice A2 n2 c2, .int .i64 ri, .int .i64 li, .int .i64 mi] w fun e w' => e = .returned (.bool true) ∧ Below w.heap.size w w' := by
  have HA1 := hide hA1
  have HA2 := hide hA2
  clear hA1 hcm1 hA2 hcm2
  go_enter Try.func6, Try.ntmps6
  go_wp2_with fail
  refine Calls.mono (begun19 w) ?_
  rintro e w1 ⟨rfl, hb1⟩
  have HB1 := hide hb1
  have hs1 := hb1.size
  clear hb1
  go_wp2_with fail
  refine Calls.mono (law_Short A1 n1 c1 20 20 w1 hc1 rfl (by omega)) ?_
  rintro e w2 ⟨rfl, rfl⟩
  go_wp2_with fail
  refine Calls.mono (law_Short A2 n2 c2 20 20 w1 hc2 rfl (by omega)) ?_
  rintro e w2 ⟨rfl, rfl⟩
  obtain ⟨m1, hm1⟩ : ∃ m, m = min 20 n1 := ⟨_, rfl⟩
  obtain ⟨m2, hm2⟩ : ∃ m, m = min 20 n2 := ⟨_, rfl⟩
  rw [← hm1, ← hm2]
  have hm1b : m1 ≤ 20 := by omega
  have hm2b : m2 ≤ 20 := by omega
  obtain ⟨a, ha⟩ : ∃ a, a = l1.take 20 := ⟨_, rfl⟩
  obtain ⟨b, hb⟩ : ∃ b, b = l2.take 20 := ⟨_, rfl⟩
  have HP1 : Hid (LiesB w1 w.heap.size A1 m1 a) := by
    have := (HA1.out.below HB1.out).take 20
    rwa [← hm1, ← ha] at this
  have HP2 : Hid (LiesB w1 w.heap.size A2 m2 b) := by
    have := (HA2.out.below HB1.out).take 20
    rwa [← hm2, ← hb] at this
  have HLA : Hid (a.length = m1) := HP1.out.len
  have HLB : Hid (b.length = m2) := HP2.out.len
  clear hm1 hm2 ha hb HA1 HA2
  by_cases h0 : ri < 0
  · have d0 : decide (ri < 0) = true := decide_eq_true h0
    clear h0
    go_wp2_with fail
    go_ret
    exact ⟨rfl, HB1.out⟩
  have d0 : decide (ri < 0) = false := decide_eq_false h0
  by_cases h1 : ri > 300
  · have d1 : decide (ri > 300) = true := decide_eq_true h1
    clear h0 h1
    go_wp2_with fail
    go_ret
    exact ⟨rfl, HB1.out⟩
  have d1 : decide (ri > 300) = false := decide_eq_false h1
  by_cases h2 : li < 0
  · have d2 : decide (li < 0) = true := decide_eq_true h2
    clear h0 h1 h2
    go_wp2_with fail
    go_ret
    exact ⟨rfl, HB1.out⟩
  have d2 : decide (li < 0) = false := decide_eq_false h2
  by_cases h3 : mi < li
  · have d3 : decide (mi < li) = true := decide_eq_true h3
    clear h0 h1 h2 h3
    go_wp2_with fail
    go_ret
    exact ⟨rfl, HB1.out⟩
  have d3 : decide (mi < li) = false := decide_eq_false h3
  by_cases h4 : mi > 12
  · have d4 : decide (mi > 12) = true := decide_eq_true h4
    clear h0 h1 h2 h3 h4
    go_wp2_with fail
    go_ret
    exact ⟨rfl, HB1.out⟩
  have d4 : decide (mi > 12) = false := decide_eq_false h4
  obtain ⟨r, rfl⟩ : ∃ r : Nat, ri = (r : Int) := ⟨ri.toNat, by omega⟩
  obtain ⟨le, rfl⟩ : ∃ k : Nat, li = (k : Int) := ⟨li.toNat, by omega⟩
  obtain ⟨mo, rfl⟩ : ∃ k : Nat, mi = (k : Int) := ⟨mi.toNat, by omega⟩
  have hr : r ≤ 300 := by omega
  have hlm : le ≤ mo := by omega
  have hmo : mo ≤ 12 := by omega
  have d3n : decide (mo < le) = false := decide_eq_false (by omega)
  clear h0 h1 h2 h3 h4 rl rh ll lh ml mh
  go_wp2_with fail
  refine Calls.mono (queue_New 2 0 2 0 w1 (by decide) (by decide)) ?_
  rintro e w2 ⟨q, A, c, xs, rfl, hx, hq, hb2⟩
  have HQ := hide hq
  have HX := hide hx
  have HB2 := hide (Below_step HB1.out hb2)
  have HB12 := hide hb2
  have hs12 := hb2.size
  have h0 : Hid (0 < xs.length) := by show 0 < _; omega
  have h1 : Hid (1 < xs.length) := by show 1 < _; omega
  have hx2 : Hid (xs.length ≤ 1000) := by show _ ≤ 1000; omega
  obtain ⟨p, hp⟩ : ∃ p, p = (xs[0]'h0.out).1 := ⟨_, rfl⟩
  have HP := hide hp
  have HL : Hid (LineAt w2 p (xs[0]'h0.out).2 []) := by
    show LineAt w2 p _ _
    rw [hp]
    exact hq.line 0 h0.out
  have HP1' := hide (HP1.out.below (hb2.mono hs1))
  have HP2' := hide (HP2.out.below (hb2.mono hs1))
  clear hx hq hb2 hp HP1 HP2
  have HD1 : Hid (∀ bk off, A1 = some ⟨bk, off, none⟩ → a ≠ [] → ¬ lineBlocks p (xs[0]'h0.out).2 bk) := by
    show ∀ bk off, _
    intro bk off e1 e2 hbk
    obtain ⟨b2, o2, e3, hb2, -⟩ := HP1'.out.2 (by simpa using e2)
    rw [e3] at e1; injection e1 with e1; injection e1 with e1 _
    have hlb := HQ.out.lbase 0 h0.out
    rcases hbk with hbk | hbk
    · rw [HP.out] at hbk; omega
    · have := hlb.2 bk hbk.symm; omega
  go_wp2_with fail
  refine Calls.mono (queue_Line HQ.out 0 h0.out hx2.out rfl HP.out) ?_
  rintro e w3 ⟨rfl, rfl⟩
  go_wp2_with fail
  refine Calls.mono (line_Put_v p _ [] 0 A1 m1 c1 a a (m1 : Int) 0 w2 HL.out (HP1'.out.more (Nat.le_trans hs1 hs12)) HD1.out (by decide) (by decide) (by omega) (putAdd_all (by rw [HLA.out]; omega)) (by rw [HLA.out]) (putErr_all (by rw [HLA.out]; omega))) ?_
  rintro e w3 ⟨rfl, g3, k1, k2, k3⟩
  have HK : Hid (Below w1.heap.size w2 w3) := k2.below hs12 fun k hk hs => by
    have := HQ.out.lbase 0 h0.out
    rcases hs with hs | hs
    · rw [HP.out] at hs; omega
    · have := this.2 k hs.symm; omega
  have HQ3 : Hid (QAt w1.heap.size w3 q A c (xs.set 0 ((xs[0]'h0.out).1, g3)) [a, []]) := HQ.out.put hs12 0 h0.out (by rw [← HP.out]; exact k1) (by rw [← HP.out]; exact k2) k3
  obtain ⟨ys, hys⟩ : ∃ ys, ys = xs.set 0 ((xs[0]'h0.out).1, g3) := ⟨_, rfl⟩
  rw [← hys] at HQ3
  have HYL : Hid (ys.length = 2) := by show _ = _; rw [hys, List.length_set]; exact HX.out
  have hy1 : Hid (1 < ys.length) := by show 1 < _; rw [HYL.out]; omega
  have hy2 : Hid (ys.length ≤ 1000) := by show _ ≤ 1000; rw [HYL.out]; omega
  have hy0 : Hid (0 < ys.length) := by show 0 < _; rw [HYL.out]; omega
  obtain ⟨p1, hp1⟩ : ∃ p, p = (ys[1]'hy1.out).1 := ⟨_, rfl⟩
  have HPP := hide hp1
  have hs13 : w1.heap.size ≤ w3.heap.size := Nat.le_trans hs12 k2.size
  have HL3 : Hid (LineAt w3 p1 (ys[1]'hy1.out).2 []) := by
    show LineAt w3 p1 _ _
    rw [hp1]
    exact HQ3.out.line 1 hy1.out
  have HP3 := hide (HP2'.out.below (HK.out.mono hs1))
  have HD2 : Hid (∀ bk off, A2 = some ⟨bk, off, none⟩ → b ≠ [] → ¬ lineBlocks p1 (ys[1]'hy1.out).2 bk) := by
    show ∀ bk off, _
    intro bk off e1 e2 hbk
    obtain ⟨b2, o2, e3, hb2, -⟩ := HP3.out.2 (by simpa using e2)
    rw [e3] at e1; injection e1 with e1; injection e1 with e1 _
    have hlb := HQ3.out.lbase 1 hy1.out
    rcases hbk with hbk | hbk
    · rw [HPP.out] at hbk; omega
    · have := hlb.2 bk hbk.symm; omega
  clear hys hp1 k1 k2 k3 HQ HL HP1' HP2' HD1
  go_wp2_with fail
  refine Calls.mono (queue_Line HQ3.out 1 hy1.out hy2.out rfl HPP.out) ?_
  rintro e w4 ⟨rfl, rfl⟩
  go_wp2_with fail
  refine Calls.mono (line_Put_v p1 _ [] 0 A2 m2 c2 b b (m2 : Int) 0 w3 HL3.out (HP3.out.more (Nat.le_trans hs1 hs13)) HD2.out (by decide) (by decide) (by omega) (putAdd_all (by rw [HLB.out]; omega)) (by rw [HLB.out]) (putErr_all (by rw [HLB.out]; omega))) ?_
  rintro e w4 ⟨rfl, g4, k1, k2, k3⟩
  have HK4 : Hid (Below w1.heap.size w2 w4) := HK.out.trans (k2.below hs13 fun k hk hs => by
    have := HQ3.out.lbase 1 hy1.out
    rcases hs with hs | hs
    · rw [HPP.out] at hs; omega
    · have := this.2 k hs.symm; omega)
  have HQ4 : Hid (QAt w1.heap.size w4 q A c (ys.set 1 ((ys[1]'hy1.out).1, g4)) [a, b]) := HQ3.out.put hs13 1 hy1.out (by rw [← HPP.out]; exact k1) (by rw [← HPP.out]; exact k2) k3
  obtain ⟨zs, hzs⟩ : ∃ zs, zs = ys.set 1 ((ys[1]'hy1.out).1, g4) := ⟨_, rfl⟩
  rw [← hzs] at HQ4
  have HZ : Hid (0 < zs.length ∧ zs.length ≤ 1000) := by rw [hzs, List.length_set, HYL.out]; exact ⟨by omega, by omega⟩
  have HB4 : Hid (Below w.heap.size w w4) := HB1.out.trans ((HB12.out.trans HK4.out).mono hs1)
  have hs14 : w1.heap.size ≤ w4.heap.size := Nat.le_trans hs13 k2.size
  obtain ⟨ls, hls⟩ : ∃ ls, ls = [a, b] := ⟨_, rfl⟩
  rw [← hls] at HQ4
  have HSH : Hid (∀ i, (ls.getD i []).length ≤ 1000) := by
    show ∀ i, _
    intro i
    rw [hls]
    rcases i with _ | _ | i
    · show a.length ≤ 1000; rw [HLA.out]; omega
    · show b.length ≤ 1000; rw [HLB.out]; omega
    · simp
  obtain ⟨F, hF⟩ : ∃ F, F = front ls := ⟨_, rfl⟩
  have HF := hide hF
  have HFI : Hid ((F : Int) = (front ls : Int)) := by show _ = _; rw [hF]
  have hF1 : F ≤ 20 := by
    have := front_mem ls 0 (by rw [hls]; simp)
    have e : (ls.getD 0 []).length = m1 := by rw [hls]; exact HLA.out
    omega
  clear hzs hls hF k1 k2 k3 HQ3 HL3 HP3 HD2 HK HK4
  go_upto_region 11 with fail
  generalize hw5 : World.alloc w4 _ = w5
  obtain ⟨g5, hg5⟩ : ∃ g, g = w4.heap.size := ⟨_, rfl⟩
  have T5 : Hid (Arr 39 w5 g5 ((⟨2, 1, []⟩ : By).row (.slice none 0 0)) ∧ QAt w1.heap.size w5 q A c zs ls ∧ Below w.heap.size w w5) := by
    show _ ∧ _
    rw [← hw5, hg5]
    exact ⟨Arr.new 39 w4 _ _ rfl, HQ4.out.below (Below_new _ _), Below_step HB4.out (Below_new _ _)⟩
  rw [← hg5]
  have hs15 : w1.heap.size ≤ w5.heap.size := by rw [← hw5, World.size_alloc]; omega
  have hsw5 := T5.out.2.2.size
  clear hw5 hg5 HQ4 HB4
  have hwl : IntKind.i64.wrap ((F : Int) + (le : Int)) = (F : Int) + (le : Int) := IntWalk.i64_in _ ⟨by omega, by omega⟩
  have hwm : IntKind.i64.wrap ((F : Int) + (mo : Int)) = (F : Int) + (mo : Int) := IntWalk.i64_in _ ⟨by omega, by omega⟩
  obtain ⟨LX, hLX⟩ : ∃ L, L = (List.range le).map (aheadAt ⟨2, 1, []⟩ ls r (F + le)) := ⟨_, rfl⟩
  obtain ⟨LY, hLY⟩ : ∃ L, L = (List.range mo).map (aheadAt ⟨2, 1, []⟩ ls r (F + mo)) := ⟨_, rfl⟩
  have hone : ∀ k : Nat, k ≤ 12 → aheadOf ⟨2, 1, []⟩ ls (r : Int) ((F : Int) + (k : Int)) = (List.range k).map (aheadAt ⟨2, 1, []⟩ ls r (F + k)) := by
    intro k hk
    rw [aheadOf, if_pos ⟨by decide +kernel, by omega, by omega⟩, ← HF.out, Int.toNat_natCast, show ((F : Int) + (k : Int)).toNat = F + k by omega, Nat.add_sub_cancel_left]
  have HX1 : Hid (aheadOf ⟨2, 1, []⟩ ls (r : Int) ((F : Int) + (le : Int)) = LX) := by show _ = _; rw [hLX]; exact hone le (by omega)
  have HY1 : Hid (aheadOf ⟨2, 1, []⟩ ls (r : Int) ((F : Int) + (mo : Int)) = LY) := by show _ = _; rw [hLY]; exact hone mo (by omega)
  have HXL : Hid (LX.length = le) := by show _ = _; rw [hLX]; simp
  have HYL2 : Hid (LY.length = mo) := by show _ = _; rw [hLY]; simp
  have HXY : Hid (∀ i, i < le → LX.getD i [] = LY.getD i []) := by
    show ∀ i, _
    intro i hi
    rw [hLX, hLY, List.getD_eq_getElem?_getD, List.getElem?_map, List.getElem?_range hi, List.getD_eq_getElem?_getD, List.getElem?_map, List.getElem?_range (by omega)]
    exact aheadAt_mono _ _ _ _ _ _ (by omega) (by rw [← HF.out]; omega)
  clear hone hLX hLY
  go_wp2_with fail
  refine Calls.mono (queue_Front T5.out.2.1 HZ.out.1 HZ.out.2 HFI.out) ?_
  rintro e w9 ⟨rfl, rfl⟩
  go_upto_region 12 with fail
  go_cut [15, 16] (fun s15 s16 wx => ∃ (B1 B2 : Option Addr) (d1 d2 : Nat) (ss1 ss2 : List Sl), s15 = .slice B1 le d1 ∧ s16 = .slice B2 mo d2 ∧ Hid (LL w5.heap.size wx B1 le d1 ss1 LX) ∧ Hid (LL w5.heap.size wx B2 mo d2 ss2 LY) ∧ Hid (Below w5.heap.size w5 wx))
  case first =>
    refine wp_region_noPanic ?_
    refine wp_region_held_drew (S := (fun w' => WholeY g5 ((⟨2, 1, []⟩ : By).val (.slice none 0 0)) w')) (by kernel_rfl) T5.out.1.drew.wholeY (fun hHeld => ?_)
    refine wpAnyH_take (i := 0) (oi := ?_) (v := ?_) ?_ (by kernel_rfl) (by kernel_rfl) (by kernel_rfl) ?_ ?_ (by assumption) ?_
    rotate_left 2
    · (simp only [List.getElem?_toArray, List.getElem?_cons_zero]; rfl)
    · exact fun _ _ _ h => h
    · (refine Or.inl ⟨by rfl, ?_⟩; intro w hSw; (try dsimp only at hSw); go_simp <;> with_reducible rfl)
    try simp only [Act.put, List.setIfInBounds_toArray, List.set_cons_zero, List.set_cons_succ]
    refine wpAnyH_take (i := 1) (oi := ?_) (v := (⟨2, 1, []⟩ : By).val (.slice none 0 0)) ?_ (by kernel_rfl) (by kernel_rfl) (by kernel_rfl) ?_ ?_ (by assumption) ?_
    rotate_left 1
    · (simp only [List.getElem?_toArray, List.getElem?_cons_succ, List.getElem?_cons_zero]; rfl)
    · exact fun _ _ _ h => h
    · (refine Or.inl ⟨by rfl, ?_⟩; intro w hSw; (try dsimp only at hSw); exact exec_wholeY (x := .tmp 13) hSw rfl rfl)
    try simp only [Act.put, List.setIfInBounds_toArray, List.set_cons_zero, List.set_cons_succ]
    refine wpAnyH_take (i := 2) (oi := ?_) (v := ?_) ?_ (by kernel_rfl) (by kernel_rfl) (by kernel_rfl) ?_ ?_ (by assumption) ?_
    rotate_left 2
    · (simp only [List.getElem?_toArray, List.getElem?_cons_succ, List.getElem?_cons_zero]; rfl)
    · exact fun _ _ _ h => h
    · (refine Or.inl ⟨by rfl, ?_⟩; intro w hSw; (try dsimp only at hSw); go_simp <;> with_reducible rfl)
    try simp only [Act.put, List.setIfInBounds_toArray, List.set_cons_zero, List.set_cons_succ]
    refine wpAnyH_take (i := 3) (oi := ?_) (v := ?_) ?_ (by kernel_rfl) (by kernel_rfl) (by kernel_rfl) ?_ ?_ (by assumption) ?_
    rotate_left 2
    · (simp only [List.getElem?_toArray, List.getElem?_cons_succ, List.getElem?_cons_zero]; rfl)
    · exact fun _ _ _ h => h
    · (refine Or.inl ⟨by rfl, ?_⟩; intro w hSw; (try dsimp only at hSw); go_simp <;> with_reducible rfl)
    try simp only [Act.put, List.setIfInBounds_toArray, List.set_cons_zero, List.set_cons_succ]
    refine wpAnyH_take (i := 4) (oi := ?_) (v := ?_) ?_ (by kernel_rfl) (by kernel_rfl) (by kernel_rfl) ?_ ?_ (by assumption) ?_
    rotate_left 2
    · (simp only [List.getElem?_toArray, List.getElem?_cons_succ, List.getElem?_cons_zero]; rfl)
    · exact fun _ _ _ h => h
    · (refine Or.inl ⟨by rfl, ?_⟩; intro w hSw; (try dsimp only at hSw); go_simp <;> with_reducible rfl)
    try simp only [Act.put, List.setIfInBounds_toArray, List.set_cons_zero, List.set_cons_succ]
    refine wpAnyH_take (i := 5) (oi := ?_) (v := ?_) ?_ (by kernel_rfl) (by kernel_rfl) (by kernel_rfl) ?_ ?_ (by assumption) ?_
    rotate_left 2
    · (simp only [List.getElem?_toArray, List.getElem?_cons_succ, List.getElem?_cons_zero]; rfl)
    · exact fun _ _ _ h => h
    · (refine Or.inl ⟨by rfl, ?_⟩; intro w hSw; (try dsimp only at hSw); go_simp <;> with_reducible rfl)
    try simp only [Act.put, List.setIfInBounds_toArray, List.set_cons_zero, List.set_cons_succ]
    refine wpAnyH_take (i := 7) (oi := ?_) (v := ?_) ?_ (by kernel_rfl) (by kernel_rfl) (by kernel_rfl) ?_ ?_ (by assumption) ?_
    rotate_left 2
    · (simp only [List.getElem?_toArray, List.getElem?_cons_succ, List.getElem?_cons_zero]; rfl)
    · exact fun _ _ _ h => h
    · (refine Or.inl ⟨by rfl, ?_⟩; intro w hSw; (try dsimp only at hSw); go_simp <;> with_reducible rfl)
    try simp only [Act.put, List.setIfInBounds_toArray, List.set_cons_zero, List.set_cons_succ]
    refine wpAnyH_take (i := 8) (oi := ?_) (v := (⟨2, 1, []⟩ : By).val (.slice none 0 0)) ?_ (by kernel_rfl) (by kernel_rfl) (by kernel_rfl) ?_ ?_ (by assumption) ?_
    rotate_left 1
    · (simp only [List.getElem?_toArray, List.getElem?_cons_succ, List.getElem?_cons_zero]; rfl)
    · exact fun _ _ _ h => h
    · (refine Or.inl ⟨by rfl, ?_⟩; intro w hSw; (try dsimp only at hSw); exact exec_wholeY (x := .tmp 13) hSw rfl rfl)
    try simp only [Act.put, List.setIfInBounds_toArray, List.set_cons_zero, List.set_cons_succ]
    refine wpAnyH_take (i := 9) (oi := ?_) (v := ?_) ?_ (by kernel_rfl) (by kernel_rfl) (by kernel_rfl) ?_ ?_ (by assumption) ?_
    rotate_left 2
    · (simp only [List.getElem?_toArray, List.getElem?_cons_succ, List.getElem?_cons_zero]; rfl)
    · exact fun _ _ _ h => h
    · (refine Or.inl ⟨by rfl, ?_⟩; intro w hSw; (try dsimp only at hSw); go_simp <;> with_reducible rfl)
    try simp only [Act.put, List.setIfInBounds_toArray, List.set_cons_zero, List.set_cons_succ]
    refine wpAnyH_take (i := 10) (oi := ?_) (v := ?_) ?_ (by kernel_rfl) (by kernel_rfl) (by kernel_rfl) ?_ ?_ (by assumption) ?_
    rotate_left 2
    · (simp only [List.getElem?_toArray, List.getElem?_cons_succ, List.getElem?_cons_zero]; rfl)
    · exact fun _ _ _ h => h
    · (refine Or.inl ⟨by rfl, ?_⟩; intro w hSw; (try dsimp only at hSw); go_simp <;> with_reducible rfl)
    try simp only [Act.put, List.setIfInBounds_toArray, List.set_cons_zero, List.set_cons_succ]
    refine wpAnyH_take (i := 11) (oi := ?_) (v := ?_) ?_ (by kernel_rfl) (by kernel_rfl) (by kernel_rfl) ?_ ?_ (by assumption) ?_
    rotate_left 2
    · (simp only [List.getElem?_toArray, List.getElem?_cons_succ, List.getElem?_cons_zero]; rfl)
    · exact fun _ _ _ h => h
    · (refine Or.inl ⟨by rfl, ?_⟩; intro w hSw; (try dsimp only at hSw); go_simp <;> with_reducible rfl)
    try simp only [Act.put, List.setIfInBounds_toArray, List.set_cons_zero, List.set_cons_succ]
    refine wpAnyH_take (i := 12) (oi := ?_) (v := ?_) ?_ (by kernel_rfl) (by kernel_rfl) (by kernel_rfl) ?_ ?_ (by assumption) ?_
    rotate_left 2
    · (simp only [List.getElem?_toArray, List.getElem?_cons_succ, List.getElem?_cons_zero]; rfl)
    · exact fun _ _ _ h => h
    · (refine Or.inl ⟨by rfl, ?_⟩; intro w hSw; (try dsimp only at hSw); go_simp <;> with_reducible rfl)
    try simp only [Act.put, List.setIfInBounds_toArray, List.set_cons_zero, List.set_cons_succ]
    refine wpAnyH_ready (rs := [6]) (by kernel_rfl) (by simp) ?_
    refine AllReadyH.cons (o := ?_) ?_ (fun K hK => ?_) AllReadyH.nil
    rotate_left 1
    · (simp only [List.getElem?_toArray, List.getElem?_cons_succ, List.getElem?_cons_zero]; rfl)
    go_simp
    refine Calls.mono (guess_Ahead T5.out.2.1.drew hs15 HZ.out.1 HZ.out.2 HSH.out ⟨2, 1, []⟩ none 0 0 (LiesB.nil _ _ _) (r : Int) ((F : Int) + (le : Int)) (by omega) (by omega) (by omega) (by omega)) ?_
    rintro e w8 ⟨A8, n8, c8, ss8, rfl, l8, hb8⟩
    rw [HX1.out] at l8
    obtain rfl : n8 = le := by rw [← l8.len]; exact HXL.out
    have HA8 := T5.out.1.drew.belowN hb8
    have HQ8 := T5.out.2.1.drew.below hb8
    have hs8 := hb8.size
    refine hK.out _ _ HA8.wholeY (fun hHeld => ?_)
    clear hK K
    try simp only [Act.put, List.setIfInBounds_toArray, List.set_cons_zero, List.set_cons_succ]
    refine wpAnyH_ready (rs := [13]) (by kernel_rfl) (by simp) ?_
    refine AllReadyH.cons (o := ?_) ?_ (fun K hK => ?_) AllReadyH.nil
    rotate_left 1
    · (simp only [List.getElem?_toArray, List.getElem?_cons_succ, List.getElem?_cons_zero]; rfl)
    go_simp
    refine Calls.mono (guess_Ahead HQ8 (Nat.le_trans hs15 hs8) HZ.out.1 HZ.out.2 HSH.out ⟨2, 1, []⟩ none 0 0 (LiesB.nil _ _ _) (r : Int) ((F : Int) + (mo : Int)) (by omega) (by omega) (by omega) (by omega)) ?_
    rintro e w9 ⟨A9, n9, c9, ss9, rfl, l9, hb9⟩
    rw [HY1.out] at l9
    obtain rfl : n9 = mo := by rw [← l9.len]; exact HYL2.out
    have HA9 := HA8.belowN hb9
    refine hK.out _ _ HA9.wholeY (fun hHeld => ?_)
    clear hK K
    try simp only [Act.put, List.setIfInBounds_toArray, List.set_cons_zero, List.set_cons_succ]
    refine wpAnyH_take (i := 14) (oi := ?_) (v := ?_) ?_ (by kernel_rfl) (by kernel_rfl) (by kernel_rfl) ?_ ?_ (by assumption) ?_
    rotate_left 2
    · (simp only [List.getElem?_toArray, List.getElem?_cons_succ, List.getElem?_cons_zero]; rfl)
    · exact fun _ _ _ h => h
    · (refine Or.inl ⟨by rfl, ?_⟩; intro w hSw; (try dsimp only at hSw); go_simp <;> with_reducible rfl)
    try simp only [Act.put, List.setIfInBounds_toArray, List.set_cons_zero, List.set_cons_succ]
    refine wpAnyH_take (i := 15) (oi := ?_) (v := ?_) ?_ (by kernel_rfl) (by kernel_rfl) (by kernel_rfl) ?_ ?_ (by assumption) ?_
    rotate_left 2
    · (simp only [List.getElem?_toArray, List.getElem?_cons_succ, List.getElem?_cons_zero]; rfl)
    · exact fun _ _ _ h => h
    · (refine Or.inl ⟨by rfl, ?_⟩; intro w hSw; (try dsimp only at hSw); go_simp <;> with_reducible rfl)
    try simp only [Act.put, List.setIfInBounds_toArray, List.set_cons_zero, List.set_cons_succ]
    refine wpAnyH_done (by kernel_rfl) (NoPanic.normal ?_) _
    go_wp2_with fail
    go_meet
    exact ⟨A8, A9, c8, c9, ss8, ss9, rfl, rfl, l8.below hb9, l9.base_le hs8, Below_step (⟨hb8.os, hb8.tape, hb8.output, hb8.size, hb8.block⟩ : Below w5.heap.size w5 w8) hb9⟩
  case rest =>
  obtain ⟨B1, B2, e1, e2, ss1, ss2, rfl, rfl, HXX, HYY, HBX⟩ := hcut
  obtain ⟨W2, hW2⟩ : ∃ W2, W2 = wc := ⟨_, rfl⟩
  subst hW2
  have hll : ((le : Int) != (le : Int)) = false := by simp
  have hmm : ((mo : Int) != (mo : Int)) = false := by simp
  go_wp2_with fail
  go_loopg [17] le (fun gg s wr => ∃ i nd : Nat, i ≤ le ∧ gg = le - i ∧ s = .int .i64 (i : Int) ∧ wr = W2.drewN nd)
  case atStart => exact ⟨0, 0, by omega, rfl, rfl, rfl⟩
  case round =>
    obtain ⟨i, nd, hi1, rfl, rfl, rfl⟩ := hrel
    by_cases hlt : i < le
    · obtain ⟨g7, a7, k7, c7, rfl, hc7, hl7⟩ := HXX.out.cell hlt
      obtain ⟨g8, a8, k8, c8, rfl, hc8, hl8⟩ := HYY.out.cell (show i < mo by omega)
      rw [← HXY.out i hlt] at hl8
      obtain ⟨X, hX⟩ : ∃ X, X = LX.getD i [] := ⟨_, rfl⟩
      rw [← hX] at hl7 hl8
      have hs7 := fun k => run_stringB (c := c7) (hl7.drewN k)
      have hs8 := fun k => run_stringB (c := c8) (hl8.drewN k)
      have hXX : (X != X) = false := by simp
      have him : (i : Int) < (mo : Int) := by omega
      clear hX hl7 hl8
      go_wp2_with fail
      go_quiet (fail)
      clear hs7 hs8
      go_wp2_with fail
      go_roundg (le - (i + 1))
      case measure => omega
      case rel => exact ⟨i + 1, _, by omega, rfl, by go_num, rfl⟩
    · obtain rfl : i = le := by omega
      go_wp2_with fail
      go_ret
      exact ⟨rfl, Below_drewN (T5.out.2.2.trans (HBX.out.mono hsw5)) nd⟩
end Go.Proofs.Ytciogjnchpeaaaa
