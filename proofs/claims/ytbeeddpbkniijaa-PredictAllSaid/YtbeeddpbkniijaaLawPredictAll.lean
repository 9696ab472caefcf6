/-
  PredictAll: the walk. (its opening printed by wip/mk18.py)
-/
import Derived.Test.YtbeeddpbkniijaaLaw18B
import Derived.Test.YtbeeddpbkniijaaOpenB
import Derived.Test.YtbeeddpbkniijaaRegion
import Derived.Deep.QuietTactic
import Derived.BigQuiet
namespace Go.Proofs.Ytbeeddpbkniijaa
open Go.RowKit
set_option linter.unusedVariables false
open Prd
set_option maxHeartbeats 4000000 in
set_option maxRecDepth 10000 in
theorem law_PredictAll (b0 : By) (A0 : Option Addr) (n0 c0 : Nat) (A : Option Addr) (n c : Nat) (l : List UInt8) (ki ni : Int) (w : World) (hT : LiesB w w.heap.size A0 n0 b0.table) (hc0 : n0 ≤ c0) (hcm0 : c0 ≤ maxLen) (hik : Is64 b0.kind) (hio : Is64 b0.order) (hA : LiesB w w.heap.size A n l) (hc : n ≤ c) (hcm : c ≤ maxLen) (klo : -9223372036854775808 ≤ ki) (khi : ki ≤ 9223372036854775807) (lo : -9223372036854775808 ≤ ni) (hi : ni ≤ 9223372036854775807) :
    Calls Try.prog 3 #[b0.val (.slice A0 n0 c0), .slice A n c, .int .i64 ki, .int .i64 ni] w fun e w' => e = .returned (.bool true) ∧ Below w.heap.size w w' := by
  have HA := hide hA
  have HT0 := hide hT
  clear hA hcm hT hcm0
  rw [show b0.val (.slice A0 n0 c0) = .agg #[.int .i64 b0.kind, .int .i64 b0.order, .slice A0 n0 c0] from rfl]
  go_enter Try.func3, Try.ntmps3
  go_upto_region 1 with fail
  generalize hw0 : World.alloc w _ = w0
  have hA0 : Arr 24 w0 w.heap.size (b0.row (.slice A0 n0 c0)) := by rw [← hw0]; exact Arr.new 24 w _ _ rfl
  have HB0 : Hid (Below w.heap.size w w0) := by show Below _ _ _; rw [← hw0]; exact Below_new w _
  have hsz0 : w.heap.size < w0.heap.size := hA0.lt
  have HA0 := hide hA0
  clear hw0 hA0
  go_wp2_with fail
  refine Calls.mono (begun18 w0) ?_
  rintro e w1 ⟨rfl, hb1⟩
  have HB1 := hide (Below_step HB0.out hb1)
  have HA1 := hide (HA0.out.belowN hb1)
  have hs1 := hb1.size
  clear hb1 HA0 HB0
  go_wp2_with (refine wpZ_load rfl (.tmp 4) rfl w.heap.size rfl b0 (.slice A0 n0 c0) HA1.out ?_)
  refine Calls.mono (law_Cut b0 A0 n0 c0 w1 hc0) ?_
  rintro e w2 ⟨rfl, hb2⟩
  have HB2 := hide (Below_step HB1.out hb2)
  have HA2 := hide (HA1.out.belowN hb2)
  have hs2 := hb2.size
  clear hb2 HA1 HB1
  obtain ⟨b, hb⟩ : ∃ b : By, b = b0.cut 40 := ⟨_, rfl⟩
  obtain ⟨m, hm⟩ : ∃ m, m = min 60 n := ⟨_, rfl⟩
  obtain ⟨q, hq⟩ : ∃ q, q = min 40 n0 := ⟨_, rfl⟩
  rw [show b0.val (.slice A0 (min 40 n0) c0) = b.val (.slice A0 q c0) by rw [hb, hq]; rfl]
  have hm60 : m ≤ 60 := by omega
  have hmc : m ≤ c := by omega
  have hq40 : q ≤ 40 := by omega
  have hqc : q ≤ c0 := by omega
  have HCU := hide (And.intro hb (And.intro hm hq))
  clear hb hm hq
  go_wp2_with fail
  refine Calls.mono (law_Short A n c 60 60 w2 hc rfl (by omega)) ?_
  rintro e w3 ⟨rfl, rfl⟩
  rw [← HCU.out.2.1]
  go_upto_region 5 with (refine wpZ_store rfl (.tmp 4) (.tmp 14) rfl w.heap.size b A0 q c0 rfl rfl b0 (.slice A0 n0 c0) HA2.out ?_; intro w4 ha4 hk4 hs4)
  have HA4 := hide ha4
  have HB4 := hide (HB2.out.trans (hk4.below (by omega) (fun k hk => by omega)))
  have hsz4 : w.heap.size < w4.heap.size := by omega
  have HP : Hid (LiesB w4 w.heap.size A m (l.take 60)) := by
    have := (HA.out.below HB4.out).take 60
    rwa [← HCU.out.2.1] at this
  have HQ : Hid (LiesB w4 w.heap.size A0 q b.table) := by
    have := (HT0.out.below HB4.out).take 40
    rw [HCU.out.1]
    rwa [← HCU.out.2.2] at this
  obtain ⟨past, hp⟩ : ∃ p, p = l.take 60 := ⟨_, rfl⟩
  rw [← hp] at HP
  clear ha4 hk4 hs4 hp HA HT0 HCU HA2 HB2 hs1 hs2
  obtain ⟨kk, hkk⟩ : ∃ kk, kk = min ki 300 := ⟨_, rfl⟩
  obtain ⟨nn, hnn⟩ : ∃ nn, nn = min ni 20 := ⟨_, rfl⟩
  go_upto_if 18 with fail
  go_cut [2] (fun s wx => s = .int .i64 kk ∧ w4 = wx)
  case first =>
    by_cases h : ki > 300
    · have d : decide (ki > 300) = true := decide_eq_true h
      have e1 : kk = 300 := by omega
      clear hkk hnn
      go_wp2_with fail
      go_meet
      exact ⟨by rw [e1], rfl⟩
    · have d : decide (ki > 300) = false := decide_eq_false h
      have e1 : Hid (kk = ki) := by show _ = _; omega
      clear hkk hnn
      go_wp2_with fail
      go_meet
      exact ⟨by rw [e1.out], rfl⟩
  case rest =>
  obtain ⟨rfl, rfl⟩ := hcut
  go_upto_if 20 with fail
  go_cut [3] (fun s wx => s = .int .i64 nn ∧ w4 = wx)
  case first =>
    by_cases h : ni > 20
    · have d : decide (ni > 20) = true := decide_eq_true h
      have e1 : nn = 20 := by omega
      clear hkk hnn
      go_wp2_with fail
      go_meet
      exact ⟨by rw [e1], rfl⟩
    · have d : decide (ni > 20) = false := decide_eq_false h
      have e1 : Hid (nn = ni) := by show _ = _; omega
      clear hkk hnn
      go_wp2_with fail
      go_meet
      exact ⟨by rw [e1.out], rfl⟩
  case rest =>
  obtain ⟨rfl, rfl⟩ := hcut
  clear hkk hnn klo khi lo hi
  obtain ⟨r, hr⟩ : ∃ r, r = b.may := ⟨_, rfl⟩
  have HR := hide hr
  have hrr : (r != r) = false := by simp
  have hrr2 : (r == r) = true := by simp
  obtain ⟨R, hRk⟩ : ∃ R, R = (if b.may = true then (b.rank past).take (min (max kk 0) 256).toNat else []) := ⟨_, rfl⟩
  obtain ⟨C, hCn⟩ : ∃ C, C = (if b.may = true then b.chain (min (max nn 0) 1000).toNat past else []) := ⟨_, rfl⟩
  have HRK := hide hRk
  have HCN := hide hCn
  have hRR : (R == R) = true := by simp
  have hCC : (C == C) = true := by simp
  have hsw4 := Nat.le_of_lt hsz4
  clear hr hRk hCn
  go_upto_region 9 with fail
  go_cut [26] (fun s wx => s = .bool false ∧ Hid (Arr 24 wx w.heap.size (b.row (.slice A0 q c0))) ∧ Hid (Below w.heap.size w wx) ∧ Hid (LiesB wx w.heap.size A m past) ∧ Hid (LiesB wx w.heap.size A0 q b.table))
  case first =>
    refine wp_region_noPanic ?_
    refine wp_region_held_drew (S := (fun w' => WholeZ w.heap.size (b.val (.slice A0 q c0)) w')) (by kernel_rfl) HA4.out.drew.wholeZ (fun hHeld => ?_)
    refine wpAnyH_take (i := 0) (oi := ?_) (v := b.val (.slice A0 q c0)) ?_ (by kernel_rfl) (by kernel_rfl) (by kernel_rfl) ?_ ?_ (by assumption) ?_
    rotate_left 1
    · (simp only [List.getElem?_toArray, List.getElem?_cons_zero]; rfl)
    · exact fun _ _ _ h => h
    · (refine Or.inl ⟨by rfl, ?_⟩; intro w hSw; (try dsimp only at hSw); exact exec_wholeZ (x := .tmp 4) hSw rfl rfl)
    try simp only [Act.put, List.setIfInBounds_toArray, List.set_cons_zero, List.set_cons_succ]
    refine wpAnyH_take (i := 3) (oi := ?_) (v := b.val (.slice A0 q c0)) ?_ (by kernel_rfl) (by kernel_rfl) (by kernel_rfl) ?_ ?_ (by assumption) ?_
    rotate_left 1
    · (simp only [List.getElem?_toArray, List.getElem?_cons_succ, List.getElem?_cons_zero]; rfl)
    · exact fun _ _ _ h => h
    · (refine Or.inl ⟨by rfl, ?_⟩; intro w hSw; (try dsimp only at hSw); exact exec_wholeZ (x := .tmp 4) hSw rfl rfl)
    try simp only [Act.put, List.setIfInBounds_toArray, List.set_cons_zero, List.set_cons_succ]
    refine wpAnyH_ready (rs := [1]) (by kernel_rfl) (by simp) ?_
    refine AllReadyH.cons (o := ?_) ?_ (fun K hK => ?_) AllReadyH.nil
    rotate_left 1
    · (simp only [List.getElem?_toArray, List.getElem?_cons_succ, List.getElem?_cons_zero]; rfl)
    go_simp
    refine Calls.mono (law_Of b A0 q c0 _) ?_
    rintro e w5 ⟨rfl, hb5⟩
    have HA5 := HA4.out.drew.belowN hb5
    have HB5 := Below_step HB4.out.drew hb5
    have HP5 := HP.out.drew.below (hb5.mono hsw4)
    have HQ5 := HQ.out.drew.below (hb5.mono hsw4)
    refine hK.out _ _ HA5.wholeZ (fun hHeld => ?_)
    clear hK K
    try simp only [Act.put, List.setIfInBounds_toArray, List.set_cons_zero, List.set_cons_succ]
    refine wpAnyH_ready (rs := [2]) (by kernel_rfl) (by simp) ?_
    refine AllReadyH.cons (o := ?_) ?_ (fun K hK => ?_) AllReadyH.nil
    rotate_left 1
    · (simp only [List.getElem?_toArray, List.getElem?_cons_succ, List.getElem?_cons_zero]; rfl)
    go_simp
    refine Calls.mono (pred_May b A0 q c0 _ HQ5.len) ?_
    rintro e w6 ⟨rfl, hb6⟩
    rw [← HR.out]
    have HA6 := HA5.belowN hb6
    have HP6 := HP5.below (hb6.mono HB5.size)
    have HQ6 := HQ5.below (hb6.mono HB5.size)
    have HB6 := Below_step HB5 hb6
    refine hK.out _ _ HA6.wholeZ (fun hHeld => ?_)
    clear hK K
    try simp only [Act.put, List.setIfInBounds_toArray, List.set_cons_zero, List.set_cons_succ]
    refine wpAnyH_ready (rs := [4]) (by kernel_rfl) (by simp) ?_
    refine AllReadyH.cons (o := ?_) ?_ (fun K hK => ?_) AllReadyH.nil
    rotate_left 1
    · (simp only [List.getElem?_toArray, List.getElem?_cons_succ, List.getElem?_cons_zero]; rfl)
    go_simp
    refine Calls.mono (ref_MayBy b A0 q c0 _ HQ6.len) ?_
    rintro e w7 ⟨rfl, hb7⟩
    rw [← HR.out]
    have HA7 := HA6.belowN hb7
    have HP7 := HP6.below (hb7.mono HB6.size)
    have HQ7 := HQ6.below (hb7.mono HB6.size)
    have HB7 := Below_step HB6 hb7
    refine hK.out _ _ HA7.wholeZ (fun hHeld => ?_)
    clear hK K
    try simp only [Act.put, List.setIfInBounds_toArray, List.set_cons_zero, List.set_cons_succ]
    refine wpAnyH_take (i := 5) (oi := ?_) (v := ?_) ?_ (by kernel_rfl) (by kernel_rfl) (by kernel_rfl) ?_ ?_ (by assumption) ?_
    rotate_left 2
    · (simp only [List.getElem?_toArray, List.getElem?_cons_succ, List.getElem?_cons_zero]; rfl)
    · exact fun _ _ _ h => h
    · (refine Or.inl ⟨by rfl, ?_⟩; intro w hSw; (try dsimp only at hSw); go_simp <;> with_reducible rfl)
    try simp only [Act.put, List.setIfInBounds_toArray, List.set_cons_zero, List.set_cons_succ]
    refine wpAnyH_done (by kernel_rfl) (NoPanic.normal ?_) _
    go_wp2_with fail
    go_meet
    exact ⟨rfl, HA7, HB7, HP7, HQ7⟩
  case rest =>
  obtain ⟨rfl, HA5, HB5, HP5, HQ5⟩ := hcut
  obtain ⟨W, hW⟩ : ∃ W, W = wc := ⟨_, rfl⟩
  subst hW
  have hsw5 := HB5.out.size
  clear HA4 HB4 HP HQ hsz4 hsw4 hrr
  go_upto_region 11 with fail
  refine wp_region_noPanic ?_
  refine wp_region_held_drew (S := (fun w' => WholeZ w.heap.size (b.val (.slice A0 q c0)) w')) (by kernel_rfl) HA5.out.drew.wholeZ (fun hHeld => ?_)
  refine wpAnyH_take (i := 0) (oi := ?_) (v := b.val (.slice A0 q c0)) ?_ (by kernel_rfl) (by kernel_rfl) (by kernel_rfl) ?_ ?_ (by assumption) ?_
  rotate_left 1
  · (simp only [List.getElem?_toArray, List.getElem?_cons_zero]; rfl)
  · exact fun _ _ _ h => h
  · (refine Or.inl ⟨by rfl, ?_⟩; intro w hSw; (try dsimp only at hSw); exact exec_wholeZ (x := .tmp 4) hSw rfl rfl)
  try simp only [Act.put, List.setIfInBounds_toArray, List.set_cons_zero, List.set_cons_succ]
  refine wpAnyH_take (i := 2) (oi := ?_) (v := ?_) ?_ (by kernel_rfl) (by kernel_rfl) (by kernel_rfl) ?_ ?_ (by assumption) ?_
  rotate_left 2
  · (simp only [List.getElem?_toArray, List.getElem?_cons_succ, List.getElem?_cons_zero]; rfl)
  · exact fun _ _ _ h => h
  · (refine Or.inl ⟨by rfl, ?_⟩; intro w hSw; (try dsimp only at hSw); go_simp <;> with_reducible rfl)
  try simp only [Act.put, List.setIfInBounds_toArray, List.set_cons_zero, List.set_cons_succ]
  refine wpAnyH_take (i := 3) (oi := ?_) (v := ?_) ?_ (by kernel_rfl) (by kernel_rfl) (by kernel_rfl) ?_ ?_ (by assumption) ?_
  rotate_left 2
  · (simp only [List.getElem?_toArray, List.getElem?_cons_succ, List.getElem?_cons_zero]; rfl)
  · exact fun _ _ _ h => h
  · (refine Or.inl ⟨by rfl, ?_⟩; intro w hSw; (try dsimp only at hSw); go_simp <;> with_reducible rfl)
  try simp only [Act.put, List.setIfInBounds_toArray, List.set_cons_zero, List.set_cons_succ]
  refine wpAnyH_take (i := 6) (oi := ?_) (v := b.val (.slice A0 q c0)) ?_ (by kernel_rfl) (by kernel_rfl) (by kernel_rfl) ?_ ?_ (by assumption) ?_
  rotate_left 1
  · (simp only [List.getElem?_toArray, List.getElem?_cons_succ, List.getElem?_cons_zero]; rfl)
  · exact fun _ _ _ h => h
  · (refine Or.inl ⟨by rfl, ?_⟩; intro w hSw; (try dsimp only at hSw); exact exec_wholeZ (x := .tmp 4) hSw rfl rfl)
  try simp only [Act.put, List.setIfInBounds_toArray, List.set_cons_zero, List.set_cons_succ]
  refine wpAnyH_take (i := 7) (oi := ?_) (v := ?_) ?_ (by kernel_rfl) (by kernel_rfl) (by kernel_rfl) ?_ ?_ (by assumption) ?_
  rotate_left 2
  · (simp only [List.getElem?_toArray, List.getElem?_cons_succ, List.getElem?_cons_zero]; rfl)
  · exact fun _ _ _ h => h
  · (refine Or.inl ⟨by rfl, ?_⟩; intro w hSw; (try dsimp only at hSw); go_simp <;> with_reducible rfl)
  try simp only [Act.put, List.setIfInBounds_toArray, List.set_cons_zero, List.set_cons_succ]
  refine wpAnyH_take (i := 8) (oi := ?_) (v := ?_) ?_ (by kernel_rfl) (by kernel_rfl) (by kernel_rfl) ?_ ?_ (by assumption) ?_
  rotate_left 2
  · (simp only [List.getElem?_toArray, List.getElem?_cons_succ, List.getElem?_cons_zero]; rfl)
  · exact fun _ _ _ h => h
  · (refine Or.inl ⟨by rfl, ?_⟩; intro w hSw; (try dsimp only at hSw); go_simp <;> with_reducible rfl)
  try simp only [Act.put, List.setIfInBounds_toArray, List.set_cons_zero, List.set_cons_succ]
  refine wpAnyH_ready (rs := [1]) (by kernel_rfl) (by simp) ?_
  refine AllReadyH.cons (o := ?_) ?_ (fun K hK => ?_) AllReadyH.nil
  rotate_left 1
  · (simp only [List.getElem?_toArray, List.getElem?_cons_succ, List.getElem?_cons_zero]; rfl)
  go_simp
  refine Calls.mono (law_Of b A0 q c0 _) ?_
  rintro e w6 ⟨rfl, hb6⟩
  have HA6 := HA5.out.drew.belowN hb6
  have HB6 := Below_step HB5.out.drew hb6
  have HP6 := HP5.out.drew.below (hb6.mono hsw5)
  have HQ6 := HQ5.out.drew.below (hb6.mono hsw5)
  refine hK.out _ _ HA6.wholeZ (fun hHeld => ?_)
  clear hK K
  try simp only [Act.put, List.setIfInBounds_toArray, List.set_cons_zero, List.set_cons_succ]
  refine wpAnyH_ready (rs := [4]) (by kernel_rfl) (by simp) ?_
  refine AllReadyH.cons (o := ?_) ?_ (fun K hK => ?_) AllReadyH.nil
  rotate_left 1
  · (simp only [List.getElem?_toArray, List.getElem?_cons_succ, List.getElem?_cons_zero]; rfl)
  go_simp
  refine Calls.mono (pred_Rank b A0 q c0 A m c w.heap.size past kk _ HP6 HQ6 HB6.size hmc (by omega)) ?_
  rintro e w7 ⟨A7, n7, c7, rfl, l7, k7, hb7⟩
  rw [← HRK.out] at l7
  have HA7 := HA6.belowN hb7
  have HP7 := HP6.below (hb7.mono HB6.size)
  have HQ7 := HQ6.below (hb7.mono HB6.size)
  have HB7 := Below_step HB6 hb7
  refine hK.out _ _ HA7.wholeZ (fun hHeld => ?_)
  clear hK K
  try simp only [Act.put, List.setIfInBounds_toArray, List.set_cons_zero, List.set_cons_succ]
  refine wpAnyH_mono (S' := (fun w' => Reads A7 n7 c7 R w' ∧ (fun w' => WholeZ w.heap.size (b.val (.slice A0 q c0)) w') w')) (fun _ h => h.2) _ _ _ _ ?_
  have hHeld2 := (⟨l7.reads, HA7.wholeZ⟩ : (fun w' => Reads A7 n7 c7 R w' ∧ (fun w' => WholeZ w.heap.size (b.val (.slice A0 q c0)) w') w') w7)
  refine wpAnyH_take (i := 5) (oi := ?_) (v := ?_) ?_ (by kernel_rfl) (by kernel_rfl) (by kernel_rfl) ?_ ?_ (by assumption) ?_
  rotate_left 2
  · (simp only [List.getElem?_toArray, List.getElem?_cons_succ, List.getElem?_cons_zero]; rfl)
  · exact fun _ _ _ h => h
  · (refine Or.inl ⟨by rfl, ?_⟩; intro w hSw; (try dsimp only at hSw); have q1 := hSw.1; unfold Reads at q1; go_simp <;> with_reducible rfl)
  try simp only [Act.put, List.setIfInBounds_toArray, List.set_cons_zero, List.set_cons_succ]
  refine wpAnyH_ready (rs := [9]) (by kernel_rfl) (by simp) ?_
  refine AllReadyH.cons (o := ?_) ?_ (fun K hK => ?_) AllReadyH.nil
  rotate_left 1
  · (simp only [List.getElem?_toArray, List.getElem?_cons_succ, List.getElem?_cons_zero]; rfl)
  go_simp
  refine Calls.mono (ref_Rank b A0 q c0 A m c w.heap.size past kk _ HP7 HQ7 HB7.size hmc (by omega)) ?_
  rintro e w8 ⟨A8, n8, c8, rfl, own8, hb8⟩
  rw [← HRK.out] at own8
  have HA8 := HA7.belowN hb8
  have HP8 := HP7.below (hb8.mono HB7.size)
  have HQ8 := HQ7.below (hb8.mono HB7.size)
  have HB8 := Below_step HB7 hb8
  refine hK.out _ _ ⟨(l7.below hb8).reads, HA8.wholeZ⟩ (fun hHeld => ?_)
  clear hK K
  try simp only [Act.put, List.setIfInBounds_toArray, List.set_cons_zero, List.set_cons_succ]
  refine wpAnyH_mono (S' := (fun w' => Reads A8 n8 c8 R w' ∧ (fun w' => Reads A7 n7 c7 R w' ∧ (fun w' => WholeZ w.heap.size (b.val (.slice A0 q c0)) w') w') w')) (fun _ h => h.2) _ _ _ _ ?_
  have hHeld2 := (⟨own8.lies.reads, (l7.below hb8).reads, HA8.wholeZ⟩ : (fun w' => Reads A8 n8 c8 R w' ∧ (fun w' => Reads A7 n7 c7 R w' ∧ (fun w' => WholeZ w.heap.size (b.val (.slice A0 q c0)) w') w') w') w8)
  refine wpAnyH_take (i := 10) (oi := ?_) (v := ?_) ?_ (by kernel_rfl) (by kernel_rfl) (by kernel_rfl) ?_ ?_ (by assumption) ?_
  rotate_left 2
  · (simp only [List.getElem?_toArray, List.getElem?_cons_succ, List.getElem?_cons_zero]; rfl)
  · exact fun _ _ _ h => h
  · (refine Or.inl ⟨by rfl, ?_⟩; intro w hSw; (try dsimp only at hSw); have q1 := hSw.1; unfold Reads at q1; go_simp <;> with_reducible rfl)
  try simp only [Act.put, List.setIfInBounds_toArray, List.set_cons_zero, List.set_cons_succ]
  refine wpAnyH_take (i := 11) (oi := ?_) (v := ?_) ?_ (by kernel_rfl) (by kernel_rfl) (by kernel_rfl) ?_ ?_ (by assumption) ?_
  rotate_left 2
  · (simp only [List.getElem?_toArray, List.getElem?_cons_succ, List.getElem?_cons_zero]; rfl)
  · exact fun _ _ _ h => h
  · (refine Or.inl ⟨by rfl, ?_⟩; intro w hSw; (try dsimp only at hSw); go_simp <;> with_reducible rfl)
  try simp only [Act.put, List.setIfInBounds_toArray, List.set_cons_zero, List.set_cons_succ]
  refine wpAnyH_take (i := 12) (oi := ?_) (v := ?_) ?_ (by kernel_rfl) (by kernel_rfl) (by kernel_rfl) ?_ ?_ (by assumption) ?_
  rotate_left 2
  · (simp only [List.getElem?_toArray, List.getElem?_cons_succ, List.getElem?_cons_zero]; rfl)
  · exact fun _ _ _ h => h
  · (refine Or.inl ⟨by rfl, ?_⟩; intro w hSw; (try dsimp only at hSw); go_simp <;> with_reducible rfl)
  try simp only [Act.put, List.setIfInBounds_toArray, List.set_cons_zero, List.set_cons_succ]
  refine wpAnyH_take (i := 13) (oi := ?_) (v := b.val (.slice A0 q c0)) ?_ (by kernel_rfl) (by kernel_rfl) (by kernel_rfl) ?_ ?_ (by assumption) ?_
  rotate_left 1
  · (simp only [List.getElem?_toArray, List.getElem?_cons_succ, List.getElem?_cons_zero]; rfl)
  · exact fun _ _ _ h => h
  · (refine Or.inl ⟨by rfl, ?_⟩; intro w hSw; (try dsimp only at hSw); exact exec_wholeZ (x := .tmp 4) hSw.2.2 rfl rfl)
  try simp only [Act.put, List.setIfInBounds_toArray, List.set_cons_zero, List.set_cons_succ]
  refine wpAnyH_take (i := 15) (oi := ?_) (v := ?_) ?_ (by kernel_rfl) (by kernel_rfl) (by kernel_rfl) ?_ ?_ (by assumption) ?_
  rotate_left 2
  · (simp only [List.getElem?_toArray, List.getElem?_cons_succ, List.getElem?_cons_zero]; rfl)
  · exact fun _ _ _ h => h
  · (refine Or.inl ⟨by rfl, ?_⟩; intro w hSw; (try dsimp only at hSw); go_simp <;> with_reducible rfl)
  try simp only [Act.put, List.setIfInBounds_toArray, List.set_cons_zero, List.set_cons_succ]
  refine wpAnyH_take (i := 16) (oi := ?_) (v := ?_) ?_ (by kernel_rfl) (by kernel_rfl) (by kernel_rfl) ?_ ?_ (by assumption) ?_
  rotate_left 2
  · (simp only [List.getElem?_toArray, List.getElem?_cons_succ, List.getElem?_cons_zero]; rfl)
  · exact fun _ _ _ h => h
  · (refine Or.inl ⟨by rfl, ?_⟩; intro w hSw; (try dsimp only at hSw); go_simp <;> with_reducible rfl)
  try simp only [Act.put, List.setIfInBounds_toArray, List.set_cons_zero, List.set_cons_succ]
  refine wpAnyH_take (i := 19) (oi := ?_) (v := b.val (.slice A0 q c0)) ?_ (by kernel_rfl) (by kernel_rfl) (by kernel_rfl) ?_ ?_ (by assumption) ?_
  rotate_left 1
  · (simp only [List.getElem?_toArray, List.getElem?_cons_succ, List.getElem?_cons_zero]; rfl)
  · exact fun _ _ _ h => h
  · (refine Or.inl ⟨by rfl, ?_⟩; intro w hSw; (try dsimp only at hSw); exact exec_wholeZ (x := .tmp 4) hSw.2.2 rfl rfl)
  try simp only [Act.put, List.setIfInBounds_toArray, List.set_cons_zero, List.set_cons_succ]
  refine wpAnyH_take (i := 20) (oi := ?_) (v := ?_) ?_ (by kernel_rfl) (by kernel_rfl) (by kernel_rfl) ?_ ?_ (by assumption) ?_
  rotate_left 2
  · (simp only [List.getElem?_toArray, List.getElem?_cons_succ, List.getElem?_cons_zero]; rfl)
  · exact fun _ _ _ h => h
  · (refine Or.inl ⟨by rfl, ?_⟩; intro w hSw; (try dsimp only at hSw); go_simp <;> with_reducible rfl)
  try simp only [Act.put, List.setIfInBounds_toArray, List.set_cons_zero, List.set_cons_succ]
  refine wpAnyH_take (i := 21) (oi := ?_) (v := ?_) ?_ (by kernel_rfl) (by kernel_rfl) (by kernel_rfl) ?_ ?_ (by assumption) ?_
  rotate_left 2
  · (simp only [List.getElem?_toArray, List.getElem?_cons_succ, List.getElem?_cons_zero]; rfl)
  · exact fun _ _ _ h => h
  · (refine Or.inl ⟨by rfl, ?_⟩; intro w hSw; (try dsimp only at hSw); go_simp <;> with_reducible rfl)
  try simp only [Act.put, List.setIfInBounds_toArray, List.set_cons_zero, List.set_cons_succ]
  refine wpAnyH_ready (rs := [14]) (by kernel_rfl) (by simp) ?_
  refine AllReadyH.cons (o := ?_) ?_ (fun K hK => ?_) AllReadyH.nil
  rotate_left 1
  · (simp only [List.getElem?_toArray, List.getElem?_cons_succ, List.getElem?_cons_zero]; rfl)
  go_simp
  refine Calls.mono (law_Of b A0 q c0 _) ?_
  rintro e w9 ⟨rfl, hb9⟩
  have HA9 := HA8.belowN hb9
  have HP9 := HP8.below (hb9.mono HB8.size)
  have HQ9 := HQ8.below (hb9.mono HB8.size)
  have HB9 := Below_step HB8 hb9
  refine hK.out _ _ ⟨(own8.lies.below hb9).reads, ((l7.below hb8).below (hb9.mono hb8.size)).reads, HA9.wholeZ⟩ (fun hHeld => ?_)
  clear hK K
  try simp only [Act.put, List.setIfInBounds_toArray, List.set_cons_zero, List.set_cons_succ]
  refine wpAnyH_ready (rs := [17]) (by kernel_rfl) (by simp) ?_
  refine AllReadyH.cons (o := ?_) ?_ (fun K hK => ?_) AllReadyH.nil
  rotate_left 1
  · (simp only [List.getElem?_toArray, List.getElem?_cons_succ, List.getElem?_cons_zero]; rfl)
  go_simp
  refine Calls.mono (pred_Chain b A0 q c0 A m c w.heap.size past nn _ HP9 HQ9 HB9.size hmc (by omega)) ?_
  rintro e w10 ⟨A10, n10, c10, rfl, l10, k10, hb10⟩
  rw [← HCN.out] at l10
  have HA10 := HA9.belowN hb10
  have HP10 := HP9.below (hb10.mono HB9.size)
  have HQ10 := HQ9.below (hb10.mono HB9.size)
  have HB10 := Below_step HB9 hb10
  have M10 : (fun w' => Reads A8 n8 c8 R w' ∧ (fun w' => Reads A7 n7 c7 R w' ∧ (fun w' => WholeZ w.heap.size (b.val (.slice A0 q c0)) w') w') w') w10 := ⟨((own8.lies.below hb9).below (hb10.mono hb9.size)).reads, (((l7.below hb8).below (hb9.mono hb8.size)).below (hb10.mono (Nat.le_trans hb8.size hb9.size))).reads, HA10.wholeZ⟩
  refine hK.out _ _ M10 (fun hHeld => ?_)
  clear hK K
  try simp only [Act.put, List.setIfInBounds_toArray, List.set_cons_zero, List.set_cons_succ]
  refine wpAnyH_mono (S' := (fun w' => Reads A10 n10 c10 C w' ∧ (fun w' => Reads A8 n8 c8 R w' ∧ (fun w' => Reads A7 n7 c7 R w' ∧ (fun w' => WholeZ w.heap.size (b.val (.slice A0 q c0)) w') w') w') w')) (fun _ h => h.2) _ _ _ _ ?_
  have hHeld2 := (⟨l10.reads, M10⟩ : (fun w' => Reads A10 n10 c10 C w' ∧ (fun w' => Reads A8 n8 c8 R w' ∧ (fun w' => Reads A7 n7 c7 R w' ∧ (fun w' => WholeZ w.heap.size (b.val (.slice A0 q c0)) w') w') w') w') w10)
  refine wpAnyH_take (i := 18) (oi := ?_) (v := ?_) ?_ (by kernel_rfl) (by kernel_rfl) (by kernel_rfl) ?_ ?_ (by assumption) ?_
  rotate_left 2
  · (simp only [List.getElem?_toArray, List.getElem?_cons_succ, List.getElem?_cons_zero]; rfl)
  · exact fun _ _ _ h => h
  · (refine Or.inl ⟨by rfl, ?_⟩; intro w hSw; (try dsimp only at hSw); have q1 := hSw.1; unfold Reads at q1; go_simp <;> with_reducible rfl)
  try simp only [Act.put, List.setIfInBounds_toArray, List.set_cons_zero, List.set_cons_succ]
  refine wpAnyH_ready (rs := [22]) (by kernel_rfl) (by simp) ?_
  refine AllReadyH.cons (o := ?_) ?_ (fun K hK => ?_) AllReadyH.nil
  rotate_left 1
  · (simp only [List.getElem?_toArray, List.getElem?_cons_succ, List.getElem?_cons_zero]; rfl)
  go_simp
  refine Calls.mono (ref_Chain b A0 q c0 A m c w.heap.size past nn _ HP10 HQ10 HB10.size hmc (by omega)) ?_
  rintro e w11 ⟨A11, n11, c11, rfl, own11, hb11⟩
  rw [← HCN.out] at own11
  have HB11 := Below_step HB10 hb11
  have M11 : (fun w' => Reads A10 n10 c10 C w' ∧ (fun w' => Reads A8 n8 c8 R w' ∧ (fun w' => Reads A7 n7 c7 R w' ∧ (fun w' => WholeZ w.heap.size (b.val (.slice A0 q c0)) w') w') w') w') w11 := ⟨(l10.below hb11).reads, (((own8.lies.below hb9).below (hb10.mono hb9.size)).below (hb11.mono (Nat.le_trans hb9.size hb10.size))).reads, ((((l7.below hb8).below (hb9.mono hb8.size)).below (hb10.mono (Nat.le_trans hb8.size hb9.size))).below (hb11.mono (Nat.le_trans (Nat.le_trans hb8.size hb9.size) hb10.size))).reads, (HA10.belowN hb11).wholeZ⟩
  refine hK.out _ _ M11 (fun hHeld => ?_)
  clear hK K
  try simp only [Act.put, List.setIfInBounds_toArray, List.set_cons_zero, List.set_cons_succ]
  refine wpAnyH_mono (S' := (fun w' => Reads A11 n11 c11 C w' ∧ (fun w' => Reads A10 n10 c10 C w' ∧ (fun w' => Reads A8 n8 c8 R w' ∧ (fun w' => Reads A7 n7 c7 R w' ∧ (fun w' => WholeZ w.heap.size (b.val (.slice A0 q c0)) w') w') w') w') w')) (fun _ h => h.2) _ _ _ _ ?_
  have hHeld2 := (⟨own11.lies.reads, M11⟩ : (fun w' => Reads A11 n11 c11 C w' ∧ (fun w' => Reads A10 n10 c10 C w' ∧ (fun w' => Reads A8 n8 c8 R w' ∧ (fun w' => Reads A7 n7 c7 R w' ∧ (fun w' => WholeZ w.heap.size (b.val (.slice A0 q c0)) w') w') w') w') w') w11)
  refine wpAnyH_take (i := 23) (oi := ?_) (v := ?_) ?_ (by kernel_rfl) (by kernel_rfl) (by kernel_rfl) ?_ ?_ (by assumption) ?_
  rotate_left 2
  · (simp only [List.getElem?_toArray, List.getElem?_cons_succ, List.getElem?_cons_zero]; rfl)
  · exact fun _ _ _ h => h
  · (refine Or.inl ⟨by rfl, ?_⟩; intro w hSw; (try dsimp only at hSw); have q1 := hSw.1; unfold Reads at q1; go_simp <;> with_reducible rfl)
  try simp only [Act.put, List.setIfInBounds_toArray, List.set_cons_zero, List.set_cons_succ]
  refine wpAnyH_take (i := 24) (oi := ?_) (v := ?_) ?_ (by kernel_rfl) (by kernel_rfl) (by kernel_rfl) ?_ ?_ (by assumption) ?_
  rotate_left 2
  · (simp only [List.getElem?_toArray, List.getElem?_cons_succ, List.getElem?_cons_zero]; rfl)
  · exact fun _ _ _ h => h
  · (refine Or.inl ⟨by rfl, ?_⟩; intro w hSw; (try dsimp only at hSw); go_simp <;> with_reducible rfl)
  try simp only [Act.put, List.setIfInBounds_toArray, List.set_cons_zero, List.set_cons_succ]
  refine wpAnyH_take (i := 25) (oi := ?_) (v := ?_) ?_ (by kernel_rfl) (by kernel_rfl) (by kernel_rfl) ?_ ?_ (by assumption) ?_
  rotate_left 2
  · (simp only [List.getElem?_toArray, List.getElem?_cons_succ, List.getElem?_cons_zero]; rfl)
  · exact fun _ _ _ h => h
  · (refine Or.inl ⟨by rfl, ?_⟩; intro w hSw; (try dsimp only at hSw); go_simp <;> with_reducible rfl)
  try simp only [Act.put, List.setIfInBounds_toArray, List.set_cons_zero, List.set_cons_succ]
  refine wpAnyH_take (i := 26) (oi := ?_) (v := ?_) ?_ (by kernel_rfl) (by kernel_rfl) (by kernel_rfl) ?_ ?_ (by assumption) ?_
  rotate_left 2
  · (simp only [List.getElem?_toArray, List.getElem?_cons_succ, List.getElem?_cons_zero]; rfl)
  · exact fun _ _ _ h => h
  · (refine Or.inl ⟨by rfl, ?_⟩; intro w hSw; (try dsimp only at hSw); go_simp <;> with_reducible rfl)
  try simp only [Act.put, List.setIfInBounds_toArray, List.set_cons_zero, List.set_cons_succ]
  refine wpAnyH_done (by kernel_rfl) (NoPanic.normal ?_) _
  go_wp2_with fail
  go_ret
  exact ⟨rfl, HB11⟩
end Go.Proofs.Ytbeeddpbkniijaa
