/-
  CoreAll: the walk.
-/
import Derived.Test.YtbcgffgiifminaaStand
import Derived.Test.YtbcgffgiifminaaDuo
import Derived.Test.YtbcgffgiifminaaOpenCore
namespace Go.Proofs.Ytbcgffgiifminaa
open Go.RowKit
set_option maxRecDepth 10000
set_option linter.unusedVariables false
theorem tick_len {s : Co} (h : s.Ok) : s.tickMails.length ≤ 8 := by
  have h8 : s.peers.length ≤ 8 := by have := h.len; omega
  have ht : s.them.length ≤ 8 := Nat.le_trans (othersOf_len _ _) h8
  unfold Co.tickMails
  split
  · simp
  · split
    · simp
    · rw [List.length_map]; exact ht
theorem quit_len {s : Co} (h : s.Ok) : s.quitMails.length ≤ 8 := by
  have h8 : s.peers.length ≤ 8 := by have := h.len; omega
  have ht : s.them.length ≤ 8 := Nat.le_trans (othersOf_len _ _) h8
  unfold Co.quitMails
  split
  · simp
  · rw [List.length_map]; exact ht
theorem info_op21 : (Try.prog.info? 71).map (·.size) = some 13 := by kernel_rfl
theorem RAt.base_le {B B' : Nat} {w : World} {x : Nat} {p : RP} {s : Co} (h : RAt B w x p s) (hb : B' ≤ B) : RAt B' w x p s :=
  ⟨h.head, Nat.le_trans hb h.base, h.ls.imp id (fun ⟨g, a, b, r⟩ => ⟨g, a, b, ⟨ownsRow_base_le r.row hb, r.len, fun i hi => OwnB.base_le (r.line i hi) hb, r.apart, r.short⟩⟩), ownsRow_base_le h.heard hb, ownsRow_base_le h.has hb, ownsRow_base_le h.words hb,
   ownsRow_base_le h.apart hb, h.hne, ownsRow_base_le h.marks hb, ownsRow_base_le h.events hb⟩
theorem Duo.start {w0 w3 w6 w7 : World} {x y : Nat} {p : CP} {q : RP} {s t : Co} (h : CAt w0.heap.size w3 x p s) (h3 : Below w0.heap.size w0 w3) (h6 : Below w3.heap.size w3 w6) (hr : RAt w6.heap.size w7 y q t) (h7 : Below w6.heap.size w6 w7) : Duo w0.heap.size w0 w7 x p s y q t :=
  ⟨(h.below h6).below h7, hr.base_le (Below_step h3 h6).size, fun k hk hc => by
    have h1 := ((h.below h6).blocks k hk).2
    have h2 := (hr.blocks k hc).1
    omega, Below_step (Below_step h3 h6) h7, (Below_step (Below_step h3 h6) h7).size⟩
set_option maxHeartbeats 8000000 in
theorem law_CoreAll (q0 : Cfg) (A : Option Addr) (n c : Nat) (w : World) (i0 : q0.Ints) (s1 : LiesOps21 w w.heap.size A n) (nc1 : n ≤ c) (cm1 : c ≤ maxLen) :
    Calls Try.prog 12 #[q0.val, .slice A n c] w fun r w' => r = .returned (.bool true) ∧ Below w.heap.size w w' := by
  have HS := hide s1
  have HC0 := hide nc1
  have hn9 : n ≤ 9223372036854775807 := by simp only [maxLen] at cm1; omega
  have hc9 : c ≤ 9223372036854775807 := by simp only [maxLen] at cm1; omega
  clear s1 cm1 nc1
  go_enter Try.func12, Try.ntmps12
  go_upto_region 1 with fail
  have HP : Hid (Arr 28 (w.alloc (.cells q0.row.toArray 28)) w.heap.size q0.row) := Arr.new 28 w _ _ rfl
  have HB : Hid (Below w.heap.size w (w.alloc (.cells q0.row.toArray 28))) := Below_new _ _
  simp only [Cfg.row] at HP HB
  generalize World.alloc w _ = w1 at HP HB ⊢
  obtain ⟨gc, hgc⟩ : ∃ g, g = w.heap.size := ⟨_, rfl⟩
  have HGC := hide hgc
  rw [← hgc] at HP ⊢
  clear hgc
  go_wp2_with fail
  refine Calls.mono (begun21 w1) ?_
  rintro e w2 ⟨rfl, hb2⟩
  have HP2 := hide (HP.out.belowN hb2)
  have HB2 := hide (Below_step HB.out hb2)
  have HW2 := hide (Arr.wholeC (c := q0) HP2.out)
  clear hb2 HP HB
  cases hmay : q0.may with
  | false =>
    have HM := hide hmay.symm
    clear hmay
    go_wp2_with (refine wpC_load rfl (.tmp 2) rfl gc rfl q0 HP2.out ?_)
    refine Calls.mono (core_New_no q0 HM.out.symm w2) ?_
    rintro r w3 ⟨rfl, hb3⟩
    have HP3 := hide (HP2.out.belowN hb3)
    have HB3 := hide (Below_step HB2.out hb3)
    have HW3 := hide (Arr.wholeC (c := q0) HP3.out)
    clear hb3 HP2 HB2 HW2
    go_wp2_with fail
    refine wp_region_noPanic ?_
    refine wp_region_held_drew (S := (fun w' => WholeC gc q0.val w')) (by kernel_rfl) HP3.out.drew.wholeC (fun hHeld => ?_)
    refine tk0 0 (v := q0.val) (hy := by refine Or.inl ⟨by rfl, ?_⟩; intro w hSw; (try dsimp only at hSw); exact exec_wholeC (x := .tmp 2) hSw rfl rfl) ?_
    refine tk 2 (v := q0.val) (hy := by refine Or.inl ⟨by rfl, ?_⟩; intro w hSw; (try dsimp only at hSw); exact exec_wholeC (x := .tmp 2) hSw rfl rfl) ?_
    refine rdy 1 fun K hK => ?_
    go_simp
    refine Calls.mono (core_May q0 HM.out) ?_
    rintro r w4 ⟨rfl, hb4⟩
    have HB4 := hide hb4
    refine hK.out _ _ (HP3.out.drew.belowN hb4).wholeC (fun hHeld => ?_)
    clear hK K
    try simp only [Act.put, List.setIfInBounds_toArray, List.set_cons_zero, List.set_cons_succ]
    refine rdy 3 fun K hK => ?_
    go_simp
    refine Calls.mono (ref_MayCore q0 HM.out) ?_
    rintro r w5 ⟨rfl, hb5⟩
    have HB5 := hide (Below_step HB4.out hb5)
    refine hK.out _ _ (HP3.out.drew.belowN HB5.out).wholeC (fun hHeld => ?_)
    clear hK K
    try simp only [Act.put, List.setIfInBounds_toArray, List.set_cons_zero, List.set_cons_succ]
    refine tk 4 ?_
    refine tk 5 ?_
    refine tk 6 ?_
    refine tk 7 ?_
    refine tk 8 (v := q0.val) (hy := by refine Or.inl ⟨by rfl, ?_⟩; intro w hSw; (try dsimp only at hSw); exact exec_wholeC (x := .tmp 2) hSw rfl rfl) ?_
    refine rdy 9 fun K hK => ?_
    go_simp
    refine Calls.mono (ref_MayCore q0 HM.out) ?_
    rintro r w6 ⟨rfl, hb6⟩
    have HB6 := hide (Below_step HB5.out hb6)
    refine hK.out _ _ (HP3.out.drew.belowN HB6.out).wholeC (fun hHeld => ?_)
    clear hK K
    try simp only [Act.put, List.setIfInBounds_toArray, List.set_cons_zero, List.set_cons_succ]
    refine tk 10 ?_
    refine tk 11 ?_
    refine wpAnyH_done (by kernel_rfl) (NoPanic.normal ?_) _
    go_wp2_with fail
    go_ret
    exact ⟨rfl, Below_step HB3.out ((Below.refl _ _).drew.trans HB6.out)⟩
  | true =>
    have HM := hide hmay.symm
    have HF : Hid q0.Fine := (q0.may_iff.1 hmay)
    clear hmay
    go_wp2_with (refine wpC_load rfl (.tmp 2) rfl gc rfl q0 HP2.out ?_)
    refine Calls.mono (core_New q0 HF.out w2) ?_
    rintro r w3 ⟨x, p, rfl, hcat, hb3⟩
    have HP3 := hide (HP2.out.belowN hb3)
    have HB3 := hide (Below_step HB2.out hb3)
    have HW3 := hide (Arr.wholeC (c := q0) HP3.out)
    have HC3 := hide hcat
    have HBC := hide hb3
    clear hcat hb3 HW2
    go_wp2_with fail
    refine wp_region_noPanic ?_
    refine wp_region_held_drew (S := (fun w' => WholeC gc q0.val w')) (by kernel_rfl) HP3.out.drew.wholeC (fun hHeld => ?_)
    refine tk0 0 (v := q0.val) (hy := by refine Or.inl ⟨by rfl, ?_⟩; intro w hSw; (try dsimp only at hSw); exact exec_wholeC (x := .tmp 2) hSw rfl rfl) ?_
    refine tk 2 (v := q0.val) (hy := by refine Or.inl ⟨by rfl, ?_⟩; intro w hSw; (try dsimp only at hSw); exact exec_wholeC (x := .tmp 2) hSw rfl rfl) ?_
    refine rdy 1 fun K hK => ?_
    go_simp
    refine Calls.mono (core_May q0 HM.out) ?_
    rintro r w4 ⟨rfl, hb4⟩
    have HB4 := hide hb4
    refine hK.out _ _ (HP3.out.drew.belowN hb4).wholeC (fun hHeld => ?_)
    clear hK K
    try simp only [Act.put, List.setIfInBounds_toArray, List.set_cons_zero, List.set_cons_succ]
    refine rdy 3 fun K hK => ?_
    go_simp
    refine Calls.mono (ref_MayCore q0 HM.out) ?_
    rintro r w5 ⟨rfl, hb5⟩
    have HB5 := hide (Below_step HB4.out hb5)
    refine hK.out _ _ (HP3.out.drew.belowN HB5.out).wholeC (fun hHeld => ?_)
    clear hK K
    try simp only [Act.put, List.setIfInBounds_toArray, List.set_cons_zero, List.set_cons_succ]
    refine tk 4 ?_
    refine tk 5 ?_
    refine tk 6 ?_
    refine tk 7 ?_
    refine tk 8 (v := q0.val) (hy := by refine Or.inl ⟨by rfl, ?_⟩; intro w hSw; (try dsimp only at hSw); exact exec_wholeC (x := .tmp 2) hSw rfl rfl) ?_
    refine rdy 9 fun K hK => ?_
    go_simp
    refine Calls.mono (ref_MayCore q0 HM.out) ?_
    rintro r w6 ⟨rfl, hb6⟩
    have HB6 := hide (Below_step HB5.out hb6)
    refine hK.out _ _ (HP3.out.drew.belowN HB6.out).wholeC (fun hHeld => ?_)
    clear hK K
    try simp only [Act.put, List.setIfInBounds_toArray, List.set_cons_zero, List.set_cons_succ]
    refine tk 10 ?_
    refine tk 11 ?_
    refine wpAnyH_done (by kernel_rfl) (NoPanic.normal ?_) _
    have HBS := hide (Below_step (Below.refl _ _).drew HB6.out)
    have HP6 := hide (HP3.out.belowN HBS.out)
    clear hHeld
    have HB6 := hide (Below_step HB3.out HBS.out)
    go_wp2_with (refine wpC_load rfl (.tmp 2) rfl gc rfl q0 HP6.out ?_)
    refine Calls.mono (ref_NewCore q0 HF.out w6) ?_
    rintro r w7 ⟨y, q, rfl, hr, hb7⟩
    have HD := hide (Duo.start HC3.out HBC.out HBS.out hr hb7)
    have HS2 := hide (HS.out.below HB2.out)
    have HSZ : Hid (w.heap.size ≤ w2.heap.size) := HB2.out.size
    clear HC3 HBC HP6 HB6 HP3 HB3 HW3 HBS hr hb7
    go_wp2_with fail
    go_loopg [9] 80 (fun gg s9 wr => ∃ (i : Nat) (s : Co) (p : CP) (q : RP), i ≤ n ∧ i ≤ 80 ∧ gg = 80 - i ∧ s9 = .int .i64 (i : Int) ∧ s.now ≤ (i : Int) ∧ s.events.length ≤ 16 * i ∧ Hid s.Calm ∧ Hid (Duo w2.heap.size w2 wr x p s y q s))
    case atStart => exact ⟨0, Co.new q0, p, q, by omega, by omega, rfl, rfl, by show (0 : Int) ≤ 0; omega, by show (0 : Nat) ≤ _; omega, Co.calm_new q0, HD⟩
    case round =>
      clear HD
      obtain ⟨W1, hW1⟩ : ∃ W1, W1 = wr := ⟨_, rfl⟩
      subst hW1
      obtain ⟨i, s, p, q, him, hi80, rfl, rfl, hnow, hev, HCM, HD⟩ := hrel
      by_cases hlt : i < n
      · by_cases hlt2 : i < 80
        · obtain ⟨o, b0, off, ho⟩ := HS2.out i hlt
          have hA := ho.at_
          subst hA
          have hd1 : decide ((i : Int) < (n : Int)) = true := decide_eq_true (by omega)
          have hd2 : decide ((i : Int) < 80) = true := decide_eq_true (by omega)
          have HO := hide (ho.below (HD.out.bel.mono HSZ.out))
          clear ho
          obtain ⟨kind, bA, bn, bc, bl, k, A2, n2, c2, fit, sm⟩ := o
          have hrg := HO.out.range
          rw [show (⟨kind, bA, bn, bc, bl, k, A2, n2, c2, fit, sm⟩ : Op21).row = [.int .i64 kind, .slice bA bn bc, .int .i64 k.kind, .int .i64 k.src, .int .i64 k.dst, .int .i64 k.id, .int .i64 k.first, .slice A2 n2 c2, .int .i64 k.ack, .int .i64 k.frame, .int .u32 k.sum, .bool fit, .int .u32 sm] from rfl] at hrg
          have HRG := hide hrg
          clear hrg
          go_upto_region 15 with (refine wpList_load_mid rfl 71 (.tmp 58) rfl b0 (off + i * 13) rfl [.int .i64 kind, .slice bA bn bc, .int .i64 k.kind, .int .i64 k.src, .int .i64 k.dst, .int .i64 k.id, .int .i64 k.first, .slice A2 n2 c2, .int .i64 k.ack, .int .i64 k.frame, .int .u32 k.sum, .bool fit, .int .u32 sm] _ HRG.out Try.underlying71 rfl info_op21 ?_)
          have hbn := Below_new W1 (.cells #[.int .i64 kind, .slice bA bn bc, .int .i64 k.kind, .int .i64 k.src, .int .i64 k.dst, .int .i64 k.id, .int .i64 k.first, .slice A2 n2 c2, .int .i64 k.ack, .int .i64 k.frame, .int .u32 k.sum, .bool fit, .int .u32 sm] 71)
          have a0 := Arr.new 71 W1 #[.int .i64 kind, .slice bA bn bc, .int .i64 k.kind, .int .i64 k.src, .int .i64 k.dst, .int .i64 k.id, .int .i64 k.first, .slice A2 n2 c2, .int .i64 k.ack, .int .i64 k.frame, .int .u32 k.sum, .bool fit, .int .u32 sm] _ rfl
          have HD2 := hide (HD.out.below hbn)
          have HO2 := hide (HO.out.below (hbn.mono (Nat.le_trans HSZ.out HD.out.base)))
          have hp8 : s.peers.length ≤ 8 := by have := HD.out.core.ok.len; omega
          have HOP := hide a0
          have HGX : Hid (¬ cBlocks x p W1.heap.size) := fun h => by have := (HD.out.core.blocks _ h).2; omega
          have HOK : Hid s.Ok := HD.out.core.ok
          clear hbn a0
          generalize World.alloc W1 _ = W2 at HD2 HOP HO2 ⊢
          obtain ⟨g0, hg0⟩ : ∃ g, g = W1.heap.size := ⟨_, rfl⟩
          rw [← hg0] at HOP HGX ⊢
          clear hg0
          have o0 := HOP.out.cell (j := 0) (by simp)
          have o1 := HOP.out.cell (j := 1) (by simp)
          have o12 := HOP.out.cell (j := 12) (by simp)
          simp only [List.getElem_cons_zero, List.getElem_cons_succ] at o0 o1 o12
          by_cases k0 : kind = 0
          · subst k0
            by_cases hb0 : 0 < bn
            · obtain ⟨gb, ob, hlk, hbA, hltb, hcb⟩ := HO2.out.liesB.at_ (k := 0) hb0
              have hbA' : bA = _ := hbA
              subst hbA'
              obtain ⟨v, hv⟩ : ∃ v, v = bl[0] := ⟨_, rfl⟩
              rw [← hv, Nat.add_zero] at hcb
              clear hv
              have hbi : (bn : Int) > 0 := by omega
              have hbd : decide ((bn : Int) > 0) = true := decide_eq_true hbi
              obtain ⟨E, hE⟩ : ∃ E, E = s.pressErr := ⟨_, rfl⟩
              have HE := hide hE
              have hEE : (E != E) = false := by simp
              clear hE
              go_wp2_with fail
              refine Calls.mono (core_Press HD2.out.core HD2.out.base v rfl) ?_
              rw [← HE.out]
              rintro r w8 ⟨rfl, p8, hc8, st⟩
              have HD8 := hide (HD2.out.prog hc8 st)
              clear hc8 st
              go_wp2_with fail
              refine Calls.mono (ref_PressCore HD8.out.ref HOK.out HD8.out.base v rfl) ?_
              rw [← HE.out]
              rintro r w9 ⟨rfl, q9, hr9, st⟩
              have HD9 := hide (HD8.out.doc hr9 st)
              clear hr9 st
              go_wp2_with fail
              refine Calls.mono (law_same HD9.out.core HD9.out.ref) ?_
              rintro r wz ⟨rfl, hbz⟩
              have HDZ := hide (HD9.out.below hbz)
              clear hbz
              go_wp2_with fail
              go_roundg (80 - (i + 1))
              case measure => omega
              case rel => exact ⟨i + 1, _, _, _, by omega, by omega, rfl, by go_num, by have := (press_now s v).1; omega, by have := (press_now s v).2; rw [this]; omega, HCM.out.press _, HDZ⟩
            · obtain rfl : bn = 0 := by omega
              obtain ⟨E, hE⟩ : ∃ E, E = s.pressErr := ⟨_, rfl⟩
              have HE := hide hE
              have hEE : (E != E) = false := by simp
              clear hE
              go_wp2_with fail
              refine Calls.mono (core_Press HD2.out.core HD2.out.base 0 rfl) ?_
              rw [← HE.out]
              rintro r w8 ⟨rfl, p8, hc8, st⟩
              have HD8 := hide (HD2.out.prog hc8 st)
              clear hc8 st
              go_wp2_with fail
              refine Calls.mono (ref_PressCore HD8.out.ref HOK.out HD8.out.base 0 rfl) ?_
              rw [← HE.out]
              rintro r w9 ⟨rfl, q9, hr9, st⟩
              have HD9 := hide (HD8.out.doc hr9 st)
              clear hr9 st
              go_wp2_with fail
              refine Calls.mono (law_same HD9.out.core HD9.out.ref) ?_
              rintro r wz ⟨rfl, hbz⟩
              have HDZ := hide (HD9.out.below hbz)
              clear hbz
              go_wp2_with fail
              go_roundg (80 - (i + 1))
              case measure => omega
              case rel => exact ⟨i + 1, _, _, _, by omega, by omega, rfl, by go_num, by have := (press_now s 0).1; omega, by have := (press_now s 0).2; rw [this]; omega, HCM.out.press _, HDZ⟩
          have e0 : (kind == 0) = false := by simpa using k0
          by_cases k1 : kind = 1
          · subst k1
            have HLOW : Hid (∀ k, rBlocks y q k → k < W2.heap.size) := fun k hk => (HD2.out.ref.blocks k hk).2
            have HML := hide (tick_len HOK.out)
            obtain ⟨M, hM⟩ : ∃ M, M = s.tickMails := ⟨_, rfl⟩
            have HM2 := hide hM
            rw [← hM] at HML
            clear hM
            go_wp2_with fail
            refine Calls.mono (core_Tick HD2.out.core HD2.out.base (by omega) (by have := HD2.out.core.en; omega)) ?_
            rw [← HM2.out]
            rintro r w8 ⟨A8, n8, c8, xs8, rfl, hm8, hx8, p8, hc8, st, -⟩
            have HD8 := hide (HD2.out.prog hc8 st)
            have hn8 : n8 ≤ 1000 := by have h1 := hm8.len; have h2 := congrArg List.length hx8; have h3 := HML.out; rw [List.length_map] at h2; omega
            have HS8 : Hid (W2.heap.size ≤ w8.heap.size) := st.keeps.size
            have HM8 := hide hm8
            have HX8 := hide hx8
            clear hm8 hx8 hc8 st o0 o1 o12
            go_wp2_with fail
            refine Calls.mono (law_Mails HM8.out HS8.out hn8) ?_
            rintro r w9 ⟨A9, c9, rfl, hm9, hb9⟩
            have HD9 := hide (HD8.out.below hb9)
            have HM9 := hide (ML.base_le hm9 (Nat.le_refl _))
            have hB9 : Hid (W2.heap.size ≤ w9.heap.size) := Nat.le_trans HS8.out hb9.size
            clear hm9 hb9
            go_wp2_with fail
            refine Calls.mono (ref_TickCore HD9.out.ref HOK.out HD9.out.base (by omega) (by have := HD9.out.ref.en; omega)) ?_
            rw [← HM2.out]
            rintro r wA ⟨AA, nA, cA, xsA, rfl, hmA, hxA, qA, hrA, st⟩
            have HDA := hide (HD9.out.doc hrA st)
            have HMX := hide (HM9.out.keepsLow st.keeps (fun k hk => HLOW.out k hk))
            have HMA := hide hmA
            have HXE : Hid (xs8.map Prod.fst = xsA.map Prod.fst) := HX8.out.trans hxA.symm
            clear hmA hxA hrA st
            go_wp2_with fail
            refine Calls.mono (ref_EqMails HMX.out HMA.out HXE.out hn8) ?_
            rintro r wB ⟨rfl, ndB, rfl⟩
            have HDB := hide (HDA.out.below (Below_drewN (Below.refl _ _) ndB))
            go_wp2_with fail
            refine Calls.mono (law_same HDB.out.core HDB.out.ref) ?_
            rintro r wz ⟨rfl, hbz⟩
            have HDZ := hide (HDB.out.below hbz)
            clear hbz
            go_wp2_with fail
            go_roundg (80 - (i + 1))
            case measure => omega
            case rel => exact ⟨i + 1, _, _, _, by omega, by omega, rfl, by go_num, by have := tick_now s; omega, by have := tick_events s; omega, HCM.out.tick, HDZ⟩
          have e1 : (kind == 1) = false := by simpa using k1
          by_cases k2 : kind = 2
          · subst k2
            obtain ⟨pk, hpk⟩ : ∃ pk, pk = k.cut q0 fit := ⟨_, rfl⟩
            have HPK := hide hpk
            have HWF : Hid pk.WF := by show pk.WF; rw [hpk]; unfold Pkt.cut; split <;> exact HO.out.wf
            have hpp : pk.press = k.press.take 33 := by rw [hpk]; unfold Pkt.cut; split <;> rfl
            obtain ⟨E, hE⟩ : ∃ E, E = s.recvErr pk.enc := ⟨_, rfl⟩
            have HE := hide hE
            have hEE : (E != E) = false := by simp
            obtain ⟨m, hm⟩ : ∃ m, m = min 33 n2 := ⟨_, rfl⟩
            have HMM := hide hm
            have hlb := HO2.out.lies.take 33
            have HLB : Hid (LiesB W2 w.heap.size A2 m pk.press) := by show LiesB _ _ _ _ _; rw [hm, hpp]; exact hlb
            have hm33 : m ≤ 33 := by omega
            have HZ2 : Hid (w.heap.size ≤ W2.heap.size) := Nat.le_trans HSZ.out HD2.out.base
            have HPC := hide (HP2.out.belowN HD2.out.bel)
            clear hE hm hlb hpk hpp
            go_wp2_with (first | (refine wpC_load rfl (.tmp 2) rfl gc rfl q0 HPC.out ?_) | (refine wpList_load_row rfl 71 (.tmp 10) rfl g0 rfl 71 #[.int .i64 2, .slice bA bn bc, .int .i64 k.kind, .int .i64 k.src, .int .i64 k.dst, .int .i64 k.id, .int .i64 k.first, .slice A2 n2 c2, .int .i64 k.ack, .int .i64 k.frame, .int .u32 k.sum, .bool fit, .int .u32 sm] (0, 0) _ HOP.out Try.underlying71 rfl info_op21 ?_))
            refine Calls.mono (law_Packet q0 2 bA bn bc k A2 n2 c2 fit sm HO.out.cap _) ?_
            rw [← HPK.out, ← HMM.out]
            rintro r w8 ⟨rfl, hb8⟩
            have HD8 := hide (HD2.out.below hb8)
            have HLB8 := hide (HLB.out.below (hb8.mono HZ2.out))
            have HZ8 : Hid (w.heap.size ≤ w8.heap.size) := Nat.le_trans HZ2.out hb8.size
            have HS8 : Hid (W2.heap.size ≤ w8.heap.size) := hb8.size
            clear hb8 o0 o1 o12
            go_wp2_with fail
            refine Calls.mono (ref_Packet pk HLB8.out HZ8.out (by omega) HWF.out) ?_
            rintro r w9 ⟨A9, n9, c9, rfl, ho9, hb9⟩
            have HD9 := hide (HD8.out.below hb9)
            have hn9' : n9 ≤ 1000000 := by have h1 := ho9.len; have h2 := Pkt.enc_short pk; have h3 := HLB.out.len; omega
            have HOY := hide ho9
            clear ho9 hb9
            go_wp2_with fail
            refine Calls.mono (core_Receive_any HD9.out.core HD9.out.base (by omega) HOY.out.lies (Nat.le_refl _) HOY.out.cap hn9') ?_
            rw [← HE.out]
            rintro r wR ⟨rfl, pR, hcR, st⟩
            have HDR := hide (HD9.out.prog hcR st)
            have HOR := hide (HOY.out.keeps st.keeps (fun j hj hc => by have h1 := (HOY.out.blk j hj).1; have h2 := (HD8.out.core.blocks j hc).2; omega))
            clear hcR st
            go_wp2_with fail
            refine Calls.mono (ref_Receive_any HDR.out.ref HOK.out HCM.out HDR.out.base (by omega) HOR.out.lies (Nat.le_refl _) HOR.out.cap hn9') ?_
            rw [← HE.out]
            rintro r wX ⟨rfl, qX, hrX, st⟩
            have HDX := hide (HDR.out.doc hrX st)
            clear hrX st
            go_wp2_with fail
            refine Calls.mono (law_same HDX.out.core HDX.out.ref) ?_
            rintro r wz ⟨rfl, hbz⟩
            have HDZ := hide (HDX.out.below hbz)
            clear hbz
            go_wp2_with fail
            go_roundg (80 - (i + 1))
            case measure => omega
            case rel => exact ⟨i + 1, _, _, _, by omega, by omega, rfl, by go_num, by have := recv_now s (pk.enc); omega, by have := recv_events s (pk.enc); omega, HCM.out.recv _, HDZ⟩
          have e2 : (kind == 2) = false := by simpa using k2
          by_cases k3 : kind = 3
          · subst k3
            obtain ⟨E, hE⟩ : ∃ E, E = s.recvErr (bl.take 60) := ⟨_, rfl⟩
            have HE := hide hE
            have hEE : (E != E) = false := by simp
            obtain ⟨m, hm⟩ : ∃ m, m = min 60 bn := ⟨_, rfl⟩
            have HMM := hide hm
            have hlb := HO2.out.liesB.take 60
            have HLB : Hid (LiesB W2 w.heap.size bA m (bl.take 60)) := by show LiesB _ _ _ _ _; rw [hm]; exact hlb
            have hmb : m ≤ bc := by have := HO.out.capB; have : bn ≤ bc := this; omega
            have hm60 : m ≤ 60 := by omega
            have HZ2 : Hid (w.heap.size ≤ W2.heap.size) := Nat.le_trans HSZ.out HD2.out.base
            clear hE hm hlb
            go_wp2_with fail
            refine Calls.mono (law_Short bA bn bc 60 60 _ HO.out.capB rfl (by omega)) ?_
            rintro r w8 ⟨rfl, rfl⟩
            rw [← HMM.out]
            go_wp2_with fail
            refine Calls.mono (core_Receive_any HD2.out.core HD2.out.base (by omega) HLB.out HZ2.out hmb (by omega)) ?_
            rw [← HE.out]
            rintro r w9 ⟨rfl, p9, hc9, st⟩
            have HD9 := hide (HD2.out.prog hc9 st)
            have HLB9 := hide (HLB.out.below ((st.below HD2.out.core HD2.out.base).mono HSZ.out))
            clear hc9 st o0 o1 o12
            go_wp2_with fail
            refine Calls.mono (ref_Receive_any HD9.out.ref HOK.out HCM.out HD9.out.base (by omega) HLB9.out (Nat.le_trans HSZ.out HD9.out.base) hmb (by omega)) ?_
            rw [← HE.out]
            rintro r wX ⟨rfl, qX, hrX, st⟩
            have HDX := hide (HD9.out.doc hrX st)
            clear hrX st
            go_wp2_with fail
            refine Calls.mono (law_same HDX.out.core HDX.out.ref) ?_
            rintro r wz ⟨rfl, hbz⟩
            have HDZ := hide (HDX.out.below hbz)
            clear hbz
            go_wp2_with fail
            go_roundg (80 - (i + 1))
            case measure => omega
            case rel => exact ⟨i + 1, _, _, _, by omega, by omega, rfl, by go_num, by have := recv_now s (bl.take 60); omega, by have := recv_events s (bl.take 60); omega, HCM.out.recv _, HDZ⟩
          have e3 : (kind == 3) = false := by simpa using k3
          by_cases k4 : kind = 4
          · subst k4
            go_wp2_with fail
            refine Calls.mono (core_Mark HD2.out.core HD2.out.base (by have := HD2.out.core.en; omega) sm HO.out.sum) ?_
            rintro r w8 ⟨rfl, p8, hc8, st⟩
            have o12' := keeps_cell' st.keeps o12 HGX.out
            have HD8 := hide (HD2.out.prog hc8 st)
            clear hc8 st o0 o1 o12
            go_wp2_with fail
            refine Calls.mono (ref_Mark HD8.out.ref HOK.out HCM.out.held HD8.out.base (by have := HD8.out.ref.en; omega) sm HO.out.sum) ?_
            rintro r w9 ⟨rfl, q9, hr9, st⟩
            have HD9 := hide (HD8.out.doc hr9 st)
            clear hr9 st o12'
            go_wp2_with fail
            refine Calls.mono (law_same HD9.out.core HD9.out.ref) ?_
            rintro r wz ⟨rfl, hbz⟩
            have HDZ := hide (HD9.out.below hbz)
            clear hbz
            go_wp2_with fail
            go_roundg (80 - (i + 1))
            case measure => omega
            case rel => exact ⟨i + 1, _, _, _, by omega, by omega, rfl, by go_num, by have := mark_now s sm; omega, by have := mark_events s sm; omega, HCM.out.mark _, HDZ⟩
          have e4 : (kind == 4) = false := by simpa using k4
          by_cases k5 : kind = 5
          · subst k5
            have HLOW : Hid (∀ k, rBlocks y q k → k < W2.heap.size) := fun k hk => (HD2.out.ref.blocks k hk).2
            have HML := hide (quit_len HOK.out)
            obtain ⟨M, hM⟩ : ∃ M, M = s.quitMails := ⟨_, rfl⟩
            have HM2 := hide hM
            rw [← hM] at HML
            clear hM
            go_wp2_with fail
            refine Calls.mono (core_Quit HD2.out.core HD2.out.base) ?_
            rw [← HM2.out]
            rintro r w8 ⟨A8, n8, c8, xs8, rfl, hm8, hx8, hc8, st⟩
            have HD8 := hide (HD2.out.prog hc8 st)
            have hn8 : n8 ≤ 1000 := by have h1 := hm8.len; have h2 := congrArg List.length hx8; have h3 := HML.out; rw [List.length_map] at h2; omega
            have HS8 : Hid (W2.heap.size ≤ w8.heap.size) := st.keeps.size
            have HM8 := hide hm8
            have HX8 := hide hx8
            clear hm8 hx8 hc8 st o0 o1 o12
            go_wp2_with fail
            refine Calls.mono (law_Mails HM8.out HS8.out hn8) ?_
            rintro r w9 ⟨A9, c9, rfl, hm9, hb9⟩
            have HD9 := hide (HD8.out.below hb9)
            have HM9 := hide (ML.base_le hm9 (Nat.le_refl _))
            have hB9 : Hid (W2.heap.size ≤ w9.heap.size) := Nat.le_trans HS8.out hb9.size
            clear hm9 hb9
            go_wp2_with fail
            refine Calls.mono (ref_QuitCore HD9.out.ref HOK.out HD9.out.base) ?_
            rw [← HM2.out]
            rintro r wA ⟨AA, nA, cA, xsA, rfl, hmA, hxA, hrA, st⟩
            have HDA := hide (HD9.out.doc hrA st)
            have HMX := hide (HM9.out.keepsLow st.keeps (fun k hk => HLOW.out k hk))
            have HMA := hide hmA
            have HXE : Hid (xs8.map Prod.fst = xsA.map Prod.fst) := HX8.out.trans hxA.symm
            clear hmA hxA hrA st
            go_wp2_with fail
            refine Calls.mono (ref_EqMails HMX.out HMA.out HXE.out hn8) ?_
            rintro r wB ⟨rfl, ndB, rfl⟩
            have HDB := hide (HDA.out.below (Below_drewN (Below.refl _ _) ndB))
            go_wp2_with fail
            refine Calls.mono (law_same HDB.out.core HDB.out.ref) ?_
            rintro r wz ⟨rfl, hbz⟩
            have HDZ := hide (HDB.out.below hbz)
            clear hbz
            go_wp2_with fail
            go_roundg (80 - (i + 1))
            case measure => omega
            case rel => exact ⟨i + 1, _, _, _, by omega, by omega, rfl, by go_num, by show s.now ≤ _; omega, by show s.events.length ≤ _; omega, HCM.out.quit, HDZ⟩
          have e5 : (kind == 5) = false := by simpa using k5
          go_wp2_with fail
          refine Calls.mono (core_Events HD2.out.core) ?_
          rintro r w8 ⟨rfl, hv8, hc8, st⟩
          have HV8 := hide hv8
          have HD8 := hide (HD2.out.prog hc8 st)
          have hen : p.en ≤ 1280 := by have := HD2.out.core.en; omega
          have HSW : Hid (∀ k, rBlocks y q k → k < w8.heap.size) := fun k hk => (HD8.out.ref.blocks k hk).2
          clear hv8 hc8 st
          go_wp2_with fail
          refine Calls.mono (law_Raws HV8.out (by omega)) ?_
          rintro r w9 ⟨A9, c9, rfl, hr9, hb9⟩
          have HR9 := hide hr9
          have HD9 := hide (HD8.out.below hb9)
          clear hr9 hb9
          go_wp2_with fail
          refine Calls.mono (ref_Told HD9.out.ref) ?_
          rintro r wA ⟨rfl, hoA, hrA, st⟩
          have HDA := hide (HD9.out.doc hrA st)
          have HR10 := hide (owns_keeps HR9.out st.keeps (fun k hk hs => by have h1 := (World.ownsRow.lt HR9.out k hk.symm).1; have h2 := HSW.out k hs; omega))
          have HOA := hide hoA
          clear hoA hrA st
          go_wp2_with fail
          refine Calls.mono (ref_EqRaws HR10.out HOA.out (by omega)) ?_
          rintro r wB ⟨rfl, hbB⟩
          have HDB := hide (HDA.out.below hbB)
          clear hbB
          go_wp2_with fail
          refine Calls.mono (law_same HDB.out.core HDB.out.ref) ?_
          rintro r wz ⟨rfl, hbz⟩
          have HDZ := hide (HDB.out.below hbz)
          clear hbz
          go_wp2_with fail
          go_roundg (80 - (i + 1))
          case measure => omega
          case rel => exact ⟨i + 1, { s with events := [] }, _, _, by omega, by omega, rfl, by go_num, by show s.now ≤ _; omega, by show (0 : Nat) ≤ _; omega, HCM.out, HDZ⟩
        · have hd2 : decide ((i : Int) < 80) = false := decide_eq_false (by omega)
          have hd1 : decide ((i : Int) < (n : Int)) = true := decide_eq_true (by omega)
          go_wp2_with fail
          refine Calls.mono (core_Events HD.out.core) ?_
          rintro r w8 ⟨rfl, hv8, hc8, st⟩
          have HV8 := hide hv8
          have HD8 := hide (HD.out.prog hc8 st)
          have hen : p.en ≤ 1280 := by have := HD.out.core.en; omega
          have HSW : Hid (∀ k, rBlocks y q k → k < w8.heap.size) := fun k hk => (HD8.out.ref.blocks k hk).2
          clear hv8 hc8 st
          go_wp2_with fail
          refine Calls.mono (law_Raws HV8.out (by omega)) ?_
          rintro r w9 ⟨A9, c9, rfl, hr9, hb9⟩
          have HR9 := hide hr9
          have HD9 := hide (HD8.out.below hb9)
          clear hr9 hb9
          go_wp2_with fail
          refine Calls.mono (ref_Told HD9.out.ref) ?_
          rintro r wA ⟨rfl, hoA, hrA, st⟩
          have HDA := hide (HD9.out.doc hrA st)
          have HR10 := hide (owns_keeps HR9.out st.keeps (fun k hk hs => by have h1 := (World.ownsRow.lt HR9.out k hk.symm).1; have h2 := HSW.out k hs; omega))
          have HOA := hide hoA
          clear hoA hrA st
          go_wp2_with fail
          refine Calls.mono (ref_EqRaws HR10.out HOA.out (by omega)) ?_
          rintro r wB ⟨rfl, hbB⟩
          have HDB := hide (HDA.out.below hbB)
          clear hbB
          go_wp2_with fail
          go_ret
          exact ⟨rfl, Below_step HB2.out HDB.out.bel⟩
      · have hd1 : decide ((i : Int) < (n : Int)) = false := decide_eq_false (by omega)
        go_wp2_with fail
        refine Calls.mono (core_Events HD.out.core) ?_
        rintro r w8 ⟨rfl, hv8, hc8, st⟩
        have HV8 := hide hv8
        have HD8 := hide (HD.out.prog hc8 st)
        have hen : p.en ≤ 1280 := by have := HD.out.core.en; omega
        have HSW : Hid (∀ k, rBlocks y q k → k < w8.heap.size) := fun k hk => (HD8.out.ref.blocks k hk).2
        clear hv8 hc8 st
        go_wp2_with fail
        refine Calls.mono (law_Raws HV8.out (by omega)) ?_
        rintro r w9 ⟨A9, c9, rfl, hr9, hb9⟩
        have HR9 := hide hr9
        have HD9 := hide (HD8.out.below hb9)
        clear hr9 hb9
        go_wp2_with fail
        refine Calls.mono (ref_Told HD9.out.ref) ?_
        rintro r wA ⟨rfl, hoA, hrA, st⟩
        have HDA := hide (HD9.out.doc hrA st)
        have HR10 := hide (owns_keeps HR9.out st.keeps (fun k hk hs => by have h1 := (World.ownsRow.lt HR9.out k hk.symm).1; have h2 := HSW.out k hs; omega))
        have HOA := hide hoA
        clear hoA hrA st
        go_wp2_with fail
        refine Calls.mono (ref_EqRaws HR10.out HOA.out (by omega)) ?_
        rintro r wB ⟨rfl, hbB⟩
        have HDB := hide (HDA.out.below hbB)
        clear hbB
        go_wp2_with fail
        go_ret
        exact ⟨rfl, Below_step HB2.out HDB.out.bel⟩
end Go.Proofs.Ytbcgffgiifminaa
