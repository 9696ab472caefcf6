/-
  A packet heard: the walk.
  What law 21 stands on: a core of the law's own; its events told.
  quintainlaw21.begun: two players.
-/
import Derived.Test.YtbcgffgiifminaaStand11
namespace Go.Proofs.Ytbcgffgiifminaa
open Go.RowKit
set_option maxRecDepth 10000
set_option linter.unusedVariables false
set_option maxHeartbeats 16000000 in
theorem core_Receive_yes {B : Nat} {w : World} {x : Nat} {p : CP} {s : Co} (h : CAt B w x p s) (hBw : B ≤ w.heap.size) (hcl : s.closed = false) (hen : p.en ≤ 999999000) {A : Option Addr} {n c B' : Nat} {b : List UInt8} (k : Pkt) (hb : Pkt.Is b k) (hA : LiesB w B' A n b) (hB' : B' ≤ w.heap.size) (hnc : n ≤ c) (hn : n ≤ 1000000) :
    Calls Try.prog 20 #[.pointer (some ⟨x, 0, none⟩), .slice A n c] w fun r w' => r = .returned (.int .i64 (if s.fits k = true then 0 else 1)) ∧ ∃ p', CAt B w' x p' (if s.fits k = true then s.hear k else s) ∧ Stp w w' x p p' := by
  have H := hide h
  have HC := hide hcl
  have HIS := hide hb
  have HA := hide hA
  have HBB := hide hB'
  have HB := hide hBw
  have HNC := hide hnc
  have hfine := Pkt.may_iff.1 hb.1
  have hwf := hb.2.1
  obtain ⟨j, hj⟩ : ∃ j : Nat, k.src = (j : Int) := ⟨k.src.toNat, by have := hfine.src; omega⟩
  have HJ := hide hj
  obtain ⟨S, hS⟩ : ∃ S, S = (if s.fits k = true then s.hear k else s) := ⟨_, rfl⟩
  have HS := hide hS
  obtain ⟨R, hR⟩ : ∃ R : Int, R = (if s.fits k = true then 0 else 1) := ⟨_, rfl⟩
  have HR := hide hR
  rw [← hS, ← hR]
  have HFINE := hide hfine
  have HWF := hide hwf
  have c1 := h.cell (coRow_me s p)
  have c2 := h.cell (coRow_id s p)
  have c0 := h.cell (coRow_n s p)
  clear h hcl hb hA hB' hnc hBw hfine hwf hj hS hR
  go_enter Try.func20, Try.ntmps20
  go_wp2_with fail
  refine Calls.mono (core_Closed H.out) ?_
  rintro r w2 ⟨rfl, rfl⟩
  rw [HC.out]
  go_wp2_with fail
  refine Calls.mono (packet_Decode_fresh k HIS.out HA.out HBB.out HNC.out hn) ?_
  rintro r w2 ⟨A2, n2, cc2, rfl, hl2, hcap2, hn2, hb2, hfr2⟩
  have HB2 := hide hb2
  have HL2 := hide hl2
  have HFR := hide hfr2
  have c1 := below_cell hb2 c1
  have c2 := below_cell hb2 c2
  have c0 := below_cell hb2 c0
  clear hb2 hl2 hfr2
  obtain ⟨kind, src, dst, kid, first, press, ack, frame, sum⟩ := k
  simp only at HJ HFR HL2
  go_upto_region 4 with (refine wpP_init rfl (.tmp 5) (.tmp 13) rfl ⟨kind, src, dst, kid, first, press, ack, frame, sum⟩ A2 n2 cc2 rfl rfl rfl ?_; intro w3 ha3 hb3 hs3)
  obtain ⟨g, hg⟩ : ∃ g, g = w2.heap.size := ⟨_, rfl⟩
  have HG := hide hg
  rw [← hg] at ha3 ⊢
  have HP3 := hide ha3
  have HB3 := hide (Below_step HB2.out hb3)
  have HL3 := hide (HL2.out.below hb3)
  have c1 := below_cell hb3 c1
  have c2 := below_cell hb3 c2
  have c0 := below_cell hb3 c0
  have q1 := ha3.cell (j := 1) (by simp)
  have q2 := ha3.cell (j := 2) (by simp)
  have q3 := ha3.cell (j := 3) (by simp)
  simp only [List.getElem_cons_zero, List.getElem_cons_succ] at q1 q2 q3
  obtain ⟨me, hme⟩ : ∃ me, me = s.cfg.me := ⟨_, rfl⟩
  obtain ⟨id, hid⟩ : ∃ id, id = s.cfg.id := ⟨_, rfl⟩
  obtain ⟨np, hnp⟩ : ∃ np, np = s.cfg.n := ⟨_, rfl⟩
  rw [← hme] at c1
  rw [← hid] at c2
  rw [← hnp] at c0
  obtain ⟨z, hz⟩ : ∃ z, z = s.fits ⟨kind, src, dst, kid, first, press, ack, frame, sum⟩ := ⟨_, rfl⟩
  have hz2 : z = (decide (dst = me) && (decide (src < np) && decide (kid = id))) := by rw [hz, Co.fits, hme, hid, hnp]
  have HZ := hide hz
  have HNP := hide hnp
  rw [← hz] at HS HR
  clear ha3 hb3 hs3 hg hz hme hid hnp
  go_cut [46] (fun s46 wx => s46 = .bool (!z) ∧ ∃ nd, wx = w3.drewN nd)
  case first =>
    by_cases h1 : dst = me
    · have d1 : (dst != me) = false := by simp [h1]
      by_cases h2 : src < np
      · have d2 : decide (src ≥ np) = false := decide_eq_false (by omega)
        by_cases h3 : kid = id
        · have d3 : (kid != id) = false := by simp [h3]
          have e : Hid (z = true) := by show _ = _; rw [hz2, decide_eq_true h1, decide_eq_true h2, decide_eq_true h3]; rfl
          clear hz2 h1 h2 h3
          go_quiet (fail)
          go_wp2_with fail
          go_meet
          exact ⟨by rw [e.out]; rfl, _, rfl⟩
        · have d3 : (kid != id) = true := by simp [h3]
          have e : Hid (z = false) := by show _ = _; rw [hz2, decide_eq_true h1, decide_eq_true h2, decide_eq_false h3]; rfl
          clear hz2 h1 h2 h3
          go_quiet (fail)
          go_wp2_with fail
          go_meet
          exact ⟨by rw [e.out]; rfl, _, rfl⟩
      · have d2 : decide (src ≥ np) = true := decide_eq_true (by omega)
        have e : Hid (z = false) := by show _ = _; rw [hz2, decide_eq_true h1, decide_eq_false h2]; rfl
        clear hz2 h1 h2
        go_quiet (fail)
        go_wp2_with fail
        go_meet
        exact ⟨by rw [e.out]; rfl, _, rfl⟩
    · have d1 : (dst != me) = true := by simp [h1]
      have e : Hid (z = false) := by show _ = _; rw [hz2, decide_eq_false h1]; rfl
      clear hz2 h1
      go_quiet (fail)
      go_wp2_with fail
      go_meet
      exact ⟨by rw [e.out]; rfl, _, rfl⟩
  case rest =>
  obtain ⟨rfl, nd, hnd⟩ := hcut
  obtain ⟨W4, hW4⟩ : ∃ W4, W4 = wc := ⟨_, rfl⟩
  subst hW4
  have HP4 : Hid (Arr 41 W4 g (Pkt.row ⟨kind, src, dst, kid, first, press, ack, frame, sum⟩ (.slice A2 n2 cc2))) := by show Arr _ _ _ _; rw [hnd]; exact HP3.out.drewN nd
  have HB4 : Hid (Below w.heap.size w W4) := by show Below _ _ _; rw [hnd]; exact Below_drewN HB3.out nd
  have HL4 : Hid (LiesB W4 w2.heap.size A2 n2 press) := by show LiesB _ _ _ _ _; rw [hnd]; exact HL3.out.drewN nd
  clear hnd HP3 HB3 HL3 HL2 c1 c2 c0 q1 q2 q3
  cases z with
  | false =>
    go_wp2_with fail
    go_ret
    refine ⟨by rw [HR.out]; rfl, p, ?_, Stp.of_below HB4.out⟩
    rw [HS.out, if_neg (by decide)]
    exact H.out.below HB4.out
  | true =>
    rw [if_pos rfl] at HS HR
    have hnpl : (s.peers.length : Int) = np := by rw [HNP.out]; exact H.out.ok.np
    have hjn : j < s.peers.length := by
      have h1 := hz2
      simp only [Bool.true_eq, Bool.and_eq_true, decide_eq_true_eq] at h1
      have := HJ.out
      omega
    have hjm : (j : Int) ≠ me := by
      have h1 := hz2
      simp only [Bool.true_eq, Bool.and_eq_true, decide_eq_true_eq] at h1
      have h3 := HFINE.out.ne
      simp only at h3
      rw [← h1.1, ← HJ.out]
      exact h3
    have HC4 := hide (H.out.below HB4.out)
    have c11 := HC4.out.cell (coRow_peers s p)
    have q1 := HP4.out.cell (j := 1) (by simp)
    simp only [List.getElem_cons_zero, List.getElem_cons_succ] at q1
    rw [HJ.out] at q1
    obtain ⟨npl, hnpl2⟩ : ∃ npl, npl = s.peers.length := ⟨_, rfl⟩
    rw [← hnpl2] at c11
    have hjl : (j : Int) < (npl : Int) := by rw [hnpl2]; omega
    have HJN := hide hjn
    have HJM := hide hjm
    have HNPL := hide hnpl2
    clear hz2 hnpl hjn hjm hnpl2
    go_upto_region 6 with fail
    go_cut [7] (fun s7 wx => s7 = .pointer (some ⟨p.g, j * 5, none⟩) ∧ ∃ nd, wx = W4.drewN nd)
    case first =>
      go_quiet (fail)
      go_wp2_with fail
      go_meet
      exact ⟨rfl, _, rfl⟩
    case rest =>
    obtain ⟨rfl, nd, hnd⟩ := hcut
    obtain ⟨W5, hW5⟩ : ∃ W5, W5 = wc := ⟨_, rfl⟩
    subst hW5
    have HP5 : Hid (Arr 41 W5 g (Pkt.row ⟨kind, src, dst, kid, first, press, ack, frame, sum⟩ (.slice A2 n2 cc2))) := by show Arr _ _ _ _; rw [hnd]; exact HP4.out.drewN nd
    have HB5 : Hid (Below w.heap.size w W5) := by show Below _ _ _; rw [hnd]; exact Below_drewN HB4.out nd
    have HL5 : Hid (LiesB W5 w2.heap.size A2 n2 press) := by show LiesB _ _ _ _ _; rw [hnd]; exact HL4.out.drewN nd
    have HC5 := hide (H.out.below HB5.out)
    clear hnd HP4 HB4 HL4 HC4 c11 q1
    obtain ⟨pr, hpr⟩ : ∃ pr, pr = s.peers[j]'HJN.out := ⟨_, rfl⟩
    have HPR : Hid (s.pr j = pr) := by show _ = _; rw [hpr, Co.pr, List.getD_eq_getElem?_getD, List.getElem?_eq_getElem HJN.out]; rfl
    have HPM : Hid (pr ∈ s.peers) := by rw [hpr]; exact List.getElem_mem _
    have cN := HC5.out.cell (coRow_now s p)
    have cH := HC5.out.pcell (i := j) (j := 1) (v := .int .i64 pr.heard) HJN.out (by omega) (by rw [hpr]; rfl)
    have fH := HC5.out.pfrozen (j * 5 + 1)
    have HS1 := hide (HC5.out.setPeer j 1 (.int .i64 s.now) { pr with heard := s.now } HJN.out (by omega) (by rw [hpr]; rfl) (HC5.out.ok.setPeer j _ (HC5.out.ok.has pr HPM.out) ⟨HC5.out.ok.now.1, Int.le_refl _⟩ (HC5.out.ok.frame pr HPM.out) (HC5.out.ok.sum pr HPM.out)))
    have HE1 : Hid ({ s with peers := s.peers.set j { pr with heard := s.now } } = s.hear1 j) := by show _ = _; rw [Co.hear1, HPR.out]; rfl
    have hpg : p.g < w.heap.size := (H.out.blocks p.g (.inr (.inr (.inr (.inr (.inl rfl)))))).2
    have hgw : w.heap.size ≤ g := by rw [HG.out]; exact HB2.out.size
    have hpgne : g ≠ p.g := by omega
    have HKK := hide (Keeps.setCell W5 ⟨p.g, j * 5 + 1, none⟩ (.int .i64 s.now))
    clear hpr
    go_upto_region 8 with fail
    generalize World.setCell W5 _ _ = W6 at HS1 HKK ⊢
    have HC6 : Hid (CAt B W6 x p (s.hear1 j)) := by rw [← HE1.out]; exact HS1.out.1
    have HST6 := hide ((Stp.of_below HB5.out).trans HS1.out.2)
    have HP6 := hide (HP5.out.keeps HKK.out (by show ¬ g = p.g; omega))
    have HL6 := hide (HL5.out.keeps HKK.out (fun bk off h1 h2 hm => by have := HFR.out bk off h1 h2; have hm : bk = p.g := hm; omega))
    have hsl1 : (s.hear1 j).peers.length = s.peers.length := by rw [← HE1.out]; exact List.length_set
    have hev1 : (s.hear1 j).events = s.events := by rw [← HE1.out]
    have HSL1 := hide hsl1
    have HEV1 := hide hev1
    have q0 := HP6.out.cell (j := 0) (by simp)
    simp only [List.getElem_cons_zero] at q0
    clear HS1 HKK HP5 HL5 HC5 cN cH fH hsl1 hev1
    rcases HFINE.out.kind with ⟨hk1, hkfi, hka, hkf, hkp⟩ | ⟨hk2, -⟩
    · simp only at hk1 hkfi hka hkf hkp
      have d2 : (kind == 2) = false := by rw [hk1]; rfl
      have HS0 : Hid (S = ((((s.hear1 j).hear2 j ⟨kind, src, dst, kid, first, press, ack, frame, sum⟩).hear3 j ⟨kind, src, dst, kid, first, press, ack, frame, sum⟩).hear4 j ⟨kind, src, dst, kid, first, press, ack, frame, sum⟩).hold) := by
        show _ = _
        rw [HS.out, Co.hear, if_neg (by show ¬ kind = 2; omega)]
        have e : (Pkt.src ⟨kind, src, dst, kid, first, press, ack, frame, sum⟩).toNat = j := by show src.toNat = j; rw [HJ.out]; rfl
        rw [e]
      have hjxs : j < p.xs.length := by rw [H.out.nx]; exact HJN.out
      have h8 : p.xs.length ≤ 8 := by have := H.out.nx; have := H.out.ok.np; have := H.out.ok.cfg.n; omega
      have c10 := HC6.out.cell (coRow_q _ _)
      have q1 := HP6.out.cell (j := 1) (by simp)
      have q4 := HP6.out.cell (j := 4) (by simp)
      have q5 := HP6.out.cell (j := 5) (by simp)
      simp only [List.getElem_cons_zero, List.getElem_cons_succ] at q1 q4 q5
      rw [HJ.out] at q1
      have hs26 : w2.heap.size ≤ W6.heap.size := by have := HP6.out.lt; have := HG.out; omega
      clear hk1
      go_upto_region 12 with fail
      refine wp_region_noPanic ?_
      refine wp_region_held_drew (S := (fun w' => w'.cell? ⟨x, 10, none⟩ = some (.pointer (some ⟨p.q, 0, none⟩)) ∧ w'.cell? ⟨g, 1, none⟩ = some (.int .i64 (j : Int)) ∧ w'.cell? ⟨g, 4, none⟩ = some (.int .i64 first) ∧ w'.cell? ⟨g, 5, none⟩ = some (.slice A2 n2 cc2))) (by kernel_rfl) ⟨c10, q1, q4, q5⟩ (fun hHeld => ?_)
      refine wpAnyH_take (i := 0) (oi := ?_) (v := ?_) ?_ (by kernel_rfl) (by kernel_rfl) (by kernel_rfl) ?_ ?_ (by assumption) ?_
      rotate_left 2
      · (simp only [List.getElem?_toArray, List.getElem?_cons_zero]; rfl)
      · exact fun _ _ _ h => h
      · (refine Or.inl ⟨by rfl, ?_⟩; intro w hSw; (try dsimp only at hSw); go_simp <;> with_reducible rfl)
      try simp only [Act.put, List.setIfInBounds_toArray, List.set_cons_zero, List.set_cons_succ]
      refine wpAnyH_take (i := 1) (oi := ?_) (v := ?_) ?_ (by kernel_rfl) (by kernel_rfl) (by kernel_rfl) ?_ ?_ (by assumption) ?_
      rotate_left 2
      · (simp only [List.getElem?_toArray, List.getElem?_cons_succ, List.getElem?_cons_zero]; rfl)
      · exact fun _ _ _ h => h
      · (refine Or.inl ⟨by rfl, ?_⟩; intro w hSw; (try dsimp only at hSw); go_simp <;> with_reducible rfl)
      try simp only [Act.put, List.setIfInBounds_toArray, List.set_cons_zero, List.set_cons_succ]
      refine wpAnyH_take (i := 2) (oi := ?_) (v := ?_) ?_ (by kernel_rfl) (by kernel_rfl) (by kernel_rfl) ?_ ?_ (by assumption) ?_
      rotate_left 2
      · (simp only [List.getElem?_toArray, List.getElem?_cons_succ, List.getElem?_cons_zero]; rfl)
      · exact fun _ _ _ h => h
      · (refine Or.inl ⟨by rfl, ?_⟩; intro w hSw; (try dsimp only at hSw); go_simp <;> with_reducible rfl)
      try simp only [Act.put, List.setIfInBounds_toArray, List.set_cons_zero, List.set_cons_succ]
      refine wpAnyH_take (i := 3) (oi := ?_) (v := ?_) ?_ (by kernel_rfl) (by kernel_rfl) (by kernel_rfl) ?_ ?_ (by assumption) ?_
      rotate_left 2
      · (simp only [List.getElem?_toArray, List.getElem?_cons_succ, List.getElem?_cons_zero]; rfl)
      · exact fun _ _ _ h => h
      · (refine Or.inl ⟨by rfl, ?_⟩; intro w hSw; (try dsimp only at hSw); go_simp <;> with_reducible rfl)
      try simp only [Act.put, List.setIfInBounds_toArray, List.set_cons_zero, List.set_cons_succ]
      refine wpAnyH_take (i := 4) (oi := ?_) (v := ?_) ?_ (by kernel_rfl) (by kernel_rfl) (by kernel_rfl) ?_ ?_ (by assumption) ?_
      rotate_left 2
      · (simp only [List.getElem?_toArray, List.getElem?_cons_succ, List.getElem?_cons_zero]; rfl)
      · exact fun _ _ _ h => h
      · (refine Or.inl ⟨by rfl, ?_⟩; intro w hSw; (try dsimp only at hSw); go_simp <;> with_reducible rfl)
      try simp only [Act.put, List.setIfInBounds_toArray, List.set_cons_zero, List.set_cons_succ]
      refine wpAnyH_take (i := 5) (oi := ?_) (v := ?_) ?_ (by kernel_rfl) (by kernel_rfl) (by kernel_rfl) ?_ ?_ (by assumption) ?_
      rotate_left 2
      · (simp only [List.getElem?_toArray, List.getElem?_cons_succ, List.getElem?_cons_zero]; rfl)
      · exact fun _ _ _ h => h
      · (refine Or.inl ⟨by rfl, ?_⟩; intro w hSw; (try dsimp only at hSw); go_simp <;> with_reducible rfl)
      try simp only [Act.put, List.setIfInBounds_toArray, List.set_cons_zero, List.set_cons_succ]
      refine wpAnyH_take (i := 7) (oi := ?_) (v := ?_) ?_ (by kernel_rfl) (by kernel_rfl) (by kernel_rfl) ?_ ?_ (by assumption) ?_
      rotate_left 2
      · (simp only [List.getElem?_toArray, List.getElem?_cons_succ, List.getElem?_cons_zero]; rfl)
      · exact fun _ _ _ h => h
      · (refine Or.inl ⟨by rfl, ?_⟩; intro w hSw; (try dsimp only at hSw); go_simp <;> with_reducible rfl)
      try simp only [Act.put, List.setIfInBounds_toArray, List.set_cons_zero, List.set_cons_succ]
      refine wpAnyH_take (i := 8) (oi := ?_) (v := ?_) ?_ (by kernel_rfl) (by kernel_rfl) (by kernel_rfl) ?_ ?_ (by assumption) ?_
      rotate_left 2
      · (simp only [List.getElem?_toArray, List.getElem?_cons_succ, List.getElem?_cons_zero]; rfl)
      · exact fun _ _ _ h => h
      · (refine Or.inl ⟨by rfl, ?_⟩; intro w hSw; (try dsimp only at hSw); go_simp <;> with_reducible rfl)
      try simp only [Act.put, List.setIfInBounds_toArray, List.set_cons_zero, List.set_cons_succ]
      refine wpAnyH_take (i := 9) (oi := ?_) (v := ?_) ?_ (by kernel_rfl) (by kernel_rfl) (by kernel_rfl) ?_ ?_ (by assumption) ?_
      rotate_left 2
      · (simp only [List.getElem?_toArray, List.getElem?_cons_succ, List.getElem?_cons_zero]; rfl)
      · exact fun _ _ _ h => h
      · (refine Or.inl ⟨by rfl, ?_⟩; intro w hSw; (try dsimp only at hSw); go_simp <;> with_reducible rfl)
      try simp only [Act.put, List.setIfInBounds_toArray, List.set_cons_zero, List.set_cons_succ]
      refine wpAnyH_take (i := 10) (oi := ?_) (v := ?_) ?_ (by kernel_rfl) (by kernel_rfl) (by kernel_rfl) ?_ ?_ (by assumption) ?_
      rotate_left 2
      · (simp only [List.getElem?_toArray, List.getElem?_cons_succ, List.getElem?_cons_zero]; rfl)
      · exact fun _ _ _ h => h
      · (refine Or.inl ⟨by rfl, ?_⟩; intro w hSw; (try dsimp only at hSw); go_simp <;> with_reducible rfl)
      try simp only [Act.put, List.setIfInBounds_toArray, List.set_cons_zero, List.set_cons_succ]
      refine wpAnyH_ready (rs := [6]) (by kernel_rfl) (by simp) ?_
      refine AllReadyH.cons (o := ?_) ?_ (fun K hK => ?_) AllReadyH.nil
      rotate_left 1
      · (simp only [List.getElem?_toArray, List.getElem?_cons_succ, List.getElem?_cons_zero]; rfl)
      go_simp
      refine Calls.mono (queue_Line HC6.out.drew.q j hjxs (by omega) rfl rfl) ?_
      rintro r w3 ⟨rfl, rfl⟩
      refine hK.out _ _ ⟨c10, q1, q4, q5⟩ (fun hHeld => ?_)
      clear hK K
      try simp only [Act.put, List.setIfInBounds_toArray, List.set_cons_zero, List.set_cons_succ]
      refine wpAnyH_ready (rs := [11]) (by kernel_rfl) (by simp) ?_
      refine AllReadyH.cons (o := ?_) ?_ (fun K hK => ?_) AllReadyH.nil
      rotate_left 1
      · (simp only [List.getElem?_toArray, List.getElem?_cons_succ, List.getElem?_cons_zero]; rfl)
      go_simp
      refine Calls.mono (line_Put_v _ _ ((s.hear1 j).ls.getD j []) first A2 n2 cc2 press _ _ _ _ (HC6.out.drew.line j hjxs) (HL6.out.drew.more hs26) ?_ (by omega) (by omega) (by omega) rfl rfl rfl) ?_
      · intro bk off h1 h2 hm
        have hf := HFR.out bk off h1 h2
        have hlb := (H.out.blocks bk (.inr (.inr (.inr (.inl ⟨j, hjxs, hm⟩))))).2
        omega
      rintro r w7 ⟨rfl, g', hl7, hk7, hg7⟩
      have HC7 := hide (HC6.out.drew.setLine (Nat.le_trans HB.out HST6.out.keeps.size) j hjxs hl7 hk7 hg7 hl7.1 (by rw [List.length_append]; omega))
      have HP7 := hide (HP6.out.drew.off HC7.out.2.keeps (HC6.out.drew.off (Ts := [41]) (by decide)) (by simp))
      have r1 := HP7.out.cell (j := 1) (by simp)
      have r4 := HP7.out.cell (j := 4) (by simp)
      have r5 := HP7.out.cell (j := 5) (by simp)
      simp only [List.getElem_cons_zero, List.getElem_cons_succ] at r1 r4 r5
      rw [HJ.out] at r1
      refine hK.out _ _ ⟨HC7.out.1.cell (coRow_q _ _), r1, r4, r5⟩ (fun hHeld => ?_)
      clear hK K
      try simp only [Act.put, List.setIfInBounds_toArray, List.set_cons_zero, List.set_cons_succ]
      refine wpAnyH_done (by kernel_rfl) (NoPanic.normal ?_) _
      obtain ⟨p7, hp7⟩ : ∃ p7 : CP, p7 = { p with xs := p.xs.set j (p.xs[j].1, g') } := ⟨_, rfl⟩
      have HG7 : Hid (p7.g = p.g) := by show _ = _; rw [hp7]
      have HC8 : Hid (CAt B w7 x p7 ((s.hear1 j).hear2 j ⟨kind, src, dst, kid, first, press, ack, frame, sum⟩)) := by rw [hp7]; exact HC7.out.1
      have HST8 : Hid (Stp w w7 x p p7) := by rw [hp7]; exact (HST6.out.trans (Stp.of_below ((Below.refl _ _).drew))).trans HC7.out.2
      obtain ⟨s2, hs2⟩ : ∃ s2, s2 = (s.hear1 j).hear2 j ⟨kind, src, dst, kid, first, press, ack, frame, sum⟩ := ⟨_, rfl⟩
      rw [← hs2] at HC8 HS0
      have hsl2 : s2.peers.length = s.peers.length := by rw [hs2]; exact HSL1.out
      have hev2 : s2.events = s.events := by rw [hs2]; exact HEV1.out
      obtain ⟨pr2, hpr2⟩ : ∃ pr2, pr2 = s2.peers[j]'(by rw [hsl2]; exact HJN.out) := ⟨_, rfl⟩
      have HPR2 : Hid (s2.pr j = pr2) := by show _ = _; rw [hpr2, Co.pr, List.getD_eq_getElem?_getD, List.getElem?_eq_getElem (by rw [hsl2]; exact HJN.out)]; rfl
      have HPM2 : Hid (pr2 ∈ s2.peers) := by rw [hpr2]; exact List.getElem_mem _
      have ch : w7.cell? ⟨p7.g, j * 5, none⟩ = some (.int .i64 pr2.has) := HC8.out.pcell (i := j) (j := 0) (v := .int .i64 pr2.has) (by rw [hsl2]; exact HJN.out) (by omega) (by rw [← hpr2]; rfl)
      rw [← HG7.out]
      have q6 := HP7.out.cell (j := 6) (by simp)
      simp only [List.getElem_cons_zero, List.getElem_cons_succ] at q6
      obtain ⟨hs, hhs⟩ : ∃ hs, hs = pr2.has := ⟨_, rfl⟩
      rw [← hhs] at ch
      obtain ⟨ml, hml⟩ : ∃ ml, ml = (s2.mine.length : Int) := ⟨_, rfl⟩
      have HML := hide hml
      obtain ⟨az, haz⟩ : ∃ az, az = s2.acks j ⟨kind, src, dst, kid, first, press, ack, frame, sum⟩ := ⟨_, rfl⟩
      have haz2 : az = (decide (ack > hs) && decide (ack ≤ ml)) := by rw [haz, Co.acks, HPR2.out, ← hhs, hml]
      have HAZ := hide haz
      have HSL2 := hide hsl2
      have HEV2 := hide hev2
      have HPR3 : Hid (∀ h : j < s2.peers.length, s2.peers[j]'h = pr2) := fun h => hpr2.symm
      have HS2D := hide hs2
      clear hp7 HC7 hl7 hk7 hg7 haz hhs hml hpr2 hsl2 hev2 hs2 c10 q1 q4 q5 r1 r4 r5 q0 HC6 HP6 HL6
      go_upto_region 13 with fail
      go_cut [97] (fun s97 wx => s97 = .bool az ∧ Below w7.heap.size w7 wx)
      case first =>
        by_cases h1 : ack > hs
        · have d1 : decide (ack > hs) = true := decide_eq_true h1
          obtain ⟨z2, hz2⟩ : ∃ z2 : Bool, decide (ack ≤ ml) = z2 := ⟨_, rfl⟩
          have e : Hid (az = z2) := by show _ = _; rw [haz2, d1, hz2]; rfl
          clear haz2 h1
          refine wp_region_noPanic ?_
          refine wp_region_held_drew (S := (fun w' => w'.cell? ⟨g, 6, none⟩ = some (.int .i64 ack) ∧ w'.cell? ⟨p7.g, j * 5, none⟩ = some (.int .i64 hs))) (by kernel_rfl) ⟨q6, ch⟩ (fun hHeld => ?_)
          refine wpAnyH_take (i := 0) (oi := ?_) (v := ?_) ?_ (by kernel_rfl) (by kernel_rfl) (by kernel_rfl) ?_ ?_ (by assumption) ?_
          rotate_left 2
          · (simp only [List.getElem?_toArray, List.getElem?_cons_zero]; rfl)
          · exact fun _ _ _ h => h
          · (refine Or.inl ⟨by rfl, ?_⟩; intro w hSw; (try dsimp only at hSw); go_simp <;> with_reducible rfl)
          try simp only [Act.put, List.setIfInBounds_toArray, List.set_cons_zero, List.set_cons_succ]
          refine wpAnyH_take (i := 1) (oi := ?_) (v := ?_) ?_ (by kernel_rfl) (by kernel_rfl) (by kernel_rfl) ?_ ?_ (by assumption) ?_
          rotate_left 2
          · (simp only [List.getElem?_toArray, List.getElem?_cons_succ, List.getElem?_cons_zero]; rfl)
          · exact fun _ _ _ h => h
          · (refine Or.inl ⟨by rfl, ?_⟩; intro w hSw; (try dsimp only at hSw); go_simp <;> with_reducible rfl)
          try simp only [Act.put, List.setIfInBounds_toArray, List.set_cons_zero, List.set_cons_succ]
          refine wpAnyH_take (i := 2) (oi := ?_) (v := ?_) ?_ (by kernel_rfl) (by kernel_rfl) (by kernel_rfl) ?_ ?_ (by assumption) ?_
          rotate_left 2
          · (simp only [List.getElem?_toArray, List.getElem?_cons_succ, List.getElem?_cons_zero]; rfl)
          · exact fun _ _ _ h => h
          · (refine Or.inl ⟨by rfl, ?_⟩; intro w hSw; (try dsimp only at hSw); go_simp <;> with_reducible rfl)
          try simp only [Act.put, List.setIfInBounds_toArray, List.set_cons_zero, List.set_cons_succ]
          refine wpAnyH_take (i := 3) (oi := ?_) (v := ?_) ?_ (by kernel_rfl) (by kernel_rfl) (by kernel_rfl) ?_ ?_ (by assumption) ?_
          rotate_left 2
          · (simp only [List.getElem?_toArray, List.getElem?_cons_succ, List.getElem?_cons_zero]; rfl)
          · exact fun _ _ _ h => h
          · (refine Or.inl ⟨by rfl, ?_⟩; intro w hSw; (try dsimp only at hSw); go_simp <;> with_reducible rfl)
          try simp only [Act.put, List.setIfInBounds_toArray, List.set_cons_zero, List.set_cons_succ]
          refine wpAnyH_take (i := 4) (oi := ?_) (v := ?_) ?_ (by kernel_rfl) (by kernel_rfl) (by kernel_rfl) ?_ ?_ (by assumption) ?_
          rotate_left 2
          · (simp only [List.getElem?_toArray, List.getElem?_cons_succ, List.getElem?_cons_zero]; rfl)
          · exact fun _ _ _ h => h
          · (refine Or.inl ⟨by rfl, ?_⟩; intro w hSw; (try dsimp only at hSw); go_simp <;> with_reducible rfl)
          try simp only [Act.put, List.setIfInBounds_toArray, List.set_cons_zero, List.set_cons_succ]
          refine wpAnyH_take (i := 5) (oi := ?_) (v := ?_) ?_ (by kernel_rfl) (by kernel_rfl) (by kernel_rfl) ?_ ?_ (by assumption) ?_
          rotate_left 2
          · (simp only [List.getElem?_toArray, List.getElem?_cons_succ, List.getElem?_cons_zero]; rfl)
          · exact fun _ _ _ h => h
          · (refine Or.inl ⟨by rfl, ?_⟩; intro w hSw; (try dsimp only at hSw); go_simp <;> with_reducible rfl)
          try simp only [Act.put, List.setIfInBounds_toArray, List.set_cons_zero, List.set_cons_succ]
          refine wpAnyH_take (i := 6) (oi := ?_) (v := ?_) ?_ (by kernel_rfl) (by kernel_rfl) (by kernel_rfl) ?_ ?_ (by assumption) ?_
          rotate_left 2
          · (simp only [List.getElem?_toArray, List.getElem?_cons_succ, List.getElem?_cons_zero]; rfl)
          · exact fun _ _ _ h => h
          · (refine Or.inl ⟨by rfl, ?_⟩; intro w hSw; (try dsimp only at hSw); go_simp <;> with_reducible rfl)
          try simp only [Act.put, List.setIfInBounds_toArray, List.set_cons_zero, List.set_cons_succ]
          refine wpAnyH_take (i := 7) (oi := ?_) (v := ?_) ?_ (by kernel_rfl) (by kernel_rfl) (by kernel_rfl) ?_ ?_ (by assumption) ?_
          rotate_left 2
          · (simp only [List.getElem?_toArray, List.getElem?_cons_succ, List.getElem?_cons_zero]; rfl)
          · exact fun _ _ _ h => h
          · (refine Or.inl ⟨by rfl, ?_⟩; intro w hSw; (try dsimp only at hSw); go_simp <;> with_reducible rfl)
          try simp only [Act.put, List.setIfInBounds_toArray, List.set_cons_zero, List.set_cons_succ]
          refine wpAnyH_take (i := 8) (oi := ?_) (v := ?_) ?_ (by kernel_rfl) (by kernel_rfl) (by kernel_rfl) ?_ ?_ (by assumption) ?_
          rotate_left 2
          · (simp only [List.getElem?_toArray, List.getElem?_cons_succ, List.getElem?_cons_zero]; rfl)
          · exact fun _ _ _ h => h
          · (refine Or.inl ⟨by rfl, ?_⟩; intro w hSw; (try dsimp only at hSw); go_simp <;> with_reducible rfl)
          try simp only [Act.put, List.setIfInBounds_toArray, List.set_cons_zero, List.set_cons_succ]
          refine wpAnyH_take (i := 9) (oi := ?_) (v := ?_) ?_ (by kernel_rfl) (by kernel_rfl) (by kernel_rfl) ?_ ?_ (by assumption) ?_
          rotate_left 2
          · (simp only [List.getElem?_toArray, List.getElem?_cons_succ, List.getElem?_cons_zero]; rfl)
          · exact fun _ _ _ h => h
          · (refine Or.inl ⟨by rfl, ?_⟩; intro w hSw; (try dsimp only at hSw); go_simp <;> with_reducible rfl)
          try simp only [Act.put, List.setIfInBounds_toArray, List.set_cons_zero, List.set_cons_succ]
          refine wpAnyH_take (i := 10) (oi := ?_) (v := ?_) ?_ (by kernel_rfl) (by kernel_rfl) (by kernel_rfl) ?_ ?_ (by assumption) ?_
          rotate_left 2
          · (simp only [List.getElem?_toArray, List.getElem?_cons_succ, List.getElem?_cons_zero]; rfl)
          · exact fun _ _ _ h => h
          · (refine Or.inl ⟨by rfl, ?_⟩; intro w hSw; (try dsimp only at hSw); go_simp <;> with_reducible rfl)
          try simp only [Act.put, List.setIfInBounds_toArray, List.set_cons_zero, List.set_cons_succ]
          refine wpAnyH_ready (rs := [11]) (by kernel_rfl) (by simp) ?_
          refine AllReadyH.cons (o := ?_) ?_ (fun K hK => ?_) AllReadyH.nil
          rotate_left 1
          · (simp only [List.getElem?_toArray, List.getElem?_cons_succ, List.getElem?_cons_zero]; rfl)
          go_simp
          refine Calls.mono (core_Head HC8.out.drew) ?_
          rw [← HML.out]
          rintro r w8 ⟨rfl, hb8⟩
          refine hK.out _ _ ⟨below_cell hb8 q6, below_cell hb8 ch⟩ (fun hHeld => ?_)
          clear hK K
          try simp only [Act.put, List.setIfInBounds_toArray, List.set_cons_zero, List.set_cons_succ]
          refine wpAnyH_take (i := 12) (oi := ?_) (v := .bool z2) ?_ (by kernel_rfl) (by kernel_rfl) (by kernel_rfl) ?_ ?_ (by assumption) ?_
          rotate_left 1
          · (simp only [List.getElem?_toArray, List.getElem?_cons_succ, List.getElem?_cons_zero]; rfl)
          · exact fun _ _ _ h => h
          · (refine Or.inl ⟨by rfl, ?_⟩; intro w hSw; (try dsimp only at hSw); (rw [← hz2]; go_simp <;> with_reducible rfl))
          try simp only [Act.put, List.setIfInBounds_toArray, List.set_cons_zero, List.set_cons_succ]
          refine wpAnyH_take (i := 13) (oi := ?_) (v := ?_) ?_ (by kernel_rfl) (by kernel_rfl) (by kernel_rfl) ?_ ?_ (by assumption) ?_
          rotate_left 2
          · (simp only [List.getElem?_toArray, List.getElem?_cons_succ, List.getElem?_cons_zero]; rfl)
          · exact fun _ _ _ h => h
          · (refine Or.inl ⟨by rfl, ?_⟩; intro w hSw; (try dsimp only at hSw); go_simp <;> with_reducible rfl)
          try simp only [Act.put, List.setIfInBounds_toArray, List.set_cons_zero, List.set_cons_succ]
          refine wpAnyH_done (by kernel_rfl) (NoPanic.normal ?_) _
          go_wp2_with fail
          go_meet
          exact ⟨by rw [e.out], ⟨hb8.os, hb8.tape, hb8.output, hb8.size, hb8.block⟩⟩
        · have d1 : decide (ack > hs) = false := decide_eq_false h1
          have e : Hid (az = false) := by show _ = _; rw [haz2, d1]; rfl
          clear haz2 h1
          refine wp_region_noPanic ?_
          refine wp_region_held_drew (S := (fun w' => w'.cell? ⟨g, 6, none⟩ = some (.int .i64 ack) ∧ w'.cell? ⟨p7.g, j * 5, none⟩ = some (.int .i64 hs))) (by kernel_rfl) ⟨q6, ch⟩ (fun hHeld => ?_)
          refine wpAnyH_take (i := 0) (oi := ?_) (v := ?_) ?_ (by kernel_rfl) (by kernel_rfl) (by kernel_rfl) ?_ ?_ (by assumption) ?_
          rotate_left 2
          · (simp only [List.getElem?_toArray, List.getElem?_cons_zero]; rfl)
          · exact fun _ _ _ h => h
          · (refine Or.inl ⟨by rfl, ?_⟩; intro w hSw; (try dsimp only at hSw); go_simp <;> with_reducible rfl)
          try simp only [Act.put, List.setIfInBounds_toArray, List.set_cons_zero, List.set_cons_succ]
          refine wpAnyH_take (i := 1) (oi := ?_) (v := ?_) ?_ (by kernel_rfl) (by kernel_rfl) (by kernel_rfl) ?_ ?_ (by assumption) ?_
          rotate_left 2
          · (simp only [List.getElem?_toArray, List.getElem?_cons_succ, List.getElem?_cons_zero]; rfl)
          · exact fun _ _ _ h => h
          · (refine Or.inl ⟨by rfl, ?_⟩; intro w hSw; (try dsimp only at hSw); go_simp <;> with_reducible rfl)
          try simp only [Act.put, List.setIfInBounds_toArray, List.set_cons_zero, List.set_cons_succ]
          refine wpAnyH_take (i := 2) (oi := ?_) (v := ?_) ?_ (by kernel_rfl) (by kernel_rfl) (by kernel_rfl) ?_ ?_ (by assumption) ?_
          rotate_left 2
          · (simp only [List.getElem?_toArray, List.getElem?_cons_succ, List.getElem?_cons_zero]; rfl)
          · exact fun _ _ _ h => h
          · (refine Or.inl ⟨by rfl, ?_⟩; intro w hSw; (try dsimp only at hSw); go_simp <;> with_reducible rfl)
          try simp only [Act.put, List.setIfInBounds_toArray, List.set_cons_zero, List.set_cons_succ]
          refine wpAnyH_take (i := 3) (oi := ?_) (v := ?_) ?_ (by kernel_rfl) (by kernel_rfl) (by kernel_rfl) ?_ ?_ (by assumption) ?_
          rotate_left 2
          · (simp only [List.getElem?_toArray, List.getElem?_cons_succ, List.getElem?_cons_zero]; rfl)
          · exact fun _ _ _ h => h
          · (refine Or.inl ⟨by rfl, ?_⟩; intro w hSw; (try dsimp only at hSw); go_simp <;> with_reducible rfl)
          try simp only [Act.put, List.setIfInBounds_toArray, List.set_cons_zero, List.set_cons_succ]
          refine wpAnyH_take (i := 4) (oi := ?_) (v := ?_) ?_ (by kernel_rfl) (by kernel_rfl) (by kernel_rfl) ?_ ?_ (by assumption) ?_
          rotate_left 2
          · (simp only [List.getElem?_toArray, List.getElem?_cons_succ, List.getElem?_cons_zero]; rfl)
          · exact fun _ _ _ h => h
          · (refine Or.inl ⟨by rfl, ?_⟩; intro w hSw; (try dsimp only at hSw); go_simp <;> with_reducible rfl)
          try simp only [Act.put, List.setIfInBounds_toArray, List.set_cons_zero, List.set_cons_succ]
          refine wpAnyH_take (i := 5) (oi := ?_) (v := ?_) ?_ (by kernel_rfl) (by kernel_rfl) (by kernel_rfl) ?_ ?_ (by assumption) ?_
          rotate_left 2
          · (simp only [List.getElem?_toArray, List.getElem?_cons_succ, List.getElem?_cons_zero]; rfl)
          · exact fun _ _ _ h => h
          · (refine Or.inl ⟨by rfl, ?_⟩; intro w hSw; (try dsimp only at hSw); go_simp <;> with_reducible rfl)
          try simp only [Act.put, List.setIfInBounds_toArray, List.set_cons_zero, List.set_cons_succ]
          refine wpAnyH_take (i := 6) (oi := ?_) (v := ?_) ?_ (by kernel_rfl) (by kernel_rfl) (by kernel_rfl) ?_ ?_ (by assumption) ?_
          rotate_left 2
          · (simp only [List.getElem?_toArray, List.getElem?_cons_succ, List.getElem?_cons_zero]; rfl)
          · exact fun _ _ _ h => h
          · (refine Or.inl ⟨by rfl, ?_⟩; intro w hSw; (try dsimp only at hSw); go_simp <;> with_reducible rfl)
          try simp only [Act.put, List.setIfInBounds_toArray, List.set_cons_zero, List.set_cons_succ]
          refine wpAnyH_take (i := 7) (oi := ?_) (v := ?_) ?_ (by kernel_rfl) (by kernel_rfl) (by kernel_rfl) ?_ ?_ (by assumption) ?_
          rotate_left 2
          · (simp only [List.getElem?_toArray, List.getElem?_cons_succ, List.getElem?_cons_zero]; rfl)
          · exact fun _ _ _ h => h
          · (refine Or.inl ⟨by rfl, ?_⟩; intro w hSw; (try dsimp only at hSw); go_simp <;> with_reducible rfl)
          try simp only [Act.put, List.setIfInBounds_toArray, List.set_cons_zero, List.set_cons_succ]
          refine wpAnyH_take (i := 8) (oi := ?_) (v := undef) ?_ (by kernel_rfl) (by kernel_rfl) (by kernel_rfl) ?_ ?_ (by assumption) ?_
          rotate_left 1
          · (simp only [List.getElem?_toArray, List.getElem?_cons_succ, List.getElem?_cons_zero]; rfl)
          · exact fun _ _ _ h => h
          · exact Or.inr ⟨by rfl, rfl⟩
          try simp only [Act.put, List.setIfInBounds_toArray, List.set_cons_zero, List.set_cons_succ]
          refine wpAnyH_take (i := 9) (oi := ?_) (v := undef) ?_ (by kernel_rfl) (by kernel_rfl) (by kernel_rfl) ?_ ?_ (by assumption) ?_
          rotate_left 1
          · (simp only [List.getElem?_toArray, List.getElem?_cons_succ, List.getElem?_cons_zero]; rfl)
          · exact fun _ _ _ h => h
          · exact Or.inr ⟨by rfl, rfl⟩
          try simp only [Act.put, List.setIfInBounds_toArray, List.set_cons_zero, List.set_cons_succ]
          refine wpAnyH_take (i := 10) (oi := ?_) (v := undef) ?_ (by kernel_rfl) (by kernel_rfl) (by kernel_rfl) ?_ ?_ (by assumption) ?_
          rotate_left 1
          · (simp only [List.getElem?_toArray, List.getElem?_cons_succ, List.getElem?_cons_zero]; rfl)
          · exact fun _ _ _ h => h
          · exact Or.inr ⟨by rfl, rfl⟩
          try simp only [Act.put, List.setIfInBounds_toArray, List.set_cons_zero, List.set_cons_succ]
          refine wpAnyH_take (i := 11) (oi := ?_) (v := undef) ?_ (by kernel_rfl) (by kernel_rfl) (by kernel_rfl) ?_ ?_ (by assumption) ?_
          rotate_left 1
          · (simp only [List.getElem?_toArray, List.getElem?_cons_succ, List.getElem?_cons_zero]; rfl)
          · exact fun _ _ _ h => h
          · exact Or.inr ⟨by rfl, rfl⟩
          try simp only [Act.put, List.setIfInBounds_toArray, List.set_cons_zero, List.set_cons_succ]
          refine wpAnyH_take (i := 12) (oi := ?_) (v := undef) ?_ (by kernel_rfl) (by kernel_rfl) (by kernel_rfl) ?_ ?_ (by assumption) ?_
          rotate_left 1
          · (simp only [List.getElem?_toArray, List.getElem?_cons_succ, List.getElem?_cons_zero]; rfl)
          · exact fun _ _ _ h => h
          · exact Or.inr ⟨by rfl, rfl⟩
          try simp only [Act.put, List.setIfInBounds_toArray, List.set_cons_zero, List.set_cons_succ]
          refine wpAnyH_take (i := 13) (oi := ?_) (v := ?_) ?_ (by kernel_rfl) (by kernel_rfl) (by kernel_rfl) ?_ ?_ (by assumption) ?_
          rotate_left 2
          · (simp only [List.getElem?_toArray, List.getElem?_cons_succ, List.getElem?_cons_zero]; rfl)
          · exact fun _ _ _ h => h
          · (refine Or.inl ⟨by rfl, ?_⟩; intro w hSw; (try dsimp only at hSw); go_simp <;> with_reducible rfl)
          try simp only [Act.put, List.setIfInBounds_toArray, List.set_cons_zero, List.set_cons_succ]
          refine wpAnyH_done (by kernel_rfl) (NoPanic.normal ?_) _
          go_wp2_with fail
          go_meet
          exact ⟨by rw [e.out], (Below.refl _ _).drew⟩
      case rest =>
      obtain ⟨rfl, hb9⟩ := hcut
      obtain ⟨W9, hW9⟩ : ∃ W9, W9 = wc := ⟨_, rfl⟩
      subst hW9
      have HC9 := hide (HC8.out.below hb9)
      have HST9 := hide (HST8.out.trans (Stp.of_below hb9))
      have HP9 := hide (HP7.out.belowN hb9)
      clear hb9 q6 ch haz2
      cases az with
      | false =>
        obtain ⟨px, hpx⟩ : ∃ px, px = p7 := ⟨_, rfl⟩
        subst hpx
        have HS2 : Hid (S = (s2.hear4 j ⟨kind, src, dst, kid, first, press, ack, frame, sum⟩).hold) := by show _ = _; rw [HS0.out, Co.hear3, ← HAZ.out, if_neg (by decide)]
        have hsl : s2.peers.length = s.peers.length := HSL2.out
        have hsev : s2.events = s.events := HEV2.out
        obtain ⟨sx, hsx⟩ : ∃ sx, sx = s2 := ⟨_, rfl⟩
        have HSX := hide hsx
        have HCX := hide (show CAt B W9 x px sx by rw [hsx]; exact HC9.out)
        have HPX := hide HP9.out
        have HSTX := hide (show Stp w W9 x p px from HST9.out)
        have hplen : sx.peers.length = s.peers.length := by rw [hsx]; exact hsl
        have hevl : sx.events = s.events := by rw [hsx]; exact hsev
        have HENX : Hid (px.en ≤ 999999000) := by show _ ≤ _; have h1 := HCX.out.en; have h2 := H.out.en; rw [hevl] at h1; omega
        obtain ⟨prx, hprx⟩ : ∃ prx, prx = sx.peers[j]'(by rw [hplen]; exact HJN.out) := ⟨_, rfl⟩
        have HPRX : Hid (sx.pr j = prx) := by show _ = _; rw [hprx, Co.pr, List.getD_eq_getElem?_getD, List.getElem?_eq_getElem (by rw [hplen]; exact HJN.out)]; rfl
        have HPRM : Hid (prx ∈ sx.peers) := by rw [hprx]; exact List.getElem_mem _
        have c2 := HCX.out.pcell (i := j) (j := 2) (v := .int .i64 prx.frame) (by rw [hplen]; exact HJN.out) (by omega) (by rw [← hprx]; rfl)
        obtain ⟨fr, hfr⟩ : ∃ fr, fr = prx.frame := ⟨_, rfl⟩
        rw [← hfr] at c2
        have q7 := HPX.out.cell (j := 7) (by simp)
        simp only [List.getElem_cons_zero, List.getElem_cons_succ] at q7
        obtain ⟨wz, hwz⟩ : ∃ wz, wz = sx.words j ⟨kind, src, dst, kid, first, press, ack, frame, sum⟩ := ⟨_, rfl⟩
        have hwz2 : wz = (decide (frame > 0) && decide (frame ≥ fr)) := by rw [hwz, Co.words, HPRX.out, ← hfr]
        have HWZ := hide hwz
        have HPLEN := hide hplen
        clear hsx hplen hevl hprx hwz hfr
        go_upto_region 15 with fail
        go_cut [114] (fun s114 wx => s114 = .bool wz ∧ ∃ nd, wx = W9.drewN nd)
        case first =>
          by_cases h1 : frame > 0
          · have d1 : decide (frame > 0) = true := decide_eq_true h1
            by_cases h2 : frame ≥ fr
            · have d2 : decide (frame ≥ fr) = true := decide_eq_true h2
              have e : Hid (wz = true) := by show _ = _; rw [hwz2, d1, d2]; rfl
              clear hwz2 h1 h2
              go_quiet (fail)
              go_wp2_with fail
              go_meet
              exact ⟨by rw [e.out], _, rfl⟩
            · have d2 : decide (frame ≥ fr) = false := decide_eq_false h2
              have e : Hid (wz = false) := by show _ = _; rw [hwz2, d1, d2]; rfl
              clear hwz2 h1 h2
              go_quiet (fail)
              go_wp2_with fail
              go_meet
              exact ⟨by rw [e.out], _, rfl⟩
          · have d1 : decide (frame > 0) = false := decide_eq_false h1
            have e : Hid (wz = false) := by show _ = _; rw [hwz2, d1]; rfl
            clear hwz2 h1
            go_quiet (fail)
            go_wp2_with fail
            go_meet
            exact ⟨by rw [e.out], _, rfl⟩
        case rest =>
        obtain ⟨rfl, nd, hnd⟩ := hcut
        obtain ⟨WZ, hWZ⟩ : ∃ WZ, WZ = wc := ⟨_, rfl⟩
        subst hWZ
        have HCZ : Hid (CAt B WZ x px sx) := by show CAt _ _ _ _ _; rw [hnd]; exact HCX.out.drewN nd
        have HPZ : Hid (Arr 41 WZ g (Pkt.row ⟨kind, src, dst, kid, first, press, ack, frame, sum⟩ (.slice A2 n2 cc2))) := by show Arr _ _ _ _; rw [hnd]; exact HPX.out.drewN nd
        have HSTZ : Hid (Stp w WZ x p px) := by show Stp _ _ _ _ _; rw [hnd]; exact HSTX.out.trans (Stp.of_below (Below_drewN (Below.refl _ _) nd))
        clear hnd c2 q7 HCX HPX HSTX hwz2
        cases wz with
        | false =>
          have HS4 : Hid (S = sx.hold) := by show _ = _; rw [HS2.out, ← HSX.out, Co.hear4, ← HWZ.out, if_neg (by decide)]
          have hBZ : B ≤ WZ.heap.size := Nat.le_trans HB.out HSTZ.out.keeps.size
          go_wp2_with fail
          refine Calls.mono (core_hold HCZ.out hBZ HENX.out) ?_
          rintro r w9 ⟨rfl, p9, hc9, hst9⟩
          go_wp2_with fail
          go_ret
          exact ⟨by rw [HR.out]; rfl, p9, by rw [HS4.out]; exact hc9, HSTZ.out.trans hst9⟩
        | true =>
          have HS4 : Hid (S = (sx.setP j { prx with frame := frame, sum := sum }).hold) := by show _ = _; rw [HS2.out, ← HSX.out, Co.hear4, ← HWZ.out, if_pos rfl, HPRX.out]
          have hpx : sx.peers[j]'(by rw [HPLEN.out]; exact HJN.out) = prx := by
            have := HPRX.out
            rw [Co.pr, List.getD_eq_getElem?_getD, List.getElem?_eq_getElem (by rw [HPLEN.out]; exact HJN.out)] at this
            exact this
          have hjx : j < sx.peers.length := by rw [HPLEN.out]; exact HJN.out
          have c2 := HCZ.out.pcell (i := j) (j := 2) (v := .int .i64 prx.frame) hjx (by omega) (by rw [hpx]; rfl)
          have c3 := HCZ.out.pcell (i := j) (j := 3) (v := .int .u32 prx.sum) hjx (by omega) (by rw [hpx]; rfl)
          have f2 := HCZ.out.pfrozen (j * 5 + 2)
          have f3 := HCZ.out.pfrozen (j * 5 + 3)
          have q7 := HPZ.out.cell (j := 7) (by simp)
          have q8 := HPZ.out.cell (j := 8) (by simp)
          simp only [List.getElem_cons_zero, List.getElem_cons_succ] at q7 q8
          have hgp : g ≠ px.g := by
            intro e
            have h1 := HPZ.out.tb
            have h2 := owns_tb HCZ.out.peers px.g rfl
            rw [e] at h1
            exact absurd (h1.one h2) (by decide)
          have hfr1 : 0 ≤ frame ∧ frame ≤ 1000 := hkf
          have HP1 := hide (HCZ.out.setPeer j 2 (.int .i64 frame) { prx with frame := frame } hjx (by omega) (by rw [hpx]; rfl) (HCZ.out.ok.setPeer j _ (HCZ.out.ok.has prx HPRM.out) (HCZ.out.ok.heard prx HPRM.out) hfr1 (HCZ.out.ok.sum prx HPRM.out)))
          have HP2 := hide (HP1.out.1.setPeer j 3 (.int .u32 sum) { prx with frame := frame, sum := sum } (by show j < (sx.peers.set j _).length; rw [List.length_set]; exact hjx) (by omega) (by rw [List.getElem_set_self]; rfl) (HP1.out.1.ok.setPeer j _ (HCZ.out.ok.has prx HPRM.out) (HCZ.out.ok.heard prx HPRM.out) hfr1 HWF.out))
          have HP3 : Hid (CAt B ((WZ.setCell ⟨px.g, j * 5 + 2, none⟩ (.int .i64 frame)).setCell ⟨px.g, j * 5 + 3, none⟩ (.int .u32 sum)) x px (sx.setP j { prx with frame := frame, sum := sum })) := by
            have := HP2.out.1
            rw [List.set_set] at this
            exact this
          have HST3 := hide ((HSTZ.out.trans HP1.out.2).trans HP2.out.2)
          clear hjx hpx
          go_upto_region 16 with fail
          go_cut [121] (fun s121 wx => ∃ nd, wx = (((WZ.setCell ⟨px.g, j * 5 + 2, none⟩ (.int .i64 frame)).setCell ⟨px.g, j * 5 + 3, none⟩ (.int .u32 sum))).drewN nd)
          case first =>
            go_region
            go_wp2_with fail
            go_meet
            exact ⟨1, rfl⟩
          case rest =>
          obtain ⟨nd, hnd⟩ := hcut
          obtain ⟨WY, hWY⟩ : ∃ WY, WY = wc := ⟨_, rfl⟩
          subst hWY
          have HCY : Hid (CAt B WY x px (sx.setP j { prx with frame := frame, sum := sum })) := by show CAt _ _ _ _ _; rw [hnd]; exact HP3.out.drewN nd
          have HSTY : Hid (Stp w WY x p px) := by show Stp _ _ _ _ _; rw [hnd]; exact HST3.out.trans (Stp.of_below (Below_drewN (Below.refl _ _) nd))
          have hBZ : B ≤ WY.heap.size := Nat.le_trans HB.out HSTY.out.keeps.size
          clear hnd c2 c3 f2 f3 q7 q8
          go_wp2_with fail
          refine Calls.mono (core_hold HCY.out hBZ HENX.out) ?_
          rintro r w9 ⟨rfl, p9, hc9, hst9⟩
          go_wp2_with fail
          go_ret
          exact ⟨by rw [HR.out]; rfl, p9, by rw [HS4.out]; exact hc9, HSTY.out.trans hst9⟩
      | true =>
        have hack : 0 ≤ ack ∧ ack ≤ (s2.mine.length : Int) := by
          have h1 := HAZ.out
          rw [Co.acks] at h1
          have h2 := Bool.and_eq_true_iff.1 h1.symm
          exact ⟨hka.1, of_decide_eq_true h2.2⟩
        have hp2 : s2.peers[j]'(by rw [HSL2.out]; exact HJN.out) = pr2 := HPR3.out _
        have ch : W9.cell? ⟨p7.g, j * 5, none⟩ = some (.int .i64 pr2.has) := HC9.out.pcell (i := j) (j := 0) (v := .int .i64 pr2.has) (by rw [HSL2.out]; exact HJN.out) (by omega) (by rw [hp2]; rfl)
        have fh := HC9.out.pfrozen (j * 5)
        have q6 := HP9.out.cell (j := 6) (by simp)
        simp only [List.getElem_cons_zero, List.getElem_cons_succ] at q6
        have HS9 := hide (HC9.out.setPeer j 0 (.int .i64 ack) { pr2 with has := ack } (by rw [HSL2.out]; exact HJN.out) (by omega) (by rw [hp2]; rfl) (HC9.out.ok.setPeer j _ hack (HC9.out.ok.heard pr2 HPM2.out) (HC9.out.ok.frame pr2 HPM2.out) (HC9.out.ok.sum pr2 HPM2.out)))
        clear hp2
        go_upto_region 15 with fail
        have HSA : Hid (CAt B (W9.setCell ⟨p7.g, j * 5, none⟩ (.int .i64 ack)) x p7 (s2.setP j { pr2 with has := ack }) ∧ Stp W9 (W9.setCell ⟨p7.g, j * 5, none⟩ (.int .i64 ack)) x p7 p7) := HS9.out
        have HPA := hide (HP9.out.off HSA.out.2.keeps (HC9.out.off (Ts := [41]) (by decide)) (by simp))
        generalize World.setCell W9 _ _ = WA at HSA HPA ⊢
        clear ch fh q6
        obtain ⟨px, hpx⟩ : ∃ px, px = p7 := ⟨_, rfl⟩
        subst hpx
        have HS2 : Hid (S = ((s2.setP j { pr2 with has := ack }).hear4 j ⟨kind, src, dst, kid, first, press, ack, frame, sum⟩).hold) := by show _ = _; rw [HS0.out, Co.hear3, ← HAZ.out, if_pos rfl, HPR2.out]
        have hsl : (s2.setP j { pr2 with has := ack }).peers.length = s.peers.length := by show (s2.peers.set j _).length = _; rw [List.length_set]; exact HSL2.out
        have hsev : (s2.setP j { pr2 with has := ack }).events = s.events := HEV2.out
        obtain ⟨sx, hsx⟩ : ∃ sx, sx = (s2.setP j { pr2 with has := ack }) := ⟨_, rfl⟩
        have HSX := hide hsx
        have HCX := hide (show CAt B WA x px sx by rw [hsx]; exact HSA.out.1)
        have HPX := hide HPA.out
        have HSTX := hide (show Stp w WA x p px from (HST9.out.trans HSA.out.2))
        have hplen : sx.peers.length = s.peers.length := by rw [hsx]; exact hsl
        have hevl : sx.events = s.events := by rw [hsx]; exact hsev
        have HENX : Hid (px.en ≤ 999999000) := by show _ ≤ _; have h1 := HCX.out.en; have h2 := H.out.en; rw [hevl] at h1; omega
        obtain ⟨prx, hprx⟩ : ∃ prx, prx = sx.peers[j]'(by rw [hplen]; exact HJN.out) := ⟨_, rfl⟩
        have HPRX : Hid (sx.pr j = prx) := by show _ = _; rw [hprx, Co.pr, List.getD_eq_getElem?_getD, List.getElem?_eq_getElem (by rw [hplen]; exact HJN.out)]; rfl
        have HPRM : Hid (prx ∈ sx.peers) := by rw [hprx]; exact List.getElem_mem _
        have c2 := HCX.out.pcell (i := j) (j := 2) (v := .int .i64 prx.frame) (by rw [hplen]; exact HJN.out) (by omega) (by rw [← hprx]; rfl)
        obtain ⟨fr, hfr⟩ : ∃ fr, fr = prx.frame := ⟨_, rfl⟩
        rw [← hfr] at c2
        have q7 := HPX.out.cell (j := 7) (by simp)
        simp only [List.getElem_cons_zero, List.getElem_cons_succ] at q7
        obtain ⟨wz, hwz⟩ : ∃ wz, wz = sx.words j ⟨kind, src, dst, kid, first, press, ack, frame, sum⟩ := ⟨_, rfl⟩
        have hwz2 : wz = (decide (frame > 0) && decide (frame ≥ fr)) := by rw [hwz, Co.words, HPRX.out, ← hfr]
        have HWZ := hide hwz
        have HPLEN := hide hplen
        clear hsx hplen hevl hprx hwz hfr
        go_upto_region 15 with fail
        go_cut [114] (fun s114 wx => s114 = .bool wz ∧ ∃ nd, wx = WA.drewN nd)
        case first =>
          by_cases h1 : frame > 0
          · have d1 : decide (frame > 0) = true := decide_eq_true h1
            by_cases h2 : frame ≥ fr
            · have d2 : decide (frame ≥ fr) = true := decide_eq_true h2
              have e : Hid (wz = true) := by show _ = _; rw [hwz2, d1, d2]; rfl
              clear hwz2 h1 h2
              go_quiet (fail)
              go_wp2_with fail
              go_meet
              exact ⟨by rw [e.out], _, rfl⟩
            · have d2 : decide (frame ≥ fr) = false := decide_eq_false h2
              have e : Hid (wz = false) := by show _ = _; rw [hwz2, d1, d2]; rfl
              clear hwz2 h1 h2
              go_quiet (fail)
              go_wp2_with fail
              go_meet
              exact ⟨by rw [e.out], _, rfl⟩
          · have d1 : decide (frame > 0) = false := decide_eq_false h1
            have e : Hid (wz = false) := by show _ = _; rw [hwz2, d1]; rfl
            clear hwz2 h1
            go_quiet (fail)
            go_wp2_with fail
            go_meet
            exact ⟨by rw [e.out], _, rfl⟩
        case rest =>
        obtain ⟨rfl, nd, hnd⟩ := hcut
        obtain ⟨WZ, hWZ⟩ : ∃ WZ, WZ = wc := ⟨_, rfl⟩
        subst hWZ
        have HCZ : Hid (CAt B WZ x px sx) := by show CAt _ _ _ _ _; rw [hnd]; exact HCX.out.drewN nd
        have HPZ : Hid (Arr 41 WZ g (Pkt.row ⟨kind, src, dst, kid, first, press, ack, frame, sum⟩ (.slice A2 n2 cc2))) := by show Arr _ _ _ _; rw [hnd]; exact HPX.out.drewN nd
        have HSTZ : Hid (Stp w WZ x p px) := by show Stp _ _ _ _ _; rw [hnd]; exact HSTX.out.trans (Stp.of_below (Below_drewN (Below.refl _ _) nd))
        clear hnd c2 q7 HCX HPX HSTX hwz2
        cases wz with
        | false =>
          have HS4 : Hid (S = sx.hold) := by show _ = _; rw [HS2.out, ← HSX.out, Co.hear4, ← HWZ.out, if_neg (by decide)]
          have hBZ : B ≤ WZ.heap.size := Nat.le_trans HB.out HSTZ.out.keeps.size
          go_wp2_with fail
          refine Calls.mono (core_hold HCZ.out hBZ HENX.out) ?_
          rintro r w9 ⟨rfl, p9, hc9, hst9⟩
          go_wp2_with fail
          go_ret
          exact ⟨by rw [HR.out]; rfl, p9, by rw [HS4.out]; exact hc9, HSTZ.out.trans hst9⟩
        | true =>
          have HS4 : Hid (S = (sx.setP j { prx with frame := frame, sum := sum }).hold) := by show _ = _; rw [HS2.out, ← HSX.out, Co.hear4, ← HWZ.out, if_pos rfl, HPRX.out]
          have hpx : sx.peers[j]'(by rw [HPLEN.out]; exact HJN.out) = prx := by
            have := HPRX.out
            rw [Co.pr, List.getD_eq_getElem?_getD, List.getElem?_eq_getElem (by rw [HPLEN.out]; exact HJN.out)] at this
            exact this
          have hjx : j < sx.peers.length := by rw [HPLEN.out]; exact HJN.out
          have c2 := HCZ.out.pcell (i := j) (j := 2) (v := .int .i64 prx.frame) hjx (by omega) (by rw [hpx]; rfl)
          have c3 := HCZ.out.pcell (i := j) (j := 3) (v := .int .u32 prx.sum) hjx (by omega) (by rw [hpx]; rfl)
          have f2 := HCZ.out.pfrozen (j * 5 + 2)
          have f3 := HCZ.out.pfrozen (j * 5 + 3)
          have q7 := HPZ.out.cell (j := 7) (by simp)
          have q8 := HPZ.out.cell (j := 8) (by simp)
          simp only [List.getElem_cons_zero, List.getElem_cons_succ] at q7 q8
          have hgp : g ≠ px.g := by
            intro e
            have h1 := HPZ.out.tb
            have h2 := owns_tb HCZ.out.peers px.g rfl
            rw [e] at h1
            exact absurd (h1.one h2) (by decide)
          have hfr1 : 0 ≤ frame ∧ frame ≤ 1000 := hkf
          have HP1 := hide (HCZ.out.setPeer j 2 (.int .i64 frame) { prx with frame := frame } hjx (by omega) (by rw [hpx]; rfl) (HCZ.out.ok.setPeer j _ (HCZ.out.ok.has prx HPRM.out) (HCZ.out.ok.heard prx HPRM.out) hfr1 (HCZ.out.ok.sum prx HPRM.out)))
          have HP2 := hide (HP1.out.1.setPeer j 3 (.int .u32 sum) { prx with frame := frame, sum := sum } (by show j < (sx.peers.set j _).length; rw [List.length_set]; exact hjx) (by omega) (by rw [List.getElem_set_self]; rfl) (HP1.out.1.ok.setPeer j _ (HCZ.out.ok.has prx HPRM.out) (HCZ.out.ok.heard prx HPRM.out) hfr1 HWF.out))
          have HP3 : Hid (CAt B ((WZ.setCell ⟨px.g, j * 5 + 2, none⟩ (.int .i64 frame)).setCell ⟨px.g, j * 5 + 3, none⟩ (.int .u32 sum)) x px (sx.setP j { prx with frame := frame, sum := sum })) := by
            have := HP2.out.1
            rw [List.set_set] at this
            exact this
          have HST3 := hide ((HSTZ.out.trans HP1.out.2).trans HP2.out.2)
          clear hjx hpx
          go_upto_region 16 with fail
          go_cut [121] (fun s121 wx => ∃ nd, wx = (((WZ.setCell ⟨px.g, j * 5 + 2, none⟩ (.int .i64 frame)).setCell ⟨px.g, j * 5 + 3, none⟩ (.int .u32 sum))).drewN nd)
          case first =>
            go_region
            go_wp2_with fail
            go_meet
            exact ⟨1, rfl⟩
          case rest =>
          obtain ⟨nd, hnd⟩ := hcut
          obtain ⟨WY, hWY⟩ : ∃ WY, WY = wc := ⟨_, rfl⟩
          subst hWY
          have HCY : Hid (CAt B WY x px (sx.setP j { prx with frame := frame, sum := sum })) := by show CAt _ _ _ _ _; rw [hnd]; exact HP3.out.drewN nd
          have HSTY : Hid (Stp w WY x p px) := by show Stp _ _ _ _ _; rw [hnd]; exact HST3.out.trans (Stp.of_below (Below_drewN (Below.refl _ _) nd))
          have hBZ : B ≤ WY.heap.size := Nat.le_trans HB.out HSTY.out.keeps.size
          clear hnd c2 c3 f2 f3 q7 q8
          go_wp2_with fail
          refine Calls.mono (core_hold HCY.out hBZ HENX.out) ?_
          rintro r w9 ⟨rfl, p9, hc9, hst9⟩
          go_wp2_with fail
          go_ret
          exact ⟨by rw [HR.out]; rfl, p9, by rw [HS4.out]; exact hc9, HSTY.out.trans hst9⟩
    · simp only at hk2
      have d2 : (kind == 2) = true := by rw [hk2]; rfl
      have HS0 : Hid (S = { s.hear1 j with events := (s.hear1 j).events ++ [.quit (j : Int)], closed := true }) := by
        show _ = _
        rw [HS.out, Co.hear, if_pos hk2, HEV1.out]
        have e : (Pkt.src ⟨kind, src, dst, kid, first, press, ack, frame, sum⟩).toNat = j := by show src.toNat = j; rw [HJ.out]; rfl
        rw [e, ← HJ.out]
      have q1 := HP6.out.cell (j := 1) (by simp)
      simp only [List.getElem_cons_zero, List.getElem_cons_succ] at q1
      rw [HJ.out] at q1
      have hj8 : j < 8 := by have := HJN.out; have := H.out.ok.np; have := H.out.ok.cfg.n; omega
      have hB6 : B ≤ W6.heap.size := Nat.le_trans HB.out HST6.out.keeps.size
      clear hk2
      go_wp2_with fail
      refine Calls.mono (core_note HC6.out hB6 (.quit (j : Int)) ⟨⟨by show 0 ≤ (j : Int); omega, by show (j : Int) < 8; omega⟩, ⟨by show (0 : Int) ≤ 0; omega, by show (0 : Int) ≤ 1000; omega⟩⟩ (by omega)) ?_
      rintro r w7 ⟨rfl, p7, hc7, hst7⟩
      have HST7 := hide (HST6.out.trans hst7)
      have f15 := hc7.hfrozen 15
      have c15 := hc7.cell (coRow_closed _ _)
      have HC8 := hide (hc7.setHead 15 (.bool true) { s.hear1 j with events := (s.hear1 j).events ++ [.quit (j : Int)], closed := true } (by rfl) rfl rfl rfl rfl ⟨hc7.ok.cfg, hc7.ok.np, hc7.ok.nl, hc7.ok.short, hc7.ok.head, hc7.ok.has, hc7.ok.heard, hc7.ok.frame, hc7.ok.sum, hc7.ok.marks, hc7.ok.mark, hc7.ok.now, hc7.ok.events⟩)
      clear hc7 hst7
      go_wp2_with fail
      go_ret
      exact ⟨by rw [HR.out]; rfl, p7, by rw [HS0.out]; exact HC8.out.1, HST7.out.trans HC8.out.2⟩
end Go.Proofs.Ytbcgffgiifminaa
namespace Go.Proofs.Ytbcgffgiifminaa
open Go.RowKit
set_option maxRecDepth 10000
set_option linter.unusedVariables false
/-- A core of the call's own: what lies below B is as it was. -/
structure HC (B : Nat) (w0 w : World) (x : Nat) (p : CP) (s : Co) : Prop where
  core : CAt B w x p s
  bel : Below B w0 w
  base : B ≤ w.heap.size
section
variable {B : Nat} {w0 w w' : World} {x : Nat} {p p' : CP} {s s' : Co}
theorem HC.step (h : HC B w0 w x p s) (c : CAt B w' x p' s') (st : Stp w w' x p p') : HC B w0 w' x p' s' := ⟨c, h.bel.trans (st.below h.core h.base), Nat.le_trans h.base st.keeps.size⟩
theorem HC.below (h : HC B w0 w x p s) (hb : Below w.heap.size w w') : HC B w0 w' x p s := ⟨h.core.below hb, h.bel.trans (hb.mono h.base), Nat.le_trans h.base hb.size⟩
theorem HC.drewN (h : HC B w0 w x p s) (k : Nat) : HC B w0 (w.drewN k) x p s := h.below (Below_drewN (Below.refl _ _) k)
theorem HC.en (h : HC B w0 w x p s) (n : Nat) (hn : s.events.length ≤ n) : p.en ≤ n := by rw [← h.core.en]; exact hn
/-- Bytes beside a core. -/
structure Aside (w : World) (x : Nat) (p : CP) (A : Option Addr) (n c : Nat) (l : List UInt8) : Prop where
  own : OwnB w 0 A n c l
  out : ∀ k, some k = (Value.slice A n c).ownBlock → ¬ cBlocks x p k
theorem Aside.new {A : Option Addr} {n c : Nat} {l : List UInt8} (h : CAt B w x p s) (ho : OwnB w' w.heap.size A n c l) : Aside w' x p A n c l :=
  ⟨OwnB.base_le ho (Nat.zero_le _), fun k hk hc => by have := (ho.blk k hk).1; have := (h.blocks k hc).2; omega⟩
theorem Aside.below {A : Option Addr} {n c : Nat} {l : List UInt8} (h : Aside w x p A n c l) (hb : Below w.heap.size w w') : Aside w' x p A n c l := ⟨h.own.below hb, h.out⟩
theorem Aside.step {A : Option Addr} {n c : Nat} {l : List UInt8} (h : Aside w x p A n c l) (st : Stp w w' x p p') : Aside w' x p' A n c l :=
  ⟨h.own.keeps st.keeps h.out, fun k hk hc => by
    rcases st.new k hc with h' | h'
    · exact h.out k hk h'
    · have := (h.own.blk k hk).2; omega⟩
theorem use_New (c : Cfg) (hf : c.Fine) (w : World) : Calls Try.prog 14 #[c.val] w fun e w' => ∃ x p, e = .returned (.tuple #[.pointer (some ⟨x, 0, none⟩), .int .i64 0]) ∧ HC w.heap.size w w' x p (Co.new c) :=
  (core_New c hf w).mono fun r w' ⟨x, p, hr, hc, hb⟩ => ⟨x, p, hr, ⟨hc, hb, hb.size⟩⟩
theorem use_Press (h : HC B w0 w x p s) (b : UInt8) {v : Int} (hv : v = (b.toNat : Int)) {E : Int} (hE : s.pressErr = E) {S : Co} (hS : s.press b = S) :
    Calls Try.prog 15 #[.pointer (some ⟨x, 0, none⟩), .int .u8 v] w fun r w' => r = .returned (.int .i64 E) ∧ ∃ p', HC B w0 w' x p' S ∧ Stp w w' x p p' := by
  subst hE hS
  exact (core_Press h.core h.base b hv).mono fun r w' ⟨hr, p', hc, st⟩ => ⟨hr, p', h.step hc st, st⟩
theorem use_Mark (h : HC B w0 w x p s) (hen : s.events.length ≤ 999999000) (m : Int) (hm : 0 ≤ m ∧ m < 4294967296) {S : Co} (hS : s.mark m = S) :
    Calls Try.prog 30 #[.pointer (some ⟨x, 0, none⟩), .int .u32 m] w fun r w' => r = .returned (.tuple #[]) ∧ ∃ p', HC B w0 w' x p' S ∧ Stp w w' x p p' := by
  subst hS
  exact (core_Mark h.core h.base (h.en _ hen) m hm).mono fun r w' ⟨hr, p', hc, st⟩ => ⟨hr, p', h.step hc st, st⟩
theorem use_Quit (h : HC B w0 w x p s) {M : List Mle} (hM : s.quitMails = M) :
    Calls Try.prog 32 #[.pointer (some ⟨x, 0, none⟩)] w fun r w' => ∃ A n c xs, r = .returned (.slice A n c) ∧ ML 47 w.heap.size w' A n c xs ∧ xs.map Prod.fst = M ∧ HC B w0 w' x p s.quit ∧ Stp w w' x p p := by
  subst hM
  exact (core_Quit h.core h.base).mono fun r w' ⟨A, n, c, xs, hr, hm, hx, hc, st⟩ => ⟨A, n, c, xs, hr, hm, hx, h.step hc st, st⟩
theorem use_Tick (h : HC B w0 w x p s) (hnow : s.now < 1000000000) (hen : s.events.length ≤ 999999000) {M : List Mle} (hM : s.tickMails = M) {S : Co} (hS : s.tick = S) :
    Calls Try.prog 22 #[.pointer (some ⟨x, 0, none⟩)] w fun r w' => ∃ A n c xs, r = .returned (.slice A n c) ∧ ML 47 w.heap.size w' A n c xs ∧ xs.map Prod.fst = M ∧ ∃ p', HC B w0 w' x p' S ∧ Stp w w' x p p' ∧ (0 < n → p' = p) := by
  subst hM hS
  exact (core_Tick h.core h.base hnow (by have := h.en _ hen; omega)).mono fun r w' ⟨A, n, c, xs, hr, hm, hx, p', hc, st, he⟩ => ⟨A, n, c, xs, hr, hm, hx, p', h.step hc st, st, he⟩
theorem use_Receive_closed (h : HC B w0 w x p s) (hcl : s.closed = true) (A : Option Addr) (n c : Nat) : Calls Try.prog 20 #[.pointer (some ⟨x, 0, none⟩), .slice A n c] w fun r w' => r = .returned (.int .i64 6) ∧ w = w' := core_Receive_closed h.core hcl A n c
theorem use_Receive_no (h : HC B w0 w x p s) (hcl : s.closed = false) {A : Option Addr} {n c B' : Nat} {b : List UInt8} (hb : ∀ q, ¬ Pkt.Is b q) (hA : LiesB w B' A n b) (hB' : B' ≤ w.heap.size) (hnc : n ≤ c) (hn : n ≤ 1000000) :
    Calls Try.prog 20 #[.pointer (some ⟨x, 0, none⟩), .slice A n c] w fun r w' => r = .returned (.int .i64 1) ∧ HC B w0 w' x p s ∧ Below w.heap.size w w' :=
  (core_Receive_no h.core hcl hb hA hB' hnc hn).mono fun r w' ⟨hr, hb⟩ => ⟨hr, h.below hb, hb⟩
theorem use_Receive_yes (h : HC B w0 w x p s) (hcl : s.closed = false) (hen : s.events.length ≤ 999999000) {A : Option Addr} {n c B' : Nat} {b : List UInt8} (k : Pkt) (hb : Pkt.Is b k) (hA : LiesB w B' A n b) (hB' : B' ≤ w.heap.size) (hnc : n ≤ c) (hn : n ≤ 1000000)
    {R : Int} (hR : (if s.fits k = true then 0 else 1) = R) {S : Co} (hS : (if s.fits k = true then s.hear k else s) = S) :
    Calls Try.prog 20 #[.pointer (some ⟨x, 0, none⟩), .slice A n c] w fun r w' => r = .returned (.int .i64 R) ∧ ∃ p', HC B w0 w' x p' S ∧ Stp w w' x p p' := by
  subst hR hS
  exact (core_Receive_yes h.core h.base hcl (h.en _ hen) k hb hA hB' hnc hn).mono fun r w' ⟨hr, p', hc, st⟩ => ⟨hr, p', h.step hc st, st⟩
theorem use_Events (h : HC B w0 w x p s) {l : List Ev} (hl : s.events = l) : Calls Try.prog 27 #[.pointer (some ⟨x, 0, none⟩)] w fun r w' => ∃ A c, r = .returned (.slice A l.length c) ∧ OwnV 114 w' B A l.length c (l.map Ev.val) ∧ ∃ p', HC B w0 w' x p' { s with events := [] } ∧ Stp w w' x p p' := by
  subst hl
  refine (core_Events h.core).mono ?_
  rintro r w' ⟨hr, ho, hc, st⟩
  have e := h.core.en
  exact ⟨p.eA, p.ec, by rw [e]; exact hr, by rw [e]; exact ho, _, h.step hc st, st⟩
theorem use_Head (h : HC B w0 w x p s) {m : Int} (hm : (s.mine.length : Int) = m) : Calls Try.prog 16 #[.pointer (some ⟨x, 0, none⟩)] w fun r w' => r = .returned (.int .i64 m) ∧ HC B w0 w' x p s ∧ Below w.heap.size w w' := by
  subst hm
  exact (core_Head h.core).mono fun r w' ⟨hr, hb⟩ => ⟨hr, h.below hb, hb⟩
theorem use_Front (h : HC B w0 w x p s) {m : Int} (hm : (front s.ls : Int) = m) : Calls Try.prog 18 #[.pointer (some ⟨p.q, 0, none⟩)] w fun r w' => r = .returned (.int .i64 m) ∧ w = w' := by
  obtain ⟨i, -, hi, -, -, h8⟩ := h.core.me
  exact queue_Front h.core.q (by omega) (by omega) hm.symm
theorem use_Marks (h : HC B w0 w x p s) {m : Int} (hm : (s.marks.length : Int) = m) : Calls Try.prog 31 #[.pointer (some ⟨x, 0, none⟩)] w fun r w' => r = .returned (.int .i64 m) ∧ w = w' := by
  subst hm
  rw [h.core.mn]
  exact core_Marks h.core
theorem use_Closed (h : HC B w0 w x p s) {z : Bool} (hz : s.closed = z) : Calls Try.prog 26 #[.pointer (some ⟨x, 0, none⟩)] w fun r w' => r = .returned (.bool z) ∧ w = w' := by
  subst hz
  exact core_Closed h.core
end
theorem core_Mark_nil (m : Int) (w : World) : Calls Try.prog 30 #[.pointer none, .int .u32 m] w fun r w' => r = .returned (.tuple #[]) ∧ w = w' := by
  go_enter Try.func30, Try.ntmps30
  go_wp2_with fail
  exact bodyPost_ret (v := .tuple #[]) (by simp [results, go_sem]) rfl ⟨rfl, rfl⟩
theorem elem_raws : ElemN 56 59 (.agg #[.int .i64 0, .int .i64 0, .int .i64 0]) 3 24 := ⟨Try.underlying56, by kernel_rfl, rfl, by omega⟩
theorem Ev.row_len (e : Ev) : e.row.length = 3 := rfl
theorem Ev.val_one (e : Ev) : e.val.oneCell' = true := by cases e <;> rfl
set_option maxHeartbeats 2000000 in
theorem law_Raws {B : Nat} {A : Option Addr} {n c : Nat} {es : List Ev} {w : World} (h : OwnV 114 w B A n c (es.map Ev.val)) (hn8 : n ≤ 999999999) :
    Calls Try.prog 29 #[.slice A n c] w fun r w' => ∃ A' c', r = .returned (.slice A' n c') ∧ w'.ownsRow w.heap.size 59 3 (.slice A' n c') n (es.flatMap Ev.row) ∧ Below w.heap.size w w' := by
  have hel : es.length = n := by have := h.len; rwa [List.length_map] at this
  have HO := hide h
  have HEL := hide hel
  clear h hel
  go_enter Try.func29, Try.ntmps29
  go_wp2_with fail
  go_loopg [3, 4] n (fun gg s3 s4 wr => ∃ (k : Nat) (A' : Option Addr) (c' : Nat), k ≤ n ∧ gg = n - k ∧ s4 = .int .i64 (k : Int) ∧ s3 = .slice A' k c' ∧ Hid (wr.ownsRow w.heap.size 59 3 (.slice A' k c') k ((es.take k).flatMap Ev.row)) ∧ Hid (Below w.heap.size w wr))
  case atStart => exact ⟨0, none, 0, by omega, rfl, rfl, rfl, World.ownsRow_nil _ _ _ _, Below.refl _ _⟩
  case round =>
    obtain ⟨W1, hW1⟩ : ∃ W1, W1 = wr := ⟨_, rfl⟩
    subst hW1
    obtain ⟨k, A', c', hkn, rfl, rfl, rfl, HR, HB⟩ := hrel
    by_cases hlt : k < n
    · obtain ⟨g, hg, -, -⟩ := HO.out.form (by omega)
      have HO1 := HO.out.below HB.out
      rw [hg] at HO1
      obtain ⟨hl9, c9⟩ := HO1.cell hlt
      have hlL : k < es.length := by rw [HEL.out]; exact hlt
      obtain ⟨e, he⟩ : ∃ e, e = es[k] := ⟨_, rfl⟩
      have hr : W1.rangeAt g k [e.val] := by
        intro j v hv
        cases j with
        | zero =>
          have : v = e.val := by simpa using hv.symm
          rw [this, Nat.add_zero, c9, List.getElem_map, he]
        | succ j => simp at hv
      have HRG := hide hr
      have HTK : Hid ((es.take (k + 1)).flatMap Ev.row = (es.take k).flatMap Ev.row ++ e.row) := by
        show _ = _
        rw [List.take_succ_eq_append_getElem hlL, List.flatMap_append, List.flatMap_singleton, he]
      have hki : (k : Int) < (n : Int) := by omega
      subst hg
      clear hr hl9 c9 he HO1
      go_wp2_with (refine wpList_load_mid rfl 114 (.tmp 14) rfl g k rfl [e.val] _ HRG.out Try.underlying114 rfl info_ev ?_)
      refine Calls.mono (event_Raw e _) ?_
      rintro r w2 ⟨rfl, hb2⟩
      rw [show Value.agg e.row.toArray = .agg #[.int .i64 e.kind, .int .i64 e.player, .int .i64 e.frame] from rfl]
      have bn := Below_new w2 (.cells #[.int .i64 e.kind, .int .i64 e.player, .int .i64 e.frame] 59)
      have HR2 := hide (ownsRow_below (ownsRow_below HR.out hb2) bn)
      have HB2 := hide (Below_step (HB.out.trans (hb2.mono HB.out.size)) bn)
      have HL2 := hide (Lies.new w2 #[.int .i64 e.kind, .int .i64 e.player, .int .i64 e.frame] 59 (0, 0))
      have hB2 := HB2.out.size
      clear hb2 bn
      go_wp2_with (refine wpN_append elem_raws rfl (.tmp 11) (.tmp 17) rfl w.heap.size A' k c' _ rfl HR2.out _ _ 1 [.int .i64 e.kind, .int .i64 e.player, .int .i64 e.frame] rfl rfl HL2.out (by simp [Value.oneCell']) (by omega) (by omega) hB2 ?_; intro g9 c9 w9 own9 k9 hk9; have HOW := hide own9; have HK9 := hide (HB2.out.trans (k9.below hB2 (fun j hj hm => by have := World.ownsRow.lt HR2.out j hm.symm; omega))); clear own9 k9 hk9)
      go_roundg (n - (k + 1))
      case measure => omega
      case rel => exact ⟨k + 1, some ⟨g9, 0, none⟩, c9, by omega, rfl, by go_num, rfl, by rw [HTK.out]; exact HOW, HK9⟩
    · obtain rfl : n = k := by omega
      go_wp2_with fail
      go_ret
      refine ⟨A', c', rfl, ?_, HB.out⟩
      have := HR.out
      rw [List.take_of_length_le (by rw [HEL.out]; exact Nat.le_refl _)] at this
      exact this
end Go.Proofs.Ytbcgffgiifminaa
namespace Go.Proofs.Ytbcgffgiifminaa
open Go.RowKit
set_option maxRecDepth 10000
set_option linter.unusedVariables false
/-- A row beside a core. -/
structure AsideN (e : TypeId) (sz : Nat) (w : World) (x : Nat) (p : CP) (A : Option Addr) (n c : Nat) (l : List Value) : Prop where
  own : w.ownsRow 0 e sz (.slice A n c) n l
  out : ∀ k, some k = (Value.slice A n c).ownBlock → ¬ cBlocks x p k
section
variable {e : TypeId} {sz : Nat} {w w' : World} {x : Nat} {p p' : CP} {A : Option Addr} {n c : Nat} {l : List Value}
theorem AsideN.below (h : AsideN e sz w x p A n c l) (hb : Below w.heap.size w w') : AsideN e sz w' x p A n c l := ⟨ownsRow_below h.own hb, h.out⟩
theorem ownsRow_keeps {S : Nat → Prop} {B : Nat} (h : w.ownsRow B e sz (.slice A n c) n l) (hk : Keeps S w w') (hn : ∀ k, some k = (Value.slice A n c).ownBlock → ¬ S k) : w'.ownsRow B e sz (.slice A n c) n l := by
  refine ⟨h.1, ?_⟩
  rcases h.2 with h2 | ⟨g, cap, cur, hv, hb, hh, r⟩
  · exact .inl h2
  · refine .inr ⟨g, cap, cur, hv, hb, ?_, r⟩
    rw [hk.block g (Array.getElem?_eq_some_iff.1 hh).1 (hn g (by rw [hv]; rfl))]
    exact hh
theorem AsideN.step (h : AsideN e sz w x p A n c l) (st : Stp w w' x p p') : AsideN e sz w' x p' A n c l :=
  ⟨ownsRow_keeps h.own st.keeps h.out, fun k hk hc => by
    rcases st.new k hc with h' | h'
    · exact h.out k hk h'
    · have := (World.ownsRow.lt h.own k hk.symm).2; omega⟩
theorem AsideN.of {B B' : Nat} {s : Co} {w1 : World} (h : w.ownsRow B e sz (.slice A n c) n l) (hc : CAt B' w1 x p s) (hb : w1.heap.size ≤ B) : AsideN e sz w x p A n c l :=
  ⟨ownsRow_base_le h (Nat.zero_le _), fun k hk hm => by have := (World.ownsRow.lt h k hk.symm).1; have := (hc.blocks k hm).2; omega⟩
end
/-- The cells of a mail in its row. -/
theorem mail_cell {T : TypeId} {B : Nat} {w : World} {A : Option Addr} {n c : Nat} {xs : List (Mle × Sl)} (h : w.ownsRow B T 3 (.slice A n c) n (xs.flatMap mrow)) {i : Nat} (hi : i < n) (hx : i < xs.length) :
    ∃ g, A = some ⟨g, 0, none⟩ ∧ w.cell? ⟨g, i * 3, none⟩ = some (.int .i64 xs[i].1.src) ∧ w.cell? ⟨g, i * 3 + 1, none⟩ = some (.int .i64 xs[i].1.dst) ∧ w.cell? ⟨g, i * 3 + 2, none⟩ = some (sv xs[i].2) := by
  obtain ⟨g, hg⟩ : ∃ g, A = some ⟨g, 0, none⟩ := by
    rcases h.2 with ⟨hv, hx⟩ | ⟨g, cap, cur, hv, _⟩
    · omega
    · injection hv with h1 _ _; exact ⟨g, h1⟩
  subst hg
  have cc : ∀ j, j < 3 → ∀ v, (mrow xs[i])[j]? = some v → w.cell? ⟨g, i * 3 + j, none⟩ = some v := by
    intro j hj v hv
    rw [World.ownsRow.cellAt h (i * 3 + j) (by omega), flat_get mrow_len _ i j hx hj, hv]
  exact ⟨g, rfl, cc 0 (by omega) _ rfl, cc 1 (by omega) _ rfl, cc 2 (by omega) _ rfl⟩
def cfgB : Cfg := ⟨2, 1, 5, 0, 4, 1, 0, 0, 0, 3⟩
def pktB : Pkt := ⟨1, 0, 1, 5, 0, [3], 1, 0, 0⟩
def coB1 : Co := (Co.new cfgB).press 7
def coB2 : Co := coB1.tick
def coB3 : Co := coB2.hear pktB
def coB4 : Co := coB3.tick
theorem cfgB_fine : cfgB.Fine := cfgB.may_iff.1 (by decide)
theorem pktB_may : pktB.may = true := by decide
theorem pktB_wf : pktB.WF := ⟨by decide, by decide⟩
theorem coB1_err : (Co.new cfgB).pressErr = 0 := by decide
theorem coB1_mails : coB1.tickMails = [coB1.ticked.tellTo 0] := by rfl
theorem coB2_fits : coB2.fits pktB = true := by decide
theorem coB3_mails : coB3.tickMails = [coB3.ticked.tellTo 0] := by rfl
theorem coB4_mine : coB4.mine.length = 1 := by rfl
theorem coB4_front : front coB4.ls = 1 := by rfl
theorem coB4_closed : coB4.closed = false := by rfl
theorem coB4_events : coB4.events = [] := by rfl
theorem nil_no : ∀ q, ¬ Pkt.Is [] q := fun q h => by have := (Pkt.is_head h).1; simp at this
set_option maxHeartbeats 8000000 in
theorem begun21 (w : World) : Calls Try.prog 13 #[] w fun r w' => r = .returned (.bool true) ∧ Below w.heap.size w w' := by
  obtain ⟨s0, h0⟩ : ∃ s, s = Co.new cfgB := ⟨_, rfl⟩
  obtain ⟨s1, h1⟩ : ∃ s, s = coB1 := ⟨_, rfl⟩
  obtain ⟨s2, h2⟩ : ∃ s, s = coB2 := ⟨_, rfl⟩
  obtain ⟨s3, h3⟩ : ∃ s, s = coB3 := ⟨_, rfl⟩
  obtain ⟨s4, h4⟩ : ∃ s, s = coB4 := ⟨_, rfl⟩
  have HE0 : Hid (s0.pressErr = 0) := by show _ = _; rw [h0]; exact coB1_err
  have HP0 : Hid (s0.press 7 = s1) := by show _ = _; rw [h0, h1]; rfl
  have HM1 : Hid (s1.tickMails = [coB1.ticked.tellTo 0]) := by show _ = _; rw [h1]; exact coB1_mails
  have HT1 : Hid (s1.tick = s2) := by show _ = _; rw [h1, h2]; rfl
  have HN1 : Hid (s1.now < 1000000000 ∧ s1.events.length ≤ 999999000) := by show _ ∧ _; rw [h1]; decide
  have HF2 : Hid ((if s2.fits pktB = true then (0 : Int) else 1) = 0) := by show _ = _; rw [h2]; decide
  have HS2 : Hid ((if s2.fits pktB = true then s2.hear pktB else s2) = s3) := by show _ = _; rw [h2, h3]; rw [if_pos coB2_fits]; rfl
  have HC2 : Hid (s2.closed = false ∧ s2.events.length ≤ 999999000) := by show _ ∧ _; rw [h2]; exact ⟨by rfl, by decide⟩
  have HM3 : Hid (s3.tickMails = [coB3.ticked.tellTo 0]) := by show _ = _; rw [h3]; exact coB3_mails
  have HT3 : Hid (s3.tick = s4) := by show _ = _; rw [h3, h4]; rfl
  have HN3 : Hid (s3.now < 1000000000 ∧ s3.events.length ≤ 999999000) := by show _ ∧ _; rw [h3]; exact ⟨by decide, by decide⟩
  have HH4 : Hid ((s4.mine.length : Int) = 1) := by show _ = _; rw [h4, coB4_mine]; rfl
  have HR4 : Hid ((front s4.ls : Int) = 1) := by show _ = _; rw [h4, coB4_front]; rfl
  have HC4 : Hid (s4.closed = false) := by show _ = _; rw [h4]; exact coB4_closed
  have HE4 : Hid (s4.events = []) := by show _ = _; rw [h4]; exact coB4_events
  have HNEW : Hid (Co.new cfgB = s0) := h0.symm
  clear h0 h1 h2 h3 h4
  go_enter Try.func13, Try.ntmps13
  go_wp2_with fail
  refine Calls.mono (use_New cfgB cfgB_fine w) ?_
  rintro r w1 ⟨x, p1, rfl, hc1⟩
  rw [HNEW.out] at hc1
  have H1 := hide hc1
  clear hc1
  go_wp2_with fail
  refine Calls.mono (core_Queue H1.out.core) ?_
  rintro r w2 ⟨rfl, rfl⟩
  go_wp2_with fail
  refine Calls.mono (use_Press H1.out 7 rfl HE0.out HP0.out) ?_
  rintro r w2 ⟨rfl, p2, hc2, st2⟩
  have H2 := hide hc2
  clear hc2 st2
  go_wp2_with fail
  refine Calls.mono (use_Tick H2.out HN1.out.1 HN1.out.2 HM1.out HT1.out) ?_
  rintro r w3 ⟨mA, mn, mc, xs, rfl, hml, hxs, p3, hc3, st3, hp3⟩
  have hx1 : xs.length = 1 := by have := congrArg List.length hxs; simpa using this
  have hmn : mn = 1 := by rw [← hml.len]; exact hx1
  subst hmn
  obtain rfl := hp3 (by omega)
  have hxd : ∀ h : 0 < xs.length, (xs[0]'h).1.dst = 0 := by
    intro h
    have h2 : (xs.map Prod.fst)[0]? = some (coB1.ticked.tellTo 0) := by rw [hxs]; rfl
    rw [List.getElem?_map, List.getElem?_eq_getElem h] at h2
    injection h2 with h2
    rw [h2]; rfl
  have HX1 := hide hx1
  have HXD := hide hxd
  have HA3 := hide (AsideN.of hml.row H2.out.core (Nat.le_refl _))
  have H3 := hide hc3
  clear hml hxs hc3 st3 hp3 hx1 hxd
  have bn := Below_new w3 (.cells #[.int .u8 3] 5)
  have HL4 := hide (LiesB.new w3 #[.int .u8 3] 5 (0, 0) [3] 1 rfl rfl)
  have H4 := hide (H3.out.below bn)
  have HA4 := hide (HA3.out.below bn)
  clear bn
  go_wp2_with fail
  refine Calls.mono (ref_Packet pktB HL4.out (by rw [World.size_alloc]; omega) (by omega) pktB_wf) ?_
  rintro r w5 ⟨A5, n5, c5, rfl, ho5, hb5⟩
  have hn5 : n5 ≤ 100 := by have := ho5.len; have := Pkt.enc_short pktB; omega
  have HO5 := hide ho5
  have H5 := hide (H4.out.below hb5)
  have HA5 := hide (HA4.out.below hb5)
  clear ho5 hb5
  go_wp2_with fail
  refine Calls.mono (use_Receive_yes H5.out HC2.out.1 HC2.out.2 pktB (Pkt.enc_is pktB_may pktB_wf) HO5.out.lies (Nat.le_refl _) HO5.out.cap (by omega) HF2.out HS2.out) ?_
  rintro r w6 ⟨rfl, p6, hc6, st6⟩
  have H6 := hide hc6
  have HA6 := hide (HA5.out.step st6)
  clear hc6 st6
  go_wp2_with fail
  refine Calls.mono (use_Tick H6.out HN3.out.1 HN3.out.2 HM3.out HT3.out) ?_
  rintro r w7 ⟨kA, kn, kc, ys, rfl, hml, hxs, p7, hc7, st7, hp7⟩
  have hy1 : ys.length = 1 := by have := congrArg List.length hxs; simpa using this
  have hmn : kn = 1 := by rw [← hml.len]; exact hy1
  subst hmn
  have H7 := hide hc7
  have HA7 := hide (HA6.out.step st7)
  clear hml hxs hc7 st7 hp7 hy1
  obtain ⟨mg, rfl, -, md, -⟩ := mail_cell HA7.out.own (i := 0) (by omega) (by rw [HX1.out]; omega)
  rw [HXD.out _] at md
  go_wp2_with fail
  refine Calls.mono (use_Head H7.out HH4.out) ?_
  rintro r w8 ⟨rfl, hc8, hb8⟩
  have H8 := hide hc8
  clear hc8 hb8
  go_wp2_with fail
  refine Calls.mono (core_Queue H8.out.core) ?_
  rintro r w9 ⟨rfl, rfl⟩
  go_wp2_with fail
  refine Calls.mono (use_Front H8.out HR4.out) ?_
  rintro r w9 ⟨rfl, rfl⟩
  go_wp2_with fail
  refine Calls.mono (use_Receive_no H8.out HC4.out nil_no (LiesB.nil _ 0 none) (Nat.zero_le _) (Nat.le_refl _) (by omega)) ?_
  rintro r w9 ⟨rfl, hc9, hb9⟩
  have H9 := hide hc9
  clear hc9 hb9
  go_wp2_with fail
  refine Calls.mono (use_Closed H9.out HC4.out) ?_
  rintro r w10 ⟨rfl, rfl⟩
  go_wp2_with fail
  refine Calls.mono (use_Events H9.out HE4.out) ?_
  rintro r w10 ⟨eA, ec, rfl, -, p10, hc10, -⟩
  go_wp2_with fail
  go_ret
  exact ⟨rfl, hc10.bel⟩
end Go.Proofs.Ytbcgffgiifminaa
