/-
  The document's player: a packet that may be, heard.
-/
import Derived.Test.YtbcgffgiifminaaDocF
namespace Go.Proofs.Ytbcgffgiifminaa
open Go.RowKit
set_option maxRecDepth 10000
set_option linter.unusedVariables false
theorem Co.Ok.hear1 {s : Co} (h : s.Ok) (j : Nat) (hj : j < s.peers.length) : (s.hear1 j).Ok := by
  have hp : s.pr j ∈ s.peers := by rw [Co.pr, List.getD_eq_getElem?_getD, List.getElem?_eq_getElem hj]; exact List.getElem_mem hj
  exact h.setPeer j _ (h.has (s.pr j) hp) ⟨h.now.1, Int.le_refl _⟩ (h.frame (s.pr j) hp) (h.sum (s.pr j) hp)
theorem putAdd_len (l : List UInt8) (first : Int) (b : List UInt8) (hl : l.length ≤ 1000) : (l ++ putAdd l first b).length ≤ 1000 := by
  unfold putAdd
  split
  · simpa using hl
  · simp; omega
theorem Co.Ok.hear2 {s : Co} (h : s.Ok) (j : Nat) (p : Pkt) : (s.hear2 j p).Ok :=
  h.setLine j _ (putAdd_len _ _ _ (h.short j)) (by rw [List.length_append]; omega)
theorem Co.Ok.hear3 {s : Co} (h : s.Ok) (j : Nat) (hj : j < s.peers.length) (p : Pkt) (h0 : 0 ≤ p.ack) : (s.hear3 j p).Ok := by
  unfold Co.hear3
  split
  · rename_i ha
    have hp : s.pr j ∈ s.peers := by rw [Co.pr, List.getD_eq_getElem?_getD, List.getElem?_eq_getElem hj]; exact List.getElem_mem hj
    rw [Co.acks, Bool.and_eq_true, decide_eq_true_eq, decide_eq_true_eq] at ha
    exact h.setPeer j _ ⟨h0, ha.2⟩ (h.heard (s.pr j) hp) (h.frame (s.pr j) hp) (h.sum (s.pr j) hp)
  · exact h
theorem Co.Ok.hear4 {s : Co} (h : s.Ok) (j : Nat) (hj : j < s.peers.length) (p : Pkt) (h0 : 0 ≤ p.frame ∧ p.frame ≤ 1000) (h1 : 0 ≤ p.sum ∧ p.sum < 4294967296) : (s.hear4 j p).Ok := by
  unfold Co.hear4
  split
  · have hp : s.pr j ∈ s.peers := by rw [Co.pr, List.getD_eq_getElem?_getD, List.getElem?_eq_getElem hj]; exact List.getElem_mem hj
    exact h.setPeer j _ (h.has (s.pr j) hp) (h.heard (s.pr j) hp) h0 h1
  · exact h
theorem RAt.setWord {B : Nat} {w : World} {x : Nat} {p : RP} {s : Co} (h : RAt B w x p s) {i : Nat} (hi : i < s.peers.length) (fr sm : Int) :
    RAt B ((w.setCell ⟨p.wg, i * 2, none⟩ (.int .i64 fr)).setCell ⟨p.wg, i * 2 + 1, none⟩ (.int .u32 sm)) x p { s with peers := s.peers.set i { s.peers[i] with frame := fr, sum := sm } } ∧ RSt w ((w.setCell ⟨p.wg, i * 2, none⟩ (.int .i64 fr)).setCell ⟨p.wg, i * 2 + 1, none⟩ (.int .u32 sm)) x p p := by
  have h1 := h.setPeer i { s.peers[i] with frame := fr } hi p.wg (i * 2) (.int .i64 fr) (.inr (.inr (.inr ⟨rfl, ⟨0, by omega, rfl, rfl⟩, rfl, rfl, rfl⟩)))
  have hi2 : i < ({ s with peers := s.peers.set i { s.peers[i] with frame := fr } } : Co).peers.length := by show i < (s.peers.set i _).length; rw [List.length_set]; exact hi
  have hp : ({ s with peers := s.peers.set i { s.peers[i] with frame := fr } } : Co).peers[i]'hi2 = { s.peers[i] with frame := fr } := List.getElem_set_self _
  have h2 := h1.1.setPeer i { s.peers[i] with frame := fr, sum := sm } hi2 p.wg (i * 2 + 1) (.int .u32 sm) (.inr (.inr (.inr ⟨rfl, ⟨1, by omega, rfl, by rw [hp]; rfl⟩, by rw [hp]; rfl, by rw [hp]; rfl, by rw [hp]; rfl⟩)))
  refine ⟨?_, h1.2.trans h2.2⟩
  have := h2.1
  simp only [List.set_set] at this
  exact this
set_option maxHeartbeats 32000000 in
theorem ref_Receive_yes {B : Nat} {w : World} {x : Nat} {p : RP} {s : Co} (h : RAt B w x p s) (ok : s.Ok) (calm : s.Calm) (hBw : B ≤ w.heap.size) (hcl : s.closed = false) (hen : p.en ≤ 999998000) {A : Option Addr} {n c B' : Nat} {b : List UInt8} (k : Pkt) (hb : Pkt.Is b k) (hA : LiesB w B' A n b) (hB' : B' ≤ w.heap.size) (hnc : n ≤ c) (hn : n ≤ 1000000) :
    Calls Try.prog 41 #[.pointer (some ⟨x, 0, none⟩), .slice A n c] w fun r w' => r = .returned (.int .i64 (if s.fits k = true then 0 else 1)) ∧ ∃ p', RAt B w' x p' (if s.fits k = true then s.hear k else s) ∧ RSt w w' x p p' := by
  have H := hide h
  have HC := hide hcl
  have HIS := hide hb
  have HA := hide hA
  have HBB := hide hB'
  have HB := hide hBw
  have HNC := hide hnc
  have OK := hide ok
  have CALM := hide calm
  have hfine := Pkt.may_iff.1 hb.1
  have hwf := hb.2.1
  obtain ⟨j, hj⟩ : ∃ j : Nat, k.src = (j : Int) := ⟨k.src.toNat, by have := hfine.src; omega⟩
  have HJ := hide hj
  obtain ⟨S, hS⟩ : ∃ S, S = (if s.fits k = true then s.hear k else s) := ⟨_, rfl⟩
  have HS := hide hS
  obtain ⟨R, hR⟩ : ∃ R : Int, R = (if s.fits k = true then 0 else 1) := ⟨_, rfl⟩
  have HR := hide hR
  rw [← hS, ← hR]
  have HFINE := hide hfine
  have HWF := hide hwf
  have c1 := h.cell (reRow_me s p)
  have c2 := h.cell (reRow_id s p)
  have c0 := h.cell (reRow_n s p)
  have c18 := h.cell (reRow_closed s p)
  rw [hcl] at c18
  clear h hcl hb hA hB' hnc hBw hfine hwf hj hS hR ok calm
  go_enter Try.func41, Try.ntmps41
  go_wp2_with fail
  refine Calls.mono (ref_Unpacket_fresh k HIS.out HA.out HBB.out HNC.out hn) ?_
  rintro r w2 ⟨A2, n2, cc2, rfl, hl2, hn2, hb2, hfr2⟩
  have HB2 := hide hb2
  have HL2 := hide hl2
  have HFR := hide hfr2
  have c1 := below_cell hb2 c1
  have c2 := below_cell hb2 c2
  have c0 := below_cell hb2 c0
  clear hb2 hl2 hfr2 c18
  obtain ⟨kind, src, dst, kid, first, press, ack, frame, sum⟩ := k
  simp only at HJ HFR HL2
  go_upto_region 4 with (refine wpP_init rfl (.tmp 5) (.tmp 14) rfl ⟨kind, src, dst, kid, first, press, ack, frame, sum⟩ A2 n2 cc2 rfl rfl rfl ?_; intro w3 ha3 hb3 hs3)
  obtain ⟨g, hg⟩ : ∃ g, g = w2.heap.size := ⟨_, rfl⟩
  have HG := hide hg
  rw [← hg] at ha3 ⊢
  have HP3 := hide ha3
  have HB3 := hide (Below_step HB2.out hb3)
  have HL3 := hide (HL2.out.below hb3)
  have c1 := below_cell hb3 c1
  have c2 := below_cell hb3 c2
  have c0 := below_cell hb3 c0
  have q1 := ha3.cell (j := 1) (by simp)
  have q2 := ha3.cell (j := 2) (by simp)
  have q3 := ha3.cell (j := 3) (by simp)
  simp only [List.getElem_cons_zero, List.getElem_cons_succ] at q1 q2 q3
  obtain ⟨me, hme⟩ : ∃ me, me = s.cfg.me := ⟨_, rfl⟩
  obtain ⟨id, hid⟩ : ∃ id, id = s.cfg.id := ⟨_, rfl⟩
  obtain ⟨np, hnp⟩ : ∃ np, np = s.cfg.n := ⟨_, rfl⟩
  rw [← hme] at c1
  rw [← hid] at c2
  rw [← hnp] at c0
  obtain ⟨z, hz⟩ : ∃ z, z = s.fits ⟨kind, src, dst, kid, first, press, ack, frame, sum⟩ := ⟨_, rfl⟩
  have hz2 : z = (decide (dst = me) && (decide (src < np) && decide (kid = id))) := by rw [hz, Co.fits, hme, hid, hnp]
  have HZ := hide hz
  have HNP := hide hnp
  rw [← hz] at HS HR
  clear ha3 hb3 hs3 hg hz hme hid hnp
  go_cut [47] (fun s47 wx => s47 = .bool (!z) ∧ ∃ nd, wx = w3.drewN nd)
  case first =>
    by_cases h1 : dst = me
    · have d1 : (dst != me) = false := by simp [h1]
      by_cases h2 : src < np
      · have d2 : decide (src ≥ np) = false := decide_eq_false (by omega)
        by_cases h3 : kid = id
        · have d3 : (kid != id) = false := by simp [h3]
          have e : Hid (z = true) := by show _ = _; rw [hz2, decide_eq_true h1, decide_eq_true h2, decide_eq_true h3]; rfl
          clear hz2 h1 h2 h3
          go_quiet (fail)
          go_wp2_with fail
          go_meet
          exact ⟨by rw [e.out]; rfl, _, rfl⟩
        · have d3 : (kid != id) = true := by simp [h3]
          have e : Hid (z = false) := by show _ = _; rw [hz2, decide_eq_true h1, decide_eq_true h2, decide_eq_false h3]; rfl
          clear hz2 h1 h2 h3
          go_quiet (fail)
          go_wp2_with fail
          go_meet
          exact ⟨by rw [e.out]; rfl, _, rfl⟩
      · have d2 : decide (src ≥ np) = true := decide_eq_true (by omega)
        have e : Hid (z = false) := by show _ = _; rw [hz2, decide_eq_true h1, decide_eq_false h2]; rfl
        clear hz2 h1 h2
        go_quiet (fail)
        go_wp2_with fail
        go_meet
        exact ⟨by rw [e.out]; rfl, _, rfl⟩
    · have d1 : (dst != me) = true := by simp [h1]
      have e : Hid (z = false) := by show _ = _; rw [hz2, decide_eq_false h1]; rfl
      clear hz2 h1
      go_quiet (fail)
      go_wp2_with fail
      go_meet
      exact ⟨by rw [e.out]; rfl, _, rfl⟩
  case rest =>
  obtain ⟨rfl, nd, hnd⟩ := hcut
  obtain ⟨W4, hW4⟩ : ∃ W4, W4 = wc := ⟨_, rfl⟩
  subst hW4
  have HP4 : Hid (Arr 41 W4 g (Pkt.row ⟨kind, src, dst, kid, first, press, ack, frame, sum⟩ (.slice A2 n2 cc2))) := by show Arr _ _ _ _; rw [hnd]; exact HP3.out.drewN nd
  have HB4 : Hid (Below w.heap.size w W4) := by show Below _ _ _; rw [hnd]; exact Below_drewN HB3.out nd
  have HL4 : Hid (LiesB W4 w2.heap.size A2 n2 press) := by show LiesB _ _ _ _ _; rw [hnd]; exact HL3.out.drewN nd
  clear hnd HP3 HB3 HL3 HL2 c1 c2 c0 q1 q2 q3
  cases z with
  | false =>
    go_wp2_with fail
    go_ret
    refine ⟨by rw [HR.out]; rfl, p, ?_, RSt.of_below HB4.out⟩
    rw [HS.out, if_neg (by decide)]
    exact H.out.below HB4.out
  | true =>
    rw [if_pos rfl] at HS HR
    have hnpl : (s.peers.length : Int) = np := by rw [HNP.out]; exact OK.out.np
    have hjn : j < s.peers.length := by
      have h1 := hz2
      simp only [Bool.true_eq, Bool.and_eq_true, decide_eq_true_eq] at h1
      have := HJ.out
      omega
    have HC4 := hide (H.out.below HB4.out)
    have c12 := HC4.out.cell (reRow_heard s p)
    have c11 := HC4.out.cell (reRow_now s p)
    have q1 := HP4.out.cell (j := 1) (by simp)
    simp only [List.getElem_cons_zero, List.getElem_cons_succ] at q1
    rw [HJ.out] at q1
    obtain ⟨npl, hnpl2⟩ : ∃ npl, npl = s.peers.length := ⟨_, rfl⟩
    rw [← hnpl2] at c12
    have hjl : (j : Int) < (npl : Int) := by rw [hnpl2]; omega
    have HJN := hide hjn
    have HNPL := hide hnpl2
    obtain ⟨pr, hpr⟩ : ∃ pr, pr = s.peers[j]'HJN.out := ⟨_, rfl⟩
    have HPR : Hid (s.pr j = pr) := by show _ = _; rw [hpr, Co.pr, List.getD_eq_getElem?_getD, List.getElem?_eq_getElem HJN.out]; rfl
    have HPM : Hid (pr ∈ s.peers) := by rw [hpr]; exact List.getElem_mem _
    have cH := HC4.out.hcell HJN.out
    have fH := HC4.out.heard.frozen j
    have HS1 := hide (HC4.out.setPeer j { pr with heard := s.now } HJN.out p.hg j (.int .i64 s.now) (.inl ⟨rfl, rfl, rfl, by rw [← hpr]; rfl, by rw [← hpr]; rfl, by rw [← hpr]; rfl⟩))
    have HE1 : Hid ({ s with peers := s.peers.set j { pr with heard := s.now } } = s.hear1 j) := by show _ = _; rw [Co.hear1, HPR.out]; rfl
    obtain ⟨nw, hnw⟩ : ∃ nw, nw = s.now := ⟨_, rfl⟩
    rw [← hnw] at c11 HS1 HE1
    have HNW := hide hnw
    have hbl := HC4.out.blocks
    have hgx : ∀ k', rBlocks x p k' → k' ≠ g := by
      intro k' hk' e
      have h1 := (H.out.blocks k' hk').2
      have h2 := HB2.out.size
      have h3 := HG.out
      omega
    have HGX := hide hgx
    have HKK := hide (Keeps.setCell W4 ⟨p.hg, j, none⟩ (.int .i64 nw))
    clear hz2 hnpl hjn hnpl2 hpr hnw hbl hgx
    go_upto_region 6 with fail
    refine wp_region_noPanic ?_
    refine wp_region_held_drew (S := (fun w' => w'.cell? ⟨x, 12, none⟩ = some (.slice (some ⟨p.hg, 0, none⟩) npl p.hc) ∧ w'.cell? ⟨g, 1, none⟩ = some (.int .i64 (j : Int)) ∧ w'.cell? ⟨x, 11, none⟩ = some (.int .i64 nw))) (by kernel_rfl) ⟨c12, q1, c11⟩ (fun hHeld => ?_)
    refine tk0 0 ?_
    refine tk 1 ?_
    refine tk 2 ?_
    refine tk 3 ?_
    refine tk 4 ?_
    refine tk 5 ?_
    refine tk 6 ?_
    refine tk 7 ?_
    refine tk 8 ?_
    refine tk 9 ?_
    refine tk 10 ?_
    refine rdy 11 fun K hK => ?_
    go_simp
    have HP5 := hide (HP4.out.keeps HKK.out (by show ¬ g = p.hg; exact fun e => HGX.out p.hg (.inr (.inr (.inr (.inl rfl)))) e.symm))
    have c12' := HS1.out.1.cell (reRow_heard _ p)
    rw [show ({ s with peers := s.peers.set j { pr with heard := nw } } : Co).peers.length = npl by rw [HNPL.out]; exact List.length_set] at c12'
    have c11' := HS1.out.1.cell (reRow_now _ p)
    have c11' : (W4.setCell ⟨p.hg, j, none⟩ (.int .i64 nw)).cell? ⟨x, 11, none⟩ = some (.int .i64 nw) := by rw [c11', HNW.out]
    have q1' := HP5.out.cell (j := 1) (by simp)
    simp only [List.getElem_cons_zero, List.getElem_cons_succ] at q1'
    rw [HJ.out] at q1'
    refine hK.out _ _ ⟨c12', q1', c11'⟩ (fun hHeld => ?_)
    clear hK K
    try simp only [Act.put]
    refine wpAnyH_done (by kernel_rfl) (NoPanic.normal ?_) _
    have HL5 := hide (HL4.out.keeps HKK.out (fun bk off h1 h2 hm => by
      have h3 := HFR.out bk off h1 h2
      have h4 := (H.out.blocks p.hg (.inr (.inr (.inr (.inl rfl))))).2
      have hm : bk = p.hg := hm
      omega))
    generalize World.setCell W4 _ _ = W5' at HS1 HP5 HL5 HKK ⊢
    have HC5 : Hid (RAt B W5'.drew x p (s.hear1 j)) := by show RAt _ _ _ _ _; rw [← HE1.out]; exact HS1.out.1.drew
    have HST5 : Hid (RSt w W5'.drew x p p) := ((RSt.of_below HB4.out).trans HS1.out.2).trans (RSt.of_below ((Below.refl _ _).drew))
    have HP5 := hide HP5.out.drew
    have HL5 := hide HL5.out.drew
    clear HS1 HKK
    generalize World.drew W5' = W5 at HC5 HST5 HP5 HL5 ⊢
    have OK5 : Hid (s.hear1 j).Ok := OK.out.hear1 j HJN.out
    have CALM5 : Hid (s.hear1 j).Calm := CALM.out.hear1 j
    have hsl1 : (s.hear1 j).peers.length = s.peers.length := by rw [← HE1.out]; exact List.length_set
    have hev1 : (s.hear1 j).events = s.events := by rw [← HE1.out]
    have HSL1 := hide hsl1
    have HEV1 := hide hev1
    have q0 := HP5.out.cell (j := 0) (by simp)
    simp only [List.getElem_cons_zero] at q0
    have hj8 : j < 8 := by have := OK.out.len; have := HJN.out; omega
    clear HP4 HL4 HC4 cH fH hsl1 hev1 c12 c11 q1 c12' c11' q1' hHeld
    rcases HFINE.out.kind with ⟨hk1, hkfi, hka, hkf, hkp⟩ | ⟨hk2, -⟩
    · simp only at hk1 hkfi hka hkf hkp
      have d2 : (kind == 2) = false := by rw [hk1]; rfl
      have HS0 : Hid (S = ((((s.hear1 j).hear2 j ⟨kind, src, dst, kid, first, press, ack, frame, sum⟩).hear3 j ⟨kind, src, dst, kid, first, press, ack, frame, sum⟩).hear4 j ⟨kind, src, dst, kid, first, press, ack, frame, sum⟩).hold) := by
        show _ = _
        rw [HS.out, Co.hear, if_neg (by show ¬ kind = 2; omega)]
        have e : (Pkt.src ⟨kind, src, dst, kid, first, press, ack, frame, sum⟩).toNat = j := by show src.toNat = j; rw [HJ.out]; rfl
        rw [e]
      obtain ⟨lg, hA5, hrl5⟩ := HC5.out.rl OK5.out
      have HA5 := hide hA5
      have HRL5 := hide hrl5
      have cL5 := HC5.out.cell (reRow_L _ p)
      rw [hA5] at cL5
      obtain ⟨nl, hnl⟩ : ∃ nl, nl = (s.hear1 j).ls.length := ⟨_, rfl⟩
      rw [← hnl] at cL5
      have HNL := hide hnl
      have hjl2 : j < (s.hear1 j).ls.length := by have h1 := OK5.out.len; have h2 := HSL1.out; have h3 := HJN.out; omega
      have hjnl : (j : Int) < (nl : Int) := by rw [hnl]; omega
      have q1 := HP5.out.cell (j := 1) (by simp)
      have q4 := HP5.out.cell (j := 4) (by simp)
      have q5 := HP5.out.cell (j := 5) (by simp)
      simp only [List.getElem_cons_zero, List.getElem_cons_succ] at q1 q4 q5
      rw [HJ.out] at q1
      have hs25 : w2.heap.size ≤ W5.heap.size := by have := HP5.out.lt; have := HG.out; omega
      have HRS : Hid (∀ (hs : j < p.ss.length) k', rlBlocks lg p.ss[j] k' → rBlocks x p k') := fun hs k' hk' => by
        rcases hk' with rfl | hk'
        · exact .inr (.inl (by rw [HA5.out]; rfl))
        · exact .inr (.inr (.inl ⟨j, hs, hk'⟩))
      have HEN : Hid (∀ {w9 : World} {p9 : RP} {s9 : Co}, RAt B w9 x p9 s9 → s9.events = s.events → p9.en ≤ 999999000) := fun h9 e9 => by
        have h1 := h9.en
        have h2 := H.out.en
        rw [e9] at h1
        omega
      have HB5 : Hid (B ≤ W5.heap.size) := Nat.le_trans HB.out HST5.out.keeps.size
      have HJL := hide hjl2
      clear hnl hrl5 hA5 hk1 hjl2
      go_upto_region 10 with fail
      clear q0
      refine wp_region_noPanic ?_
      refine wp_region_held_drew (S := (fun w' => w'.cell? ⟨x, 10, none⟩ = some (.slice (some ⟨lg, 0, none⟩) nl p.gc) ∧ w'.cell? ⟨g, 1, none⟩ = some (.int .i64 (j : Int)) ∧ w'.cell? ⟨g, 4, none⟩ = some (.int .i64 first) ∧ w'.cell? ⟨g, 5, none⟩ = some (.slice A2 n2 cc2))) (by kernel_rfl) ⟨cL5, q1, q4, q5⟩ (fun hHeld => ?_)
      refine tk0 0 ?_
      refine tk 1 ?_
      refine tk 2 ?_
      refine tk 3 ?_
      refine tk 4 ?_
      refine tk 5 ?_
      refine tk 6 ?_
      refine tk 7 ?_
      refine tk 8 ?_
      refine tk 9 ?_
      refine tk 10 ?_
      refine rdy 11 fun K hK => ?_
      go_simp
      refine Calls.mono (ref_LinePutV HRL5.out.drew HB5.out j HJL.out rfl first (HL5.out.drew) hs25 (fun hs bk off h1 h2 hm => by have h3 := HFR.out bk off h1 h2; have h4 := (H.out.blocks bk (HRS.out hs bk hm)).2; omega) (by omega) (by omega) (by omega) rfl rfl rfl) ?_
      rintro r w7 ⟨rfl, y7, hs7, hr7, hk7, hx7⟩
      have HLN := hide (HC5.out.drew.lineStep HA5.out (rl := HRL5.out.drew) hs7 hr7 hk7 hx7)
      have HP7 := hide (HP5.out.drew.keeps hk7 (fun hm => HGX.out g (HRS.out hs7 g hm) rfl))
      have cL7 := HLN.out.1.cell (reRow_L _ _)
      have r1 := HP7.out.cell (j := 1) (by simp)
      have r4 := HP7.out.cell (j := 4) (by simp)
      have r5 := HP7.out.cell (j := 5) (by simp)
      simp only [List.getElem_cons_zero, List.getElem_cons_succ] at r1 r4 r5
      rw [HJ.out] at r1
      have cL7 : w7.cell? ⟨x, 10, none⟩ = some (.slice (some ⟨lg, 0, none⟩) nl p.gc) := by rw [cL7, HNL.out]; show some (Value.slice p.A ((s.hear1 j).ls.set j _).length p.gc) = _; rw [List.length_set, HA5.out]
      refine hK.out _ _ ⟨cL7, r1, r4, r5⟩ (fun hHeld => ?_)
      clear hK K
      try simp only [Act.put, List.setIfInBounds_toArray, List.set_cons_zero, List.set_cons_succ]
      refine wpAnyH_done (by kernel_rfl) (NoPanic.normal ?_) _
      obtain ⟨p7, hp7⟩ : ∃ p7 : RP, p7 = { p with ss := p.ss.set j y7 } := ⟨_, rfl⟩
      obtain ⟨s2, hs2⟩ : ∃ s2, s2 = (s.hear1 j).hear2 j ⟨kind, src, dst, kid, first, press, ack, frame, sum⟩ := ⟨_, rfl⟩
      have HC7 : Hid (RAt B w7 x p7 s2) := by rw [hp7, hs2]; exact HLN.out.1
      have HST7 : Hid (RSt w w7 x p p7) := by rw [hp7]; exact (HST5.out.trans (RSt.of_below ((Below.refl _ _).drew))).trans HLN.out.2
      have OK7 : Hid s2.Ok := by rw [hs2]; exact OK5.out.hear2 j _
      have HSL2 : Hid (s2.peers.length = s.peers.length) := by rw [hs2]; exact HSL1.out
      have HEV2 : Hid (s2.events = s.events) := by rw [hs2]; exact HEV1.out
      rw [← hs2] at HS0
      have HGX7 : Hid (∀ k', rBlocks x p7 k' → k' ≠ g) := fun k' hk' e => by
        rw [hp7] at hk'
        rcases HLN.out.2.new k' hk' with h1 | h1
        · exact HGX.out k' h1 e
        · have h2 := HP5.out.lt
          have h3 : W5.heap.size ≤ k' := h1
          omega
      clear hp7 hs2 HLN hr7 hk7 hx7 cL7 r1 r4 r5 cL5 q1 q4 q5
      have q6 := HP7.out.cell (j := 6) (by simp)
      simp only [List.getElem_cons_zero, List.getElem_cons_succ] at q6
      obtain ⟨ml, hml⟩ : ∃ ml : Nat, ml = s2.mine.length := ⟨_, rfl⟩
      have HML := hide hml
      obtain ⟨z2, hz2⟩ : ∃ z2 : Bool, decide (ack ≤ (ml : Int)) = z2 := ⟨_, rfl⟩
      clear hml
      go_upto_region 11 with fail
      go_cut [85] (fun s85 wx => s85 = .bool z2 ∧ ∃ nd, wx = w7.drewN nd)
      case first =>
        refine wp_region_noPanic ?_
        refine wp_region_held_drew (S := (fun w' => w'.cell? ⟨g, 6, none⟩ = some (.int .i64 ack))) (by kernel_rfl) q6 (fun hHeld => ?_)
        refine tk0 0 ?_
        refine tk 1 ?_
        refine tk 2 ?_
        refine rdy 3 fun K hK => ?_
        go_simp
        refine Calls.mono (ref_HeadCore HC7.out.drew OK7.out) ?_
        rw [← HML.out]
        rintro r w8 ⟨rfl, nd8, rfl⟩
        refine hK.out _ _ q6 (fun hHeld => ?_)
        clear hK K
        try simp only [Act.put, List.setIfInBounds_toArray, List.set_cons_zero, List.set_cons_succ]
        refine tk 4 ?_
        refine wpAnyH_done (by kernel_rfl) (NoPanic.normal ?_) _
        go_wp2_with fail
        go_meet
        exact ⟨by rw [← hz2], _, rfl⟩
      case rest =>
      obtain ⟨rfl, nd8, hnd8⟩ := hcut
      obtain ⟨W8, hW8⟩ : ∃ W8, W8 = wc := ⟨_, rfl⟩
      subst hW8
      have HC8 : Hid (RAt B W8 x p7 s2) := by show RAt _ _ _ _ _; rw [hnd8]; exact HC7.out.drewN nd8
      have HST8 : Hid (RSt w W8 x p p7) := by show RSt _ _ _ _ _; rw [hnd8]; exact HST7.out.trans (RSt.of_below (Below_drewN (Below.refl _ _) nd8))
      have HP8 : Hid (Arr 41 W8 g (Pkt.row ⟨kind, src, dst, kid, first, press, ack, frame, sum⟩ (.slice A2 n2 cc2))) := by show Arr _ _ _ _; rw [hnd8]; exact HP7.out.drewN nd8
      have HZ2 := hide hz2
      clear hnd8 q6 HC7 HST7 HP7 hz2
      cases z2 with
      | false =>
        have HS3W8 : Hid (s2.hear3 j ⟨kind, src, dst, kid, first, press, ack, frame, sum⟩ = s2) := by
          show _ = _
          have h1 := HZ2.out
          rw [Co.hear3, Co.acks, if_neg]
          show ¬ (decide (ack > _) && decide (ack ≤ (s2.mine.length : Int))) = true
          rw [← HML.out, h1, Bool.and_false]; decide
        have HSLW8 := HSL2
        have HEVW8 := HEV2
        have cWW8 := HC8.out.cell (reRow_words s2 p7)
        rw [show s2.peers.length = npl by rw [HNPL.out]; exact HSLW8.out] at cWW8
        have q1 := HP8.out.cell (j := 1) (by simp)
        have q7 := HP8.out.cell (j := 7) (by simp)
        have q8 := HP8.out.cell (j := 8) (by simp)
        simp only [List.getElem_cons_zero, List.getElem_cons_succ] at q1 q7 q8
        rw [HJ.out] at q1
        have hjW8 : j < s2.peers.length := by rw [HSLW8.out]; exact HJN.out
        obtain ⟨pr3, hpr3⟩ : ∃ pr3, pr3 = s2.peers[j]'hjW8 := ⟨_, rfl⟩
        have HPR3 : Hid (s2.pr j = pr3) := by show _ = _; rw [hpr3, Co.pr, List.getD_eq_getElem?_getD, List.getElem?_eq_getElem hjW8]; rfl
        have v0 := HC8.out.wcell hjW8 (m := 0) (by omega) (v := .int .i64 pr3.frame) (by rw [← hpr3]; rfl)
        obtain ⟨fr3, hfr3⟩ : ∃ fr3, fr3 = pr3.frame := ⟨_, rfl⟩
        rw [← hfr3] at v0
        have v0 : W8.cell? ⟨p7.wg, j * 2, none⟩ = some (.int .i64 fr3) := v0
        obtain ⟨wz, hwz⟩ : ∃ wz, wz = s2.words j ⟨kind, src, dst, kid, first, press, ack, frame, sum⟩ := ⟨_, rfl⟩
        have hwz2 : wz = (decide (frame > 0) && decide (frame ≥ fr3)) := by rw [hwz, Co.words, HPR3.out, ← hfr3]
        have HWZ := hide hwz
        have HPR3' := hide hpr3
        clear hwz hfr3 hpr3
        go_upto_region 13 with fail
        go_cut [120] (fun s120 wx => s120 = .bool wz ∧ ∃ nd, wx = W8.drewN nd)
        case first =>
          by_cases h1 : frame > 0
          · have d1 : decide (frame > 0) = true := decide_eq_true h1
            obtain ⟨z3, hz3⟩ : ∃ z3 : Bool, decide (frame ≥ fr3) = z3 := ⟨_, rfl⟩
            have e : Hid (wz = z3) := by show _ = _; rw [hwz2, d1, hz3]; rfl
            clear hwz2 h1
            go_quiet (fail)
            go_wp2_with fail
            go_meet
            exact ⟨by rw [e.out], _, rfl⟩
          · have d1 : decide (frame > 0) = false := decide_eq_false h1
            have e : Hid (wz = false) := by show _ = _; rw [hwz2, d1]; rfl
            clear hwz2 h1
            go_quiet (fail)
            go_wp2_with fail
            go_meet
            exact ⟨by rw [e.out], _, rfl⟩
        case rest =>
        obtain ⟨rfl, nd9, hnd9⟩ := hcut
        obtain ⟨W9, hW9⟩ : ∃ W9, W9 = wc := ⟨_, rfl⟩
        subst hW9
        have HC9 : Hid (RAt B W9 x p7 s2) := by show RAt _ _ _ _ _; rw [hnd9]; exact HC8.out.drewN nd9
        have HST9 : Hid (RSt w W9 x p p7) := by show RSt _ _ _ _ _; rw [hnd9]; exact HST8.out.trans (RSt.of_below (Below_drewN (Below.refl _ _) nd9))
        have HP9 : Hid (Arr 41 W9 g (Pkt.row ⟨kind, src, dst, kid, first, press, ack, frame, sum⟩ (.slice A2 n2 cc2))) := by show Arr _ _ _ _; rw [hnd9]; exact HP8.out.drewN nd9
        have OK4 : Hid (s2.hear4 j ⟨kind, src, dst, kid, first, press, ack, frame, sum⟩).Ok := OK7.out.hear4 j hjW8 _ hkf HWF.out
        clear hnd9 cWW8 q1 q7 q8 v0 hwz2
        cases wz with
        | false =>
          have HS4 : Hid (s2.hear4 j ⟨kind, src, dst, kid, first, press, ack, frame, sum⟩ = s2) := by show _ = _; rw [Co.hear4, ← HWZ.out]; rfl
          have OK3 : Hid s2.Ok := OK7
          go_wp2_with fail
          refine Calls.mono (ref_held HC9.out OK3.out (Nat.le_trans HB.out HST9.out.keeps.size) (HEN.out HC9.out HEVW8.out)) ?_
          rintro r w8 ⟨rfl, p8, hc8, hst8⟩
          go_wp2_with fail
          go_ret
          refine ⟨by rw [HR.out]; rfl, p8, ?_, HST9.out.trans hst8⟩
          rw [HS0.out, HS3W8.out, HS4.out]
          exact hc8
        | true =>
          have HS4 : Hid (s2.hear4 j ⟨kind, src, dst, kid, first, press, ack, frame, sum⟩ = s2.setP j { pr3 with frame := frame, sum := sum }) := by show _ = _; rw [Co.hear4, ← HWZ.out, HPR3.out]; rfl
          have cW9 := HC9.out.cell (reRow_words s2 p7)
          rw [show s2.peers.length = npl by rw [HNPL.out]; exact HSLW8.out] at cW9
          have q1 := HP9.out.cell (j := 1) (by simp)
          have q7 := HP9.out.cell (j := 7) (by simp)
          have q8 := HP9.out.cell (j := 8) (by simp)
          simp only [List.getElem_cons_zero, List.getElem_cons_succ] at q1 q7 q8
          rw [HJ.out] at q1
          have v0 := HC9.out.wcell hjW8 (m := 0) (by omega) (v := .int .i64 pr3.frame) (by rw [← HPR3'.out]; rfl)
          have v1 := HC9.out.wcell hjW8 (m := 1) (by omega) (v := .int .u32 pr3.sum) (by rw [← HPR3'.out]; rfl)
          have v0 : W9.cell? ⟨p7.wg, j * 2, none⟩ = some (.int .i64 pr3.frame) := v0
          have f0 := World.ownsRow.frozenAt HC9.out.words (j * 2)
          have f1 := World.ownsRow.frozenAt HC9.out.words (j * 2 + 1)
          go_upto_region 14 with fail
          refine wp_region_noPanic ?_
          refine wp_region_held_drew (S := (fun w' => w'.cell? ⟨x, 14, none⟩ = some (.slice (some ⟨p7.wg, 0, none⟩) npl p7.wc) ∧ w'.cell? ⟨g, 1, none⟩ = some (.int .i64 (j : Int)) ∧ w'.cell? ⟨g, 7, none⟩ = some (.int .i64 frame) ∧ w'.cell? ⟨g, 8, none⟩ = some (.int .u32 sum))) (by kernel_rfl) ⟨cW9, q1, q7, q8⟩ (fun hHeld => ?_)
          refine tk0 0 ?_
          refine tk 1 ?_
          refine tk 2 ?_
          refine tk 3 ?_
          refine tk 4 ?_
          refine tk 5 ?_
          refine tk 6 ?_
          refine tk 7 ?_
          refine tk 8 ?_
          refine tk 9 ?_
          refine tk 10 ?_
          refine tk 11 ?_
          refine rdy 12 fun K hK => ?_
          go_simp
          have HW2 := hide (RAt.setWord HC9.out hjW8 frame sum)
          have HP10 := hide ((HP9.out.keeps (Keeps.setCell W9 ⟨p7.wg, j * 2, none⟩ (.int .i64 frame)) (by show ¬ g = p7.wg; exact fun e => HGX7.out p7.wg (.inr (.inr (.inr (.inr (.inr (.inl rfl)))))) e.symm)).keeps (Keeps.setCell _ ⟨p7.wg, j * 2 + 1, none⟩ (.int .u32 sum)) (by show ¬ g = p7.wg; exact fun e => HGX7.out p7.wg (.inr (.inr (.inr (.inr (.inr (.inl rfl)))))) e.symm))
          have cW10 := HW2.out.1.cell (reRow_words _ p7)
          rw [show ({ s2 with peers := s2.peers.set j { s2.peers[j]'hjW8 with frame := frame, sum := sum } } : Co).peers.length = npl by rw [HNPL.out, ← HSLW8.out]; exact List.length_set] at cW10
          have r1 := HP10.out.cell (j := 1) (by simp)
          have r7 := HP10.out.cell (j := 7) (by simp)
          have r8 := HP10.out.cell (j := 8) (by simp)
          simp only [List.getElem_cons_zero, List.getElem_cons_succ] at r1 r7 r8
          rw [HJ.out] at r1
          refine hK.out _ _ ⟨cW10, r1, r7, r8⟩ (fun hHeld => ?_)
          clear hK K
          try simp only [Act.put]
          refine wpAnyH_done (by kernel_rfl) (NoPanic.normal ?_) _
          generalize World.setCell (World.setCell W9 _ _) _ _ = W12 at HW2 ⊢
          have HC10 := hide HW2.out.1.drew
          have HST10 := hide ((HST9.out.trans HW2.out.2).trans (RSt.of_below ((Below.refl _ _).drew)))
          have HE10 : Hid (({ s2 with peers := s2.peers.set j { s2.peers[j]'hjW8 with frame := frame, sum := sum } } : Co) = s2.hear4 j ⟨kind, src, dst, kid, first, press, ack, frame, sum⟩) := by show _ = _; rw [HS4.out, HPR3'.out]; rfl
          rw [HE10.out] at HC10
          have HEV10 : Hid ((s2.hear4 j ⟨kind, src, dst, kid, first, press, ack, frame, sum⟩).events = s.events) := by show _ = _; rw [← HE10.out]; exact HEVW8.out
          clear HW2 HP10 cW10 r1 r7 r8 cW9 q1 q7 q8 v0 v1 f0 f1 hHeld
          generalize World.drew W12 = W11 at HC10 HST10 ⊢
          go_wp2_with fail
          refine Calls.mono (ref_held HC10.out OK4.out (Nat.le_trans HB.out HST10.out.keeps.size) (HEN.out HC10.out HEV10.out)) ?_
          rintro r w8 ⟨rfl, p8, hc8, hst8⟩
          go_wp2_with fail
          go_ret
          refine ⟨by rw [HR.out]; rfl, p8, ?_, HST10.out.trans hst8⟩
          rw [HS0.out, HS3W8.out]
          exact hc8
      | true =>
        have hj8 : j < s2.peers.length := by rw [HSL2.out]; exact HJN.out
        obtain ⟨pr2, hpr2⟩ : ∃ pr2, pr2 = s2.peers[j]'hj8 := ⟨_, rfl⟩
        have HPR2 : Hid (s2.pr j = pr2) := by show _ = _; rw [hpr2, Co.pr, List.getD_eq_getElem?_getD, List.getElem?_eq_getElem hj8]; rfl
        have a0 := HC8.out.scell hj8
        rw [← hpr2] at a0
        have fA := HC8.out.has.frozen j
        have cA := HC8.out.cell (reRow_has s2 p7)
        rw [show s2.peers.length = npl by rw [HNPL.out]; exact HSL2.out] at cA
        have q1 := HP8.out.cell (j := 1) (by simp)
        have q6 := HP8.out.cell (j := 6) (by simp)
        simp only [List.getElem_cons_zero, List.getElem_cons_succ] at q1 q6
        rw [HJ.out] at q1
        obtain ⟨hs0, hhs0⟩ : ∃ hs0, hs0 = pr2.has := ⟨_, rfl⟩
        rw [← hhs0] at a0
        have HS9 := hide (HC8.out.setPeer j { pr2 with has := max hs0 ack } hj8 p7.ag j (.int .i64 (max hs0 ack)) (.inr (.inl ⟨rfl, rfl, rfl, by rw [← hpr2]; rfl, by rw [← hpr2]; rfl, by rw [← hpr2]; rfl⟩)))
        have HP9' := hide (HP8.out.keeps (Keeps.setCell W8 ⟨p7.ag, j, none⟩ (.int .i64 (max hs0 ack))) (by show ¬ g = p7.ag; exact fun e => HGX7.out p7.ag (.inr (.inr (.inr (.inr (.inl rfl))))) e.symm))
        obtain ⟨s3, hs3⟩ : ∃ s3 : Co, s3 = { s2 with peers := s2.peers.set j { pr2 with has := max hs0 ack } } := ⟨_, rfl⟩
        have HS3W10 : Hid (s2.hear3 j ⟨kind, src, dst, kid, first, press, ack, frame, sum⟩ = s3) := by
          show _ = _
          have h1 := HZ2.out
          rw [Co.hear3, Co.acks, HPR2.out, ← HML.out, ← hhs0]
          show (if (decide (ack > hs0) && decide (ack ≤ (ml : Int))) = true then s2.setP j { pr2 with has := ack } else s2) = _
          rw [h1, Bool.and_true, hs3]
          by_cases h2 : ack > hs0
          · rw [if_pos (decide_eq_true h2), Int.max_eq_right (by omega)]; rfl
          · rw [if_neg (by rw [decide_eq_false h2]; decide), Int.max_eq_left (by omega), hhs0]
            have e : s2.peers.set j { pr2 with has := pr2.has } = s2.peers := by
              show s2.peers.set j pr2 = s2.peers
              rw [hpr2]; exact List.set_getElem_self _
            rw [e]
        rw [← hs3] at HS9
        have HSLW10 : Hid (s3.peers.length = s.peers.length) := by show _ = _; rw [hs3]; show (s2.peers.set j _).length = _; rw [List.length_set]; exact HSL2.out
        have HEVW10 : Hid (s3.events = s.events) := by show _ = _; rw [hs3]; exact HEV2.out
        have OKW10 : Hid s3.Ok := by show s3.Ok; rw [← HS3W10.out]; exact OK7.out.hear3 j hj8 _ hka.1
        clear hs3 hpr2 hhs0
        go_upto_region 12 with fail
        refine wp_region_noPanic ?_
        refine wp_region_held_drew (S := (fun w' => w'.cell? ⟨x, 13, none⟩ = some (.slice (some ⟨p7.ag, 0, none⟩) npl p7.ac) ∧ w'.cell? ⟨g, 1, none⟩ = some (.int .i64 (j : Int)) ∧ w'.cell? ⟨g, 6, none⟩ = some (.int .i64 ack))) (by kernel_rfl) ⟨cA, q1, q6⟩ (fun hHeld => ?_)
        refine tk0 0 ?_
        refine tk 1 ?_
        refine tk 2 ?_
        refine tk 3 ?_
        refine tk 4 ?_
        refine tk 5 ?_
        refine tk 6 ?_
        refine tk 7 ?_
        refine tk 8 ?_
        refine tk 9 ?_
        refine tk 10 ?_
        refine tk 11 ?_
        refine tk 12 ?_
        refine tk 14 ?_
        refine tk 15 ?_
        refine rdy 13 fun K hK => ?_
        go_simp
        refine hK.out _ _ ⟨cA, q1, q6⟩ (fun hHeld => ?_)
        clear hK K
        try simp only [Act.put, List.setIfInBounds_toArray, List.set_cons_zero, List.set_cons_succ]
        refine tk 16 ?_
        refine tk 17 ?_
        refine rdy 18 fun K hK => ?_
        go_simp
        have cA9 := HS9.out.1.cell (reRow_has _ p7)
        rw [show s3.peers.length = npl by rw [HNPL.out]; exact HSLW10.out] at cA9
        have r1 := HP9'.out.cell (j := 1) (by simp)
        have r6 := HP9'.out.cell (j := 6) (by simp)
        simp only [List.getElem_cons_zero, List.getElem_cons_succ] at r1 r6
        rw [HJ.out] at r1
        refine hK.out _ _ ⟨cA9, r1, r6⟩ (fun hHeld => ?_)
        clear hK K
        try simp only [Act.put]
        refine wpAnyH_done (by kernel_rfl) (NoPanic.normal ?_) _
        generalize World.setCell W8 _ _ = W9' at HS9 HP9' ⊢
        have HCW := hide HS9.out.1.drew
        have HSTW := hide ((HST8.out.trans HS9.out.2).trans (RSt.of_below ((Below.refl _ _).drew)))
        have HPW := hide HP9'.out.drew
        clear HS9 HP9' cA9 r1 r6 cA q1 q6 a0 fA hHeld
        generalize World.drew W9' = W10 at HCW HSTW HPW ⊢
        have cWW10 := HCW.out.cell (reRow_words s3 p7)
        rw [show s3.peers.length = npl by rw [HNPL.out]; exact HSLW10.out] at cWW10
        have q1 := HPW.out.cell (j := 1) (by simp)
        have q7 := HPW.out.cell (j := 7) (by simp)
        have q8 := HPW.out.cell (j := 8) (by simp)
        simp only [List.getElem_cons_zero, List.getElem_cons_succ] at q1 q7 q8
        rw [HJ.out] at q1
        have hjW10 : j < s3.peers.length := by rw [HSLW10.out]; exact HJN.out
        obtain ⟨pr3, hpr3⟩ : ∃ pr3, pr3 = s3.peers[j]'hjW10 := ⟨_, rfl⟩
        have HPR3 : Hid (s3.pr j = pr3) := by show _ = _; rw [hpr3, Co.pr, List.getD_eq_getElem?_getD, List.getElem?_eq_getElem hjW10]; rfl
        have v0 := HCW.out.wcell hjW10 (m := 0) (by omega) (v := .int .i64 pr3.frame) (by rw [← hpr3]; rfl)
        obtain ⟨fr3, hfr3⟩ : ∃ fr3, fr3 = pr3.frame := ⟨_, rfl⟩
        rw [← hfr3] at v0
        have v0 : W10.cell? ⟨p7.wg, j * 2, none⟩ = some (.int .i64 fr3) := v0
        obtain ⟨wz, hwz⟩ : ∃ wz, wz = s3.words j ⟨kind, src, dst, kid, first, press, ack, frame, sum⟩ := ⟨_, rfl⟩
        have hwz2 : wz = (decide (frame > 0) && decide (frame ≥ fr3)) := by rw [hwz, Co.words, HPR3.out, ← hfr3]
        have HWZ := hide hwz
        have HPR3' := hide hpr3
        clear hwz hfr3 hpr3
        go_upto_region 13 with fail
        go_cut [120] (fun s120 wx => s120 = .bool wz ∧ ∃ nd, wx = W10.drewN nd)
        case first =>
          by_cases h1 : frame > 0
          · have d1 : decide (frame > 0) = true := decide_eq_true h1
            obtain ⟨z3, hz3⟩ : ∃ z3 : Bool, decide (frame ≥ fr3) = z3 := ⟨_, rfl⟩
            have e : Hid (wz = z3) := by show _ = _; rw [hwz2, d1, hz3]; rfl
            clear hwz2 h1
            go_quiet (fail)
            go_wp2_with fail
            go_meet
            exact ⟨by rw [e.out], _, rfl⟩
          · have d1 : decide (frame > 0) = false := decide_eq_false h1
            have e : Hid (wz = false) := by show _ = _; rw [hwz2, d1]; rfl
            clear hwz2 h1
            go_quiet (fail)
            go_wp2_with fail
            go_meet
            exact ⟨by rw [e.out], _, rfl⟩
        case rest =>
        obtain ⟨rfl, nd9, hnd9⟩ := hcut
        obtain ⟨W9, hW9⟩ : ∃ W9, W9 = wc := ⟨_, rfl⟩
        subst hW9
        have HC9 : Hid (RAt B W9 x p7 s3) := by show RAt _ _ _ _ _; rw [hnd9]; exact HCW.out.drewN nd9
        have HST9 : Hid (RSt w W9 x p p7) := by show RSt _ _ _ _ _; rw [hnd9]; exact HSTW.out.trans (RSt.of_below (Below_drewN (Below.refl _ _) nd9))
        have HP9 : Hid (Arr 41 W9 g (Pkt.row ⟨kind, src, dst, kid, first, press, ack, frame, sum⟩ (.slice A2 n2 cc2))) := by show Arr _ _ _ _; rw [hnd9]; exact HPW.out.drewN nd9
        have OK4 : Hid (s3.hear4 j ⟨kind, src, dst, kid, first, press, ack, frame, sum⟩).Ok := OKW10.out.hear4 j hjW10 _ hkf HWF.out
        clear hnd9 cWW10 q1 q7 q8 v0 hwz2
        cases wz with
        | false =>
          have HS4 : Hid (s3.hear4 j ⟨kind, src, dst, kid, first, press, ack, frame, sum⟩ = s3) := by show _ = _; rw [Co.hear4, ← HWZ.out]; rfl
          have OK3 : Hid s3.Ok := OKW10
          go_wp2_with fail
          refine Calls.mono (ref_held HC9.out OK3.out (Nat.le_trans HB.out HST9.out.keeps.size) (HEN.out HC9.out HEVW10.out)) ?_
          rintro r w8 ⟨rfl, p8, hc8, hst8⟩
          go_wp2_with fail
          go_ret
          refine ⟨by rw [HR.out]; rfl, p8, ?_, HST9.out.trans hst8⟩
          rw [HS0.out, HS3W10.out, HS4.out]
          exact hc8
        | true =>
          have HS4 : Hid (s3.hear4 j ⟨kind, src, dst, kid, first, press, ack, frame, sum⟩ = s3.setP j { pr3 with frame := frame, sum := sum }) := by show _ = _; rw [Co.hear4, ← HWZ.out, HPR3.out]; rfl
          have cW9 := HC9.out.cell (reRow_words s3 p7)
          rw [show s3.peers.length = npl by rw [HNPL.out]; exact HSLW10.out] at cW9
          have q1 := HP9.out.cell (j := 1) (by simp)
          have q7 := HP9.out.cell (j := 7) (by simp)
          have q8 := HP9.out.cell (j := 8) (by simp)
          simp only [List.getElem_cons_zero, List.getElem_cons_succ] at q1 q7 q8
          rw [HJ.out] at q1
          have v0 := HC9.out.wcell hjW10 (m := 0) (by omega) (v := .int .i64 pr3.frame) (by rw [← HPR3'.out]; rfl)
          have v1 := HC9.out.wcell hjW10 (m := 1) (by omega) (v := .int .u32 pr3.sum) (by rw [← HPR3'.out]; rfl)
          have v0 : W9.cell? ⟨p7.wg, j * 2, none⟩ = some (.int .i64 pr3.frame) := v0
          have f0 := World.ownsRow.frozenAt HC9.out.words (j * 2)
          have f1 := World.ownsRow.frozenAt HC9.out.words (j * 2 + 1)
          go_upto_region 14 with fail
          refine wp_region_noPanic ?_
          refine wp_region_held_drew (S := (fun w' => w'.cell? ⟨x, 14, none⟩ = some (.slice (some ⟨p7.wg, 0, none⟩) npl p7.wc) ∧ w'.cell? ⟨g, 1, none⟩ = some (.int .i64 (j : Int)) ∧ w'.cell? ⟨g, 7, none⟩ = some (.int .i64 frame) ∧ w'.cell? ⟨g, 8, none⟩ = some (.int .u32 sum))) (by kernel_rfl) ⟨cW9, q1, q7, q8⟩ (fun hHeld => ?_)
          refine tk0 0 ?_
          refine tk 1 ?_
          refine tk 2 ?_
          refine tk 3 ?_
          refine tk 4 ?_
          refine tk 5 ?_
          refine tk 6 ?_
          refine tk 7 ?_
          refine tk 8 ?_
          refine tk 9 ?_
          refine tk 10 ?_
          refine tk 11 ?_
          refine rdy 12 fun K hK => ?_
          go_simp
          have HW2 := hide (RAt.setWord HC9.out hjW10 frame sum)
          have HP10 := hide ((HP9.out.keeps (Keeps.setCell W9 ⟨p7.wg, j * 2, none⟩ (.int .i64 frame)) (by show ¬ g = p7.wg; exact fun e => HGX7.out p7.wg (.inr (.inr (.inr (.inr (.inr (.inl rfl)))))) e.symm)).keeps (Keeps.setCell _ ⟨p7.wg, j * 2 + 1, none⟩ (.int .u32 sum)) (by show ¬ g = p7.wg; exact fun e => HGX7.out p7.wg (.inr (.inr (.inr (.inr (.inr (.inl rfl)))))) e.symm))
          have cW10 := HW2.out.1.cell (reRow_words _ p7)
          rw [show ({ s3 with peers := s3.peers.set j { s3.peers[j]'hjW10 with frame := frame, sum := sum } } : Co).peers.length = npl by rw [HNPL.out, ← HSLW10.out]; exact List.length_set] at cW10
          have r1 := HP10.out.cell (j := 1) (by simp)
          have r7 := HP10.out.cell (j := 7) (by simp)
          have r8 := HP10.out.cell (j := 8) (by simp)
          simp only [List.getElem_cons_zero, List.getElem_cons_succ] at r1 r7 r8
          rw [HJ.out] at r1
          refine hK.out _ _ ⟨cW10, r1, r7, r8⟩ (fun hHeld => ?_)
          clear hK K
          try simp only [Act.put]
          refine wpAnyH_done (by kernel_rfl) (NoPanic.normal ?_) _
          generalize World.setCell (World.setCell W9 _ _) _ _ = W12 at HW2 ⊢
          have HC10 := hide HW2.out.1.drew
          have HST10 := hide ((HST9.out.trans HW2.out.2).trans (RSt.of_below ((Below.refl _ _).drew)))
          have HE10 : Hid (({ s3 with peers := s3.peers.set j { s3.peers[j]'hjW10 with frame := frame, sum := sum } } : Co) = s3.hear4 j ⟨kind, src, dst, kid, first, press, ack, frame, sum⟩) := by show _ = _; rw [HS4.out, HPR3'.out]; rfl
          rw [HE10.out] at HC10
          have HEV10 : Hid ((s3.hear4 j ⟨kind, src, dst, kid, first, press, ack, frame, sum⟩).events = s.events) := by show _ = _; rw [← HE10.out]; exact HEVW10.out
          clear HW2 HP10 cW10 r1 r7 r8 cW9 q1 q7 q8 v0 v1 f0 f1 hHeld
          generalize World.drew W12 = W11 at HC10 HST10 ⊢
          go_wp2_with fail
          refine Calls.mono (ref_held HC10.out OK4.out (Nat.le_trans HB.out HST10.out.keeps.size) (HEN.out HC10.out HEV10.out)) ?_
          rintro r w8 ⟨rfl, p8, hc8, hst8⟩
          go_wp2_with fail
          go_ret
          refine ⟨by rw [HR.out]; rfl, p8, ?_, HST10.out.trans hst8⟩
          rw [HS0.out, HS3W10.out]
          exact hc8
    · simp only at hk2
      have d2 : (kind == 2) = true := by rw [hk2]; rfl
      have HS0 : Hid (S = { s.hear1 j with events := s.events ++ [.quit (j : Int)], closed := true }) := by
        show _ = _
        rw [HS.out, Co.hear, if_pos (by show kind = 2; exact hk2)]
        have e : (Pkt.src ⟨kind, src, dst, kid, first, press, ack, frame, sum⟩).toNat = j := by show src.toNat = j; rw [HJ.out]; rfl
        rw [e]
        show ({ s.hear1 j with events := s.events ++ [.quit src], closed := true } : Co) = _
        rw [HJ.out]
      have q1 := HP5.out.cell (j := 1) (by simp)
      simp only [List.getElem_cons_zero, List.getElem_cons_succ] at q1
      rw [HJ.out] at q1
      have hB5 : B ≤ W5.heap.size := Nat.le_trans HB.out HST5.out.keeps.size
      clear hk2
      go_wp2_with fail
      refine Calls.mono (ref_event HC5.out hB5 (.quit (j : Int)) (by omega) rfl rfl rfl) ?_
      rintro r w6 ⟨rfl, p6, hc6, hst6⟩
      have HC6 := hide hc6
      have HST6 := hide (HST5.out.trans hst6)
      have c18 := hc6.cell (reRow_closed _ p6)
      have f18 := hc6.frozen 18
      have HH := hide (hc6.setHead 18 (.bool true) p6 { s.hear1 j with events := (s.hear1 j).events ++ [.quit (j : Int)], closed := true } (by rfl) rfl rfl rfl rfl rfl)
      have hen6 : p6.en ≤ 999999000 := by
        have h1 := hc6.en
        have h2 := H.out.en
        have h3 : ((s.hear1 j).events ++ [Ev.quit (j : Int)]).length = p6.en := h1
        rw [List.length_append, HEV1.out] at h3
        simp at h3
        omega
      have OK6 : Hid (({ s.hear1 j with events := (s.hear1 j).events ++ [.quit (j : Int)], closed := true } : Co).Ok) := by
        have h1 := OK5.out.event (.quit (j : Int)) (by rw [HEV1.out]; have := H.out.en; omega)
        exact ⟨h1.cfg, h1.np, h1.nl, h1.short, h1.head, h1.has, h1.heard, h1.frame, h1.sum, h1.marks, h1.mark, h1.now, h1.events⟩
      have CALM6 : Hid (({ s.hear1 j with events := (s.hear1 j).events ++ [.quit (j : Int)], closed := true } : Co).Calm) := CALM5.out
      clear hc6 hst6
      go_upto_region 15 with fail
      generalize World.setCell w6 _ _ = w7 at HH ⊢
      have HC7 := hide HH.out.1
      have HST7 := hide (HST6.out.trans HH.out.2)
      clear HH c18 f18
      go_wp2_with fail
      refine Calls.mono (ref_held HC7.out OK6.out (Nat.le_trans HB.out HST7.out.keeps.size) hen6) ?_
      rintro r w8 ⟨rfl, p8, hc8, hst8⟩
      go_wp2_with fail
      go_ret
      refine ⟨by rw [HR.out]; rfl, p8, ?_, HST7.out.trans hst8⟩
      have e := CALM6.out.held
      rw [HS0.out]
      have hc9 : RAt B w8 x p8 (Co.hold { s.hear1 j with events := (s.hear1 j).events ++ [.quit (j : Int)], closed := true }) := hc8
      rw [show Co.hold { s.hear1 j with events := (s.hear1 j).events ++ [.quit (j : Int)], closed := true } = _ from e, HEV1.out] at hc9
      exact hc9
end Go.Proofs.Ytbcgffgiifminaa
