/-
  The document's player: Head, Front, event, held, Mark, Told.
-/
import Derived.Test.YtbcgffgiifminaaDocC
namespace Go.Proofs.Ytbcgffgiifminaa
open Go.RowKit
set_option maxRecDepth 10000
set_option linter.unusedVariables false
theorem Co.Ok.event {s : Co} (h : s.Ok) (e : Ev) (hn : s.events.length < 1000000000) : ({ s with events := s.events ++ [e] } : Co).Ok :=
  ⟨h.cfg, h.np, h.nl, h.short, h.head, h.has, h.heard, h.frame, h.sum, h.marks, h.mark, h.now, by show (s.events ++ [e]).length ≤ _; rw [List.length_append]; simp; omega⟩
theorem Co.Ok.hold1 {s : Co} (h : s.Ok) (i : Nat) (hn : s.events.length < 1000000000) : (s.hold1 i).Ok := by
  unfold Co.hold1
  split
  · rename_i q hq
    split
    · have hm : q ∈ s.peers := List.mem_of_getElem? hq
      exact (h.setPeer i { q with apart := true } (h.has q hm) (h.heard q hm) (h.frame q hm) (h.sum q hm)).event _ hn
    · exact h
  · exact h
theorem Co.Ok.holdK {s : Co} (h : s.Ok) : ∀ k, s.events.length + k ≤ 1000000000 → (s.holdK k).Ok
  | 0, _ => h
  | k + 1, hk => (h.holdK k (by omega)).hold1 k (by have := (holdK_same s k).2.2.2.2.2.2.2; omega)
theorem Co.Ok.len {s : Co} (h : s.Ok) : s.ls.length = s.peers.length ∧ 2 ≤ s.peers.length ∧ s.peers.length ≤ 8 := by
  have := h.np; have := h.nl; have := h.cfg.n; omega
theorem Co.Ok.me {s : Co} (h : s.Ok) : ∃ i : Nat, s.cfg.me = (i : Int) ∧ i < s.ls.length ∧ i < s.peers.length := by
  have := h.np; have := h.nl; have := h.cfg.me
  exact ⟨s.cfg.me.toNat, by omega, by omega, by omega⟩
section
variable {B : Nat} {w w' : World} {x : Nat} {p : RP} {s : Co}
theorem RAt.rl (h : RAt B w x p s) (ok : s.Ok) : ∃ g, p.A = some ⟨g, 0, none⟩ ∧ RL B w g s.ls.length p.gc p.ss s.ls := by
  rcases h.ls with ⟨-, e, -, -⟩ | ⟨g, e, -, hr⟩
  · have := ok.len; rw [e] at this; simp at this; omega
  · exact ⟨g, e, hr⟩
theorem RAt.wcell (h : RAt B w x p s) {i m : Nat} (hi : i < s.peers.length) (hm : m < 2) {v : Value} (hv : (rwv s.peers[i])[m]? = some v) : w.cell? ⟨p.wg, i * 2 + m, none⟩ = some v := by
  rw [World.ownsRow.cellAt h.words (i * 2 + m) (by omega), flat_get rwv_len _ i m hi hm, hv]
theorem RAt.acell (h : RAt B w x p s) {i : Nat} (hi : i < s.peers.length) : w.cell? ⟨p.tg, i, none⟩ = some (.bool s.peers[i].apart) := by
  obtain ⟨hl, hc⟩ := h.apart.cell (j := i) hi
  rw [hc, List.getElem_map]; rfl
theorem RAt.hcell (h : RAt B w x p s) {i : Nat} (hi : i < s.peers.length) : w.cell? ⟨p.hg, i, none⟩ = some (.int .i64 s.peers[i].heard) := by
  obtain ⟨hl, hc⟩ := h.heard.cell (j := i) hi
  rw [hc, List.getElem_map]; rfl
theorem RAt.scell (h : RAt B w x p s) {i : Nat} (hi : i < s.peers.length) : w.cell? ⟨p.ag, i, none⟩ = some (.int .i64 s.peers[i].has) := by
  obtain ⟨hl, hc⟩ := h.has.cell (j := i) hi
  rw [hc, List.getElem_map]; rfl
theorem ref_HeadCore (h : RAt B w x p s) (ok : s.Ok) : Calls Try.prog 68 #[.pointer (some ⟨x, 0, none⟩)] w fun r w' => r = .returned (.int .i64 (s.mine.length : Int)) ∧ ∃ nd, w' = w.drewN nd := by
  obtain ⟨i, hme, hil, hip⟩ := ok.me
  obtain ⟨g, hA, hrl⟩ := h.rl ok
  obtain ⟨hs, c2, -, hlen⟩ := hrl.cell i hil
  obtain ⟨⟨A1, m1, c1⟩, hx1⟩ : ∃ x, x = p.ss[i] := ⟨_, rfl⟩
  rw [← hx1] at c2 hlen
  simp only at c2 hlen
  have HM : Hid (s.mine.length = m1) := by show _ = _; rw [Co.mine, hme, Int.toNat_natCast]; exact hlen
  have cL := h.cell (reRow_L s p)
  have cM := h.cell (reRow_me s p)
  rw [hA] at cL
  rw [hme] at cM
  obtain ⟨n, hn⟩ : ∃ n, n = s.ls.length := ⟨_, rfl⟩
  rw [← hn] at cL hil
  have hil2 : (i : Int) < (n : Int) := by omega
  rw [HM.out]
  clear h ok hme hrl hA hx1 hlen hn hip hs
  go_enter Try.func68, Try.ntmps68
  go_upto_region 1 with fail
  go_quiet (fail)
  go_wp2_with fail
  go_ret
  exact ⟨rfl, _, rfl⟩
theorem ref_FrontCore (h : RAt B w x p s) (ok : s.Ok) {F : Int} (hF : F = (front s.ls : Int)) : Calls Try.prog 69 #[.pointer (some ⟨x, 0, none⟩)] w fun r w' => r = .returned (.int .i64 F) ∧ w = w' := by
  obtain ⟨g, hA, hrl⟩ := h.rl ok
  have cL := h.cell (reRow_L s p)
  rw [hA] at cL
  have h1 := ok.len
  obtain ⟨n, hn⟩ : ∃ n, n = s.ls.length := ⟨_, rfl⟩
  rw [← hn] at cL hrl h1
  have HR := hide hrl
  have HF := hide hF
  have hn8 : 0 < n ∧ n ≤ 1000 := by omega
  clear h ok hA hrl hn h1 hF
  go_enter Try.func69, Try.ntmps69
  go_wp2_with fail
  refine Calls.mono (ref_Front HR.out hn8.1 hn8.2 HF.out) ?_
  rintro r w2 ⟨rfl, rfl⟩
  go_wp2_with fail
  go_ret
  exact ⟨rfl, rfl⟩
set_option maxHeartbeats 2000000 in
theorem ref_event (h : RAt B w x p s) (hB : B ≤ w.heap.size) (e : Ev) (hen : p.en < 1000000000) {k0 k1 k2 : Int} (h0 : k0 = e.kind) (h1 : k1 = e.player) (h2 : k2 = e.frame) :
    Calls Try.prog 70 #[.pointer (some ⟨x, 0, none⟩), .int .i64 k0, .int .i64 k1, .int .i64 k2] w fun r w' => r = .returned (.tuple #[]) ∧ ∃ p', RAt B w' x p' { s with events := s.events ++ [e] } ∧ RSt w w' x p p' := by
  have HEV : Hid ([Value.int .i64 k0, .int .i64 k1, .int .i64 k2] = e.row) := by show _ = _; rw [h0, h1, h2]; rfl
  have bn := Below_new w (.cells #[.int .i64 k0, .int .i64 k1, .int .i64 k2] 59)
  have HB2 := hide bn
  have H2 := hide (h.below bn)
  have HL2 := hide (Lies.new w #[.int .i64 k0, .int .i64 k1, .int .i64 k2] 59 (0, 0))
  have cE := H2.out.cell (reRow_events s p)
  have cE1 := h.cell (reRow_events s p)
  have hB2 : B ≤ (World.alloc w (.cells #[.int .i64 k0, .int .i64 k1, .int .i64 k2] 59)).heap.size := by rw [World.size_alloc]; omega
  clear h bn h0 h1 h2 hB
  go_enter Try.func70, Try.ntmps70
  go_wp2_with (refine wpN_append elem_raws rfl (.tmp 12) (.tmp 17) rfl B p.eA p.en p.ec _ rfl H2.out.events _ _ 1 [.int .i64 k0, .int .i64 k1, .int .i64 k2] rfl rfl HL2.out (by simp [Value.oneCell']) (by omega) (by omega) hB2 ?_; intro g5 c5 w5 own5 k5 hk5; rw [HEV.out] at own5; have HC5 := hide (H2.out.setEvents k5 own5 hk5); have f5 := HC5.out.1.frozen 17; have c5' := HC5.out.1.at_ (reRow_events s p); clear own5 k5 hk5)
  refine bodyPost_end (v := .tuple #[]) (by simp [results, go_sem]) rfl ⟨rfl, _, HC5.out.2.1, (RSt.of_below HB2.out).trans HC5.out.2.2⟩
theorem info_word : (Try.prog.info? 128).map (·.size) = some 2 := by kernel_rfl
set_option maxHeartbeats 4000000 in
theorem ref_held (h : RAt B w x p s) (ok : s.Ok) (hB : B ≤ w.heap.size) (hen : p.en ≤ 999999000) :
    Calls Try.prog 73 #[.pointer (some ⟨x, 0, none⟩)] w fun r w' => r = .returned (.tuple #[]) ∧ ∃ p', RAt B w' x p' s.hold ∧ RSt w w' x p p' := by
  have H := hide h
  have HB := hide hB
  have OK := hide ok
  obtain ⟨n, hn⟩ : ∃ n, n = s.peers.length := ⟨_, rfl⟩
  have HN := hide hn
  have hn8 : n ≤ 8 := by have := ok.len; omega
  have HCN : Hid (s.cfg.n = (n : Int)) := by show _ = _; rw [hn]; exact ok.np.symm
  have HEN : Hid (s.events.length = p.en) := h.en
  obtain ⟨S, hS⟩ : ∃ S, S = s.hold := ⟨_, rfl⟩
  rw [← hS]
  have HS := hide hS
  clear h hB hn hS ok
  go_enter Try.func73, Try.ntmps73
  go_wp2_with fail
  go_loopg [2] n (fun gg s2 wr => ∃ (i : Nat) (p1 : RP), i ≤ n ∧ gg = n - i ∧ s2 = .int .i64 (i : Int) ∧ Hid (RAt B wr x p1 (s.holdK i)) ∧ Hid (RSt w wr x p p1))
  case atStart => exact ⟨0, p, by omega, rfl, rfl, H.out, RSt.refl _ _ _⟩
  case round =>
    obtain ⟨W1, hW1⟩ : ∃ W1, W1 = wr := ⟨_, rfl⟩
    subst hW1
    obtain ⟨i, p1, hin, rfl, rfl, HC, HST⟩ := hrel
    have cN := HC.out.cell (reRow_n _ p1)
    rw [(holdK_same s i).1, HCN.out] at cN
    by_cases hlt : i < n
    · obtain ⟨s1, hs1⟩ : ∃ s1, s1 = s.holdK i := ⟨_, rfl⟩
      have OK1 : Hid s1.Ok := by show s1.Ok; rw [hs1]; exact OK.out.holdK i (by have := HEN.out; omega)
      rw [← hs1] at HC
      have HS1 := hide hs1
      have hsame := holdK_same s i
      rw [← hs1] at hsame
      obtain ⟨-, -, -, -, -, hl1, -, he1⟩ := hsame
      have hil : i < s1.peers.length := by rw [hl1, ← HN.out]; exact hlt
      have hen1 : p1.en < 1000000000 := by
        have := HC.out.en
        have := HEN.out
        omega
      have cW1 := HC.out.cell (reRow_words s1 p1)
      have cT1 := HC.out.cell (reRow_apart s1 p1)
      have cM1 := HC.out.cell (reRow_marks s1 p1)
      rw [hl1, ← HN.out] at cW1 cT1
      obtain ⟨pr, hpr⟩ : ∃ pr, pr = s1.peers[i] := ⟨_, rfl⟩
      have HPR : Hid (s1.peers[i]? = some pr) := by show _ = _; rw [List.getElem?_eq_getElem hil, hpr]
      have HPR2 : Hid (pr ∈ s1.peers) := by rw [hpr]; exact List.getElem_mem hil
      have c4 := HC.out.acell hil
      rw [← hpr] at c4
      obtain ⟨fr, hfr⟩ : ∃ fr, fr = pr.frame := ⟨_, rfl⟩
      obtain ⟨sm, hsm⟩ : ∃ sm, sm = pr.sum := ⟨_, rfl⟩
      obtain ⟨ap, hap⟩ : ∃ ap, ap = pr.apart := ⟨_, rfl⟩
      have hrg : W1.rangeAt p1.wg (i * 2) [.int .i64 fr, .int .u32 sm] := by
        intro j v hv
        have hj : j < 2 := by rcases Nat.lt_or_ge j 2 with h | h; exact h; rw [List.getElem?_eq_none (by simpa using h)] at hv; cases hv
        exact HC.out.wcell hil hj (by rw [← hpr, rwv, ← hfr, ← hsm]; exact hv)
      rw [← hap] at c4
      have HRG := hide hrg
      obtain ⟨bad, hbad⟩ : ∃ bad, bad = pr.bad s1.marks := ⟨_, rfl⟩
      have HBAD := hide hbad
      have HFS := hide (And.intro hfr (And.intro hsm hap))
      have hfr0 : 0 ≤ fr ∧ fr ≤ 1000 := by rw [hfr]; exact OK1.out.frame pr HPR2.out
      have HML : Hid (s1.marks.length = p1.mn) := HC.out.mn
      have hii : (i : Int) < (n : Int) := by omega
      have HIL := hide hil
      have hgw : p1.wg < W1.heap.size := (World.ownsRow.lt HC.out.words _ rfl).2
      have H1d : Hid (RAt B (World.alloc W1 (.cells #[.int .i64 fr, .int .u32 sm] 128)) x p1 s1) := HC.out.below (Below_new _ _)
      have HVd : Hid (Arr 128 (World.alloc W1 (.cells #[.int .i64 fr, .int .u32 sm] 128)) W1.heap.size [.int .i64 fr, .int .u32 sm]) := Arr.new _ _ _ _ rfl
      have HBd : Hid (Below W1.heap.size W1 (World.alloc W1 (.cells #[.int .i64 fr, .int .u32 sm] 128))) := Below_new _ _
      clear hs1 hl1 he1 hpr hfr hsm hap hbad hil hrg
      go_upto_region 4 with (refine wpList_load_mid rfl 128 (.tmp 18) rfl p1.wg (i * 2) rfl [.int .i64 fr, .int .u32 sm] _ HRG.out Try.underlying128 rfl info_word ?_)
      obtain ⟨gv, hgv⟩ : ∃ g, g = W1.heap.size := ⟨_, rfl⟩
      have cW1' := below_cell HBd.out cW1
      have cT1' := below_cell HBd.out cT1
      have cM1' := below_cell HBd.out cM1
      have c4' := below_cell HBd.out c4
      rw [← hgv] at HVd ⊢
      generalize hwv : World.alloc W1 _ = W2 at HVd HBd H1d cW1' cT1' cM1' c4' ⊢
      have HST1 := hide (HST.out.trans (RSt.of_below HBd.out))
      have v0 := HVd.out.cell (j := 0) (by simp)
      have v1 := HVd.out.cell (j := 1) (by simp)
      simp only [List.getElem_cons_zero, List.getElem_cons_succ] at v0 v1
      clear hgv hwv cW1 cT1 cM1 c4 HRG cN HST HBd hgw
      have hb : bad = (decide (1 ≤ fr) && decide (fr ≤ (p1.mn : Int)) && !ap && !(sm == s1.marks.getD (fr - 1).toNat 0)) := by
        rw [HBAD.out, Peer.bad, ← HFS.out.1, ← HFS.out.2.1, ← HFS.out.2.2, HML.out]
      go_cut [56] from 4 to 67 (fun s wx => s = .bool bad ∧ ∃ nd, wx = W2.drewN nd)
      case first =>
        cases ap
        case true =>
          have e : Hid (bad = false) := by show _ = _; rw [hb]; simp
          clear hb
          go_quiet (fail)
          go_wp2_with fail
          go_meet
          exact ⟨by rw [e.out], _, rfl⟩
        by_cases h1 : fr < 1
        · have d1 : decide (fr ≥ 1) = false := decide_eq_false (by omega)
          have e : Hid (bad = false) := by show _ = _; rw [hb, decide_eq_false (by omega)]; rfl
          clear hb h1
          go_quiet (fail)
          go_wp2_with fail
          go_meet
          exact ⟨by rw [e.out], _, rfl⟩
        have d1 : decide (fr ≥ 1) = true := decide_eq_true (by omega)
        have e1 : decide (1 ≤ fr) = true := decide_eq_true (by omega)
        by_cases h2 : fr > (p1.mn : Int)
        · have d2 : decide (fr ≤ (p1.mn : Int)) = false := decide_eq_false (by omega)
          have e : Hid (bad = false) := by show _ = _; rw [hb, d2, Bool.and_false]; rfl
          clear hb h1 h2 e1
          go_quiet (fail)
          go_wp2_with fail
          go_meet
          exact ⟨by rw [e.out], _, rfl⟩
        have d2 : decide (fr ≤ (p1.mn : Int)) = true := decide_eq_true (by omega)
        obtain ⟨k, hk⟩ : ∃ k : Nat, fr - 1 = (k : Int) := ⟨(fr - 1).toNat, by omega⟩
        have hkm : k < p1.mn := by omega
        obtain ⟨gm, hmA, -, -⟩ := H1d.out.marks.form (by omega)
        have hmk := H1d.out.marks
        rw [hmA] at hmk cM1'
        obtain ⟨hl9, c9⟩ := hmk.cell hkm
        obtain ⟨mk, hmk2⟩ : ∃ mk, mk = s1.marks.getD k 0 := ⟨_, rfl⟩
        have hc9 : W2.cell? ⟨gm, k, none⟩ = some (.int .u32 mk) := by
          rw [c9, List.getElem_map, hmk2]
          have hl10 : k < s1.marks.length := by rw [HML.out]; exact hkm
          rw [List.getD_eq_getElem?_getD, List.getElem?_eq_getElem hl10]; rfl
        obtain ⟨z, hz⟩ : ∃ z : Bool, (mk != sm) = z := ⟨_, rfl⟩
        have e : Hid (bad = z) := by
          show _ = _
          rw [hb, e1, d2, hk, Int.toNat_natCast, ← hmk2, ← hz]
          show (true && true && !false && !(sm == mk)) = (!(mk == sm))
          rw [Bool.beq_comm (a := mk)]; rfl
        have hki : (k : Int) < (p1.mn : Int) := by omega
        clear hb e1 hmk hmA hl9 c9 hmk2
        go_quiet (fail)
        go_wp2_with fail
        go_meet
        exact ⟨by rw [e.out], _, rfl⟩
      case rest =>
      obtain ⟨rfl, nd, hnd⟩ := hcut
      obtain ⟨W3, hW3⟩ : ∃ W3, W3 = wc := ⟨_, rfl⟩
      subst hW3
      have HC2 : Hid (RAt B W3 x p1 s1) := by show RAt _ _ _ _ _; rw [hnd]; exact H1d.out.drewN nd
      have HST2 : Hid (RSt w W3 x p p1) := by
        show RSt _ _ _ _ _
        rw [hnd]
        exact HST1.out.trans (RSt.of_below (Below_drewN (Below.refl _ _) nd))
      have HV2 : Hid (Arr 128 W3 gv [.int .i64 fr, .int .u32 sm]) := by show Arr _ _ _ _; rw [hnd]; exact HVd.out.drewN nd
      clear hnd cW1' cT1' cM1' c4' v0 v1 hb HC HVd H1d HST1
      cases bad with
      | false =>
        have HNX : Hid (s.holdK (i + 1) = s1) := by
          show _ = _
          rw [Co.holdK, ← HS1.out, Co.hold1, HPR.out]
          simp only
          rw [← HBAD.out, if_neg (by decide)]
        go_wp2_with fail
        go_roundg (n - (i + 1))
        case measure => omega
        case rel => exact ⟨i + 1, p1, by omega, rfl, by go_num, by rw [HNX.out]; exact HC2, HST2⟩
      | true =>
        have HNX : Hid (s.holdK (i + 1) = { s1 with peers := s1.peers.set i { pr with apart := true }, events := s1.events ++ [.apart (i : Int) fr] }) := by
          show _ = _
          rw [Co.holdK, ← HS1.out, Co.hold1, HPR.out]
          simp only
          rw [← HBAD.out, if_pos rfl, HFS.out.1]
        have hpe : s1.peers[i]'HIL.out = pr := by
          have := HPR.out
          rw [List.getElem?_eq_getElem HIL.out] at this
          injection this
        have cT := HC2.out.cell (reRow_apart s1 p1)
        have hl1 : s1.peers.length = n := by rw [HS1.out, (holdK_same s i).2.2.2.2.2.1]; exact HN.out.symm
        rw [hl1] at cT
        have c4 := HC2.out.acell HIL.out
        have f4 := HC2.out.apart.frozen i
        have HPS := hide (HC2.out.setPeer i { pr with apart := true } HIL.out p1.tg i (.bool true) (.inr (.inr (.inl ⟨rfl, rfl, rfl, by rw [hpe]; rfl, by rw [hpe]; rfl, by rw [hpe]; rfl⟩))))
        have hvt : gv ≠ p1.tg := fun e => by
          have h1 : TB W3 p1.tg 4 := owns_tb HC2.out.apart _ rfl
          have h2 : TB W3 gv 128 := HV2.out.tb
          rw [e] at h2
          exact absurd (h1.one h2) (by decide)
        have HV3 := hide (HV2.out.keeps (Keeps.setCell W3 ⟨p1.tg, i, none⟩ (.bool true)) (by show ¬ gv = p1.tg; exact hvt))
        clear hl1
        go_upto_region 6 with fail
        generalize World.setCell W3 _ _ = W4 at HPS HV3 ⊢
        obtain ⟨HC3', HST3⟩ := HPS.out
        have HC3 := hide HC3'
        have v0 := HV3.out.cell (j := 0) (by simp)
        simp only [List.getElem_cons_zero] at v0
        have HST4 := hide (HST2.out.trans HST3)
        have hB3 := Nat.le_trans HB.out HST4.out.keeps.size
        clear HC3' HST3 HPS f4 c4 HST2 HC2 cT
        go_wp2_with fail
        refine Calls.mono (ref_event HC3.out hB3 (.apart (i : Int) fr) hen1 rfl rfl rfl) ?_
        rintro r w5 ⟨rfl, p5, hc5, hst5⟩
        have HC5 := hide hc5
        have HST5 := hide (HST4.out.trans hst5)
        clear hc5 hst5
        go_wp2_with fail
        go_roundg (n - (i + 1))
        case measure => omega
        case rel => exact ⟨i + 1, p5, by omega, rfl, by go_num, by rw [HNX.out]; exact HC5, HST5⟩
    · obtain rfl : n = i := by omega
      go_wp2_with fail
      refine bodyPost_end (v := .tuple #[]) (by simp [results, go_sem]) rfl ⟨rfl, p1, ?_, HST.out⟩
      rw [HS.out, Co.hold, ← HN.out]
      exact HC.out
end
end Go.Proofs.Ytbcgffgiifminaa
