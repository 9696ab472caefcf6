/-
  The document's player: Mark, Told, Press.
-/
import Derived.Test.YtbcgffgiifminaaDocD
namespace Go.Proofs.Ytbcgffgiifminaa
open Go.RowKit
set_option maxRecDepth 10000
set_option linter.unusedVariables false
/-- All words were held against the marks. -/
def Co.Held (s : Co) : Prop := s.hold = s
section
variable {B : Nat} {w w' : World} {x : Nat} {p : RP} {s : Co}
/-- One line is another one. -/
theorem RAt.lineStep (h : RAt B w x p s) {g : Nat} (hA : p.A = some ⟨g, 0, none⟩) {rl : RL B w g s.ls.length p.gc p.ss s.ls} {i : Nat} (hs : i < p.ss.length) {y : Sl} {l' : List UInt8} (hr : RL B w' g s.ls.length p.gc (p.ss.set i y) (s.ls.set i l')) (hk : Keeps (rlBlocks g p.ss[i]) w w')
    (hx : (sv y).ownBlock = (sv p.ss[i]).ownBlock ∨ ∃ k, (sv y).ownBlock = some k ∧ w.heap.size ≤ k) : RAt B w' x { p with ss := p.ss.set i y } { s with ls := s.ls.set i l' } ∧ RSt w w' x p { p with ss := p.ss.set i y } := by
  have hn : 0 < s.ls.length := by have := rl.slen; omega
  have off : Off (rlBlocks g p.ss[i]) w [120, 3, 128, 4, 39, 59] := by
    refine Off.of2 (T := 122) (T' := 5) (fun k hk => ?_) (by decide) (by decide)
    rcases hk with rfl | hk
    · exact .inl (owns_tb rl.row _ rfl)
    · exact .inr (owns_tb (rl.line i hs) k hk)
  refine ⟨⟨?_, h.base, .inr ⟨g, hA, by rw [List.length_set]; exact hn, by rw [List.length_set]; exact hr⟩, owns_off h.heard hk off (by decide), owns_off h.has hk off (by decide), owns_off h.words hk off (by decide), owns_off h.apart hk off (by decide), h.hne, owns_off h.marks hk off (by decide), owns_off h.events hk off (by decide)⟩, ⟨hk.mono fun k _ hb => ?_, fun k hb => ?_⟩⟩
  · have := h.head.off hk off (by decide)
    have e : reRow { s with ls := s.ls.set i l' } { p with ss := p.ss.set i y } = reRow s p := by unfold reRow; rw [List.length_set]
    rw [e]; exact this
  · rcases hb with rfl | hb
    · exact .inr (.inl (by rw [hA]; rfl))
    · exact .inr (.inr (.inl ⟨i, hs, hb⟩))
  · rcases hb with hb | hb | ⟨j, hj, hb⟩ | hb | hb | hb | hb | hb | hb
    · exact .inl (.inl hb)
    · exact .inl (.inr (.inl hb))
    · have hj2 : j < p.ss.length := by simpa using hj
      have hb2 : some k = (sv (p.ss.set i y)[j]).ownBlock := hb
      rw [List.getElem_set] at hb2
      split at hb2
      · rcases hx with hx | ⟨k2, hx, hge⟩
        · rw [hx] at hb2; exact .inl (.inr (.inr (.inl ⟨i, hs, hb2⟩)))
        · rw [hx] at hb2; injection hb2 with hb2; exact .inr (by omega)
      · exact .inl (.inr (.inr (.inl ⟨j, hj2, hb2⟩)))
    · exact .inl (.inr (.inr (.inr (.inl hb))))
    · exact .inl (.inr (.inr (.inr (.inr (.inl hb)))))
    · exact .inl (.inr (.inr (.inr (.inr (.inr (.inl hb))))))
    · exact .inl (.inr (.inr (.inr (.inr (.inr (.inr (.inl hb)))))))
    · exact .inl (.inr (.inr (.inr (.inr (.inr (.inr (.inr (.inl hb))))))))
    · exact .inl (.inr (.inr (.inr (.inr (.inr (.inr (.inr (.inr hb))))))))
theorem Co.Ok.marked (h : s.Ok) (hlt : s.marks.length < 1000) {m : Int} (hm : 0 ≤ m ∧ m < 4294967296) : ({ s with marks := s.marks ++ [m] } : Co).Ok :=
  ⟨h.cfg, h.np, h.nl, h.short, h.head, h.has, h.heard, h.frame, h.sum, by show (s.marks ++ [m]).length ≤ _; rw [List.length_append]; simp; omega, by
      intro q hq
      rcases List.mem_append.1 hq with hq | hq
      · exact h.mark q hq
      · rw [List.mem_singleton.1 hq]; exact hm, h.now, h.events⟩
set_option maxHeartbeats 2000000 in
theorem ref_Mark (h : RAt B w x p s) (ok : s.Ok) (hd : s.Held) (hB : B ≤ w.heap.size) (hen : p.en ≤ 999999000) (m : Int) (hm : 0 ≤ m ∧ m < 4294967296) :
    Calls Try.prog 42 #[.pointer (some ⟨x, 0, none⟩), .int .u32 m] w fun r w' => r = .returned (.tuple #[]) ∧ ∃ p', RAt B w' x p' (s.mark m) ∧ RSt w w' x p p' := by
  have H := hide h
  have HB := hide hB
  have OK := hide ok
  have HD : Hid (s.hold = s) := hd
  have HML : Hid (s.marks.length = p.mn) := h.mn
  have cM := h.cell (reRow_marks s p)
  obtain ⟨S, hS⟩ : ∃ S, S = s.mark m := ⟨_, rfl⟩
  rw [← hS]
  have HS := hide hS
  have HMM := hide hm
  clear h hB hS ok hd
  by_cases hlt : p.mn < 1000
  · have HS2 : Hid (S = ({ s with marks := s.marks ++ [m] } : Co).hold) := by
      show _ = _
      rw [HS.out, Co.mark, if_pos (by rw [HML.out]; exact hlt)]
    have d1 : decide ((p.mn : Int) < 1000) = true := decide_eq_true (by omega)
    have HOK : Hid (({ s with marks := s.marks ++ [m] } : Co).Ok) := OK.out.marked (by rw [HML.out]; exact hlt) hm
    have bn := Below_new w (.cells #[.int .u32 m] 39)
    have H2 := hide (H.out.below bn)
    have HB2 := hide bn
    have HL2 := hide (Lies.new w #[.int .u32 m] 39 (0, 0))
    have hB2 : B ≤ (World.alloc w (.cells #[.int .u32 m] 39)).heap.size := by have := HB.out; rw [World.size_alloc]; omega
    have hlt2 : (p.mn : Int) < 1000 := by omega
    clear bn
    go_enter Try.func42, Try.ntmps42
    go_upto_region 1 with fail
    go_wp2_with (refine wpV_append elem_marks rfl (.tmp 14) (.tmp 16) rfl B p.mA p.mn p.mc _ rfl H2.out.marks _ _ 1 1 [.int .u32 m] rfl rfl HL2.out (by simp [Value.oneCell']) (by omega) (p.mn + 1) _ rfl rfl (by omega) (by omega) hB2 ?_; intro A5 c5 w5 own5 k5 hk5; have HC5 := hide (RAt.setMarks H2.out k5 own5 hk5); have f5 := HC5.out.1.frozen 16; have c5' := HC5.out.1.at_ (reRow_marks s p))
    have HC6 := hide HC5.out.2.1
    have HST := hide ((RSt.of_below HB2.out).trans HC5.out.2.2)
    refine Calls.mono (ref_held HC6.out HOK.out (Nat.le_trans HB.out HST.out.keeps.size) hen) ?_
    rintro r w7 ⟨rfl, p7, hc7, hst7⟩
    go_wp2_with fail
    refine bodyPost_end (v := .tuple #[]) (by simp [results, go_sem]) rfl ⟨rfl, p7, by rw [HS2.out]; exact hc7, HST.out.trans hst7⟩
  · have HS2 : Hid (S = s) := by
      show _ = _
      rw [HS.out, Co.mark, if_neg (by rw [HML.out]; exact hlt)]
    have d1 : decide ((p.mn : Int) < 1000) = false := decide_eq_false (by omega)
    go_enter Try.func42, Try.ntmps42
    go_wp2_with fail
    refine Calls.mono (ref_held H.out OK.out HB.out hen) ?_
    rintro r w7 ⟨rfl, p7, hc7, hst7⟩
    go_wp2_with fail
    refine bodyPost_end (v := .tuple #[]) (by simp [results, go_sem]) rfl ⟨rfl, p7, by rw [HS2.out, ← HD.out]; exact hc7, hst7⟩
theorem ref_Told (h : RAt B w x p s) : Calls Try.prog 45 #[.pointer (some ⟨x, 0, none⟩)] w fun r w' => r = .returned (.slice p.eA p.en p.ec) ∧ w'.ownsRow B 59 3 (.slice p.eA p.en p.ec) p.en (s.events.flatMap Ev.row) ∧
    RAt B w' x { p with eA := none, en := 0, ec := 0 } { s with events := [] } ∧ RSt w w' x p { p with eA := none, en := 0, ec := 0 } := by
  have cE := h.cell (reRow_events s p)
  have fE := h.frozen 17
  have key : (w.setCell ⟨x, 17, none⟩ (.slice none 0 0)).ownsRow B 59 3 (.slice p.eA p.en p.ec) p.en (s.events.flatMap Ev.row) ∧ RAt B (w.setCell ⟨x, 17, none⟩ (.slice none 0 0)) x { p with eA := none, en := 0, ec := 0 } { s with events := [] } ∧ RSt w (w.setCell ⟨x, 17, none⟩ (.slice none 0 0)) x p { p with eA := none, en := 0, ec := 0 } := by
    have ks := Keeps.setCell w ⟨x, 17, none⟩ (.slice none 0 0)
    have off : Off (fun k => k = (⟨x, 17, none⟩ : Addr).block) w [122, 5, 3, 128, 4, 39, 59] := Off.of (T := 120) (fun k hk => by rw [hk]; exact h.head.tb) (by decide)
    refine ⟨owns_off h.events ks off (by decide), ⟨?_, h.base, h.lsOff ks off (by decide) (by decide), owns_off h.heard ks off (by decide), owns_off h.has ks off (by decide), owns_off h.words ks off (by decide), owns_off h.apart ks off (by decide), h.hne, owns_off h.marks ks off (by decide), World.ownsRow_nil _ _ _ _⟩, ⟨ks.mono fun k _ hk => .inl hk, fun k hk => ?_⟩⟩
    · exact h.head.set 17 _
    · rcases hk with hk | hk | hk | hk | hk | hk | hk | hk | hk
      · exact .inl (.inl hk)
      · exact .inl (.inr (.inl hk))
      · exact .inl (.inr (.inr (.inl hk)))
      · exact .inl (.inr (.inr (.inr (.inl hk))))
      · exact .inl (.inr (.inr (.inr (.inr (.inl hk)))))
      · exact .inl (.inr (.inr (.inr (.inr (.inr (.inl hk))))))
      · exact .inl (.inr (.inr (.inr (.inr (.inr (.inr (.inl hk)))))))
      · exact .inl (.inr (.inr (.inr (.inr (.inr (.inr (.inr (.inl hk))))))))
      · cases hk
  have K := hide key
  clear h key
  go_enter Try.func45, Try.ntmps45
  go_wp2_with fail
  go_ret
  exact ⟨rfl, K.out⟩
set_option maxHeartbeats 4000000 in
theorem ref_PressCore (h : RAt B w x p s) (ok : s.Ok) (hB : B ≤ w.heap.size) (b : UInt8) {v : Int} (hv : v = (b.toNat : Int)) :
    Calls Try.prog 36 #[.pointer (some ⟨x, 0, none⟩), .int .u8 v] w fun r w' => r = .returned (.int .i64 s.pressErr) ∧ ∃ p', RAt B w' x p' (s.press b) ∧ RSt w w' x p p' := by
  have H := hide h
  have HB := hide hB
  have HV := hide hv
  have OK := hide ok
  obtain ⟨S, hS⟩ : ∃ S, S = s.press b := ⟨_, rfl⟩
  obtain ⟨E, hE⟩ : ∃ E, E = s.pressErr := ⟨_, rfl⟩
  rw [← hS, ← hE]
  have HS := hide hS
  have HE := hide hE
  obtain ⟨cl, hcl⟩ : ∃ cl, cl = s.closed := ⟨_, rfl⟩
  have HCL := hide hcl
  obtain ⟨i, hme, hil, hip⟩ := ok.me
  obtain ⟨m, hm⟩ : ∃ m, m = s.mine.length := ⟨_, rfl⟩
  obtain ⟨F, hF⟩ : ∃ F, F = front s.ls := ⟨_, rfl⟩
  have hmF : F ≤ m := by rw [hF, hm, Co.mine, hme, Int.toNat_natCast]; exact front_le i hil
  have hm1 : m ≤ 1000 := by rw [hm]; exact ok.short _
  have HMI : Hid (s.ls.getD i [] = s.mine) := by show _ = _; rw [Co.mine, hme, Int.toNat_natCast]
  have HM := hide hm
  have HF := hide hF
  have HME := hide hme
  obtain ⟨wd, hwd⟩ : ∃ wd, wd = s.cfg.window := ⟨_, rfl⟩
  have HWD := hide hwd
  have hwd2 : 1 ≤ wd ∧ wd ≤ 16 := by rw [hwd]; exact ok.cfg.window
  have c18 := h.cell (reRow_closed s p)
  rw [← hcl] at c18
  clear h hB hv hS hE hcl hme hm hF hwd ok
  go_enter Try.func36, Try.ntmps36
  cases cl with
  | true =>
    go_wp2_with fail
    go_ret
    have e1 : E = 6 := by rw [HE.out, Co.pressErr, if_pos HCL.out.symm]
    refine ⟨by rw [e1]; rfl, p, ?_, RSt.refl _ _ _⟩
    rw [HS.out, Co.press, ← HE.out, e1, if_neg (by decide)]
    exact H.out
  | false =>
    have HEF : Hid (E = if 1000 ≤ m then 4 else if wd ≤ (m : Int) - (F : Int) then 5 else 0) := by
      show _ = _
      rw [HE.out, Co.pressErr, if_neg (by rw [← HCL.out]; decide), ← HM.out, ← HF.out, ← HWD.out]
    go_wp2_with fail
    refine Calls.mono (ref_HeadCore H.out OK.out) ?_
    rw [← HM.out]
    rintro r w2 ⟨rfl, nd, rfl⟩
    have H2 := hide (H.out.drewN nd)
    by_cases hge : 1000 ≤ m
    · have d1 : decide ((m : Int) ≥ 1000) = true := decide_eq_true (by omega)
      have e1 : Hid (E = 4) := by show _ = _; rw [HEF.out, if_pos hge]
      go_wp2_with fail
      go_ret
      refine ⟨by rw [e1.out]; rfl, p, ?_, RSt.of_below (Below_drewN (Below.refl _ _) nd)⟩
      rw [HS.out, Co.press, ← HE.out, e1.out, if_neg (by decide)]
      exact H2.out
    have d1 : decide ((m : Int) ≥ 1000) = false := decide_eq_false (by omega)
    have c4 := H2.out.cell (reRow_window s p)
    rw [← HWD.out] at c4
    have HGE := hide hge
    have hww : IntKind.i64.wrap ((m : Int) - (F : Int)) = (m : Int) - (F : Int) := IntWalk.i64_in _ ⟨by omega, by omega⟩
    obtain ⟨bw, hbw⟩ : ∃ bw, bw = decide ((m : Int) - (F : Int) ≥ wd) := ⟨_, rfl⟩
    have HBW := hide hbw
    clear hbw hge c18
    generalize hw2 : w.drewN nd = w2 at H2 c4 ⊢
    have HB2 : Hid (Below w.heap.size w w2) := by show Below _ _ _; rw [← hw2]; exact Below_drewN (Below.refl _ _) nd
    clear hw2
    go_upto_region 5 with fail
    go_cut [15] (fun s15 wx => s15 = .bool bw ∧ Below w2.heap.size w2 wx)
    case first =>
      refine wp_region_noPanic ?_
      refine wp_region_held_drew (S := (fun w' => w'.cell? ⟨x, 4, none⟩ = some (.int .i64 wd))) (by kernel_rfl) c4 (fun hHeld => ?_)
      refine tk0 0 ?_
      refine tk 2 ?_
      refine tk 5 ?_
      refine tk 6 ?_
      refine tk 7 ?_
      refine tk 8 ?_
      refine tk 9 ?_
      refine rdy 1 fun K hK => ?_
      go_simp
      refine Calls.mono (ref_HeadCore H2.out.drew OK.out) ?_
      rw [← HM.out]
      rintro r w3 ⟨rfl, nd3, rfl⟩
      refine hK.out _ _ c4 (fun hHeld => ?_)
      clear hK K
      try simp only [Act.put, List.setIfInBounds_toArray, List.set_cons_zero, List.set_cons_succ]
      refine rdy 3 fun K hK => ?_
      go_simp
      refine Calls.mono (ref_FrontCore (H2.out.drewN _) OK.out (F := (F : Int)) (by rw [HF.out])) ?_
      rintro r w4 ⟨rfl, rfl⟩
      refine hK.out _ _ c4 (fun hHeld => ?_)
      clear hK K
      try simp only [Act.put, List.setIfInBounds_toArray, List.set_cons_zero, List.set_cons_succ]
      refine tk 4 ?_
      refine tk 10 (v := .bool bw) (hy := by refine Or.inl ⟨by rfl, ?_⟩; intro w hSw; (try dsimp only at hSw); (rw [HBW.out]; go_simp <;> with_reducible rfl)) ?_
      refine tk 11 ?_
      refine wpAnyH_done (by kernel_rfl) (NoPanic.normal ?_) _
      go_wp2_with fail
      go_meet
      exact ⟨rfl, Below_drewN (Below.refl _ _) _⟩
    case rest =>
    obtain ⟨rfl, hb3⟩ := hcut
    obtain ⟨w3, hw3⟩ : ∃ w3, w3 = wc := ⟨_, rfl⟩
    subst hw3
    have H3 := hide (H2.out.below hb3)
    have HB3 := hide (Below_step HB2.out hb3)
    clear hb3
    cases bw with
    | true =>
      have e1 : Hid (E = 5) := by
        show _ = _
        have h1 := HBW.out
        rw [HEF.out, if_neg HGE.out, if_pos (of_decide_eq_true h1.symm)]
      go_wp2_with fail
      go_ret
      refine ⟨by rw [e1.out]; rfl, p, ?_, RSt.of_below HB3.out⟩
      rw [HS.out, Co.press, ← HE.out, e1.out, if_neg (by decide)]
      exact H3.out
    | false =>
      have e1 : Hid (E = 0) := by
        show _ = _
        have h1 := HBW.out
        rw [HEF.out, if_neg HGE.out, if_neg (of_decide_eq_false h1.symm)]
      have HS2 : Hid (S = { s with ls := s.ls.set i (s.mine ++ [b]) }) := by
        show _ = _
        rw [HS.out, Co.press, if_pos (by rw [← HE.out, e1.out]), HME.out, Int.toNat_natCast]
      obtain ⟨g, hA, hrl⟩ := H3.out.rl OK.out
      have HRL := hide hrl
      obtain ⟨hs, cl1, fl1, hlen⟩ := hrl.cell i hil
      obtain ⟨⟨A1, m1, c1⟩, hx1⟩ : ∃ x, x = p.ss[i] := ⟨_, rfl⟩
      have ho1 := hrl.line i hs
      rw [← hx1] at cl1 hlen ho1
      simp only at cl1 hlen ho1
      rw [HMI.out] at hlen ho1
      obtain rfl : m1 = m := by rw [HM.out]; exact hlen.symm
      have HX1 := hide hx1
      have cL := H3.out.cell (reRow_L s p)
      have cM := H3.out.cell (reRow_me s p)
      rw [hA] at cL
      rw [HME.out] at cM
      obtain ⟨n, hn⟩ : ∃ n, n = s.ls.length := ⟨_, rfl⟩
      rw [← hn] at cL
      have hil2 : (i : Int) < (n : Int) := by omega
      have HN := hide hn
      have HHS := hide hs
      have HA := hide hA
      clear hx1 hlen hn hrl hA
      go_upto_region 7 with fail
      go_cut [5] (fun s5 wx => s5 = .pointer (some ⟨g, i, none⟩) ∧ ∃ nd, wx = w3.drewN nd)
      case first =>
        go_quiet (fail)
        go_wp2_with fail
        go_meet
        exact ⟨rfl, _, rfl⟩
      case rest =>
      obtain ⟨rfl, nd4, hnd4⟩ := hcut
      obtain ⟨w4, hw4⟩ : ∃ w4, w4 = wc := ⟨_, rfl⟩
      subst hw4
      have b4 : Below w3.heap.size w3 w4 := by rw [hnd4]; exact Below_drewN (Below.refl _ _) nd4
      have bn := Below_new w4 (.cells #[.int .u8 v] 5)
      have HO5 := hide ((ho1.below b4).below bn)
      have cl5 := below_cell bn (below_cell b4 cl1)
      have cl4 := below_cell b4 cl1
      have HR5 := hide ((HRL.out.below b4).below bn)
      have H5 := hide ((H3.out.below b4).below bn)
      have HB5 := hide (Below_step (Below_step HB3.out b4) bn)
      have HL5 := hide (LiesB.new w4 #[.int .u8 v] 5 (0, 0) [b] 1 rfl (by rw [HV.out]; rfl))
      have hB5 : B ≤ (World.alloc w4 (.cells #[.int .u8 v] 5)).heap.size := Nat.le_trans HB.out HB5.out.size
      clear b4 bn hnd4 cL cM cl1 fl1 ho1
      have hm2 : m1 < 1000 := by have := HGE.out; omega
      go_wp2_with (refine wpB_append3 rfl (.tmp 41) (.tmp 43) rfl B A1 m1 c1 _ rfl HO5.out _ _ 1 1 [b] rfl HL5.out (m1 + 1) _ rfl rfl (by omega) hB5 ?_; intro A6 c6 w6 own6 k6 hk6; have HO6 := hide own6; have HK6 := hide k6; have HKK := hide hk6; have hrow6 := HR5.out.row.keeps k6 (fun k h1 h2 => (OwnV.of_B HO5.out).apart HR5.out.row (by decide) k h2 h1); have HROW := hide hrow6; obtain ⟨hcl6, cl6⟩ := hrow6.cell (j := i) hil; have fl6 := hrow6.frozen i; clear own6 k6 hk6 hrow6)
      go_ret
      have hs := HHS.out
      have hg : g ≠ g ∨ True := .inr trivial
      have ks := Keeps.setCell w6 ⟨g, i, none⟩ (.slice A6 (m1 + 1) c6)
      have ho7 : OwnB (w6.setCell ⟨g, i, none⟩ (.slice A6 (m1 + 1) c6)) B A6 (m1 + 1) c6 (s.mine ++ [b]) := HO6.out.keeps ks (fun k hk1 hk2 => by
        have hk2 : k = g := hk2
        subst hk2
        exact (OwnV.of_B HO6.out).apart HROW.out (by decide) k hk1 rfl)
      have hkk : Keeps (rlBlocks g p.ss[i]) (World.alloc w4 (.cells #[.int .u8 v] 5)) (w6.setCell ⟨g, i, none⟩ (.slice A6 (m1 + 1) c6)) :=
        (HK6.out.mono (S' := rlBlocks g p.ss[i]) fun k _ hk => .inr (by rw [← HX1.out]; exact hk)).trans ks fun k _ hk => .inl hk
      have hxx : (sv (A6, m1 + 1, c6)).ownBlock = (sv p.ss[i]).ownBlock ∨ ∃ k, (sv (A6, m1 + 1, c6)).ownBlock = some k ∧ (World.alloc w4 (.cells #[.int .u8 v] 5)).heap.size ≤ k := by
        rw [← HX1.out]
        exact HKK.out.imp id fun h => ⟨_, h, Nat.le_refl _⟩
      have hl2 : (s.mine ++ [b]).length ≤ 1000 := by rw [List.length_append, ← HM.out]; simp; omega
      have hput := HR5.out.put i hil (x := (A6, m1 + 1, c6)) (l := s.mine ++ [b]) (HROW.out.store i _) ho7 hs hkk hxx hl2
      have hfin := H5.out.lineStep HA.out (rl := HR5.out) hs hput hkk hxx
      refine ⟨by rw [e1.out]; rfl, { p with ss := p.ss.set i (A6, m1 + 1, c6) }, ?_, (RSt.of_below HB5.out).trans hfin.2⟩
      rw [HS2.out]
      exact hfin.1
end
end Go.Proofs.Ytbcgffgiifminaa
