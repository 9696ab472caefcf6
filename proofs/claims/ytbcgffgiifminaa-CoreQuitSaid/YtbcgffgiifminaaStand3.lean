/-
  A core's words held against its marks.
  A core asked: is it closed, its queue, its head, its marks; events; marks and presses taken.
  A core's marks and presses taken.
  A press taken.
  Which players may be.
-/
import Derived.Test.YtbcgffgiifminaaStand2
import Derived.Deep.MidRow
namespace Go.Proofs.Ytbcgffgiifminaa
open Go.RowKit
set_option maxRecDepth 10000
set_option linter.unusedVariables false
/-- Is a player's word another one than the mark's, and was not told? -/
def Peer.bad (p : Peer) (marks : List Int) : Bool := decide (1 ≤ p.frame) && decide (p.frame ≤ (marks.length : Int)) && !p.apart && !(p.sum == marks.getD (p.frame - 1).toNat 0)
def Co.hold1 (s : Co) (i : Nat) : Co :=
  match s.peers[i]? with
  | some p => if p.bad s.marks = true then { s with peers := s.peers.set i { p with apart := true }, events := s.events ++ [.apart i p.frame] } else s
  | none => s
def Co.holdK (s : Co) : Nat → Co
  | 0 => s
  | k + 1 => (s.holdK k).hold1 k
def Co.hold (s : Co) : Co := s.holdK s.peers.length
theorem hold1_same (s : Co) (i : Nat) : (s.hold1 i).cfg = s.cfg ∧ (s.hold1 i).ls = s.ls ∧ (s.hold1 i).marks = s.marks ∧ (s.hold1 i).now = s.now ∧ (s.hold1 i).closed = s.closed ∧ (s.hold1 i).peers.length = s.peers.length ∧ s.events.length ≤ (s.hold1 i).events.length ∧ (s.hold1 i).events.length ≤ s.events.length + 1 := by
  unfold Co.hold1
  split
  · split
    · refine ⟨rfl, rfl, rfl, rfl, rfl, List.length_set, ?_, ?_⟩ <;> simp
    · exact ⟨rfl, rfl, rfl, rfl, rfl, rfl, Nat.le_refl _, Nat.le_succ _⟩
  · exact ⟨rfl, rfl, rfl, rfl, rfl, rfl, Nat.le_refl _, Nat.le_succ _⟩
theorem holdK_same (s : Co) : ∀ k, (s.holdK k).cfg = s.cfg ∧ (s.holdK k).ls = s.ls ∧ (s.holdK k).marks = s.marks ∧ (s.holdK k).now = s.now ∧ (s.holdK k).closed = s.closed ∧ (s.holdK k).peers.length = s.peers.length ∧ s.events.length ≤ (s.holdK k).events.length ∧ (s.holdK k).events.length ≤ s.events.length + k
  | 0 => ⟨rfl, rfl, rfl, rfl, rfl, rfl, Nat.le_refl _, Nat.le_refl _⟩
  | k + 1 => by
    obtain ⟨a, b, c, d, e, f, g, h⟩ := holdK_same s k
    obtain ⟨a', b', c', d', e', f', g', h'⟩ := hold1_same (s.holdK k) k
    exact ⟨a'.trans a, b'.trans b, c'.trans c, d'.trans d, e'.trans e, f'.trans f, Nat.le_trans g g', by show ((s.holdK k).hold1 k).events.length ≤ _; omega⟩
theorem Co.Ok.setPeer {s : Co} (h : s.Ok) (i : Nat) (b : Peer) (h1 : 0 ≤ b.has ∧ b.has ≤ ((s.ls.getD s.cfg.me.toNat []).length : Int)) (h2 : 0 ≤ b.heard ∧ b.heard ≤ s.now) (h3 : 0 ≤ b.frame ∧ b.frame ≤ 1000) (h4 : 0 ≤ b.sum ∧ b.sum < 4294967296) : ({ s with peers := s.peers.set i b } : Co).Ok := by
  have hm : ∀ q ∈ s.peers.set i b, q ∈ s.peers ∨ q = b := fun q hq => List.mem_or_eq_of_mem_set hq
  refine ⟨h.cfg, by rw [List.length_set]; exact h.np, h.nl, h.short, h.head, ?_, ?_, ?_, ?_, h.marks, h.mark, h.now, h.events⟩
  · intro q hq; rcases hm q hq with h' | rfl; exact h.has q h'; exact h1
  · intro q hq; rcases hm q hq with h' | rfl; exact h.heard q h'; exact h2
  · intro q hq; rcases hm q hq with h' | rfl; exact h.frame q h'; exact h3
  · intro q hq; rcases hm q hq with h' | rfl; exact h.sum q h'; exact h4
theorem coRow_peers (s : Co) (p : CP) : (coRow s p)[11]? = some (.slice (some ⟨p.g, 0, none⟩) s.peers.length p.pc) := rfl
theorem coRow_marks (s : Co) (p : CP) : (coRow s p)[12]? = some (.slice p.mA p.mn p.mc) := rfl
set_option maxHeartbeats 4000000 in
theorem core_hold {B : Nat} {w : World} {x : Nat} {p : CP} {s : Co} (h : CAt B w x p s) (hB : B ≤ w.heap.size) (hen : p.en ≤ 999999000) :
    Calls Try.prog 54 #[.pointer (some ⟨x, 0, none⟩)] w fun r w' => r = .returned (.tuple #[]) ∧ ∃ p', CAt B w' x p' s.hold ∧ Stp w w' x p p' := by
  have H := hide h
  have HB := hide hB
  obtain ⟨n, hn⟩ : ∃ n, n = s.peers.length := ⟨_, rfl⟩
  have HN := hide hn
  have hn8 : n ≤ 8 := by have := h.ok.np; have := h.ok.cfg.n; omega
  have cP := h.cell (coRow_peers s p)
  rw [← hn] at cP
  obtain ⟨S, hS⟩ : ∃ S, S = s.hold := ⟨_, rfl⟩
  rw [← hS]
  have HS := hide hS
  clear h hB hn hS
  go_enter Try.func54, Try.ntmps54
  go_wp2_with fail
  go_loopg [2, 3, 9] n (fun gg s2 s3 s9 wr => ∃ (i : Nat) (p1 : CP), i ≤ n ∧ gg = n - i ∧ s9 = .int .i64 (i : Int) ∧ Hid (CAt B wr x p1 (s.holdK i)) ∧ Hid (Stp w wr x p p1))
  case atStart => exact ⟨0, p, by omega, rfl, rfl, H.out, Stp.refl _ _ _⟩
  case round =>
    obtain ⟨W1, hW1⟩ : ∃ W1, W1 = wr := ⟨_, rfl⟩
    subst hW1
    obtain ⟨i, p1, hin, rfl, rfl, HC, HST⟩ := hrel
    by_cases hlt : i < n
    · obtain ⟨s1, hs1⟩ : ∃ s1, s1 = s.holdK i := ⟨_, rfl⟩
      rw [← hs1] at HC
      have HS1 := hide hs1
      have hsame := holdK_same s i
      rw [← hs1] at hsame
      obtain ⟨-, -, -, -, -, hl1, -, he1⟩ := hsame
      have hil : i < s1.peers.length := by rw [hl1, ← HN.out]; exact hlt
      have hen1 : p1.en < 1000000000 := by
        have := HC.out.en
        have := H.out.en
        omega
      have cP1 := HC.out.cell (coRow_peers s1 p1)
      have cM1 := HC.out.cell (coRow_marks s1 p1)
      rw [hl1, ← HN.out] at cP1
      obtain ⟨pr, hpr⟩ : ∃ pr, pr = s1.peers[i] := ⟨_, rfl⟩
      have HPR : Hid (s1.peers[i]? = some pr) := by show _ = _; rw [List.getElem?_eq_getElem hil, hpr]
      have HPR2 : Hid (pr ∈ s1.peers) := by rw [hpr]; exact List.getElem_mem hil
      have c2 := HC.out.pcell (j := 2) (v := .int .i64 pr.frame) hil (by omega) (by rw [← hpr]; rfl)
      have c3 := HC.out.pcell (j := 3) (v := .int .u32 pr.sum) hil (by omega) (by rw [← hpr]; rfl)
      have c4 := HC.out.pcell (j := 4) (v := .bool pr.apart) hil (by omega) (by rw [← hpr]; rfl)
      obtain ⟨fr, hfr⟩ : ∃ fr, fr = pr.frame := ⟨_, rfl⟩
      obtain ⟨sm, hsm⟩ : ∃ sm, sm = pr.sum := ⟨_, rfl⟩
      obtain ⟨ap, hap⟩ : ∃ ap, ap = pr.apart := ⟨_, rfl⟩
      rw [← hfr] at c2
      rw [← hsm] at c3
      rw [← hap] at c4
      obtain ⟨bad, hbad⟩ : ∃ bad, bad = pr.bad s1.marks := ⟨_, rfl⟩
      have HBAD := hide hbad
      have HFS := hide (And.intro hfr (And.intro hsm hap))
      have hfr0 : 0 ≤ fr ∧ fr ≤ 1000 := by rw [hfr]; exact HC.out.ok.frame pr HPR2.out
      have HML : Hid (s1.marks.length = p1.mn) := HC.out.mn
      have hii : (i : Int) < (n : Int) := by omega
      have HIL := hide hil
      clear hs1 hl1 he1 hpr hfr hsm hap hbad hil
      go_upto_region 4 with fail
      go_cut [58] from 10 to 70 (fun s wx => s = .bool (!bad) ∧ ∃ nd, wx = W1.drewN nd)
      case first =>
        have hb : bad = (decide (1 ≤ fr) && decide (fr ≤ (p1.mn : Int)) && !ap && !(sm == s1.marks.getD (fr - 1).toNat 0)) := by
          rw [HBAD.out, Peer.bad, ← HFS.out.1, ← HFS.out.2.1, ← HFS.out.2.2, HML.out]
        by_cases h1 : fr < 1
        · have d1 : decide (fr < 1) = true := decide_eq_true h1
          have e : Hid (bad = false) := by show _ = _; rw [hb, decide_eq_false (by omega)]; rfl
          clear hb h1
          go_quiet (fail)
          go_wp2_with fail
          go_meet
          exact ⟨by rw [e.out]; rfl, _, rfl⟩
        have d1 : decide (fr < 1) = false := decide_eq_false h1
        have e1 : decide (1 ≤ fr) = true := decide_eq_true (by omega)
        by_cases h2 : fr > (p1.mn : Int)
        · have d2 : decide (fr > (p1.mn : Int)) = true := decide_eq_true h2
          have e : Hid (bad = false) := by show _ = _; rw [hb, decide_eq_false (show ¬ fr ≤ (p1.mn : Int) by omega), Bool.and_false]; rfl
          clear hb h1 h2
          go_quiet (fail)
          go_wp2_with fail
          go_meet
          exact ⟨by rw [e.out]; rfl, _, rfl⟩
        have d2 : decide (fr > (p1.mn : Int)) = false := decide_eq_false h2
        have e2 : decide (fr ≤ (p1.mn : Int)) = true := decide_eq_true (by omega)
        cases ap
        · obtain ⟨k, hk⟩ : ∃ k : Nat, fr - 1 = (k : Int) := ⟨(fr - 1).toNat, by omega⟩
          have hkm : k < p1.mn := by omega
          obtain ⟨gm, hmA, -, -⟩ := HC.out.marks.form (by omega)
          have hmk := HC.out.marks
          rw [hmA] at hmk cM1
          obtain ⟨hl9, c9⟩ := hmk.cell hkm
          obtain ⟨mk, hmk2⟩ : ∃ mk, mk = s1.marks.getD k 0 := ⟨_, rfl⟩
          have hc9 : W1.cell? ⟨gm, k, none⟩ = some (.int .u32 mk) := by
            rw [c9, List.getElem_map, hmk2]
            have hl10 : k < s1.marks.length := by rw [HML.out]; exact hkm
            rw [List.getD_eq_getElem?_getD, List.getElem?_eq_getElem hl10]; rfl
          obtain ⟨z, hz⟩ : ∃ z : Bool, (sm == mk) = z := ⟨_, rfl⟩
          have e : Hid (bad = !z) := by
            show _ = _
            rw [hb, e1, e2, hk, Int.toNat_natCast, ← hmk2, hz]; cases z <;> rfl
          have hki : (k : Int) < (p1.mn : Int) := by omega
          clear hb e1 e2 hmk hmA hl9 c9 hmk2
          go_quiet (fail)
          go_wp2_with fail
          go_meet
          exact ⟨by rw [e.out, Bool.not_not], _, rfl⟩
        · have e : Hid (bad = false) := by show _ = _; rw [hb]; simp
          clear hb h1 h2
          go_quiet (fail)
          go_wp2_with fail
          go_meet
          exact ⟨by rw [e.out]; rfl, _, rfl⟩
      case rest =>
      obtain ⟨rfl, nd, hnd⟩ := hcut
      obtain ⟨W2, hW2⟩ : ∃ W2, W2 = wc := ⟨_, rfl⟩
      subst hW2
      have HC2 : Hid (CAt B W2 x p1 s1) := by show CAt _ _ _ _ _; rw [hnd]; exact HC.out.drewN nd
      have HST2 : Hid (Stp w W2 x p p1) := by
        show Stp _ _ _ _ _
        rw [hnd]
        exact HST.out.trans (Stp.of_below (Below_drewN (Below.refl _ _) nd))
      clear hnd cP1 cM1 c2 c3 c4 HC HST
      cases bad with
      | false =>
        have HNX : Hid (s.holdK (i + 1) = s1) := by
          show _ = _
          rw [Co.holdK, ← HS1.out, Co.hold1, HPR.out]
          simp only
          rw [← HBAD.out, if_neg (by decide)]
        go_wp2_with fail
        go_roundg (n - (i + 1))
        case measure => omega
        case rel => exact ⟨i + 1, p1, by omega, rfl, by go_num, by rw [HNX.out]; exact HC2, HST2⟩
      | true =>
        have HNX : Hid (s.holdK (i + 1) = { s1 with peers := s1.peers.set i { pr with apart := true }, events := s1.events ++ [.apart (i : Int) fr] }) := by
          show _ = _
          rw [Co.holdK, ← HS1.out, Co.hold1, HPR.out]
          simp only
          rw [← HBAD.out, if_pos rfl, HFS.out.1]
        have hpe : s1.peers[i]'HIL.out = pr := by
          have := HPR.out
          rw [List.getElem?_eq_getElem HIL.out] at this
          injection this
        have hfz := HC2.out.pfrozen (i * 5 + 4)
        have c4 := HC2.out.pcell (j := 4) (v := .bool pr.apart) HIL.out (by omega) (by rw [hpe]; rfl)
        have HPS := hide (HC2.out.setPeer i 4 (.bool true) { pr with apart := true } HIL.out (by omega) (by rw [hpe]; rfl) (HC2.out.ok.setPeer i _ (HC2.out.ok.has pr HPR2.out) (HC2.out.ok.heard pr HPR2.out) (HC2.out.ok.frame pr HPR2.out) (HC2.out.ok.sum pr HPR2.out)))
        go_upto_region 6 with fail
        generalize World.setCell W2 _ _ = W3 at HPS ⊢
        obtain ⟨HC3', HST3⟩ := HPS.out
        have HC3 := hide HC3'
        have c2 := HC3.out.pcell (i := i) (j := 2) (v := .int .i64 fr) (by rw [List.length_set]; exact HIL.out) (by omega) (by rw [List.getElem_set_self]; rw [HFS.out.1]; rfl)
        have HST4 := hide (HST2.out.trans HST3)
        have hB3 := Nat.le_trans HB.out HST4.out.keeps.size
        clear HC3' HST3 HPS hfz c4 HST2 HC2
        go_wp2_with fail
        refine Calls.mono (core_note HC3.out hB3 (.apart (i : Int) fr) ⟨⟨by show 0 ≤ (i : Int); omega, by show (i : Int) < 8; omega⟩, hfr0⟩ hen1) ?_
        rintro r w5 ⟨rfl, p5, hc5, hst5⟩
        have HC5 := hide hc5
        have HST5 := hide (HST4.out.trans hst5)
        clear hc5 hst5
        go_wp2_with fail
        go_roundg (n - (i + 1))
        case measure => omega
        case rel => exact ⟨i + 1, p5, by omega, rfl, by go_num, by rw [HNX.out]; exact HC5, HST5⟩
    · obtain rfl : i = n := by omega
      go_wp2_with fail
      refine bodyPost_end (v := .tuple #[]) (by simp [results, go_sem]) rfl ⟨rfl, p1, ?_, HST.out⟩
      rw [HS.out, Co.hold, ← HN.out]
      exact HC.out
end Go.Proofs.Ytbcgffgiifminaa
namespace Go.Proofs.Ytbcgffgiifminaa
open Go.RowKit
set_option maxRecDepth 10000
set_option linter.unusedVariables false
theorem info_cfg : (Try.prog.info? 28).map (·.size) = some 10 := by kernel_rfl
theorem coRow_closed (s : Co) (p : CP) : (coRow s p)[15]? = some (.bool s.closed) := rfl
theorem coRow_now (s : Co) (p : CP) : (coRow s p)[14]? = some (.int .i64 s.now) := rfl
theorem coRow_q (s : Co) (p : CP) : (coRow s p)[10]? = some (.pointer (some ⟨p.q, 0, none⟩)) := rfl
theorem coRow_me (s : Co) (p : CP) : (coRow s p)[1]? = some (.int .i64 s.cfg.me) := rfl
theorem coRow_id (s : Co) (p : CP) : (coRow s p)[2]? = some (.int .i64 s.cfg.id) := rfl
theorem coRow_n (s : Co) (p : CP) : (coRow s p)[0]? = some (.int .i64 s.cfg.n) := rfl
theorem coRow_window (s : Co) (p : CP) : (coRow s p)[4]? = some (.int .i64 s.cfg.window) := rfl
theorem results_Cfg {fn : Func} {p : Tmp} (h : fn.results = #[.cell p 28]) (tmps : Array Value) (w : World) (g : Nat) (hp : tmps.getD p undef = .pointer (some ⟨g, 0, none⟩)) (c : Cfg) (hg : Arr 28 w g c.row) :
    (results fn tmps).run Try.prog w = .ok c.val w :=
  results_cell_row h tmps w g 28 c.row.toArray (0, 0) _ hp hg Try.underlying28 rfl info_cfg
theorem Cfg.row_one (c : Cfg) : ∀ u ∈ c.row, u.oneCell' = true := by
  intro u hu
  simp only [Cfg.row, List.mem_cons, List.not_mem_nil, or_false] at hu
  rcases hu with rfl | rfl | rfl | rfl | rfl | rfl | rfl | rfl | rfl | rfl <;> rfl
section
variable {B : Nat} {w : World} {x : Nat} {p : CP} {s : Co}
/-- The row of events is given away. -/
theorem CAt.dropEvents (h : CAt B w x p s) : OwnV 114 (w.setCell ⟨x, 13, none⟩ (.slice none 0 0)) B p.eA p.en p.ec (s.events.map Ev.val) ∧ CAt B (w.setCell ⟨x, 13, none⟩ (.slice none 0 0)) x { p with eA := none, en := 0, ec := 0 } { s with events := [] } ∧ Stp w (w.setCell ⟨x, 13, none⟩ (.slice none 0 0)) x p { p with eA := none, en := 0, ec := 0 } := by
  have ks := Keeps.setCell w ⟨x, 13, none⟩ (.slice none 0 0)
  have off : Off (fun k => k = (⟨x, 13, none⟩ : Addr).block) w (tQ ++ [86, 39, 114]) := Off.of (T := 84) (fun k hk => by rw [hk]; exact h.head.tb) (by decide)
  refine ⟨owns_off h.events ks off (by decide), ⟨h.head.set 13 _, h.base, h.q.off ks off (by decide), h.nx, owns_off h.peers ks off (by decide), owns_off h.marks ks off (by decide), World.ownsRow_nil _ _ _ _, ⟨h.ok.cfg, h.ok.np, h.ok.nl, h.ok.short, h.ok.head, h.ok.has, h.ok.heard, h.ok.frame, h.ok.sum, h.ok.marks, h.ok.mark, h.ok.now, Nat.zero_le _⟩⟩, ⟨ks.mono fun k _ hk => .inl hk, ?_⟩⟩
  intro k hk
  rcases hk with hk | hk | hk | hk | hk | hk | hk
  · exact .inl (.inl hk)
  · exact .inl (.inr (.inl hk))
  · exact .inl (.inr (.inr (.inl hk)))
  · exact .inl (.inr (.inr (.inr (.inl hk))))
  · exact .inl (.inr (.inr (.inr (.inr (.inl hk)))))
  · exact .inl (.inr (.inr (.inr (.inr (.inr (.inl hk))))))
  · simp [Mine, Value.ownBlock] at hk
theorem core_Closed (h : CAt B w x p s) : Calls Try.prog 26 #[.pointer (some ⟨x, 0, none⟩)] w fun r w' => r = .returned (.bool s.closed) ∧ w = w' := by
  have c := h.cell (coRow_closed s p)
  obtain ⟨b, hb⟩ : ∃ b, b = s.closed := ⟨_, rfl⟩
  rw [← hb] at c ⊢
  clear h hb
  go_enter Try.func26, Try.ntmps26
  go_wp2_with fail
  go_ret
  exact ⟨rfl, rfl⟩
theorem core_Closed_nil (w : World) : Calls Try.prog 26 #[.pointer none] w fun r w' => r = .returned (.bool true) ∧ w = w' := by
  go_enter Try.func26, Try.ntmps26
  go_wp2_with fail
  go_ret
  exact ⟨rfl, rfl⟩
theorem core_Queue (h : CAt B w x p s) : Calls Try.prog 17 #[.pointer (some ⟨x, 0, none⟩)] w fun r w' => r = .returned (.pointer (some ⟨p.q, 0, none⟩)) ∧ w = w' := by
  have c := h.cell (coRow_q s p)
  clear h
  go_enter Try.func17, Try.ntmps17
  go_wp2_with fail
  go_ret
  exact ⟨rfl, rfl⟩
theorem core_Queue_nil (w : World) : Calls Try.prog 17 #[.pointer none] w fun r w' => r = .returned (.pointer none) ∧ w = w' := by
  go_enter Try.func17, Try.ntmps17
  go_wp2_with fail
  go_ret
  exact ⟨rfl, rfl⟩
theorem core_Marks (h : CAt B w x p s) : Calls Try.prog 31 #[.pointer (some ⟨x, 0, none⟩)] w fun r w' => r = .returned (.int .i64 (p.mn : Int)) ∧ w = w' := by
  have c := h.cell (coRow_marks s p)
  clear h
  go_enter Try.func31, Try.ntmps31
  go_wp2_with fail
  go_ret
  exact ⟨rfl, rfl⟩
theorem core_Marks_nil (w : World) : Calls Try.prog 31 #[.pointer none] w fun r w' => r = .returned (.int .i64 0) ∧ w = w' := by
  go_enter Try.func31, Try.ntmps31
  go_wp2_with fail
  go_ret
  exact ⟨rfl, rfl⟩
set_option maxHeartbeats 1000000 in
theorem core_Conf (h : CAt B w x p s) : Calls Try.prog 49 #[.pointer (some ⟨x, 0, none⟩)] w fun r w' => r = .returned s.cfg.val ∧ Below w.heap.size w w' := by
  obtain ⟨c, hc⟩ : ∃ c, c = s.cfg := ⟨_, rfl⟩
  have hr : w.rangeAt x 0 c.row := by
    intro j v hv
    rw [Nat.zero_add]
    refine h.cell (v := v) ?_
    unfold coRow
    rw [← hc, List.getElem?_append_left (List.getElem?_eq_some_iff.1 hv).1]
    exact hv
  rw [← hc]
  have HR := hide (fun j v hv => (below_cell (Below_new w (.cells (Cfg.row ⟨0, 0, 0, 0, 0, 0, 0, 0, 0, 0⟩).toArray 28)) (hr j v hv)))
  clear h hc hr
  go_enter Try.func49, Try.ntmps49
  go_wp2_with (first
    | (refine wpList_load_mid rfl 28 (.tmp 8) rfl x 0 rfl c.row _ HR.out Try.underlying28 rfl info_cfg ?_)
    | (refine wpA_init rfl 28 (.tmp 2) (.tmp 9) rfl c.row rfl rfl 10 info_cfg rfl rfl c.row_one ?_; intro w3 ha3 hb3 hs3))
  exact bodyPost_ret (results_Cfg (fn := Try.f49) rfl _ _ _ rfl c ha3) rfl ⟨rfl, hb3⟩
end
set_option maxHeartbeats 1000000 in
theorem core_Conf_nil (w : World) : Calls Try.prog 49 #[.pointer none] w fun r w' => r = .returned (Cfg.val ⟨0, 0, 0, 0, 0, 0, 0, 0, 0, 0⟩) ∧ Below w.heap.size w w' := by
  go_enter Try.func49, Try.ntmps49
  go_wp2_with fail
  exact bodyPost_ret (results_Cfg (fn := Try.f49) rfl _ _ _ rfl ⟨0, 0, 0, 0, 0, 0, 0, 0, 0, 0⟩ (Arr.new _ w _ _ rfl)) rfl ⟨rfl, Below_new _ _⟩
/-- 'x.f' of a struct's value, the field an int. -/
theorem run_fieldI {ty : TypeId} {fs : Array Field} {i : Nat} {f : Field} (hu : Try.prog.underlying ty = some (.struct fs)) (hf : fs[i]? = some f) (hi : (Try.prog.info? f.type).map (·.size) = some 1) {d : TypeDesc} (hd : Try.prog.underlying f.type = some d) (hnd : rowDesc d = false) (cs : Array Value) {v : Value} (hv : cs[f.offset]? = some v) (w : World) :
    (Instr.field ty (.agg cs) i).run Try.prog w = .ok v w := by
  cases hq : Try.prog.info? f.type with
  | none => simp [hq] at hi
  | some t =>
    have hs : t.size = 1 := by simpa [hq] using hi
    have hagg : (isAgg f.type).run Try.prog w = .ok false w := by
      unfold isAgg
      rw [Sem.run_bind, run_underlying hd w]
      cases d <;> simp_all [rowDesc]
    simp [Instr.field, Sem.run_bind, run_underlying hu, hf, asAgg, part, hagg, sizeOf, typeInfo, hq, hs, hv]
theorem int_info : (Try.prog.info? 3).map (·.size) = some 1 := by kernel_rfl
@[go_sem] theorem run_cfg_me (a0 a1 a2 a3 a4 a5 a6 a7 a8 a9 : Value) (w : World) : Sem.run Try.prog (Instr.field 28 (.agg #[a0, a1, a2, a3, a4, a5, a6, a7, a8, a9]) 1) w = .ok a1 w :=
  run_fieldI Try.underlying28 rfl int_info Try.underlying3 rfl _ rfl w
/-- The player's own line. -/
def Co.mine (s : Co) : List UInt8 := s.ls.getD s.cfg.me.toNat []
section
variable {B : Nat} {w : World} {x : Nat} {p : CP} {s : Co}
theorem CAt.me (h : CAt B w x p s) : ∃ i : Nat, s.cfg.me = (i : Int) ∧ i < p.xs.length ∧ i < s.ls.length ∧ s.ls.length = p.xs.length ∧ p.xs.length ≤ 8 := by
  have h1 := h.ok.cfg.me
  have h2 := h.ok.np
  have h3 := h.ok.nl
  have h4 := h.nx
  have h5 := h.ok.cfg.n
  exact ⟨s.cfg.me.toNat, by omega, by omega, by omega, by omega, by omega⟩
theorem CAt.line (h : CAt B w x p s) (i : Nat) (hi : i < p.xs.length) : LineAt w p.xs[i].1 p.xs[i].2 (s.ls.getD i []) := by
  have := h.q.line i hi
  exact this
theorem core_Head (h : CAt B w x p s) : Calls Try.prog 16 #[.pointer (some ⟨x, 0, none⟩)] w fun r w' => r = .returned (.int .i64 (s.mine.length : Int)) ∧ Below w.heap.size w w' := by
  obtain ⟨i, hme, hi, hil, hll, h8⟩ := h.me
  obtain ⟨l, hl⟩ : ∃ l, l = s.mine := ⟨_, rfl⟩
  have HL : Hid (s.ls.getD i [] = l) := by show _ = _; rw [hl, Co.mine, hme, Int.toNat_natCast]
  have H := hide h
  have HM := hide hme
  rw [← hl]
  clear h hl hme hll hil
  go_enter Try.func16, Try.ntmps16
  go_wp2_with fail
  refine Calls.mono (core_Queue H.out) ?_
  rintro r w2 ⟨rfl, rfl⟩
  go_wp2_with fail
  refine Calls.mono (core_Conf H.out) ?_
  rintro r w2 ⟨rfl, hb⟩
  have HB := hide hb
  have H2 := hide (H.out.below hb)
  clear hb
  unfold Cfg.val
  go_wp2_with fail
  refine Calls.mono (queue_Line H2.out.q i hi (by omega) HM.out rfl) ?_
  rintro r w3 ⟨rfl, rfl⟩
  go_wp2_with fail
  refine Calls.mono (line_Len _ _ l _ (by rw [← HL.out]; exact H2.out.line i hi)) ?_
  rintro r w3 ⟨rfl, rfl⟩
  go_wp2_with fail
  go_ret
  exact ⟨rfl, HB.out⟩
theorem core_Head_nil (w : World) : Calls Try.prog 16 #[.pointer none] w fun r w' => r = .returned (.int .i64 0) ∧ Below w.heap.size w w' := by
  go_enter Try.func16, Try.ntmps16
  go_wp2_with fail
  refine Calls.mono (core_Queue_nil w) ?_
  rintro r w2 ⟨rfl, rfl⟩
  go_wp2_with fail
  refine Calls.mono (core_Conf_nil w) ?_
  rintro r w2 ⟨rfl, hb⟩
  have HB := hide hb
  clear hb
  unfold Cfg.val
  go_wp2_with fail
  refine Calls.mono (queue_Line_nil _ w2) ?_
  rintro r w3 ⟨rfl, rfl⟩
  go_wp2_with fail
  refine Calls.mono (line_Len_nil _) ?_
  rintro r w3 ⟨rfl, rfl⟩
  go_wp2_with fail
  go_ret
  exact ⟨rfl, HB.out⟩
set_option maxHeartbeats 1000000 in
theorem core_Events (h : CAt B w x p s) : Calls Try.prog 27 #[.pointer (some ⟨x, 0, none⟩)] w fun r w' => r = .returned (.slice p.eA p.en p.ec) ∧ OwnV 114 w' B p.eA p.en p.ec (s.events.map Ev.val) ∧ CAt B w' x { p with eA := none, en := 0, ec := 0 } { s with events := [] } ∧ Stp w w' x p { p with eA := none, en := 0, ec := 0 } := by
  have c := h.cell (coRow_ev s p)
  have f := h.hfrozen 13
  have HS := hide h.dropEvents
  clear h
  go_enter Try.func27, Try.ntmps27
  go_wp2_with fail
  go_ret
  exact ⟨rfl, HS.out⟩
theorem core_Events_nil (w : World) : Calls Try.prog 27 #[.pointer none] w fun r w' => r = .returned (.slice none 0 0) ∧ w = w' := by
  go_enter Try.func27, Try.ntmps27
  go_wp2_with fail
  go_ret
  exact ⟨rfl, rfl⟩
end
end Go.Proofs.Ytbcgffgiifminaa
namespace Go.Proofs.Ytbcgffgiifminaa
open Go.RowKit
set_option maxRecDepth 10000
set_option linter.unusedVariables false
section
variable {B : Nat} {w w' : World} {x : Nat} {p : CP} {s : Co}
/-- One line has grown. -/
theorem Co.Ok.setLine {s : Co} (h : s.Ok) (i : Nat) (l : List UInt8) (h1 : l.length ≤ 1000) (h2 : (s.ls.getD i []).length ≤ l.length) : ({ s with ls := s.ls.set i l } : Co).Ok := by
  have hg : ∀ j, ((s.ls.set i l).getD j []).length ≤ 1000 ∧ (s.ls.getD j []).length ≤ ((s.ls.set i l).getD j []).length := by
    intro j
    by_cases hj : j < s.ls.length
    · simp only [List.getD_eq_getElem?_getD, List.getElem?_set]
      split
      · rename_i e
        subst e
        rw [if_pos hj]
        have := h.short i
        simp only [List.getD_eq_getElem?_getD] at h2 this
        exact ⟨h1, h2⟩
      · have := h.short j
        simp only [List.getD_eq_getElem?_getD] at this
        exact ⟨this, Nat.le_refl _⟩
    · simp only [List.getD_eq_getElem?_getD]
      rw [List.getElem?_eq_none (l := s.ls.set i l) (by rw [List.length_set]; omega), List.getElem?_eq_none (l := s.ls) (by omega)]
      exact ⟨Nat.zero_le _, Nat.le_refl _⟩
  have hm := (hg s.cfg.me.toNat).2
  refine ⟨h.cfg, h.np, by rw [List.length_set]; exact h.nl, fun j => (hg j).1, ?_, ?_, h.heard, h.frame, h.sum, h.marks, h.mark, h.now, h.events⟩
  · have := h.head; show s.cfg.delay ≤ (((s.ls.set i l).getD s.cfg.me.toNat []).length : Int); omega
  · intro q hq; have := h.has q hq; show _ ∧ q.has ≤ (((s.ls.set i l).getD s.cfg.me.toNat []).length : Int); omega
theorem CAt.setLine (h : CAt B w x p s) (hB : B ≤ w.heap.size) (i : Nat) (hi : i < p.xs.length) {g' : Option Nat} {l' : List UInt8} (hl : LineAt w' p.xs[i].1 g' l') (hk : Keeps (lineBlocks p.xs[i].1 p.xs[i].2) w w')
    (hg : g' = p.xs[i].2 ∨ ∃ k, g' = some k ∧ w.heap.size ≤ k) (h1 : l'.length ≤ 1000) (h2 : (s.ls.getD i []).length ≤ l'.length) :
    CAt B w' x { p with xs := p.xs.set i (p.xs[i].1, g') } { s with ls := s.ls.set i l' } ∧ Stp w w' x p { p with xs := p.xs.set i (p.xs[i].1, g') } := by
  have off : Off (lineBlocks p.xs[i].1 p.xs[i].2) w [84, 86, 39, 114] := Off.of2 (h.line i hi).tb (by decide) (by decide)
  refine ⟨⟨h.head.off hk off (by decide), h.base, h.q.put hB i hi hl hk hg, ?_, owns_off h.peers hk off (by decide), owns_off h.marks hk off (by decide), owns_off h.events hk off (by decide), h.ok.setLine i l' h1 h2⟩, ⟨hk.mono fun k _ hk => .inr (.inr (.inr (.inl ⟨i, hi, hk⟩))), ?_⟩⟩
  · show (p.xs.set i _).length = _
    rw [List.length_set]; exact h.nx
  · intro k hk
    rcases hk with hk | hk | hk | ⟨j, hj, hk⟩ | hk | hk | hk
    · exact .inl (.inl hk)
    · exact .inl (.inr (.inl hk))
    · have hk2 : Mine p.qA (p.xs.set i (p.xs[i].1, g')).length p.qc k := hk
      rw [List.length_set] at hk2
      exact .inl (.inr (.inr (.inl hk2)))
    · have hj2 : j < p.xs.length := by simpa using hj
      have hk2 : lineBlocks (p.xs.set i (p.xs[i].1, g'))[j].1 (p.xs.set i (p.xs[i].1, g'))[j].2 k := hk
      rw [List.getElem_set] at hk2
      split at hk2
      · rename_i e
        subst e
        rcases hk2 with hk2 | hk2
        · exact .inl (.inr (.inr (.inr (.inl ⟨i, hi, .inl hk2⟩))))
        · rcases hg with hg | ⟨k2, hg, hge⟩
          · rw [hg] at hk2
            exact .inl (.inr (.inr (.inr (.inl ⟨i, hi, .inr hk2⟩))))
          · rw [hg] at hk2
            injection hk2 with hk2
            exact .inr (by omega)
      · exact .inl (.inr (.inr (.inr (.inl ⟨j, hj2, hk2⟩))))
    · exact .inl (.inr (.inr (.inr (.inr (.inl hk)))))
    · exact .inl (.inr (.inr (.inr (.inr (.inr (.inl hk))))))
    · exact .inl (.inr (.inr (.inr (.inr (.inr (.inr hk))))))
end
/-- A mark taken. -/
def Co.mark (s : Co) (m : Int) : Co := if s.marks.length < 1000 then ({ s with marks := s.marks ++ [m] } : Co).hold else s
set_option maxHeartbeats 2000000 in
theorem core_Mark {B : Nat} {w : World} {x : Nat} {p : CP} {s : Co} (h : CAt B w x p s) (hB : B ≤ w.heap.size) (hen : p.en ≤ 999999000) (m : Int) (hm : 0 ≤ m ∧ m < 4294967296) :
    Calls Try.prog 30 #[.pointer (some ⟨x, 0, none⟩), .int .u32 m] w fun r w' => r = .returned (.tuple #[]) ∧ ∃ p', CAt B w' x p' (s.mark m) ∧ Stp w w' x p p' := by
  have H := hide h
  have HB := hide hB
  have HML : Hid (s.marks.length = p.mn) := h.mn
  have cM := h.cell (coRow_marks s p)
  obtain ⟨S, hS⟩ : ∃ S, S = s.mark m := ⟨_, rfl⟩
  rw [← hS]
  have HS := hide hS
  have HMM := hide hm
  clear h hB hS
  by_cases hlt : p.mn < 1000
  · have HS2 : Hid (S = ({ s with marks := s.marks ++ [m] } : Co).hold) := by
      show _ = _
      rw [HS.out, Co.mark, if_pos (by rw [HML.out]; exact hlt)]
    have d1 : decide ((p.mn : Int) ≥ 1000) = false := decide_eq_false (by omega)
    have HOK : Hid (({ s with marks := s.marks ++ [m] } : Co).Ok) := ⟨H.out.ok.cfg, H.out.ok.np, H.out.ok.nl, H.out.ok.short, H.out.ok.head, H.out.ok.has, H.out.ok.heard, H.out.ok.frame, H.out.ok.sum, by show (s.marks ++ [m]).length ≤ _; rw [List.length_append, HML.out]; simp; omega, by
      intro q hq
      rcases List.mem_append.1 hq with hq | hq
      · exact H.out.ok.mark q hq
      · rw [List.mem_singleton.1 hq]; exact hm, H.out.ok.now, H.out.ok.events⟩
    have bn := Below_new w (.cells #[.int .u32 m] 39)
    have H2 := hide (H.out.below bn)
    have HB2 := hide bn
    have HL2 := hide (Lies.new w #[.int .u32 m] 39 (0, 0))
    have hB2 : B ≤ (World.alloc w (.cells #[.int .u32 m] 39)).heap.size := by have := HB.out; rw [World.size_alloc]; omega
    clear bn
    go_enter Try.func30, Try.ntmps30
    go_upto_region 1 with fail
    go_wp2_with (refine wpV_append elem_marks rfl (.tmp 18) (.tmp 20) rfl B p.mA p.mn p.mc _ rfl H2.out.marks _ _ 1 1 [.int .u32 m] rfl rfl HL2.out (by simp [Value.oneCell']) (by omega) (p.mn + 1) _ rfl rfl (by omega) (by omega) hB2 ?_; intro A5 c5 w5 own5 k5 hk5; have HC5 := hide (CAt.setMarks H2.out k5 own5 hk5 HOK.out); have f5 := HC5.out.1.frozen 12; have c5' := HC5.out.1.cell (j := 12) (by simp [coRow, Cfg.row]))
    have HC6 := hide HC5.out.2.1
    have HST := hide ((Stp.of_below HB2.out).trans HC5.out.2.2)
    refine Calls.mono (core_hold HC6.out (Nat.le_trans HB.out HST.out.keeps.size) hen) ?_
    rintro r w7 ⟨rfl, p7, hc7, hst7⟩
    go_wp2_with fail
    refine bodyPost_end (v := .tuple #[]) (by simp [results, go_sem]) rfl ⟨rfl, p7, by rw [HS2.out]; exact hc7, HST.out.trans hst7⟩
  · have HS2 : Hid (S = s) := by
      show _ = _
      rw [HS.out, Co.mark, if_neg (by rw [HML.out]; exact hlt)]
    have d1 : decide ((p.mn : Int) ≥ 1000) = true := decide_eq_true (by omega)
    go_enter Try.func30, Try.ntmps30
    go_wp2_with fail
    refine bodyPost_ret (v := .tuple #[]) (by simp [results, go_sem]) rfl ⟨rfl, p, by rw [HS2.out]; exact H.out, Stp.refl _ _ _⟩
/-- What a press answers, and the lines behind it. -/
def Co.pressErr (s : Co) : Int := if s.closed = true then 6 else if 1000 ≤ s.mine.length then 4 else if s.cfg.window ≤ (s.mine.length : Int) - (front s.ls : Int) then 5 else 0
def Co.press (s : Co) (b : UInt8) : Co := if s.pressErr = 0 then { s with ls := s.ls.set s.cfg.me.toNat (s.mine ++ [b]) } else s
end Go.Proofs.Ytbcgffgiifminaa
namespace Go.Proofs.Ytbcgffgiifminaa
open Go.RowKit
set_option maxRecDepth 10000
set_option linter.unusedVariables false
theorem core_Press_nil (b : Int) (w : World) : Calls Try.prog 15 #[.pointer none, .int .u8 b] w fun r w' => r = .returned (.int .i64 6) ∧ w = w' := by
  go_enter Try.func15, Try.ntmps15
  go_wp2_with fail
  refine Calls.mono (core_Closed_nil w) ?_
  rintro r w2 ⟨rfl, rfl⟩
  go_wp2_with fail
  go_ret
  exact ⟨rfl, rfl⟩
theorem front_le {ls : List (List UInt8)} (i : Nat) (h : i < ls.length) : front ls ≤ (ls.getD i []).length := frontK_le ls ls.length (Nat.le_refl _) i h
set_option maxHeartbeats 4000000 in
theorem core_Press {B : Nat} {w : World} {x : Nat} {p : CP} {s : Co} (h : CAt B w x p s) (hB : B ≤ w.heap.size) (b : UInt8) {v : Int} (hv : v = (b.toNat : Int)) :
    Calls Try.prog 15 #[.pointer (some ⟨x, 0, none⟩), .int .u8 v] w fun r w' => r = .returned (.int .i64 s.pressErr) ∧ ∃ p', CAt B w' x p' (s.press b) ∧ Stp w w' x p p' := by
  have H := hide h
  have HB := hide hB
  have HV := hide hv
  obtain ⟨S, hS⟩ : ∃ S, S = s.press b := ⟨_, rfl⟩
  obtain ⟨E, hE⟩ : ∃ E, E = s.pressErr := ⟨_, rfl⟩
  rw [← hS, ← hE]
  have HS := hide hS
  have HE := hide hE
  obtain ⟨cl, hcl⟩ : ∃ cl, cl = s.closed := ⟨_, rfl⟩
  have HCL := hide hcl
  obtain ⟨i, hme, hi, hil, hll, h8⟩ := h.me
  obtain ⟨m, hm⟩ : ∃ m, m = s.mine.length := ⟨_, rfl⟩
  obtain ⟨F, hF⟩ : ∃ F, F = front s.ls := ⟨_, rfl⟩
  have hmF : F ≤ m := by rw [hF, hm, Co.mine, hme, Int.toNat_natCast]; exact front_le i hil
  have hm1 : m ≤ 1000 := by rw [hm]; exact h.ok.short _
  have HMI : Hid (s.ls.getD i [] = s.mine) := by show _ = _; rw [Co.mine, hme, Int.toNat_natCast]
  have HM := hide hm
  have HF := hide hF
  have HME := hide hme
  obtain ⟨wd, hwd⟩ : ∃ wd, wd = s.cfg.window := ⟨_, rfl⟩
  have HWD := hide hwd
  have hwd2 : 1 ≤ wd ∧ wd ≤ 16 := by rw [hwd]; exact h.ok.cfg.window
  clear h hB hv hS hE hcl hme hm hF hll hwd
  go_enter Try.func15, Try.ntmps15
  go_wp2_with fail
  refine Calls.mono (core_Closed H.out) ?_
  rintro r w2 ⟨rfl, rfl⟩
  rw [← HCL.out]
  cases cl with
  | true =>
    go_wp2_with fail
    go_ret
    have e1 : E = 6 := by rw [HE.out, Co.pressErr, if_pos HCL.out.symm]
    refine ⟨by rw [e1]; rfl, p, ?_, Stp.refl _ _ _⟩
    rw [HS.out, Co.press, ← HE.out, e1, if_neg (by decide)]
    exact H.out
  | false =>
    have HEF : Hid (E = if 1000 ≤ m then 4 else if wd ≤ (m : Int) - (F : Int) then 5 else 0) := by
      show _ = _
      rw [HE.out, Co.pressErr, if_neg (by rw [← HCL.out]; decide), ← HM.out, ← HF.out, ← HWD.out]
    go_wp2_with fail
    refine Calls.mono (core_Head H.out) ?_
    rw [← HM.out]
    rintro r w2 ⟨rfl, hb2⟩
    have HB2 := hide hb2
    have H2 := hide (H.out.below hb2)
    have hs2 := hb2.size
    clear hb2
    by_cases hge : 1000 ≤ m
    · have d1 : decide ((m : Int) ≥ 1000) = true := decide_eq_true (by omega)
      have e1 : Hid (E = 4) := by show _ = _; rw [HEF.out, if_pos hge]
      go_wp2_with fail
      go_ret
      refine ⟨by rw [e1.out]; rfl, p, ?_, Stp.of_below HB2.out⟩
      rw [HS.out, Co.press, ← HE.out, e1.out, if_neg (by decide)]
      exact H2.out
    have d1 : decide ((m : Int) ≥ 1000) = false := decide_eq_false (by omega)
    have c10 := H2.out.cell (coRow_q s p)
    have c4 := H2.out.cell (coRow_window s p)
    have c1 := H2.out.cell (coRow_me s p)
    rw [← HWD.out] at c4
    have HGE := hide hge
    have hww : IntKind.i64.wrap ((m : Int) - (F : Int)) = (m : Int) - (F : Int) := IntWalk.i64_in _ ⟨by omega, by omega⟩
    obtain ⟨bw, hbw⟩ : ∃ bw, bw = decide ((m : Int) - (F : Int) ≥ wd) := ⟨_, rfl⟩
    have HBW := hide hbw
    clear hbw hge
    go_upto_region 5 with fail
    go_cut [12] (fun s12 wx => s12 = .bool bw ∧ Below w2.heap.size w2 wx)
    case first =>
      refine wp_region_noPanic ?_
      refine wp_region_held_drew (S := (fun w' => w'.cell? ⟨x, 10, none⟩ = some (.pointer (some ⟨p.q, 0, none⟩)) ∧ w'.cell? ⟨x, 4, none⟩ = some (.int .i64 wd))) (by kernel_rfl) ⟨c10, c4⟩ (fun hHeld => ?_)
      refine wpAnyH_take (i := 0) (oi := ?_) (v := ?_) ?_ (by kernel_rfl) (by kernel_rfl) (by kernel_rfl) ?_ ?_ (by assumption) ?_
      rotate_left 2
      · (simp only [List.getElem?_toArray, List.getElem?_cons_zero]; rfl)
      · exact fun _ _ _ h => h
      · (refine Or.inl ⟨by rfl, ?_⟩; intro w hSw; (try dsimp only at hSw); go_simp <;> with_reducible rfl)
      try simp only [Act.put, List.setIfInBounds_toArray, List.set_cons_zero, List.set_cons_succ]
      refine wpAnyH_take (i := 2) (oi := ?_) (v := ?_) ?_ (by kernel_rfl) (by kernel_rfl) (by kernel_rfl) ?_ ?_ (by assumption) ?_
      rotate_left 2
      · (simp only [List.getElem?_toArray, List.getElem?_cons_succ, List.getElem?_cons_zero]; rfl)
      · exact fun _ _ _ h => h
      · (refine Or.inl ⟨by rfl, ?_⟩; intro w hSw; (try dsimp only at hSw); go_simp <;> with_reducible rfl)
      try simp only [Act.put, List.setIfInBounds_toArray, List.set_cons_zero, List.set_cons_succ]
      refine wpAnyH_take (i := 3) (oi := ?_) (v := ?_) ?_ (by kernel_rfl) (by kernel_rfl) (by kernel_rfl) ?_ ?_ (by assumption) ?_
      rotate_left 2
      · (simp only [List.getElem?_toArray, List.getElem?_cons_succ, List.getElem?_cons_zero]; rfl)
      · exact fun _ _ _ h => h
      · (refine Or.inl ⟨by rfl, ?_⟩; intro w hSw; (try dsimp only at hSw); go_simp <;> with_reducible rfl)
      try simp only [Act.put, List.setIfInBounds_toArray, List.set_cons_zero, List.set_cons_succ]
      refine wpAnyH_take (i := 4) (oi := ?_) (v := ?_) ?_ (by kernel_rfl) (by kernel_rfl) (by kernel_rfl) ?_ ?_ (by assumption) ?_
      rotate_left 2
      · (simp only [List.getElem?_toArray, List.getElem?_cons_succ, List.getElem?_cons_zero]; rfl)
      · exact fun _ _ _ h => h
      · (refine Or.inl ⟨by rfl, ?_⟩; intro w hSw; (try dsimp only at hSw); go_simp <;> with_reducible rfl)
      try simp only [Act.put, List.setIfInBounds_toArray, List.set_cons_zero, List.set_cons_succ]
      refine wpAnyH_take (i := 5) (oi := ?_) (v := ?_) ?_ (by kernel_rfl) (by kernel_rfl) (by kernel_rfl) ?_ ?_ (by assumption) ?_
      rotate_left 2
      · (simp only [List.getElem?_toArray, List.getElem?_cons_succ, List.getElem?_cons_zero]; rfl)
      · exact fun _ _ _ h => h
      · (refine Or.inl ⟨by rfl, ?_⟩; intro w hSw; (try dsimp only at hSw); go_simp <;> with_reducible rfl)
      try simp only [Act.put, List.setIfInBounds_toArray, List.set_cons_zero, List.set_cons_succ]
      refine wpAnyH_take (i := 8) (oi := ?_) (v := ?_) ?_ (by kernel_rfl) (by kernel_rfl) (by kernel_rfl) ?_ ?_ (by assumption) ?_
      rotate_left 2
      · (simp only [List.getElem?_toArray, List.getElem?_cons_succ, List.getElem?_cons_zero]; rfl)
      · exact fun _ _ _ h => h
      · (refine Or.inl ⟨by rfl, ?_⟩; intro w hSw; (try dsimp only at hSw); go_simp <;> with_reducible rfl)
      try simp only [Act.put, List.setIfInBounds_toArray, List.set_cons_zero, List.set_cons_succ]
      refine wpAnyH_take (i := 9) (oi := ?_) (v := ?_) ?_ (by kernel_rfl) (by kernel_rfl) (by kernel_rfl) ?_ ?_ (by assumption) ?_
      rotate_left 2
      · (simp only [List.getElem?_toArray, List.getElem?_cons_succ, List.getElem?_cons_zero]; rfl)
      · exact fun _ _ _ h => h
      · (refine Or.inl ⟨by rfl, ?_⟩; intro w hSw; (try dsimp only at hSw); go_simp <;> with_reducible rfl)
      try simp only [Act.put, List.setIfInBounds_toArray, List.set_cons_zero, List.set_cons_succ]
      refine wpAnyH_take (i := 10) (oi := ?_) (v := ?_) ?_ (by kernel_rfl) (by kernel_rfl) (by kernel_rfl) ?_ ?_ (by assumption) ?_
      rotate_left 2
      · (simp only [List.getElem?_toArray, List.getElem?_cons_succ, List.getElem?_cons_zero]; rfl)
      · exact fun _ _ _ h => h
      · (refine Or.inl ⟨by rfl, ?_⟩; intro w hSw; (try dsimp only at hSw); go_simp <;> with_reducible rfl)
      try simp only [Act.put, List.setIfInBounds_toArray, List.set_cons_zero, List.set_cons_succ]
      refine wpAnyH_take (i := 11) (oi := ?_) (v := ?_) ?_ (by kernel_rfl) (by kernel_rfl) (by kernel_rfl) ?_ ?_ (by assumption) ?_
      rotate_left 2
      · (simp only [List.getElem?_toArray, List.getElem?_cons_succ, List.getElem?_cons_zero]; rfl)
      · exact fun _ _ _ h => h
      · (refine Or.inl ⟨by rfl, ?_⟩; intro w hSw; (try dsimp only at hSw); go_simp <;> with_reducible rfl)
      try simp only [Act.put, List.setIfInBounds_toArray, List.set_cons_zero, List.set_cons_succ]
      refine wpAnyH_take (i := 12) (oi := ?_) (v := ?_) ?_ (by kernel_rfl) (by kernel_rfl) (by kernel_rfl) ?_ ?_ (by assumption) ?_
      rotate_left 2
      · (simp only [List.getElem?_toArray, List.getElem?_cons_succ, List.getElem?_cons_zero]; rfl)
      · exact fun _ _ _ h => h
      · (refine Or.inl ⟨by rfl, ?_⟩; intro w hSw; (try dsimp only at hSw); go_simp <;> with_reducible rfl)
      try simp only [Act.put, List.setIfInBounds_toArray, List.set_cons_zero, List.set_cons_succ]
      refine wpAnyH_ready (rs := [1]) (by kernel_rfl) (by simp) ?_
      refine AllReadyH.cons (o := ?_) ?_ (fun K hK => ?_) AllReadyH.nil
      rotate_left 1
      · (simp only [List.getElem?_toArray, List.getElem?_cons_succ, List.getElem?_cons_zero]; rfl)
      go_simp
      refine Calls.mono (core_Head H2.out.drew) ?_
      rw [← HM.out]
      rintro r w3 ⟨rfl, hb3⟩
      refine hK.out _ _ ⟨below_cell hb3 c10, below_cell hb3 c4⟩ (fun hHeld => ?_)
      clear hK K
      try simp only [Act.put, List.setIfInBounds_toArray, List.set_cons_zero, List.set_cons_succ]
      have H3 := hide (H2.out.drew.below hb3)
      refine wpAnyH_ready (rs := [6]) (by kernel_rfl) (by simp) ?_
      refine AllReadyH.cons (o := ?_) ?_ (fun K hK => ?_) AllReadyH.nil
      rotate_left 1
      · (simp only [List.getElem?_toArray, List.getElem?_cons_succ, List.getElem?_cons_zero]; rfl)
      go_simp
      refine Calls.mono (queue_Front H3.out.q (by omega) (by omega) (f := (F : Int)) (by rw [HF.out])) ?_
      rintro r w4 ⟨rfl, rfl⟩
      refine hK.out _ _ ⟨below_cell hb3 c10, below_cell hb3 c4⟩ (fun hHeld => ?_)
      clear hK K
      try simp only [Act.put, List.setIfInBounds_toArray, List.set_cons_zero, List.set_cons_succ]
      refine wpAnyH_take (i := 7) (oi := ?_) (v := ?_) ?_ (by kernel_rfl) (by kernel_rfl) (by kernel_rfl) ?_ ?_ (by assumption) ?_
      rotate_left 2
      · (simp only [List.getElem?_toArray, List.getElem?_cons_succ, List.getElem?_cons_zero]; rfl)
      · exact fun _ _ _ h => h
      · (refine Or.inl ⟨by rfl, ?_⟩; intro w hSw; (try dsimp only at hSw); go_simp <;> with_reducible rfl)
      try simp only [Act.put, List.setIfInBounds_toArray, List.set_cons_zero, List.set_cons_succ]
      refine wpAnyH_take (i := 13) (oi := ?_) (v := .bool bw) ?_ (by kernel_rfl) (by kernel_rfl) (by kernel_rfl) ?_ ?_ (by assumption) ?_
      rotate_left 1
      · (simp only [List.getElem?_toArray, List.getElem?_cons_succ, List.getElem?_cons_zero]; rfl)
      · exact fun _ _ _ h => h
      · (refine Or.inl ⟨by rfl, ?_⟩; intro w hSw; (try dsimp only at hSw); (rw [HBW.out]; go_simp <;> with_reducible rfl))
      try simp only [Act.put, List.setIfInBounds_toArray, List.set_cons_zero, List.set_cons_succ]
      refine wpAnyH_take (i := 14) (oi := ?_) (v := ?_) ?_ (by kernel_rfl) (by kernel_rfl) (by kernel_rfl) ?_ ?_ (by assumption) ?_
      rotate_left 2
      · (simp only [List.getElem?_toArray, List.getElem?_cons_succ, List.getElem?_cons_zero]; rfl)
      · exact fun _ _ _ h => h
      · (refine Or.inl ⟨by rfl, ?_⟩; intro w hSw; (try dsimp only at hSw); go_simp <;> with_reducible rfl)
      try simp only [Act.put, List.setIfInBounds_toArray, List.set_cons_zero, List.set_cons_succ]
      refine wpAnyH_done (by kernel_rfl) (NoPanic.normal ?_) _
      go_wp2_with fail
      go_meet
      exact ⟨rfl, ⟨hb3.os, hb3.tape, hb3.output, hb3.size, hb3.block⟩⟩
    case rest =>
    obtain ⟨rfl, hb3⟩ := hcut
    obtain ⟨W3, hW3⟩ : ∃ W3, W3 = wc := ⟨_, rfl⟩
    subst hW3
    have H3 := hide (H2.out.below hb3)
    have HB3 := hide (Below_step HB2.out hb3)
    have c10 := below_cell hb3 c10
    have c1 := below_cell hb3 c1
    clear hb3 c4 H2 HB2 hs2
    cases bw with
    | true =>
      have e1 : Hid (E = 5) := by
        show _ = _
        rw [HEF.out, if_neg HGE.out, if_pos]
        have := HBW.out
        have := of_decide_eq_true this.symm
        omega
      go_wp2_with fail
      go_ret
      refine ⟨by rw [e1.out]; rfl, p, ?_, Stp.of_below HB3.out⟩
      rw [HS.out, Co.press, ← HE.out, e1.out, if_neg (by decide)]
      exact H3.out
    | false =>
      have e1 : Hid (E = 0) := by
        show _ = _
        rw [HEF.out, if_neg HGE.out, if_neg]
        have := HBW.out
        have := of_decide_eq_false this.symm
        omega
      have hm2 : m < 1000 := by have := HGE.out; omega
      have HSS : Hid (S = { s with ls := s.ls.set i (s.mine ++ [b]) }) := by
        show _ = _
        rw [HS.out, Co.press, ← HE.out, e1.out, if_pos rfl, HME.out, Int.toNat_natCast]
      have hsz := HB3.out.size
      go_upto_region 7 with fail
      refine wp_region_noPanic ?_
      refine wp_region_held_drew (S := (fun w' => w'.cell? ⟨x, 10, none⟩ = some (.pointer (some ⟨p.q, 0, none⟩)) ∧ w'.cell? ⟨x, 1, none⟩ = some (.int .i64 s.cfg.me))) (by kernel_rfl) ⟨c10, c1⟩ (fun hHeld => ?_)
      refine wpAnyH_take (i := 0) (oi := ?_) (v := ?_) ?_ (by kernel_rfl) (by kernel_rfl) (by kernel_rfl) ?_ ?_ (by assumption) ?_
      rotate_left 2
      · (simp only [List.getElem?_toArray, List.getElem?_cons_zero]; rfl)
      · exact fun _ _ _ h => h
      · (refine Or.inl ⟨by rfl, ?_⟩; intro w hSw; (try dsimp only at hSw); go_simp <;> with_reducible rfl)
      try simp only [Act.put, List.setIfInBounds_toArray, List.set_cons_zero, List.set_cons_succ]
      refine wpAnyH_take (i := 1) (oi := ?_) (v := ?_) ?_ (by kernel_rfl) (by kernel_rfl) (by kernel_rfl) ?_ ?_ (by assumption) ?_
      rotate_left 2
      · (simp only [List.getElem?_toArray, List.getElem?_cons_succ, List.getElem?_cons_zero]; rfl)
      · exact fun _ _ _ h => h
      · (refine Or.inl ⟨by rfl, ?_⟩; intro w hSw; (try dsimp only at hSw); go_simp <;> with_reducible rfl)
      try simp only [Act.put, List.setIfInBounds_toArray, List.set_cons_zero, List.set_cons_succ]
      refine wpAnyH_take (i := 2) (oi := ?_) (v := ?_) ?_ (by kernel_rfl) (by kernel_rfl) (by kernel_rfl) ?_ ?_ (by assumption) ?_
      rotate_left 2
      · (simp only [List.getElem?_toArray, List.getElem?_cons_succ, List.getElem?_cons_zero]; rfl)
      · exact fun _ _ _ h => h
      · (refine Or.inl ⟨by rfl, ?_⟩; intro w hSw; (try dsimp only at hSw); go_simp <;> with_reducible rfl)
      try simp only [Act.put, List.setIfInBounds_toArray, List.set_cons_zero, List.set_cons_succ]
      refine wpAnyH_take (i := 3) (oi := ?_) (v := ?_) ?_ (by kernel_rfl) (by kernel_rfl) (by kernel_rfl) ?_ ?_ (by assumption) ?_
      rotate_left 2
      · (simp only [List.getElem?_toArray, List.getElem?_cons_succ, List.getElem?_cons_zero]; rfl)
      · exact fun _ _ _ h => h
      · (refine Or.inl ⟨by rfl, ?_⟩; intro w hSw; (try dsimp only at hSw); go_simp <;> with_reducible rfl)
      try simp only [Act.put, List.setIfInBounds_toArray, List.set_cons_zero, List.set_cons_succ]
      refine wpAnyH_take (i := 4) (oi := ?_) (v := ?_) ?_ (by kernel_rfl) (by kernel_rfl) (by kernel_rfl) ?_ ?_ (by assumption) ?_
      rotate_left 2
      · (simp only [List.getElem?_toArray, List.getElem?_cons_succ, List.getElem?_cons_zero]; rfl)
      · exact fun _ _ _ h => h
      · (refine Or.inl ⟨by rfl, ?_⟩; intro w hSw; (try dsimp only at hSw); go_simp <;> with_reducible rfl)
      try simp only [Act.put, List.setIfInBounds_toArray, List.set_cons_zero, List.set_cons_succ]
      refine wpAnyH_take (i := 5) (oi := ?_) (v := ?_) ?_ (by kernel_rfl) (by kernel_rfl) (by kernel_rfl) ?_ ?_ (by assumption) ?_
      rotate_left 2
      · (simp only [List.getElem?_toArray, List.getElem?_cons_succ, List.getElem?_cons_zero]; rfl)
      · exact fun _ _ _ h => h
      · (refine Or.inl ⟨by rfl, ?_⟩; intro w hSw; (try dsimp only at hSw); go_simp <;> with_reducible rfl)
      try simp only [Act.put, List.setIfInBounds_toArray, List.set_cons_zero, List.set_cons_succ]
      refine wpAnyH_take (i := 6) (oi := ?_) (v := ?_) ?_ (by kernel_rfl) (by kernel_rfl) (by kernel_rfl) ?_ ?_ (by assumption) ?_
      rotate_left 2
      · (simp only [List.getElem?_toArray, List.getElem?_cons_succ, List.getElem?_cons_zero]; rfl)
      · exact fun _ _ _ h => h
      · (refine Or.inl ⟨by rfl, ?_⟩; intro w hSw; (try dsimp only at hSw); go_simp <;> with_reducible rfl)
      try simp only [Act.put, List.setIfInBounds_toArray, List.set_cons_zero, List.set_cons_succ]
      refine wpAnyH_take (i := 7) (oi := ?_) (v := ?_) ?_ (by kernel_rfl) (by kernel_rfl) (by kernel_rfl) ?_ ?_ (by assumption) ?_
      rotate_left 2
      · (simp only [List.getElem?_toArray, List.getElem?_cons_succ, List.getElem?_cons_zero]; rfl)
      · exact fun _ _ _ h => h
      · (refine Or.inl ⟨by rfl, ?_⟩; intro w hSw; (try dsimp only at hSw); go_simp <;> with_reducible rfl)
      try simp only [Act.put, List.setIfInBounds_toArray, List.set_cons_zero, List.set_cons_succ]
      refine wpAnyH_take (i := 8) (oi := ?_) (v := ?_) ?_ (by kernel_rfl) (by kernel_rfl) (by kernel_rfl) ?_ ?_ (by assumption) ?_
      rotate_left 2
      · (simp only [List.getElem?_toArray, List.getElem?_cons_succ, List.getElem?_cons_zero]; rfl)
      · exact fun _ _ _ h => h
      · (refine Or.inl ⟨by rfl, ?_⟩; intro w hSw; (try dsimp only at hSw); go_simp <;> with_reducible rfl)
      try simp only [Act.put, List.setIfInBounds_toArray, List.set_cons_zero, List.set_cons_succ]
      refine wpAnyH_take (i := 10) (oi := ?_) (v := ?_) ?_ (by kernel_rfl) (by kernel_rfl) (by kernel_rfl) ?_ ?_ (by assumption) ?_
      rotate_left 2
      · (simp only [List.getElem?_toArray, List.getElem?_cons_succ, List.getElem?_cons_zero]; rfl)
      · exact fun _ _ _ h => h
      · (refine Or.inl ⟨by rfl, ?_⟩; intro w hSw; (try dsimp only at hSw); go_simp <;> with_reducible rfl)
      try simp only [Act.put, List.setIfInBounds_toArray, List.set_cons_zero, List.set_cons_succ]
      refine wpAnyH_ready (rs := [9]) (by kernel_rfl) (by simp) ?_
      refine AllReadyH.cons (o := ?_) ?_ (fun K hK => ?_) AllReadyH.nil
      rotate_left 1
      · (simp only [List.getElem?_toArray, List.getElem?_cons_succ, List.getElem?_cons_zero]; rfl)
      go_simp
      refine Calls.mono (queue_Line H3.out.drew.q i hi (by omega) HME.out rfl) ?_
      rintro r w3 ⟨rfl, rfl⟩
      refine hK.out _ _ ⟨c10, c1⟩ (fun hHeld => ?_)
      clear hK K
      try simp only [Act.put, List.setIfInBounds_toArray, List.set_cons_zero, List.set_cons_succ]
      refine wpAnyH_ready (rs := [11]) (by kernel_rfl) (by simp) ?_
      refine AllReadyH.cons (o := ?_) ?_ (fun K hK => ?_) AllReadyH.nil
      rotate_left 1
      · (simp only [List.getElem?_toArray, List.getElem?_cons_succ, List.getElem?_cons_zero]; rfl)
      go_simp
      refine Calls.mono (line_Add_v _ _ s.mine b _ _ (by rw [← HMI.out]; exact H3.out.drew.line i hi) (by rw [← HM.out]; exact hm2) HV.out) ?_
      rintro r w4 ⟨rfl, g', hl4, hk4, hg4⟩
      have HC4 := hide (H3.out.drew.setLine (Nat.le_trans HB.out hsz) i hi hl4 hk4 hg4 (by rw [List.length_append, ← HM.out]; simp; omega) (by rw [HMI.out, List.length_append]; omega))
      clear hl4 hk4 hg4
      refine hK.out _ _ ⟨HC4.out.1.cell (coRow_q _ _), HC4.out.1.cell (coRow_me _ _)⟩ (fun hHeld => ?_)
      clear hK K
      try simp only [Act.put]
      refine wpAnyH_take (i := 12) (oi := ?_) (v := ?_) ?_ (by kernel_rfl) (by kernel_rfl) (by kernel_rfl) ?_ ?_ (by assumption) ?_
      rotate_left 2
      · (simp only [List.getElem?_toArray, List.getElem?_cons_succ, List.getElem?_cons_zero]; rfl)
      · exact fun _ _ _ h => h
      · (refine Or.inl ⟨by rfl, ?_⟩; intro w hSw; (try dsimp only at hSw); go_simp <;> with_reducible rfl)
      try simp only [Act.put, List.setIfInBounds_toArray, List.set_cons_zero, List.set_cons_succ]
      refine wpAnyH_done (by kernel_rfl) (NoPanic.normal ?_) _
      go_wp2_with fail
      go_ret
      exact ⟨by rw [e1.out]; rfl, _, by rw [HSS.out]; exact HC4.out.1, (Stp.of_below HB3.out.drew).trans HC4.out.2⟩
end Go.Proofs.Ytbcgffgiifminaa
namespace Go.Proofs.Ytbcgffgiifminaa
open Go.RowKit
set_option maxRecDepth 10000
set_option linter.unusedVariables false
def inn (n a b : Int) : Bool := decide (a ≤ n) && decide (n ≤ b)
theorem inn_iff {n a b : Int} : inn n a b = true ↔ a ≤ n ∧ n ≤ b := by simp [inn]
theorem core_in (n a b : Int) (w : World) {r : Bool} (hr : inn n a b = r) : Calls Try.prog 66 #[.int .i64 n, .int .i64 a, .int .i64 b] w fun e w' => e = .returned (.bool r) ∧ w = w' := by
  by_cases h1 : a ≤ n
  · have d1 : decide (n ≥ a) = true := decide_eq_true h1
    obtain ⟨z, hz⟩ : ∃ z : Bool, decide (n ≤ b) = z := ⟨_, rfl⟩
    have HR : Hid (z = r) := by show _ = _; rw [← hr, inn, decide_eq_true h1, hz]; rfl
    clear h1 hr
    cases z
    all_goals
      go_enter Try.func66, Try.ntmps66
      go_wp2_with fail
      go_ret
      exact ⟨by rw [← HR.out]; rfl, rfl⟩
  · have d1 : decide (n ≥ a) = false := decide_eq_false h1
    have HR : Hid (false = r) := by show _ = _; rw [← hr, inn, decide_eq_false h1]; rfl
    clear h1 hr
    go_enter Try.func66, Try.ntmps66
    go_wp2_with fail
    go_ret
    exact ⟨by rw [← HR.out]; rfl, rfl⟩
def Cfg.may (c : Cfg) : Bool := inn c.n 2 8 && inn c.me 0 (c.n - 1) && decide (0 ≤ c.id) && decide (c.id ≤ 1099511627776) && (inn c.delay 0 8 && inn c.window 1 16 && inn c.guess 1 3 && inn c.order 0 3) && (decide (c.order = 0) || decide (c.guess = 2)) && inn c.branches 0 8 && inn c.workers 0 4 && inn c.room 3 50
theorem Cfg.may_iff (c : Cfg) : c.may = true ↔ c.Fine := by
  simp only [Cfg.may, inn, Bool.and_eq_true, Bool.or_eq_true, decide_eq_true_eq]
  constructor
  · rintro ⟨⟨⟨⟨⟨⟨⟨⟨h1, h2⟩, h3⟩, h4⟩, ⟨⟨h5, h6⟩, h7⟩, h8⟩, h9⟩, h10⟩, h11⟩, h12⟩
    exact ⟨h1, h2, ⟨h3, h4⟩, h5, h6, h7, h8, h9, h10, h11, h12⟩
  · rintro ⟨h1, h2, ⟨h3, h4⟩, h5, h6, h7, h8, h9, h10, h11, h12⟩
    exact ⟨⟨⟨⟨⟨⟨⟨⟨h1, h2⟩, h3⟩, h4⟩, ⟨⟨h5, h6⟩, h7⟩, h8⟩, h9⟩, h10⟩, h11⟩, h12⟩
set_option maxHeartbeats 8000000 in
theorem core_May (c : Cfg) {w : World} {r : Bool} (hr : r = c.may) :
    Calls Try.prog 33 #[c.val] w fun e w' => e = .returned (.bool r) ∧ Below w.heap.size w w' := by
  obtain ⟨n, me, id, delay, window, guess, order, branches, workers, room⟩ := c
  obtain ⟨z1, hz1⟩ : ∃ z, inn n 2 8 = z := ⟨_, rfl⟩
  obtain ⟨z2, hz2⟩ : ∃ z, inn me 0 (n - 1) = z := ⟨_, rfl⟩
  obtain ⟨z3, hz3⟩ : ∃ z : Bool, decide (id ≥ 0) = z := ⟨_, rfl⟩
  obtain ⟨z4, hz4⟩ : ∃ z : Bool, decide (id ≤ 1099511627776) = z := ⟨_, rfl⟩
  obtain ⟨z5, hz5⟩ : ∃ z, inn delay 0 8 = z := ⟨_, rfl⟩
  obtain ⟨z6, hz6⟩ : ∃ z, inn window 1 16 = z := ⟨_, rfl⟩
  obtain ⟨z7, hz7⟩ : ∃ z, inn guess 1 3 = z := ⟨_, rfl⟩
  obtain ⟨z8, hz8⟩ : ∃ z, inn order 0 3 = z := ⟨_, rfl⟩
  obtain ⟨z9, hz9⟩ : ∃ z : Bool, (order == 0) = z := ⟨_, rfl⟩
  obtain ⟨z10, hz10⟩ : ∃ z : Bool, (guess == 2) = z := ⟨_, rfl⟩
  obtain ⟨z11, hz11⟩ : ∃ z, inn branches 0 8 = z := ⟨_, rfl⟩
  obtain ⟨z12, hz12⟩ : ∃ z, inn workers 0 4 = z := ⟨_, rfl⟩
  obtain ⟨z13, hz13⟩ : ∃ z, inn room 3 50 = z := ⟨_, rfl⟩
  have HR : Hid (r = (z1 && z2 && z3 && z4 && (z5 && z6 && z7 && z8) && (z9 || z10) && z11 && z12 && z13)) := by
    show _ = _
    rw [hr, Cfg.may, ← hz1, ← hz2, ← hz3, ← hz4, ← hz5, ← hz6, ← hz7, ← hz8, ← hz9, ← hz10, ← hz11, ← hz12, ← hz13]
    rfl
  have HZ1 := hide hz1
  have HZ2 := hide hz2
  have HZ5 := hide hz5
  have HZ6 := hide hz6
  have HZ7 := hide hz7
  have HZ8 := hide hz8
  have HZ11 := hide hz11
  have HZ12 := hide hz12
  have HZ13 := hide hz13
  clear hr hz1 hz2 hz5 hz6 hz7 hz8 hz11 hz12 hz13
  go_enter Try.func33, Try.ntmps33
  go_upto_region 1 with fail
  have HP : Hid (Arr 28 (w.alloc (.cells (Cfg.row ⟨n, me, id, delay, window, guess, order, branches, workers, room⟩).toArray 28)) w.heap.size (Cfg.row ⟨n, me, id, delay, window, guess, order, branches, workers, room⟩)) := Arr.new 28 w _ _ rfl
  have HB : Hid (Below w.heap.size w (w.alloc (.cells (Cfg.row ⟨n, me, id, delay, window, guess, order, branches, workers, room⟩).toArray 28))) := Below_new _ _
  simp only [Cfg.row] at HP HB
  generalize World.alloc w _ = w1 at HP HB ⊢
  obtain ⟨g1, hg1⟩ : ∃ g, g = w.heap.size := ⟨_, rfl⟩
  rw [← hg1] at HP ⊢
  clear hg1
  have c0 := HP.out.cell (j := 0) (by simp)
  have c1 := HP.out.cell (j := 1) (by simp)
  have c2 := HP.out.cell (j := 2) (by simp)
  have c3 := HP.out.cell (j := 3) (by simp)
  have c4 := HP.out.cell (j := 4) (by simp)
  have c5 := HP.out.cell (j := 5) (by simp)
  have c6 := HP.out.cell (j := 6) (by simp)
  have c7 := HP.out.cell (j := 7) (by simp)
  have c8 := HP.out.cell (j := 8) (by simp)
  have c9 := HP.out.cell (j := 9) (by simp)
  simp only [List.getElem_cons_zero, List.getElem_cons_succ] at c0 c1 c2 c3 c4 c5 c6 c7 c8 c9
  go_cut [3] (fun s wx => s = .bool (z1 && z2 && z3 && z4) ∧ Below w1.heap.size w1 wx)
  case first =>
    cases z1 with
    | false =>
      go_wp2_with (go_at_call 66; (first | (with_reducible refine Calls.mono (core_in _ _ _ _ HZ1.out) ?_) | (with_reducible refine Calls.mono (core_in _ _ _ _ HZ2.out) ?_)); rintro e w2 ⟨rfl, rfl⟩)
      go_meet
      exact ⟨rfl, Below.refl _ _⟩
    | true =>
      have hww : IntKind.i64.wrap (n - 1) = n - 1 := IntWalk.i64_in _ ⟨by have := inn_iff.1 HZ1.out; omega, by have := inn_iff.1 HZ1.out; omega⟩
      cases z2 with
      | false =>
        go_wp2_with (go_at_call 66; (first | (with_reducible refine Calls.mono (core_in _ _ _ _ HZ1.out) ?_) | (with_reducible refine Calls.mono (core_in _ _ _ _ HZ2.out) ?_)); rintro e w2 ⟨rfl, rfl⟩)
        go_meet
        exact ⟨rfl, Below.refl _ _⟩
      | true =>
        cases z3 with
        | false =>
          go_wp2_with (go_at_call 66; (first | (with_reducible refine Calls.mono (core_in _ _ _ _ HZ1.out) ?_) | (with_reducible refine Calls.mono (core_in _ _ _ _ HZ2.out) ?_)); rintro e w2 ⟨rfl, rfl⟩)
          go_meet
          exact ⟨rfl, Below.refl _ _⟩
        | true =>
          cases z4 with
          | false =>
            go_wp2_with (go_at_call 66; (first | (with_reducible refine Calls.mono (core_in _ _ _ _ HZ1.out) ?_) | (with_reducible refine Calls.mono (core_in _ _ _ _ HZ2.out) ?_)); rintro e w2 ⟨rfl, rfl⟩)
            go_meet
            exact ⟨rfl, Below.refl _ _⟩
          | true =>
            go_wp2_with (go_at_call 66; (first | (with_reducible refine Calls.mono (core_in _ _ _ _ HZ1.out) ?_) | (with_reducible refine Calls.mono (core_in _ _ _ _ HZ2.out) ?_)); rintro e w2 ⟨rfl, rfl⟩)
            go_meet
            exact ⟨rfl, Below.refl _ _⟩
  case rest =>
  obtain ⟨rfl, hb1⟩ := hcut
  obtain ⟨y1, hy1⟩ : ∃ y, y = (z1 && z2 && z3 && z4) := ⟨_, rfl⟩
  rw [← hy1] at HR ⊢
  have HB2 := hide (Below_step HB.out hb1)
  have c3 := below_cell hb1 c3
  have c4 := below_cell hb1 c4
  have c5 := below_cell hb1 c5
  have c6 := below_cell hb1 c6
  have c7 := below_cell hb1 c7
  have c8 := below_cell hb1 c8
  have c9 := below_cell hb1 c9
  obtain ⟨w2, hw2⟩ : ∃ w2, w2 = wc := ⟨_, rfl⟩
  subst hw2
  clear hb1 hy1 hz3 hz4 c0 c1 c2 HB HP
  have HB := HB2
  clear HB2
  go_upto_region 2 with fail
  go_cut [4] (fun s wy => s = .bool (z5 && z6 && z7 && z8) ∧ Below w2.heap.size w2 wy)
  case first =>
    cases z5 with
    | false =>
      go_wp2_with (go_at_call 66; (first | (with_reducible refine Calls.mono (core_in _ _ _ _ HZ5.out) ?_) | (with_reducible refine Calls.mono (core_in _ _ _ _ HZ6.out) ?_) | (with_reducible refine Calls.mono (core_in _ _ _ _ HZ7.out) ?_) | (with_reducible refine Calls.mono (core_in _ _ _ _ HZ8.out) ?_)); rintro e w2 ⟨rfl, rfl⟩)
      go_meet
      exact ⟨rfl, Below.refl _ _⟩
    | true =>
      cases z6 with
      | false =>
        go_wp2_with (go_at_call 66; (first | (with_reducible refine Calls.mono (core_in _ _ _ _ HZ5.out) ?_) | (with_reducible refine Calls.mono (core_in _ _ _ _ HZ6.out) ?_) | (with_reducible refine Calls.mono (core_in _ _ _ _ HZ7.out) ?_) | (with_reducible refine Calls.mono (core_in _ _ _ _ HZ8.out) ?_)); rintro e w2 ⟨rfl, rfl⟩)
        go_meet
        exact ⟨rfl, Below.refl _ _⟩
      | true =>
        cases z7 with
        | false =>
          go_wp2_with (go_at_call 66; (first | (with_reducible refine Calls.mono (core_in _ _ _ _ HZ5.out) ?_) | (with_reducible refine Calls.mono (core_in _ _ _ _ HZ6.out) ?_) | (with_reducible refine Calls.mono (core_in _ _ _ _ HZ7.out) ?_) | (with_reducible refine Calls.mono (core_in _ _ _ _ HZ8.out) ?_)); rintro e w2 ⟨rfl, rfl⟩)
          go_meet
          exact ⟨rfl, Below.refl _ _⟩
        | true =>
          cases z8 with
          | false =>
            go_wp2_with (go_at_call 66; (first | (with_reducible refine Calls.mono (core_in _ _ _ _ HZ5.out) ?_) | (with_reducible refine Calls.mono (core_in _ _ _ _ HZ6.out) ?_) | (with_reducible refine Calls.mono (core_in _ _ _ _ HZ7.out) ?_) | (with_reducible refine Calls.mono (core_in _ _ _ _ HZ8.out) ?_)); rintro e w2 ⟨rfl, rfl⟩)
            go_meet
            exact ⟨rfl, Below.refl _ _⟩
          | true =>
            go_wp2_with (go_at_call 66; (first | (with_reducible refine Calls.mono (core_in _ _ _ _ HZ5.out) ?_) | (with_reducible refine Calls.mono (core_in _ _ _ _ HZ6.out) ?_) | (with_reducible refine Calls.mono (core_in _ _ _ _ HZ7.out) ?_) | (with_reducible refine Calls.mono (core_in _ _ _ _ HZ8.out) ?_)); rintro e w2 ⟨rfl, rfl⟩)
            go_meet
            exact ⟨rfl, Below.refl _ _⟩
  case rest =>
  obtain ⟨rfl, hb1⟩ := hcut
  obtain ⟨y2, hy2⟩ : ∃ y, y = (z5 && z6 && z7 && z8) := ⟨_, rfl⟩
  rw [← hy2] at HR ⊢
  have HB2 := hide (Below_step HB.out hb1)
  have c5 := below_cell hb1 c5
  have c6 := below_cell hb1 c6
  have c7 := below_cell hb1 c7
  have c8 := below_cell hb1 c8
  have c9 := below_cell hb1 c9
  obtain ⟨w3, hw3⟩ : ∃ w3, w3 = wc := ⟨_, rfl⟩
  subst hw3
  clear hb1 hy2 c3 c4 HB
  have HB := HB2
  clear HB2
  go_upto_region 3 with fail
  cases y1 with
  | false =>
    go_wp2_with (go_at_call 66; (first | (with_reducible refine Calls.mono (core_in _ _ _ _ HZ11.out) ?_) | (with_reducible refine Calls.mono (core_in _ _ _ _ HZ12.out) ?_) | (with_reducible refine Calls.mono (core_in _ _ _ _ HZ13.out) ?_)); rintro e w2 ⟨rfl, rfl⟩)
    go_ret
    exact ⟨by rw [HR.out]; rfl, HB.out⟩
  | true =>
    cases y2 with
    | false =>
      go_wp2_with (go_at_call 66; (first | (with_reducible refine Calls.mono (core_in _ _ _ _ HZ11.out) ?_) | (with_reducible refine Calls.mono (core_in _ _ _ _ HZ12.out) ?_) | (with_reducible refine Calls.mono (core_in _ _ _ _ HZ13.out) ?_)); rintro e w2 ⟨rfl, rfl⟩)
      go_ret
      exact ⟨by rw [HR.out]; rfl, HB.out⟩
    | true =>
      cases z9 with
      | true =>
        cases z11 with
        | false =>
          go_wp2_with (go_at_call 66; (first | (with_reducible refine Calls.mono (core_in _ _ _ _ HZ11.out) ?_) | (with_reducible refine Calls.mono (core_in _ _ _ _ HZ12.out) ?_) | (with_reducible refine Calls.mono (core_in _ _ _ _ HZ13.out) ?_)); rintro e w2 ⟨rfl, rfl⟩)
          go_ret
          exact ⟨by rw [HR.out]; rfl, HB.out⟩
        | true =>
          cases z12 with
          | false =>
            go_wp2_with (go_at_call 66; (first | (with_reducible refine Calls.mono (core_in _ _ _ _ HZ11.out) ?_) | (with_reducible refine Calls.mono (core_in _ _ _ _ HZ12.out) ?_) | (with_reducible refine Calls.mono (core_in _ _ _ _ HZ13.out) ?_)); rintro e w2 ⟨rfl, rfl⟩)
            go_ret
            exact ⟨by rw [HR.out]; rfl, HB.out⟩
          | true =>
            cases z13 with
            | false =>
              go_wp2_with (go_at_call 66; (first | (with_reducible refine Calls.mono (core_in _ _ _ _ HZ11.out) ?_) | (with_reducible refine Calls.mono (core_in _ _ _ _ HZ12.out) ?_) | (with_reducible refine Calls.mono (core_in _ _ _ _ HZ13.out) ?_)); rintro e w2 ⟨rfl, rfl⟩)
              go_ret
              exact ⟨by rw [HR.out]; rfl, HB.out⟩
            | true =>
              go_wp2_with (go_at_call 66; (first | (with_reducible refine Calls.mono (core_in _ _ _ _ HZ11.out) ?_) | (with_reducible refine Calls.mono (core_in _ _ _ _ HZ12.out) ?_) | (with_reducible refine Calls.mono (core_in _ _ _ _ HZ13.out) ?_)); rintro e w2 ⟨rfl, rfl⟩)
              go_ret
              exact ⟨by rw [HR.out]; rfl, HB.out⟩
      | false =>
        cases z10 with
        | false =>
          go_wp2_with (go_at_call 66; (first | (with_reducible refine Calls.mono (core_in _ _ _ _ HZ11.out) ?_) | (with_reducible refine Calls.mono (core_in _ _ _ _ HZ12.out) ?_) | (with_reducible refine Calls.mono (core_in _ _ _ _ HZ13.out) ?_)); rintro e w2 ⟨rfl, rfl⟩)
          go_ret
          exact ⟨by rw [HR.out]; rfl, HB.out⟩
        | true =>
          cases z11 with
          | false =>
            go_wp2_with (go_at_call 66; (first | (with_reducible refine Calls.mono (core_in _ _ _ _ HZ11.out) ?_) | (with_reducible refine Calls.mono (core_in _ _ _ _ HZ12.out) ?_) | (with_reducible refine Calls.mono (core_in _ _ _ _ HZ13.out) ?_)); rintro e w2 ⟨rfl, rfl⟩)
            go_ret
            exact ⟨by rw [HR.out]; rfl, HB.out⟩
          | true =>
            cases z12 with
            | false =>
              go_wp2_with (go_at_call 66; (first | (with_reducible refine Calls.mono (core_in _ _ _ _ HZ11.out) ?_) | (with_reducible refine Calls.mono (core_in _ _ _ _ HZ12.out) ?_) | (with_reducible refine Calls.mono (core_in _ _ _ _ HZ13.out) ?_)); rintro e w2 ⟨rfl, rfl⟩)
              go_ret
              exact ⟨by rw [HR.out]; rfl, HB.out⟩
            | true =>
              cases z13 with
              | false =>
                go_wp2_with (go_at_call 66; (first | (with_reducible refine Calls.mono (core_in _ _ _ _ HZ11.out) ?_) | (with_reducible refine Calls.mono (core_in _ _ _ _ HZ12.out) ?_) | (with_reducible refine Calls.mono (core_in _ _ _ _ HZ13.out) ?_)); rintro e w2 ⟨rfl, rfl⟩)
                go_ret
                exact ⟨by rw [HR.out]; rfl, HB.out⟩
              | true =>
                go_wp2_with (go_at_call 66; (first | (with_reducible refine Calls.mono (core_in _ _ _ _ HZ11.out) ?_) | (with_reducible refine Calls.mono (core_in _ _ _ _ HZ12.out) ?_) | (with_reducible refine Calls.mono (core_in _ _ _ _ HZ13.out) ?_)); rintro e w2 ⟨rfl, rfl⟩)
                go_ret
                exact ⟨by rw [HR.out]; rfl, HB.out⟩
end Go.Proofs.Ytbcgffgiifminaa
