/-
  The document's player: Tick.
-/
import Derived.Test.YtbcgffgiifminaaDocH
import Derived.Test.YtbcgffgiifminaaRLFrom
namespace Go.Proofs.Ytbcgffgiifminaa
open Go.RowKit
set_option maxRecDepth 10000
set_option linter.unusedVariables false
theorem othersOf_split {n me i : Nat} (hi : i < n) (hne : i ≠ me) : ∃ rest, othersOf n me = othersOf i me ++ i :: rest := by
  obtain ⟨k, rfl⟩ : ∃ k, n = i + (k + 1) := ⟨n - i - 1, by omega⟩
  unfold othersOf
  rw [List.range_add, List.filter_append, List.range_succ_eq_map, List.map_cons, List.filter_cons_of_pos (by simp [hne])]
  exact ⟨_, rfl⟩
theorem lateWho_some {s : Co} {n mi i : Nat} (hth : s.them = othersOf n mi) (hi : i < n) (hne : i ≠ mi) (hl : s.isLate i = true) (hb : ∀ q ∈ othersOf i mi, s.isLate q = false) : s.lateWho = some i := by
  obtain ⟨rest, hr⟩ := othersOf_split hi hne
  rw [Co.lateWho, hth, hr, List.find?_eq_some_iff_append]
  exact ⟨hl, othersOf i mi, rest, rfl, fun q hq => by rw [hb q hq]; rfl⟩
set_option maxHeartbeats 16000000 in
theorem ref_TickCore {B : Nat} {w : World} {x : Nat} {p : RP} {s : Co} (h : RAt B w x p s) (ok : s.Ok) (hB : B ≤ w.heap.size) (hnow : s.now < 1000000000) (hen : p.en < 1000000000) :
    Calls Try.prog 39 #[.pointer (some ⟨x, 0, none⟩)] w fun r w' => ∃ A n c xs, r = .returned (.slice A n c) ∧ ML 124 w.heap.size w' A n c xs ∧ xs.map Prod.fst = s.tickMails ∧ ∃ p', RAt B w' x p' s.tick ∧ RSt w w' x p p' := by
  have H := hide h
  have HB := hide hB
  have OK := hide ok
  obtain ⟨cl, hcl⟩ : ∃ cl, cl = s.closed := ⟨_, rfl⟩
  have HCL := hide hcl
  obtain ⟨Q, hQ⟩ : ∃ Q, Q = s.tickMails := ⟨_, rfl⟩
  have HQ := hide hQ
  obtain ⟨S, hS⟩ : ∃ S, S = s.tick := ⟨_, rfl⟩
  have HS := hide hS
  rw [← hQ, ← hS]
  have c18 := h.cell (reRow_closed s p)
  rw [← hcl] at c18
  obtain ⟨mi, hme, hil, hip⟩ := ok.me
  have HME := hide hme
  obtain ⟨n, hn⟩ : ∃ n, n = s.peers.length := ⟨_, rfl⟩
  have HN := hide hn
  have hn8 : n ≤ 8 := by have := ok.len; omega
  have HCN : Hid (s.cfg.n = (n : Int)) := by show _ = _; rw [hn]; exact ok.np.symm
  obtain ⟨id, hid⟩ : ∃ id, id = s.cfg.id := ⟨_, rfl⟩
  have HID := hide hid
  obtain ⟨nw, hnw⟩ : ∃ nw, nw = s.now := ⟨_, rfl⟩
  have HNW := hide hnw
  have c11 := h.cell (reRow_now s p)
  rw [← hnw] at c11
  have f11 := h.frozen 11
  have hnw2 : 0 ≤ nw ∧ nw < 1000000000 := by have := ok.now; rw [hnw]; omega
  have HMI : Hid (mi < n) := by show _ < _; rw [hn]; exact hip
  clear h hB hcl hQ hS hme hn hid ok hil hip hnw
  go_enter Try.func39, Try.ntmps39
  cases cl with
  | true =>
    have hSs : S = s := by rw [HS.out, Co.tick, if_pos HCL.out.symm]
    go_wp2_with fail
    go_ret
    exact ⟨none, 0, 0, [], rfl, ML.nil _ _ _, by rw [HQ.out, Co.tickMails, if_pos HCL.out.symm]; rfl, p, by rw [hSs]; exact H.out, RSt.refl _ _ _⟩
  | false =>
    have hww : IntKind.i64.wrap (nw + 1) = nw + 1 := IntWalk.i64_in _ ⟨by omega, by omega⟩
    have HS2 := hide (H.out.setHead 11 (.int .i64 (nw + 1)) p s.ticked (by rw [HNW.out]; rfl) rfl rfl rfl rfl rfl)
    have HSZ : Hid ((w.setCell ⟨x, 11, none⟩ (.int .i64 (nw + 1))).heap.size = w.heap.size) := World.size_setCell _ _ _
    have OKT : Hid s.ticked.Ok := OK.out.tick (by have := HNW.out; omega)
    have HTH : Hid (s.ticked.them = othersOf n mi) := by show _ = _; rw [Co.them]; show othersOf s.peers.length s.cfg.me.toNat = _; rw [← HN.out, HME.out, Int.toNat_natCast]
    go_upto_region 4 with fail
    generalize World.setCell w _ _ = w1 at HS2 HSZ ⊢
    have HC1 := hide HS2.out.1
    clear c18 c11 f11
    go_wp2_with fail
    go_loopg [3] n (fun gg s3 wr => ∃ (i nd : Nat), i ≤ n ∧ gg = n - i ∧ s3 = .int .i64 (i : Int) ∧ Hid (wr = w1.drewN nd) ∧ Hid (∀ q ∈ othersOf i mi, s.ticked.isLate q = false))
    case atStart => exact ⟨0, 0, by omega, rfl, rfl, rfl, fun q hq => by simp [othersOf] at hq⟩
    case round =>
      obtain ⟨W1, hW1⟩ : ∃ W1, W1 = wr := ⟨_, rfl⟩
      subst hW1
      obtain ⟨i, nd, hin, rfl, rfl, HND, HNL⟩ := hrel
      have HBW : Hid (Below w1.heap.size w1 W1) := by show Below _ _ _; rw [HND.out]; exact Below_drewN (Below.refl _ _) nd
      have HCW := hide (HC1.out.below HBW.out)
      have c0 := HCW.out.cell (reRow_n _ p)
      have c1 := HCW.out.cell (reRow_me _ p)
      rw [show s.ticked.cfg.n = (n : Int) from HCN.out] at c0
      rw [show s.ticked.cfg.me = (mi : Int) from HME.out] at c1
      by_cases hlt : i < n
      · have hii : (i : Int) < (n : Int) := by omega
        have hip : i < s.ticked.peers.length := by show i < s.peers.length; rw [← HN.out]; exact hlt
        obtain ⟨hd, hhd⟩ : ∃ hd, hd = (s.ticked.peers[i]'hip).heard := ⟨_, rfl⟩
        have ch := HCW.out.hcell hip
        rw [← hhd] at ch
        have c12 := HCW.out.cell (reRow_heard _ p)
        rw [show s.ticked.peers.length = n from HN.out.symm] at c12
        have c11 := HCW.out.cell (reRow_now _ p)
        rw [show s.ticked.now = nw + 1 by rw [HNW.out]; rfl] at c11
        have hhd2 : 0 ≤ hd ∧ hd ≤ nw + 1 := by
          rw [hhd]
          have := OKT.out.heard _ (List.getElem_mem hip)
          rw [show s.ticked.now = nw + 1 by rw [HNW.out]; rfl] at this
          exact this
        have hw2 : IntKind.i64.wrap (nw + 1 - hd) = nw + 1 - hd := IntWalk.i64_in _ ⟨by omega, by omega⟩
        obtain ⟨z, hz⟩ : ∃ z : Bool, decide (nw + 1 - hd ≥ 40) = z := ⟨_, rfl⟩
        have HZ : Hid (s.ticked.isLate i = z) := by
          show _ = _
          have hg : s.ticked.peers.getD i Peer.zero = s.ticked.peers[i]'hip := by rw [List.getD_eq_getElem?_getD, List.getElem?_eq_getElem hip]; rfl
          rw [← hz, Co.isLate, show s.ticked.now = nw + 1 by rw [HNW.out]; rfl, hg, ← hhd]
        clear hhd
        by_cases him : i = mi
        · have d1 : ((i : Int) != (mi : Int)) = false := by simp [him]
          have HNX : Hid (othersOf (i + 1) mi = othersOf i mi) := by show _ = _; rw [← him]; exact othersOf_succ_eq i
          clear him
          go_upto_region 7 with fail
          go_cut [48] from 18 to 54 (fun s48 wx => s48 = .bool false ∧ ∃ nd2, wx = W1.drewN nd2)
          case first =>
            go_quiet (fail)
            go_wp2_with fail
            go_meet
            exact ⟨rfl, _, rfl⟩
          case rest =>
          obtain ⟨rfl, nd2, hnd2⟩ := hcut
          have HND2 : Hid (wc = w1.drewN (nd + nd2)) := by show _ = _; rw [hnd2, HND.out]; exact World.drewN_drewN _ _ _
          clear hnd2
          go_wp2_with fail
          go_roundg (n - (i + 1))
          case measure => omega
          case rel => exact ⟨i + 1, nd + nd2, by omega, rfl, by go_num, HND2, by rw [HNX.out]; exact HNL⟩
        · have him2 : ¬ (i : Int) = (mi : Int) := by omega
          have d1 : ((i : Int) != (mi : Int)) = true := by simp [him2]
          have HNX : Hid (othersOf (i + 1) mi = othersOf i mi ++ [i]) := othersOf_succ_ne him
          have HIM := hide him
          clear him him2
          go_upto_region 7 with fail
          go_cut [48] from 18 to 54 (fun s48 wx => s48 = .bool z ∧ ∃ nd2, wx = W1.drewN nd2)
          case first =>
            go_quiet (fail)
            go_wp2_with fail
            go_meet
            exact ⟨rfl, _, rfl⟩
          case rest =>
          obtain ⟨rfl, nd2, hnd2⟩ := hcut
          obtain ⟨W2, hW2⟩ : ∃ W2, W2 = wc := ⟨_, rfl⟩
          subst hW2
          have HND2 : Hid (W2 = w1.drewN (nd + nd2)) := by show _ = _; rw [hnd2, HND.out]; exact World.drewN_drewN _ _ _
          have HC3 : Hid (RAt B W2 x p s.ticked) := by show RAt _ _ _ _ _; rw [hnd2]; exact HCW.out.drewN nd2
          have HB3 : Hid (Below w1.heap.size w1 W2) := by show Below _ _ _; rw [hnd2]; exact Below_drewN HBW.out nd2
          clear hnd2 c0 c1 ch c12 c11
          cases z with
          | false =>
            go_wp2_with fail
            go_roundg (n - (i + 1))
            case measure => omega
            case rel =>
              refine ⟨i + 1, nd + nd2, by omega, rfl, by go_num, HND2, ?_⟩
              show ∀ q ∈ othersOf (i + 1) mi, _
              rw [HNX.out]
              intro q hq
              rcases List.mem_append.1 hq with hq | hq
              · exact HNL.out q hq
              · rw [List.mem_singleton.1 hq]; exact HZ.out
          | true =>
            have HLW : Hid (s.ticked.lateWho = some i) := lateWho_some HTH.out hlt HIM.out HZ.out HNL.out
            have hB3 : B ≤ W2.heap.size := by have := HB.out; have := HSZ.out; have := HB3.out.size; omega
            go_wp2_with fail
            refine Calls.mono (ref_event HC3.out hB3 (.late (i : Int)) hen rfl rfl rfl) ?_
            rintro r w5 ⟨rfl, p5, hc5, hst5⟩
            have HC5 := hide hc5
            have HST5 := hide hst5
            have f18 := hc5.frozen 18
            have c18 := hc5.cell (reRow_closed _ p5)
            have HC6 := hide (hc5.setHead 18 (.bool true) p5 { s.ticked with events := s.ticked.events ++ [.late (i : Int)], closed := true } (by rfl) rfl rfl rfl rfl rfl)
            clear hc5 hst5
            go_wp2_with fail
            go_ret
            refine ⟨none, 0, 0, [], rfl, ML.nil _ _ _, ?_, p5, ?_, ((HS2.out.2.trans (RSt.of_below HB3.out)).trans HST5.out).trans HC6.out.2⟩
            · rw [HQ.out, Co.tickMails, if_neg (by rw [← HCL.out]; decide), HLW.out]; rfl
            · rw [HS.out, Co.tick, if_neg (by rw [← HCL.out]; decide), HLW.out]
              exact HC6.out.1
      · obtain rfl : n = i := by omega
        have HLW : Hid (s.ticked.lateWho = none) := by
          show _ = _
          rw [Co.lateWho, HTH.out, List.find?_eq_none]
          intro q hq
          rw [HNL.out q hq]
          decide
        clear HNL
        go_wp2_with fail
        go_loopg [4, 5] n (fun gg s4 s5 wr => ∃ (i m : Nat) (A : Option Addr) (c : Nat) (xs : List (Mle × Sl)), i ≤ n ∧ m ≤ i ∧ gg = n - i ∧ s5 = .int .i64 (i : Int) ∧ s4 = .slice A m c ∧ Hid (ML 124 w1.heap.size wr A m c xs) ∧ Hid (xs.map Prod.fst = (othersOf i mi).map s.ticked.tellTo) ∧ Hid (Below w1.heap.size w1 wr))
        case atStart => exact ⟨0, 0, none, 0, [], by omega, by omega, rfl, rfl, rfl, ML.nil _ _ _, rfl, HBW⟩
        case round =>
          clear HBW HCW HND c0 c1
          obtain ⟨W1, hW1⟩ : ∃ W1, W1 = wr := ⟨_, rfl⟩
          subst hW1
          obtain ⟨i, m, A, c, xs, hin, hmi, rfl, rfl, rfl, HML, HXS, HBW⟩ := hrel
          have HRW := hide (HC1.out.below HBW.out)
          have c0 := HRW.out.cell (reRow_n _ p)
          have c1 := HRW.out.cell (reRow_me _ p)
          rw [show s.ticked.cfg.n = (n : Int) from HCN.out] at c0
          rw [show s.ticked.cfg.me = (mi : Int) from HME.out] at c1
          by_cases hlt : i < n
          · have hii : (i : Int) < (n : Int) := by omega
            by_cases him : i = mi
            · have d1 : ((i : Int) == (mi : Int)) = true := by simp [him]
              have HNX : Hid (othersOf (i + 1) mi = othersOf i mi) := by show _ = _; rw [← him]; exact othersOf_succ_eq i
              clear him
              go_wp2_with fail
              go_roundg (n - (i + 1))
              case measure => omega
              case rel => exact ⟨i + 1, m, A, c, xs, by omega, by omega, rfl, by go_num, rfl, HML, by rw [HNX.out]; exact HXS, HBW⟩
            · have him2 : ¬ (i : Int) = (mi : Int) := by omega
              have d1 : ((i : Int) == (mi : Int)) = false := by simp [him2]
              have HNX : Hid (othersOf (i + 1) mi = othersOf i mi ++ [i]) := othersOf_succ_ne him
              have hip : i < s.ticked.peers.length := by show i < s.peers.length; rw [← HN.out]; exact hlt
              obtain ⟨lg, hA, hrl⟩ := HRW.out.rl OKT.out
              have hln : s.ticked.ls.length = n := by have := OKT.out.len; rw [this.1]; exact HN.out.symm
              rw [hln] at hrl
              have HRL := hide hrl
              obtain ⟨hs, cl1, -, hlen⟩ := hrl.cell i hlt
              obtain ⟨⟨A1, m1, k1⟩, hx1⟩ : ∃ x, x = p.ss[i] := ⟨_, rfl⟩
              rw [← hx1] at cl1 hlen
              simp only at cl1 hlen
              have HLEN := hide hlen
              have hm1 : m1 ≤ 1000 := by rw [← hlen]; exact hrl.short i
              have cL := HRW.out.cell (reRow_L _ p)
              rw [hA, hln] at cL
              have c2 := HRW.out.cell (reRow_id _ p)
              rw [show s.ticked.cfg.id = id from HID.out.symm] at c2
              have cA := HRW.out.cell (reRow_has _ p)
              rw [show s.ticked.peers.length = n from HN.out.symm] at cA
              have ai := HRW.out.scell hip
              obtain ⟨hs0, hhs0⟩ : ∃ hs0, hs0 = (s.ticked.peers[i]'hip).has := ⟨_, rfl⟩
              rw [← hhs0] at ai
              have hhb : 0 ≤ hs0 ∧ hs0 ≤ 1000 := by
                have h1 := OKT.out.has _ (List.getElem_mem hip)
                have h2 := OKT.out.short s.ticked.cfg.me.toNat
                rw [← hhs0] at h1
                omega
              have cM := HRW.out.cell (reRow_marks _ p)
              obtain ⟨F, hF⟩ : ∃ F, F = fromLine (s.ticked.ls.getD mi []) hs0 32 := ⟨_, rfl⟩
              have HF := hide hF
              have hF32 : F.length ≤ 32 := by rw [hF]; unfold fromLine; split; exact Nat.zero_le _; rw [List.length_take]; show min (min 32 1000) _ ≤ _; omega
              obtain ⟨pk, hpk⟩ : ∃ pk : Pkt, pk = ⟨1, mi, i, id, hs0, F, m1, p.mn, 0⟩ := ⟨_, rfl⟩
              have HTL : Hid (s.ticked.telling i = { pk with sum := if s.ticked.marks.length = 0 then 0 else s.ticked.marks.getD (s.ticked.marks.length - 1) 0 }) := by
                show _ = _
                have e1 : (s.ticked.peers.getD i ⟨0, 0, 0, 0, false⟩).has = hs0 := by rw [List.getD_eq_getElem?_getD, List.getElem?_eq_getElem hip, hhs0]; rfl
                have e2 : s.ticked.mine = s.ticked.ls.getD mi [] := by rw [Co.mine, show s.ticked.cfg.me = (mi : Int) from HME.out, Int.toNat_natCast]
                rw [Co.telling, e1, e2, ← hF, hlen, hpk, HRW.out.mn]
                show Pkt.mk 1 s.ticked.cfg.me i s.ticked.cfg.id hs0 F _ _ _ = _
                rw [show s.ticked.cfg.me = (mi : Int) from HME.out, show s.ticked.cfg.id = id from HID.out.symm]
              have HPK := hide hpk
              have hmn : p.mn ≤ 1000 := by rw [← HRW.out.mn]; exact OKT.out.marks
              have hmi2 : (mi : Int) < (n : Int) := by have := HMI.out; omega
              have HSZ1 : Hid (w1.heap.size ≤ W1.heap.size) := HBW.out.size
              clear him him2 hrl hx1 hlen hA hhs0 hF hpk hln
              go_upto_region 16 with fail
              clear c0
              go_cut [6] from 55 to 152 (fun s6 wx => ∃ (G : Nat) (AF : Option Addr) (nF cF : Nat), s6 = .pointer (some ⟨G, 0, none⟩) ∧ Below W1.heap.size W1 wx ∧ Arr 41 wx G (pk.row (.slice AF nF cF)) ∧ OwnB wx W1.heap.size AF nF cF F ∧ W1.heap.size ≤ G)
              case first =>
                refine wp_region_noPanic ?_
                refine wp_region_held_drew (S := (fun w' => w'.cell? ⟨x, 1, none⟩ = some (.int .i64 (mi : Int)) ∧ w'.cell? ⟨x, 2, none⟩ = some (.int .i64 id) ∧ w'.cell? ⟨x, 13, none⟩ = some (.slice (some ⟨p.ag, 0, none⟩) n p.ac) ∧ w'.cell? ⟨p.ag, i, none⟩ = some (.int .i64 hs0) ∧ w'.cell? ⟨x, 10, none⟩ = some (.slice (some ⟨lg, 0, none⟩) n p.gc) ∧ w'.cell? ⟨lg, i, none⟩ = some (.slice A1 m1 k1) ∧ w'.cell? ⟨x, 16, none⟩ = some (.slice p.mA p.mn p.mc))) (by kernel_rfl) ⟨c1, c2, cA, ai, cL, cl1, cM⟩ (fun hHeld => ?_)
                refine tk0 0 ?_
                refine tk 1 ?_
                refine tk 2 ?_
                refine tk 3 ?_
                refine tk 4 ?_
                refine tk 5 ?_
                refine tk 6 ?_
                refine tk 7 ?_
                refine tk 8 ?_
                refine tk 9 ?_
                refine tk 10 ?_
                refine tk 11 ?_
                refine tk 12 ?_
                refine tk 13 ?_
                refine tk 14 ?_
                refine tk 15 ?_
                refine tk 16 ?_
                refine tk 17 ?_
                refine tk 18 ?_
                refine tk 19 ?_
                refine tk 20 ?_
                refine tk 21 ?_
                refine tk 22 ?_
                refine tk 23 ?_
                refine tk 24 ?_
                refine tk 25 ?_
                refine tk 26 ?_
                refine tk 27 ?_
                refine tk 28 ?_
                refine tk 29 ?_
                refine tk 30 ?_
                refine tk 31 ?_
                refine tk 32 ?_
                refine tk 33 ?_
                refine tk 34 ?_
                refine tk 36 ?_
                refine tk 37 ?_
                refine tk 38 ?_
                refine tk 39 ?_
                refine tk 40 ?_
                refine tk 41 ?_
                refine tk 42 ?_
                refine tk 43 ?_
                refine tk 44 ?_
                refine tk 45 ?_
                refine tk 46 ?_
                refine tk 47 ?_
                refine tk 48 ?_
                refine tk 49 ?_
                refine wpAnyH_ready (rs := [35, 51]) (by kernel_rfl) (by simp) ?_
                refine AllReadyH.cons (o := ?_) ?_ (fun K hK => ?_) ?_
                rotate_left 1
                · (simp only [List.getElem?_toArray, List.getElem?_cons_succ, List.getElem?_cons_zero]; rfl)
                · go_simp
                  refine Calls.mono (ref_LineFrom HRL.out.drew mi HMI.out hs0 (by omega) (by omega)) ?_
                  rw [← HF.out]
                  rintro r w8 ⟨AF, cF, rfl, ho8, hb8⟩
                  have hb8' : Below W1.heap.size W1 w8 := ⟨hb8.os, hb8.tape, hb8.output, hb8.size, hb8.block⟩
                  refine hK.out _ _ ⟨below_cell hb8' c1, below_cell hb8' c2, below_cell hb8' cA, below_cell hb8' ai, below_cell hb8' cL, below_cell hb8' cl1, below_cell hb8' cM⟩ (fun hHeld => ?_)
                  clear hK K
                  try simp only [Act.put, List.setIfInBounds_toArray, List.set_cons_zero, List.set_cons_succ]
                  refine tk 50 ?_
                  refine rdy 51 fun K hK => ?_
                  go_simp
                  have hbz := Below_step hb8' (Below_new w8 (.cells #[.int .i64 0, .int .i64 0, .int .i64 0, .int .i64 0, .int .i64 0, .slice none 0 0, .int .i64 0, .int .i64 0, .int .u32 0] 41))
                  have haz : Arr 41 (w8.alloc (.cells #[.int .i64 0, .int .i64 0, .int .i64 0, .int .i64 0, .int .i64 0, .slice none 0 0, .int .i64 0, .int .i64 0, .int .u32 0] 41)) w8.heap.size (Pkt.zero.row (.slice none 0 0)) := Arr.new _ _ _ _ rfl
                  have hoz := OwnB.below ho8 (Below_new w8 (.cells #[.int .i64 0, .int .i64 0, .int .i64 0, .int .i64 0, .int .i64 0, .slice none 0 0, .int .i64 0, .int .i64 0, .int .u32 0] 41))
                  refine hK.out _ _ ⟨below_cell hbz c1, below_cell hbz c2, below_cell hbz cA, below_cell hbz ai, below_cell hbz cL, below_cell hbz cl1, below_cell hbz cM⟩ (fun hHeld => ?_)
                  clear hK K
                  try simp only [Act.put, List.setIfInBounds_toArray, List.set_cons_zero, List.set_cons_succ]
                  refine rdy 52 fun K hK => ?_
                  (refine step_storeP rfl (.tmp 6) (.tmp 121) rfl w8.heap.size rfl pk Pkt.zero AF none F.length 0 cF 0 (by rw [HPK.out]; rfl) haz ?_; intro w10 ha10 hk10 hs10)
                  have hb10 : Below W1.heap.size W1 w10 := hbz.trans (hk10.below hbz.size (fun k hk e => by have := hb8'.size; omega))
                  have ho10 := hoz.keeps hk10 (fun k hk e => by have := (ho8.blk k hk).2; omega)
                  refine hK.out _ _ ⟨below_cell hb10 c1, below_cell hb10 c2, below_cell hb10 cA, below_cell hb10 ai, below_cell hb10 cL, below_cell hb10 cl1, below_cell hb10 cM⟩ (fun hHeld => ?_)
                  clear hK K
                  try simp only [Act.put]
                  refine wpAnyH_done (by kernel_rfl) (NoPanic.normal ?_) _
                  go_wp2_with fail
                  go_meet
                  exact ⟨_, AF, _, cF, rfl, hb10, ha10, ho10, hb8'.size⟩
                refine AllReadyH.cons (o := ?_) ?_ (fun K hK => ?_) ?_
                rotate_left 1
                · (simp only [List.getElem?_toArray, List.getElem?_cons_succ, List.getElem?_cons_zero]; rfl)
                · go_simp
                  skip
                  have hbz := (Below_new W1 (.cells #[.int .i64 0, .int .i64 0, .int .i64 0, .int .i64 0, .int .i64 0, .slice none 0 0, .int .i64 0, .int .i64 0, .int .u32 0] 41)).drew
                  have haz : Arr 41 (W1.alloc (.cells #[.int .i64 0, .int .i64 0, .int .i64 0, .int .i64 0, .int .i64 0, .slice none 0 0, .int .i64 0, .int .i64 0, .int .u32 0] 41)).drew W1.heap.size (Pkt.zero.row (.slice none 0 0)) := Arr.new _ _ _ _ rfl
                  refine hK.out _ _ ⟨below_cell hbz c1, below_cell hbz c2, below_cell hbz cA, below_cell hbz ai, below_cell hbz cL, below_cell hbz cl1, below_cell hbz cM⟩ (fun hHeld => ?_)
                  clear hK K
                  try simp only [Act.put, List.setIfInBounds_toArray, List.set_cons_zero, List.set_cons_succ]
                  refine rdy 35 fun K hK => ?_
                  go_simp
                  refine Calls.mono (ref_LineFrom (HRL.out.below hbz) mi HMI.out hs0 (by omega) (by omega)) ?_
                  rw [← HF.out]
                  rintro r w8 ⟨AF, cF, rfl, ho8, hb8⟩
                  have hb8' : Below W1.heap.size W1 w8 := Below_step hbz hb8
                  have ha8 := haz.belowN hb8
                  refine hK.out _ _ ⟨below_cell hb8' c1, below_cell hb8' c2, below_cell hb8' cA, below_cell hb8' ai, below_cell hb8' cL, below_cell hb8' cl1, below_cell hb8' cM⟩ (fun hHeld => ?_)
                  clear hK K
                  try simp only [Act.put, List.setIfInBounds_toArray, List.set_cons_zero, List.set_cons_succ]
                  refine tk 50 ?_
                  refine rdy 52 fun K hK => ?_
                  (refine step_storeP rfl (.tmp 6) (.tmp 121) rfl W1.heap.size rfl pk Pkt.zero AF none F.length 0 cF 0 (by rw [HPK.out]; rfl) ha8 ?_; intro w10 ha10 hk10 hs10)
                  have hb10 : Below W1.heap.size W1 w10 := hb8'.trans (hk10.below hb8'.size (fun k hk e => by omega))
                  have ho10 : OwnB w10 W1.heap.size AF F.length cF F := (OwnB.base_le ho8 hbz.size).keeps hk10 (fun k hk e => by have h1 := (ho8.blk k hk).1; have h2 : W1.heap.size + 1 ≤ k := (by simpa using h1); omega)
                  refine hK.out _ _ ⟨below_cell hb10 c1, below_cell hb10 c2, below_cell hb10 cA, below_cell hb10 ai, below_cell hb10 cL, below_cell hb10 cl1, below_cell hb10 cM⟩ (fun hHeld => ?_)
                  clear hK K
                  try simp only [Act.put]
                  refine wpAnyH_done (by kernel_rfl) (NoPanic.normal ?_) _
                  go_wp2_with fail
                  go_meet
                  exact ⟨_, AF, _, cF, rfl, hb10, ha10, ho10, Nat.le_refl _⟩
                exact AllReadyH.nil
              case rest =>
              obtain ⟨G, AF, nF, cF, rfl, hb10, ha10, ho10, hG⟩ := hcut
              obtain ⟨w10, hw10⟩ : ∃ w10, w10 = wc := ⟨_, rfl⟩
              subst hw10
              have HBX := hide hb10
              have HAX := hide ha10
              have HOX := hide ho10
              have hnF : nF ≤ 32 := by rw [← ho10.len]; exact hF32
              clear c1 c2 cA ai cL cl1 cM hb10 ha10 ho10
              have cM := (HRW.out.below HBX.out).cell (reRow_marks _ p)
              by_cases h0 : p.mn = 0
              · have d3 : decide ((p.mn : Int) > 0) = false := decide_eq_false (by omega)
                have HTE : Hid (s.ticked.tellTo i = ⟨mi, i, pk.enc⟩) := by
                  show _ = _
                  rw [Co.tellTo, HTL.out, HRW.out.mn, if_pos h0, show s.ticked.cfg.me = (mi : Int) from HME.out]
                  have e : ({ pk with sum := 0 } : Pkt) = pk := by rw [HPK.out]
                  rw [e]
                have HWF : Hid (pk.WF) := by rw [HPK.out]; exact ⟨by show (0 : Int) ≤ 0; omega, by show (0 : Int) < _; omega⟩
                have HPR : Hid (pk.press = F) := by show _ = _; rw [HPK.out]
                have d4 : decide (0 < p.mn) = false := decide_eq_false (by omega)
                have d5 : ¬ 0 < p.mn := by omega
                clear h0
                go_upto_region 19 with fail
                clear cM d3 d4 d5
                have HRTw10 := hide (HRW.out.below HBX.out)
                have c1t := HRTw10.out.cell (reRow_me _ p)
                rw [show s.ticked.cfg.me = (mi : Int) from HME.out] at c1t
                have HLIES : Hid (LiesB w10 w10.heap.size AF nF pk.press) := by show LiesB _ _ _ _ _; rw [HPR.out]; exact HOX.out.lies
                have HMLt := hide (HML.out.below HBX.out)
                have HSZt : Hid (w1.heap.size ≤ w10.heap.size) := Nat.le_trans HBW.out.size HBX.out.size
                have HBWt : Hid (Below w1.heap.size w1 w10) := HBW.out.trans (HBX.out.mono HBW.out.size)
                refine wp_region_noPanic ?_
                refine wp_region_held_drew (S := (fun w' => w'.cell? ⟨x, 1, none⟩ = some (.int .i64 (mi : Int)) ∧ WholeP G (pk.val (.slice AF nF cF)) w')) (by kernel_rfl) ⟨c1t, HAX.out.drew.wholeP⟩ (fun hHeld => ?_)
                refine tk0 0 ?_
                refine tk 1 ?_
                refine tk 2 ?_
                refine tk 3 ?_
                refine tk 4 ?_
                refine tk 5 ?_
                refine tk 6 ?_
                refine tk 7 (v := pk.val (.slice AF nF cF)) (hy := by refine Or.inl ⟨by rfl, ?_⟩; intro w hSw; (try dsimp only at hSw); exact exec_wholeP (x := .tmp 6) hSw.2 rfl rfl) ?_
                refine rdy 8 fun K hK => ?_
                go_simp
                refine Calls.mono (ref_Packet pk HLIES.out.drew (Nat.le_refl _) (by omega) HWF.out) ?_
                rintro r w11 ⟨A8, n8, c8, rfl, ho8, hb8⟩
                have HO8 := hide ho8
                have HB8 := hide hb8
                refine hK.out _ _ ⟨below_cell hb8 c1t, (HAX.out.drew.belowN hb8).wholeP⟩ (fun hHeld => ?_)
                clear hK K
                try simp only [Act.put, List.setIfInBounds_toArray, List.set_cons_zero, List.set_cons_succ]
                refine tk 9 ?_
                refine rdy 10 fun K hK => ?_
                go_simp
                refine hK.out _ _ ⟨cell_al (below_cell hb8 c1t) _, (Arr.al (HAX.out.drew.belowN hb8) _).wholeP⟩ (fun hHeld => ?_)
                clear hK K
                try simp only [Act.put, List.setIfInBounds_toArray, List.set_cons_zero, List.set_cons_succ]
                have HBN := hide (Below_new w11 (.cells #[.int .i64 (mi : Int), .int .i64 (i : Int), .slice A8 n8 c8] 124))
                have HML2 := hide ((HMLt.out.drew.below HB8.out).below HBN.out)
                have HL2 := hide (Lies.new w11 #[.int .i64 (mi : Int), .int .i64 (i : Int), .slice A8 n8 c8] 124 (0, 0))
                have HB9 := hide (Below_step (HBWt.out.drew.trans (HB8.out.mono HSZt.out)) HBN.out)
                have hB9 : w1.heap.size ≤ (World.alloc w11 (.cells #[.int .i64 (mi : Int), .int .i64 (i : Int), .slice A8 n8 c8] 124)).heap.size := HB9.out.size
                have HA9 := hide (Arr.al (HAX.out.drew.belowN hb8) (.cells #[.int .i64 (mi : Int), .int .i64 (i : Int), .slice A8 n8 c8] 124))
                refine rdy 11 fun K hK => ?_
                (refine step_appendN elem_rmails rfl (.tmp 141) (.tmp 151) rfl w1.heap.size A m c _ rfl HML2.out.row _ _ 1 [.int .i64 (mi : Int), .int .i64 (i : Int), .slice A8 n8 c8] rfl rfl HL2.out (by simp [Value.oneCell']) (by omega) (by omega) hB9 ?_; intro g9 c9 w9 own9 k9 hk9)
                have HOW := hide own9
                have HK9 := hide k9
                have HBK := hide (HB9.out.trans (HML2.out.keepsBelow hB9 k9))
                have HR9 := hide (HC1.out.below HBK.out)
                have c19 := HR9.out.cell (reRow_me _ p)
                rw [show s.ticked.cfg.me = (mi : Int) from HME.out] at c19
                have HA10 := hide (HA9.out.off k9 (Off.of (T := 124) (Ts := [41]) (owns_tb HML2.out.row) (by decide)) (by simp))
                refine hK.out _ _ ⟨c19, HA10.out.wholeP⟩ (fun hHeld => ?_)
                clear hK K
                try simp only [Act.put, List.setIfInBounds_toArray, List.set_cons_zero, List.set_cons_succ]
                refine tk 12 ?_
                refine wpAnyH_done (by kernel_rfl) (NoPanic.normal ?_) _
                go_wp2_with fail
                go_roundg (n - (i + 1))
                case measure => omega
                case rel =>
                  refine ⟨i + 1, m + 1, some ⟨g9, 0, none⟩, c9, xs ++ [(s.ticked.tellTo i, (A8, n8, c8))], by omega, by omega, rfl, by go_num, rfl, ?_, ?_, ?_⟩
                  · show ML _ _ _ _ _ _ _
                    refine HMLt.out.drew.add (x := (s.ticked.tellTo i, (A8, n8, c8))) (by decide) (by rw [HTE.out]; exact OwnB.base_le HO8.out HSZt.out) HB8.out HBN.out ?_ HK9.out
                    have := HOW.out
                    rw [show mrow (s.ticked.tellTo i, (A8, n8, c8)) = [.int .i64 (mi : Int), .int .i64 (i : Int), .slice A8 n8 c8] by rw [HTE.out]; rfl]
                    exact this
                  · show _ = _
                    rw [HNX.out, List.map_append, List.map_append, HXS.out]; rfl
                  · exact HBK
              · have d3 : decide ((p.mn : Int) > 0) = true := decide_eq_true (by omega)
                obtain ⟨km, hkm⟩ : ∃ km, p.mn = km + 1 := ⟨p.mn - 1, by omega⟩
                have hkm2 : IntKind.i64.wrap ((p.mn : Int) - 1) = (km : Int) := by rw [IntWalk.i64_in _ ⟨by omega, by omega⟩]; omega
                obtain ⟨gm, hmA, -, -⟩ := (HRW.out.below HBX.out).marks.form (by omega)
                have hmk := (HRW.out.below HBX.out).marks
                rw [hmA] at hmk cM
                have HGM := hide hmA
                obtain ⟨hl9, c9⟩ := hmk.cell (j := km) (by omega)
                obtain ⟨mk, hmk2⟩ : ∃ mk, mk = s.ticked.marks.getD km 0 := ⟨_, rfl⟩
                have hl10 : km < s.ticked.marks.length := by rw [HRW.out.mn]; omega
                have hc9 : w10.cell? ⟨gm, km, none⟩ = some (.int .u32 mk) := by
                  rw [c9, List.getElem_map, hmk2, List.getD_eq_getElem?_getD, List.getElem?_eq_getElem hl10]; rfl
                have hmkb : 0 ≤ mk ∧ mk < 4294967296 := by
                  rw [hmk2, List.getD_eq_getElem?_getD, List.getElem?_eq_getElem hl10]
                  exact OKT.out.mark _ (List.getElem_mem hl10)
                obtain ⟨pk2, hpk2⟩ : ∃ pk2 : Pkt, pk2 = { pk with sum := mk } := ⟨_, rfl⟩
                have HTE : Hid (s.ticked.tellTo i = ⟨mi, i, pk2.enc⟩) := by
                  show _ = _
                  rw [Co.tellTo, HTL.out, HRW.out.mn, if_neg h0, show s.ticked.cfg.me = (mi : Int) from HME.out, hkm, Nat.add_sub_cancel, ← hmk2, ← hpk2]
                have HWF : Hid (pk2.WF) := by rw [hpk2]; exact hmkb
                have HPR : Hid (pk2.press = F) := by show _ = _; rw [hpk2]; show pk.press = F; rw [HPK.out]
                have HP2 : Hid ((pk.row (.slice AF nF cF)).set 8 (.int .u32 mk) = pk2.row (.slice AF nF cF)) := by show _ = _; rw [hpk2]; rfl
                have hkmi : (km : Int) < (p.mn : Int) := by omega
                have f8 := HAX.out.frozen 8
                have q8 := HAX.out.cell (j := 8) (by simp)
                have d4 : decide (0 < p.mn) = true := decide_eq_true (by omega)
                have d5 : 0 < p.mn := by omega
                have HKM := hide hkm
                clear hmk hmA hl9 c9 hmk2 hl10 hpk2 h0 hkm
                go_upto_region 18 with fail
                have hgm : gm ≠ G := by
                  intro e
                  have h1 : TB w10 gm 39 := by
                    have h2 := (HRW.out.below HBX.out).marks
                    rw [HGM.out] at h2
                    exact owns_tb h2 gm rfl
                  rw [e] at h1
                  exact absurd (h1.one HAX.out.tb) (by decide)
                refine wp_region_noPanic ?_
                refine wp_region_held_drew (S := (fun w' => w'.cell? ⟨x, 16, none⟩ = some (.slice (some ⟨gm, 0, none⟩) p.mn p.mc) ∧ w'.cell? ⟨gm, km, none⟩ = some (.int .u32 mk))) (by kernel_rfl) ⟨cM, hc9⟩ (fun hHeld => ?_)
                refine tk0 0 ?_
                refine tk 1 ?_
                refine tk 2 ?_
                refine tk 3 ?_
                refine tk 4 ?_
                refine tk 5 ?_
                refine tk 6 ?_
                refine tk 7 ?_
                refine tk 8 ?_
                refine tk 9 ?_
                refine tk 10 ?_
                refine tk 11 ?_
                refine tk 12 ?_
                refine rdy 13 fun K hK => ?_
                go_simp
                have ks := Keeps.setCell w10 ⟨G, 8, none⟩ (.int .u32 mk)
                have hxG : x ≠ G := by have := HRW.out.head.lt; omega
                have cM' : (w10.setCell ⟨G, 8, none⟩ (.int .u32 mk)).cell? ⟨x, 16, none⟩ = some (.slice (some ⟨gm, 0, none⟩) p.mn p.mc) := keeps_cell' (S := fun k => k = G) ks cM hxG
                have hc9' : (w10.setCell ⟨G, 8, none⟩ (.int .u32 mk)).cell? ⟨gm, km, none⟩ = some (.int .u32 mk) := keeps_cell' (S := fun k => k = G) ks hc9 hgm
                refine hK.out _ _ ⟨cM', hc9'⟩ (fun hHeld => ?_)
                clear hK K
                try simp only [Act.put]
                refine wpAnyH_done (by kernel_rfl) (NoPanic.normal ?_) _
                have HBY : Hid (Below W1.heap.size W1 (w10.setCell ⟨G, 8, none⟩ (.int .u32 mk)).drew) := (HBX.out.setCell (p := ⟨G, 8, none⟩) hG _).drew
                have HAY : Hid (Arr 41 (w10.setCell ⟨G, 8, none⟩ (.int .u32 mk)).drew G (pk2.row (.slice AF nF cF))) := by show Arr _ _ _ _; rw [← HP2.out]; exact (HAX.out.set 8 _).drew
                have HOY : Hid (OwnB (w10.setCell ⟨G, 8, none⟩ (.int .u32 mk)).drew W1.heap.size AF nF cF F) := (HOX.out.keeps (Keeps.setCell w10 ⟨G, 8, none⟩ (.int .u32 mk)) (fun k hk e => by
                  have e : k = G := e
                  have h1 : TB w10 k 5 := owns_tb HOX.out k hk
                  rw [e] at h1
                  exact absurd (h1.one HAX.out.tb) (by decide))).drew
                generalize (World.setCell w10 _ _).drew = w12 at HBY HAY HOY ⊢
                clear cM hc9 d3 f8 q8 hHeld ks hxG cM' hc9' d4 d5
                go_upto_region 19 with fail
                have HRTw12 := hide (HRW.out.below HBY.out)
                have c1t := HRTw12.out.cell (reRow_me _ p)
                rw [show s.ticked.cfg.me = (mi : Int) from HME.out] at c1t
                have HLIES : Hid (LiesB w12 w12.heap.size AF nF pk2.press) := by show LiesB _ _ _ _ _; rw [HPR.out]; exact HOY.out.lies
                have HMLt := hide (HML.out.below HBY.out)
                have HSZt : Hid (w1.heap.size ≤ w12.heap.size) := Nat.le_trans HBW.out.size HBY.out.size
                have HBWt : Hid (Below w1.heap.size w1 w12) := HBW.out.trans (HBY.out.mono HBW.out.size)
                refine wp_region_noPanic ?_
                refine wp_region_held_drew (S := (fun w' => w'.cell? ⟨x, 1, none⟩ = some (.int .i64 (mi : Int)) ∧ WholeP G (pk2.val (.slice AF nF cF)) w')) (by kernel_rfl) ⟨c1t, HAY.out.drew.wholeP⟩ (fun hHeld => ?_)
                refine tk0 0 ?_
                refine tk 1 ?_
                refine tk 2 ?_
                refine tk 3 ?_
                refine tk 4 ?_
                refine tk 5 ?_
                refine tk 6 ?_
                refine tk 7 (v := pk2.val (.slice AF nF cF)) (hy := by refine Or.inl ⟨by rfl, ?_⟩; intro w hSw; (try dsimp only at hSw); exact exec_wholeP (x := .tmp 6) hSw.2 rfl rfl) ?_
                refine rdy 8 fun K hK => ?_
                go_simp
                refine Calls.mono (ref_Packet pk2 HLIES.out.drew (Nat.le_refl _) (by omega) HWF.out) ?_
                rintro r w11 ⟨A8, n8, c8, rfl, ho8, hb8⟩
                have HO8 := hide ho8
                have HB8 := hide hb8
                refine hK.out _ _ ⟨below_cell hb8 c1t, (HAY.out.drew.belowN hb8).wholeP⟩ (fun hHeld => ?_)
                clear hK K
                try simp only [Act.put, List.setIfInBounds_toArray, List.set_cons_zero, List.set_cons_succ]
                refine tk 9 ?_
                refine rdy 10 fun K hK => ?_
                go_simp
                refine hK.out _ _ ⟨cell_al (below_cell hb8 c1t) _, (Arr.al (HAY.out.drew.belowN hb8) _).wholeP⟩ (fun hHeld => ?_)
                clear hK K
                try simp only [Act.put, List.setIfInBounds_toArray, List.set_cons_zero, List.set_cons_succ]
                have HBN := hide (Below_new w11 (.cells #[.int .i64 (mi : Int), .int .i64 (i : Int), .slice A8 n8 c8] 124))
                have HML2 := hide ((HMLt.out.drew.below HB8.out).below HBN.out)
                have HL2 := hide (Lies.new w11 #[.int .i64 (mi : Int), .int .i64 (i : Int), .slice A8 n8 c8] 124 (0, 0))
                have HB9 := hide (Below_step (HBWt.out.drew.trans (HB8.out.mono HSZt.out)) HBN.out)
                have hB9 : w1.heap.size ≤ (World.alloc w11 (.cells #[.int .i64 (mi : Int), .int .i64 (i : Int), .slice A8 n8 c8] 124)).heap.size := HB9.out.size
                have HA9 := hide (Arr.al (HAY.out.drew.belowN hb8) (.cells #[.int .i64 (mi : Int), .int .i64 (i : Int), .slice A8 n8 c8] 124))
                refine rdy 11 fun K hK => ?_
                (refine step_appendN elem_rmails rfl (.tmp 141) (.tmp 151) rfl w1.heap.size A m c _ rfl HML2.out.row _ _ 1 [.int .i64 (mi : Int), .int .i64 (i : Int), .slice A8 n8 c8] rfl rfl HL2.out (by simp [Value.oneCell']) (by omega) (by omega) hB9 ?_; intro g9 c9 w9 own9 k9 hk9)
                have HOW := hide own9
                have HK9 := hide k9
                have HBK := hide (HB9.out.trans (HML2.out.keepsBelow hB9 k9))
                have HR9 := hide (HC1.out.below HBK.out)
                have c19 := HR9.out.cell (reRow_me _ p)
                rw [show s.ticked.cfg.me = (mi : Int) from HME.out] at c19
                have HA10 := hide (HA9.out.off k9 (Off.of (T := 124) (Ts := [41]) (owns_tb HML2.out.row) (by decide)) (by simp))
                refine hK.out _ _ ⟨c19, HA10.out.wholeP⟩ (fun hHeld => ?_)
                clear hK K
                try simp only [Act.put, List.setIfInBounds_toArray, List.set_cons_zero, List.set_cons_succ]
                refine tk 12 ?_
                refine wpAnyH_done (by kernel_rfl) (NoPanic.normal ?_) _
                go_wp2_with fail
                go_roundg (n - (i + 1))
                case measure => omega
                case rel =>
                  refine ⟨i + 1, m + 1, some ⟨g9, 0, none⟩, c9, xs ++ [(s.ticked.tellTo i, (A8, n8, c8))], by omega, by omega, rfl, by go_num, rfl, ?_, ?_, ?_⟩
                  · show ML _ _ _ _ _ _ _
                    refine HMLt.out.drew.add (x := (s.ticked.tellTo i, (A8, n8, c8))) (by decide) (by rw [HTE.out]; exact OwnB.base_le HO8.out HSZt.out) HB8.out HBN.out ?_ HK9.out
                    have := HOW.out
                    rw [show mrow (s.ticked.tellTo i, (A8, n8, c8)) = [.int .i64 (mi : Int), .int .i64 (i : Int), .slice A8 n8 c8] by rw [HTE.out]; rfl]
                    exact this
                  · show _ = _
                    rw [HNX.out, List.map_append, List.map_append, HXS.out]; rfl
                  · exact HBK
          · obtain rfl : n = i := by omega
            go_wp2_with fail
            go_ret
            have e1 : w1.heap.size = w.heap.size := HSZ.out
            refine ⟨A, m, c, xs, rfl, by have := HML.out; rw [e1] at this; exact this, ?_, p, by rw [HS.out, Co.tick, if_neg (by rw [← HCL.out]; decide), HLW.out]; exact HRW.out, HS2.out.2.trans (RSt.of_below HBW.out)⟩
            rw [HXS.out, HQ.out, Co.tickMails, if_neg (by rw [← HCL.out]; decide), HLW.out]
            show _ = s.ticked.them.map s.ticked.tellTo
            rw [HTH.out]
end Go.Proofs.Ytbcgffgiifminaa
