/-
  Rows of mails; a player that quits.
  A player's clock goes on.
  A packet heard.
  A packet heard: the walk.
-/
import Derived.Test.YtbcgffgiifminaaStand9
namespace Go.Proofs.Ytbcgffgiifminaa
open Go.RowKit
set_option maxRecDepth 10000
set_option linter.unusedVariables false
/-- A mail. -/
structure Mle where
  src : Int
  dst : Int
  b : List UInt8
def mrow (x : Mle × Sl) : List Value := [.int .i64 x.1.src, .int .i64 x.1.dst, sv x.2]
theorem mrow_len (x : Mle × Sl) : (mrow x).length = 3 := rfl
theorem ownsRow_base_le {w : World} {B B' sz n : Nat} {e : TypeId} {v : Value} {l : List Value} (h : w.ownsRow B e sz v n l) (hb : B' ≤ B) : w.ownsRow B' e sz v n l := by
  refine ⟨h.1, ?_⟩
  rcases h.2 with h2 | ⟨g, cap, cur, hv, hg, r⟩
  · exact .inl h2
  · exact .inr ⟨g, cap, cur, hv, Nat.le_trans hb hg, r⟩
/-- A row of mails of type T. -/
structure ML (T : TypeId) (B : Nat) (w : World) (A : Option Addr) (n c : Nat) (xs : List (Mle × Sl)) : Prop where
  row : w.ownsRow B T 3 (.slice A n c) n (xs.flatMap mrow)
  line : ∀ x ∈ xs, OwnB w B x.2.1 x.2.2.1 x.2.2.2 x.1.b
section
variable {T : TypeId} {B B' : Nat} {w w' : World} {A : Option Addr} {n c : Nat} {xs : List (Mle × Sl)}
theorem ML.nil (T : TypeId) (B : Nat) (w : World) : ML T B w none 0 0 [] := ⟨World.ownsRow_nil _ _ _ _, fun x h => by simp at h⟩
theorem ML.len (h : ML T B w A n c xs) : xs.length = n := by
  have := h.row.1
  rw [flat_len mrow_len] at this
  omega
theorem ML.below (h : ML T B w A n c xs) (hb : Below w.heap.size w w') : ML T B w' A n c xs := ⟨ownsRow_below h.row hb, fun x hx => (h.line x hx).below hb⟩
theorem ML.drew (h : ML T B w A n c xs) : ML T B w.drew A n c xs := h.below ((Below.refl _ _).drew)
theorem ML.base_le (h : ML T B w A n c xs) (hb : B' ≤ B) : ML T B' w A n c xs := ⟨ownsRow_base_le h.row hb, fun x hx => OwnB.base_le (h.line x hx) hb⟩
theorem ML.add {w2 w4 : World} {g4 c4 : Nat} {x : Mle × Sl} (h : ML T B w A n c xs) (hT : T ≠ 5) (hx : OwnB w2 B x.2.1 x.2.2.1 x.2.2.2 x.1.b) (hb : Below w.heap.size w w2) (hb3 : Below w2.heap.size w2 w')
    (own4 : w4.ownsRow B T 3 (.slice (some ⟨g4, 0, none⟩) (n + 1) c4) (n + 1) (xs.flatMap mrow ++ mrow x)) (k4 : Keeps (Mine A n c) w' w4) : ML T B w4 (some ⟨g4, 0, none⟩) (n + 1) c4 (xs ++ [x]) := by
  have off : Off (Mine A n c) w' [5] := Off.of (T := T) (owns_tb (ownsRow_below (ownsRow_below h.row hb) hb3)) (by simpa using hT)
  refine ⟨by rw [List.flatMap_append, List.flatMap_singleton]; exact own4, fun y hy => ?_⟩
  rcases List.mem_append.1 hy with hy | hy
  · exact owns_off (((h.line y hy).below hb).below hb3) k4 off (by simp)
  · rw [List.mem_singleton.1 hy]
    exact owns_off (hx.below hb3) k4 off (by simp)
theorem ML.keepsBelow {w4 : World} (h : ML T B w A n c xs) (hB : B ≤ w.heap.size) (k4 : Keeps (Mine A n c) w w4) : Below B w w4 := k4.below hB fun k hk hm => by have := World.ownsRow.lt h.row k hm.symm; omega
end
theorem elem_mails : ElemN 42 47 (.agg #[.int .i64 0, .int .i64 0, .slice none 0 0]) 3 40 := ⟨Try.underlying42, by kernel_rfl, rfl, by omega⟩
/-- What who quits sends. -/
def Co.quitTo (s : Co) (j : Nat) : Mle := ⟨s.cfg.me, j, (⟨2, s.cfg.me, j, s.cfg.id, 0, [], 0, 0, 0⟩ : Pkt).enc⟩
def Co.them (s : Co) : List Nat := othersOf s.peers.length s.cfg.me.toNat
def Co.quitMails (s : Co) : List Mle := if s.closed = true then [] else s.them.map s.quitTo
def Co.quit (s : Co) : Co := { s with closed := true }
theorem othersOf_pos {n me : Nat} (h : 2 ≤ n) : 0 < (othersOf n me).length := by
  apply List.length_pos_of_mem (a := if me = 0 then 1 else 0)
  unfold othersOf
  rw [List.mem_filter, List.mem_range]
  split
  · exact ⟨by omega, by simp; omega⟩
  · exact ⟨by omega, by simp; omega⟩
theorem take_succ_map {α β : Type} (f : α → β) (l : List α) (k : Nat) (h : k < l.length) : (l.take (k + 1)).map f = (l.take k).map f ++ [f l[k]] := by
  rw [List.take_succ_eq_append_getElem h, List.map_append]; rfl
theorem core_Quit_nil (w : World) : Calls Try.prog 32 #[.pointer none] w fun r w' => r = .returned (.slice none 0 0) ∧ w = w' := by
  go_enter Try.func32, Try.ntmps32
  go_wp2_with fail
  refine Calls.mono (core_Closed_nil w) ?_
  rintro r w2 ⟨rfl, rfl⟩
  go_wp2_with fail
  go_ret
  exact ⟨rfl, rfl⟩
set_option maxHeartbeats 4000000 in
theorem core_Quit {B : Nat} {w : World} {x : Nat} {p : CP} {s : Co} (h : CAt B w x p s) (hB : B ≤ w.heap.size) :
    Calls Try.prog 32 #[.pointer (some ⟨x, 0, none⟩)] w fun r w' => ∃ A n c xs, r = .returned (.slice A n c) ∧ ML 47 w.heap.size w' A n c xs ∧ xs.map Prod.fst = s.quitMails ∧ CAt B w' x p s.quit ∧ Stp w w' x p p := by
  have H := hide h
  have HB := hide hB
  obtain ⟨cl, hcl⟩ : ∃ cl, cl = s.closed := ⟨_, rfl⟩
  have HCL := hide hcl
  obtain ⟨Q, hQ⟩ : ∃ Q, Q = s.quitMails := ⟨_, rfl⟩
  have HQ := hide hQ
  obtain ⟨S, hS⟩ : ∃ S, S = s.quit := ⟨_, rfl⟩
  have HS := hide hS
  rw [← hQ, ← hS]
  have cc := h.cell (coRow_closed s p)
  have fz := h.hfrozen 15
  clear h hB hcl hQ hS
  go_enter Try.func32, Try.ntmps32
  go_wp2_with fail
  refine Calls.mono (core_Closed H.out) ?_
  rintro r w2 ⟨rfl, rfl⟩
  rw [← HCL.out]
  cases cl with
  | true =>
    have hSs : S = s := by
      rw [HS.out, Co.quit]
      have := HCL.out
      cases s
      simp only at this
      rw [← this]
    go_wp2_with fail
    go_ret
    exact ⟨none, 0, 0, [], rfl, ML.nil _ _ _, by rw [HQ.out, Co.quitMails, if_pos HCL.out.symm]; rfl, by rw [hSs]; exact H.out, Stp.refl _ _ _⟩
  | false =>
    obtain ⟨mi, hme, hmi, hmil, hll, h8⟩ := H.out.me
    have HME := hide hme
    have hn8 : s.peers.length ≤ 8 := by have := H.out.ok.np; have := H.out.ok.cfg.n; omega
    have HS2 := hide (H.out.setHead 15 (.bool true) s.quit (by rfl) rfl rfl rfl rfl ⟨H.out.ok.cfg, H.out.ok.np, H.out.ok.nl, H.out.ok.short, H.out.ok.head, H.out.ok.has, H.out.ok.heard, H.out.ok.frame, H.out.ok.sum, H.out.ok.marks, H.out.ok.mark, H.out.ok.now, H.out.ok.events⟩)
    have hq2 : s.quitMails = s.them.map s.quitTo := by rw [Co.quitMails, if_neg (by rw [← HCL.out]; decide)]
    have HQ2 : Hid (Q = (othersOf s.peers.length mi).map s.quitTo) := by show _ = _; rw [HQ.out, hq2, Co.them, hme, Int.toNat_natCast]
    have HSZ : Hid ((w.setCell ⟨x, 15, none⟩ (.bool true)).heap.size = w.heap.size) := World.size_setCell _ _ _
    clear hq2 hmi hmil hll hme
    go_upto_region 5 with fail
    generalize World.setCell w _ _ = w1 at HS2 HSZ ⊢
    have HC1 := hide HS2.out.1
    go_wp2_with fail
    refine Calls.mono (core_others HC1.out mi HME.out) ?_
    rintro r w2 ⟨oA, oc, rfl, ho2, hb2⟩
    have hlen : (Co.quit s).peers.length = s.peers.length := rfl
    rw [hlen] at ho2 ⊢
    obtain ⟨L, hL⟩ : ∃ L, L = othersOf s.peers.length mi := ⟨_, rfl⟩
    rw [← hL] at ho2 ⊢
    have HL := hide hL
    have hL1 : 0 < L.length := by rw [hL]; exact othersOf_pos (by have := H.out.ok.np; have := H.out.ok.cfg.n; omega)
    have hL8 : L.length ≤ 8 := by rw [hL]; exact Nat.le_trans (othersOf_len _ _) hn8
    obtain ⟨n, hn⟩ : ∃ n, n = L.length := ⟨_, rfl⟩
    rw [← hn] at ho2 hL8 hL1 ⊢
    have HN := hide hn
    obtain ⟨gL, hgL, -, -⟩ := ho2.form hL1
    subst hgL
    have HO2 := hide ho2
    have HB2 := hide hb2
    clear ho2 hb2 hL hn hlen cc fz
    go_wp2_with fail
    go_loopg [3, 14] n (fun gg s3 s14 wr => ∃ (k : Nat) (A : Option Addr) (c : Nat) (xs : List (Mle × Sl)), k ≤ n ∧ gg = n - k ∧ s14 = .int .i64 (k : Int) ∧ s3 = .slice A k c ∧ Hid (ML 47 w1.heap.size wr A k c xs) ∧ Hid (xs.map Prod.fst = (L.take k).map s.quitTo) ∧ Hid (OwnV 3 wr w1.heap.size (some ⟨gL, 0, none⟩) n oc (L.map iv)) ∧ Hid (Below w1.heap.size w1 wr))
    case atStart => exact ⟨0, none, 0, [], by omega, rfl, rfl, rfl, ML.nil _ _ _, rfl, HO2, HB2⟩
    case round =>
      obtain ⟨W1, hW1⟩ : ∃ W1, W1 = wr := ⟨_, rfl⟩
      subst hW1
      obtain ⟨k, A, c, xs, hkn, rfl, rfl, rfl, HML, HXS, HO, HBW⟩ := hrel
      by_cases hlt : k < n
      · obtain ⟨hl9, c9⟩ := HO.out.cell hlt
        have hlL : k < L.length := by rw [← HN.out]; exact hlt
        obtain ⟨j, hj⟩ : ∃ j, j = L[k] := ⟨_, rfl⟩
        have hc9 : W1.cell? ⟨gL, k, none⟩ = some (.int .i64 (j : Int)) := by rw [c9, List.getElem_map, hj]; rfl
        have HXS2 : Hid ((L.take (k + 1)).map s.quitTo = (L.take k).map s.quitTo ++ [s.quitTo j]) := by show _ = _; rw [take_succ_map _ _ _ hlL, hj]
        have HCW := hide (HC1.out.below HBW.out)
        have hki : (k : Int) < (n : Int) := by omega
        have hszW : w1.heap.size ≤ W1.heap.size := HBW.out.size
        clear hl9 c9 hj hlL
        go_wp2_with fail
        refine Calls.mono (core_mail HCW.out ⟨2, 0, 0, 0, 0, [], 0, 0, 0⟩ (LiesB.nil _ _ none) (Nat.le_refl _) (by omega) ⟨by show (0 : Int) ≤ 0; omega, by show (0 : Int) < _; omega⟩ (j : Int)) ?_
        rintro r w8 ⟨A8, n8, c8, rfl, ho8, hb8⟩
        have bn := Below_new w8 (.cells #[.int .i64 s.cfg.me, .int .i64 (j : Int), .slice A8 n8 c8] 47)
        have HML2 := hide ((HML.out.below hb8).below bn)
        have HL2 := hide (Lies.new w8 #[.int .i64 s.cfg.me, .int .i64 (j : Int), .slice A8 n8 c8] 47 (0, 0))
        have HB8 := hide (HBW.out.trans (hb8.mono hszW))
        have HB9 := hide (Below_step HB8.out bn)
        have HO8 := hide ho8
        have HBN := hide bn
        have HBB := hide hb8
        have hB9 : w1.heap.size ≤ (World.alloc w8 (.cells #[.int .i64 s.cfg.me, .int .i64 (j : Int), .slice A8 n8 c8] 47)).heap.size := HB9.out.size
        clear bn ho8 hb8
        have hme2 : s.quit.cfg.me = s.cfg.me := rfl
        rw [hme2]
        clear hme2
        go_wp2_with (refine wpN_append elem_mails rfl (.tmp 18) (.tmp 23) rfl w1.heap.size A k c _ rfl HML2.out.row _ _ 1 [.int .i64 s.cfg.me, .int .i64 (j : Int), .slice A8 n8 c8] rfl rfl HL2.out (by simp [Value.oneCell']) (by omega) (by omega) hB9 ?_; intro g9 c9 w9 own9 k9 hk9; have HOW := hide own9; have HK9 := hide k9; clear own9 k9 hk9)
        go_roundg (n - (k + 1))
        case measure => omega
        case rel =>
          refine ⟨k + 1, some ⟨g9, 0, none⟩, c9, xs ++ [(s.quitTo j, (A8, n8, c8))], by omega, rfl, by go_num, rfl, ?_, ?_, ?_, ?_⟩
          · exact HML.out.add (x := (s.quitTo j, (A8, n8, c8))) (by decide) (OwnB.base_le HO8.out hszW) HBB.out HBN.out HOW.out HK9.out
          · show _ = _
            rw [HXS2.out, ← HXS.out, List.map_append]; rfl
          · exact owns_off ((HO.out.below HBB.out).below HBN.out) HK9.out (Off.of (Ts := [3]) (owns_tb HML2.out.row) (by decide)) (by simp)
          · exact HB9.out.trans (HML2.out.keepsBelow hB9 HK9.out)
      · obtain rfl : k = n := by omega
        go_wp2_with fail
        go_ret
        have e1 : w1.heap.size = w.heap.size := HSZ.out
        refine ⟨A, k, c, xs, rfl, by have := HML.out; rw [e1] at this; exact this, ?_, by rw [HS.out]; exact HC1.out.below HBW.out, HS2.out.2.trans (Stp.of_below HBW.out)⟩
        rw [HXS.out, HQ2.out, HN.out, List.take_length, HL.out]
end Go.Proofs.Ytbcgffgiifminaa
namespace Go.Proofs.Ytbcgffgiifminaa
open Go.RowKit
set_option maxRecDepth 10000
set_option linter.unusedVariables false
def Peer.zero : Peer := ⟨0, 0, 0, 0, false⟩
def Co.ticked (s : Co) : Co := { s with now := s.now + 1 }
/-- Was nothing heard of a player for long? -/
def Co.isLate (s : Co) (j : Nat) : Bool := decide (40 ≤ s.now - (s.peers.getD j Peer.zero).heard)
def Co.lateWho (s : Co) : Option Nat := s.them.find? s.isLate
def Co.tick (s : Co) : Co := if s.closed = true then s else match s.ticked.lateWho with
  | some j => { s.ticked with events := s.events ++ [.late j], closed := true }
  | none => s.ticked
def Co.tellTo (s : Co) (j : Nat) : Mle := ⟨s.cfg.me, j, (s.telling j).enc⟩
def Co.tickMails (s : Co) : List Mle := if s.closed = true then [] else match s.ticked.lateWho with
  | some _ => []
  | none => s.them.map s.ticked.tellTo
theorem Co.Ok.tick {s : Co} (h : s.Ok) (hn : s.now < 1000000000) : s.ticked.Ok := ⟨h.cfg, h.np, h.nl, h.short, h.head, h.has, fun p hp => by have := h.heard p hp; show _ ∧ p.heard ≤ s.now + 1; omega, h.frame, h.sum, h.marks, h.mark, by have := h.now; show 0 ≤ s.now + 1 ∧ s.now + 1 ≤ _; omega, h.events⟩
theorem mem_others {n me j : Nat} : j ∈ othersOf n me ↔ j < n ∧ j ≠ me := by unfold othersOf; simp
theorem core_Tick_nil (w : World) : Calls Try.prog 22 #[.pointer none] w fun r w' => r = .returned (.slice none 0 0) ∧ w = w' := by
  go_enter Try.func22, Try.ntmps22
  go_wp2_with fail
  refine Calls.mono (core_Closed_nil w) ?_
  rintro r w2 ⟨rfl, rfl⟩
  go_wp2_with fail
  go_ret
  exact ⟨rfl, rfl⟩
set_option maxHeartbeats 8000000 in
theorem core_Tick {B : Nat} {w : World} {x : Nat} {p : CP} {s : Co} (h : CAt B w x p s) (hB : B ≤ w.heap.size) (hnow : s.now < 1000000000) (hen : p.en < 1000000000) :
    Calls Try.prog 22 #[.pointer (some ⟨x, 0, none⟩)] w fun r w' => ∃ A n c xs, r = .returned (.slice A n c) ∧ ML 47 w.heap.size w' A n c xs ∧ xs.map Prod.fst = s.tickMails ∧ ∃ p', CAt B w' x p' s.tick ∧ Stp w w' x p p' ∧ (0 < n → p' = p) := by
  have H := hide h
  have HB := hide hB
  obtain ⟨cl, hcl⟩ : ∃ cl, cl = s.closed := ⟨_, rfl⟩
  have HCL := hide hcl
  obtain ⟨Q, hQ⟩ : ∃ Q, Q = s.tickMails := ⟨_, rfl⟩
  have HQ := hide hQ
  obtain ⟨S, hS⟩ : ∃ S, S = s.tick := ⟨_, rfl⟩
  have HS := hide hS
  rw [← hQ, ← hS]
  have cn := h.cell (coRow_now s p)
  have fz := h.hfrozen 14
  clear h hB hcl hQ hS
  go_enter Try.func22, Try.ntmps22
  go_wp2_with fail
  refine Calls.mono (core_Closed H.out) ?_
  rintro r w2 ⟨rfl, rfl⟩
  rw [← HCL.out]
  cases cl with
  | true =>
    have hSs : S = s := by rw [HS.out, Co.tick, if_pos HCL.out.symm]
    go_wp2_with fail
    go_ret
    exact ⟨none, 0, 0, [], rfl, ML.nil _ _ _, by rw [HQ.out, Co.tickMails, if_pos HCL.out.symm]; rfl, p, by rw [hSs]; exact H.out, Stp.refl _ _ _, fun _ => rfl⟩
  | false =>
    obtain ⟨mi, hme, hmi, hmil, hll, h8⟩ := H.out.me
    have HME := hide hme
    have hn8 : s.peers.length ≤ 8 := by have := H.out.ok.np; have := H.out.ok.cfg.n; omega
    obtain ⟨nw, hnw⟩ : ∃ nw, nw = s.now := ⟨_, rfl⟩
    have HNW := hide hnw
    rw [← hnw] at cn
    have hnw2 : 0 ≤ nw ∧ nw < 1000000000 := by have := H.out.ok.now; rw [hnw]; omega
    have hww : IntKind.i64.wrap (nw + 1) = nw + 1 := IntWalk.i64_in _ ⟨by omega, by omega⟩
    have HS2 := hide (H.out.setHead 14 (.int .i64 (nw + 1)) s.ticked (by rw [hnw]; rfl) rfl rfl rfl rfl (H.out.ok.tick hnow))
    have HSZ : Hid ((w.setCell ⟨x, 14, none⟩ (.int .i64 (nw + 1))).heap.size = w.heap.size) := World.size_setCell _ _ _
    clear hmi hmil hll hme hnw
    go_upto_region 5 with fail
    generalize World.setCell w _ _ = w1 at HS2 HSZ ⊢
    have HC1 := hide HS2.out.1
    go_wp2_with fail
    refine Calls.mono (core_others HC1.out mi HME.out) ?_
    rintro r w2 ⟨oA, oc, rfl, ho2, hb2⟩
    have hlen : s.ticked.peers.length = s.peers.length := rfl
    rw [hlen] at ho2 ⊢
    obtain ⟨L, hL⟩ : ∃ L, L = othersOf s.peers.length mi := ⟨_, rfl⟩
    rw [← hL] at ho2 ⊢
    have HL := hide hL
    have hL1 : 0 < L.length := by rw [hL]; exact othersOf_pos (by have := H.out.ok.np; have := H.out.ok.cfg.n; omega)
    have hL8 : L.length ≤ 8 := by rw [hL]; exact Nat.le_trans (othersOf_len _ _) hn8
    have HLM : Hid (∀ j ∈ L, j < s.peers.length) := fun j hj => by rw [hL] at hj; exact (mem_others.1 hj).1
    have HTH : Hid (s.them = L) := by show _ = _; rw [hL, Co.them, HME.out, Int.toNat_natCast]
    obtain ⟨n, hn⟩ : ∃ n, n = L.length := ⟨_, rfl⟩
    rw [← hn] at ho2 hL8 hL1 ⊢
    have HN := hide hn
    obtain ⟨gL, hgL, -, -⟩ := ho2.form hL1
    subst hgL
    have HO2 := hide ho2
    have HC2 := hide (HC1.out.below hb2)
    have HB2 := hide hb2
    clear ho2 hb2 hL hn hlen cn fz
    go_wp2_with fail
    go_loopg [20] n (fun gg s20 wr => ∃ (k : Nat) (nd : Nat), k ≤ n ∧ gg = n - k ∧ s20 = .int .i64 (k : Int) ∧ wr = w2.drewN nd ∧ Hid (∀ j ∈ L.take k, s.ticked.isLate j = false))
    case atStart => exact ⟨0, 0, by omega, rfl, rfl, rfl, fun j hj => by simp at hj⟩
    case round =>
      obtain ⟨W1, hW1⟩ : ∃ W1, W1 = wr := ⟨_, rfl⟩
      subst hW1
      obtain ⟨k, nd, hkn, rfl, rfl, hnd, HNL⟩ := hrel
      have HND := hide hnd
      have HCW : Hid (CAt B W1 x p s.ticked) := by show CAt _ _ _ _ _; rw [hnd]; exact HC2.out.drewN nd
      have HOW : Hid (OwnV 3 W1 w1.heap.size (some ⟨gL, 0, none⟩) n oc (L.map iv)) := by show OwnV _ _ _ _ _ _ _; rw [hnd]; exact HO2.out.below (Below_drewN (Below.refl _ _) nd)
      have HBW : Hid (Below w1.heap.size w1 W1) := by show Below _ _ _; rw [hnd]; exact Below_drewN HB2.out nd
      clear hnd
      by_cases hlt : k < n
      · obtain ⟨hl9, c9⟩ := HOW.out.cell hlt
        have hlL : k < L.length := by rw [← HN.out]; exact hlt
        obtain ⟨j, hj⟩ : ∃ j, j = L[k] := ⟨_, rfl⟩
        have hc9 : W1.cell? ⟨gL, k, none⟩ = some (.int .i64 (j : Int)) := by rw [c9, List.getElem_map, hj]; rfl
        have hjn : j < s.peers.length := HLM.out j (by rw [hj]; exact List.getElem_mem _)
        have HJ : Hid (L[k]? = some j) := by show _ = _; rw [List.getElem?_eq_getElem hlL, hj]
        obtain ⟨pr, hpr⟩ : ∃ pr, pr = s.peers[j] := ⟨_, rfl⟩
        have hpr2 : s.ticked.peers[j]'hjn = pr := hpr.symm
        obtain ⟨hd, hhd⟩ : ∃ hd, hd = pr.heard := ⟨_, rfl⟩
        have c1 : W1.cell? ⟨p.g, j * 5 + 1, none⟩ = some (.int .i64 hd) := HCW.out.pcell (j := 1) (v := .int .i64 hd) (i := j) hjn (by omega) (by rw [hpr2, hhd]; rfl)
        have hhd2 : 0 ≤ hd ∧ hd ≤ nw := by rw [hhd, HNW.out]; exact H.out.ok.heard pr (by rw [hpr]; exact List.getElem_mem _)
        have cP := HCW.out.cell (coRow_peers _ _)
        have hnp : s.ticked.peers.length = s.peers.length := rfl
        obtain ⟨np, hnp2⟩ : ∃ np, np = s.peers.length := ⟨_, rfl⟩
        rw [hnp, ← hnp2] at cP
        have hjn2 : (j : Int) < (np : Int) := by rw [hnp2]; omega
        have cN := HCW.out.cell (coRow_now _ _)
        have hnn : s.ticked.now = nw + 1 := by rw [HNW.out]; rfl
        rw [hnn] at cN
        have hw2 : IntKind.i64.wrap (nw + 1 - hd) = nw + 1 - hd := IntWalk.i64_in _ ⟨by omega, by omega⟩
        obtain ⟨z, hz⟩ : ∃ z : Bool, decide (nw + 1 - hd ≥ 40) = z := ⟨_, rfl⟩
        have HZ : Hid (s.ticked.isLate j = z) := by
          show _ = _
          have hg : s.ticked.peers.getD j Peer.zero = pr := by show s.peers.getD j Peer.zero = pr; rw [List.getD_eq_getElem?_getD, List.getElem?_eq_getElem hjn, hpr]; rfl
          rw [← hz, Co.isLate, hnn, hg, ← hhd]
        have HJN := hide hjn
        have hki : (k : Int) < (n : Int) := by omega
        clear hl9 c9 hj hlL hpr hpr2 hhd hnp hnp2 hnn hjn
        go_upto_region 8 with fail
        go_cut [37] from 21 to 45 (fun s37 wx => s37 = .bool z ∧ ∃ nd2, wx = W1.drewN nd2)
        case first =>
          go_quiet (fail)
          go_wp2_with fail
          go_meet
          exact ⟨rfl, _, rfl⟩
        case rest =>
        obtain ⟨rfl, nd2, hnd2⟩ := hcut
        obtain ⟨W2, hW2⟩ : ∃ W2, W2 = wc := ⟨_, rfl⟩
        subst hW2
        have HND2 : Hid (W2 = w2.drewN (nd + nd2)) := by show _ = _; rw [hnd2, HND.out]; exact World.drewN_drewN _ _ _
        have HC3 : Hid (CAt B W2 x p s.ticked) := by show CAt _ _ _ _ _; rw [hnd2]; exact HCW.out.drewN nd2
        have HB3 : Hid (Below w1.heap.size w1 W2) := by show Below _ _ _; rw [hnd2]; exact Below_drewN HBW.out nd2
        clear hnd2 c1 cP cN
        cases z with
        | false =>
          go_wp2_with fail
          go_roundg (n - (k + 1))
          case measure => omega
          case rel =>
            refine ⟨k + 1, nd + nd2, by omega, rfl, by go_num, HND2.out, ?_⟩
            intro q hq
            rw [List.take_add_one, HJ.out] at hq
            rcases List.mem_append.1 hq with hq | hq
            · exact HNL.out q hq
            · have : q = j := by simpa using hq
              rw [this]; exact HZ.out
        | true =>
          have HLW : Hid (s.ticked.lateWho = some j) := by
            show _ = _
            have e1 : s.ticked.lateWho = s.them.find? s.ticked.isLate := rfl
            obtain ⟨hlk, hjk⟩ := List.getElem?_eq_some_iff.1 HJ.out
            rw [e1, HTH.out, List.find?_eq_some_iff_append]
            refine ⟨HZ.out, L.take k, L.drop (k + 1), ?_, fun q hq => by rw [HNL.out q hq]; rfl⟩
            rw [← hjk, List.getElem_cons_drop, List.take_append_drop]
          have hB3 : B ≤ W2.heap.size := by have := HB.out; have := HSZ.out; have := HB3.out.size; omega
          have hj8 : j < 8 := by have := HJN.out; omega
          go_wp2_with fail
          refine Calls.mono (core_note HC3.out hB3 (.late (j : Int)) ⟨⟨by show 0 ≤ (j : Int); omega, by show (j : Int) < 8; omega⟩, ⟨by show (0 : Int) ≤ 0; omega, by show (0 : Int) ≤ 1000; omega⟩⟩ hen) ?_
          rintro r w5 ⟨rfl, p5, hc5, hst5⟩
          have HC5 := hide hc5
          have HST5 := hide hst5
          have f15 := hc5.hfrozen 15
          have c15 := hc5.cell (coRow_closed _ _)
          have HC6 := hide (hc5.setHead 15 (.bool true) { s.ticked with events := s.ticked.events ++ [.late (j : Int)], closed := true } (by rfl) rfl rfl rfl rfl ⟨hc5.ok.cfg, hc5.ok.np, hc5.ok.nl, hc5.ok.short, hc5.ok.head, hc5.ok.has, hc5.ok.heard, hc5.ok.frame, hc5.ok.sum, hc5.ok.marks, hc5.ok.mark, hc5.ok.now, hc5.ok.events⟩)
          clear hc5 hst5
          go_wp2_with fail
          go_ret
          refine ⟨none, 0, 0, [], rfl, ML.nil _ _ _, ?_, p5, ?_, ((HS2.out.2.trans (Stp.of_below HB3.out)).trans HST5.out).trans HC6.out.2, fun h => absurd h (by omega)⟩
          · rw [HQ.out, Co.tickMails, if_neg (by rw [← HCL.out]; decide), HLW.out]; rfl
          · rw [HS.out, Co.tick, if_neg (by rw [← HCL.out]; decide), HLW.out]
            exact HC6.out.1
      · obtain rfl : n = k := by omega
        have HLW : Hid (s.ticked.lateWho = none) := by
          show _ = _
          have e1 : s.ticked.lateWho = s.them.find? s.ticked.isLate := rfl
          rw [e1, HTH.out, List.find?_eq_none]
          intro q hq
          rw [HNL.out q (by rw [HN.out, List.take_length]; exact hq)]
          decide
        clear HNL
        go_wp2_with fail
        refine Calls.mono (core_others HCW.out mi HME.out) ?_
        rintro r w3 ⟨oA, oc3, rfl, ho3, hb3⟩
        have hlen : s.ticked.peers.length = s.peers.length := rfl
        rw [hlen, ← HL.out, ← HN.out] at ho3 ⊢
        obtain ⟨g3, hg3, -, -⟩ := ho3.form hL1
        subst hg3
        have HO3 := hide (ho3.base_le HBW.out.size)
        have HB3 := hide (Below_step HBW.out hb3)
        clear ho3 hb3 hlen
        go_wp2_with fail
        go_loopg [3, 49] n (fun gg s3 s49 wr => ∃ (k : Nat) (A : Option Addr) (c : Nat) (xs : List (Mle × Sl)), k ≤ n ∧ gg = n - k ∧ s49 = .int .i64 (k : Int) ∧ s3 = .slice A k c ∧ Hid (ML 47 w1.heap.size wr A k c xs) ∧ Hid (xs.map Prod.fst = (L.take k).map s.ticked.tellTo) ∧ Hid (OwnV 3 wr w1.heap.size (some ⟨g3, 0, none⟩) n oc3 (L.map iv)) ∧ Hid (Below w1.heap.size w1 wr))
        case atStart => exact ⟨0, none, 0, [], by omega, rfl, rfl, rfl, ML.nil _ _ _, rfl, HO3, HB3⟩
        case round =>
          obtain ⟨W1, hW1⟩ : ∃ W1, W1 = wr := ⟨_, rfl⟩
          subst hW1
          obtain ⟨k, A, c, xs, hkn, rfl, rfl, rfl, HML, HXS, HO, HBW⟩ := hrel
          by_cases hlt : k < n
          · obtain ⟨hl9, c9⟩ := HO.out.cell hlt
            have hlL : k < L.length := by rw [← HN.out]; exact hlt
            obtain ⟨j, hj⟩ : ∃ j, j = L[k] := ⟨_, rfl⟩
            have hc9 : W1.cell? ⟨g3, k, none⟩ = some (.int .i64 (j : Int)) := by rw [c9, List.getElem_map, hj]; rfl
            have HXS2 : Hid ((L.take (k + 1)).map s.ticked.tellTo = (L.take k).map s.ticked.tellTo ++ [s.ticked.tellTo j]) := by show _ = _; rw [take_succ_map _ _ _ hlL, hj]
            have HCW := hide (HC1.out.below HBW.out)
            have hki : (k : Int) < (n : Int) := by omega
            have hjn : j < s.ticked.peers.length := HLM.out j (by rw [hj]; exact List.getElem_mem _)
            have hBW : B ≤ W1.heap.size := by have := HB.out; have := HSZ.out; have := HBW.out.size; omega
            have hszW : w1.heap.size ≤ W1.heap.size := HBW.out.size
            clear hl9 c9 hj hlL
            go_wp2_with fail
            refine Calls.mono (core_input HCW.out hBW j hjn rfl) ?_
            rintro r w8 ⟨A8, n8, c8, rfl, ho8, hb8⟩
            have bn := Below_new w8 (.cells #[.int .i64 s.cfg.me, .int .i64 (j : Int), .slice A8 n8 c8] 47)
            have HML2 := hide ((HML.out.below hb8).below bn)
            have HL2 := hide (Lies.new w8 #[.int .i64 s.cfg.me, .int .i64 (j : Int), .slice A8 n8 c8] 47 (0, 0))
            have HB8 := hide (HBW.out.trans (hb8.mono hszW))
            have HB9 := hide (Below_step HB8.out bn)
            have HO8 := hide ho8
            have HBN := hide bn
            have HBB := hide hb8
            have hB9 : w1.heap.size ≤ (World.alloc w8 (.cells #[.int .i64 s.cfg.me, .int .i64 (j : Int), .slice A8 n8 c8] 47)).heap.size := HB9.out.size
            clear bn ho8 hb8
            have hme2 : s.ticked.cfg.me = s.cfg.me := rfl
            rw [hme2]
            clear hme2
            go_wp2_with (refine wpN_append elem_mails rfl (.tmp 53) (.tmp 57) rfl w1.heap.size A k c _ rfl HML2.out.row _ _ 1 [.int .i64 s.cfg.me, .int .i64 (j : Int), .slice A8 n8 c8] rfl rfl HL2.out (by simp [Value.oneCell']) (by omega) (by omega) hB9 ?_; intro g9 c9 w9 own9 k9 hk9; have HOW := hide own9; have HK9 := hide k9; clear own9 k9 hk9)
            go_roundg (n - (k + 1))
            case measure => omega
            case rel =>
              refine ⟨k + 1, some ⟨g9, 0, none⟩, c9, xs ++ [(s.ticked.tellTo j, (A8, n8, c8))], by omega, rfl, by go_num, rfl, ?_, ?_, ?_, ?_⟩
              · exact HML.out.add (x := (s.ticked.tellTo j, (A8, n8, c8))) (by decide) (OwnB.base_le HO8.out hszW) HBB.out HBN.out HOW.out HK9.out
              · show _ = _
                rw [HXS2.out, ← HXS.out, List.map_append]; rfl
              · exact owns_off ((HO.out.below HBB.out).below HBN.out) HK9.out (Off.of (Ts := [3]) (owns_tb HML2.out.row) (by decide)) (by simp)
              · exact HB9.out.trans (HML2.out.keepsBelow hB9 HK9.out)
          · obtain rfl : k = n := by omega
            go_wp2_with fail
            go_ret
            have e1 : w1.heap.size = w.heap.size := HSZ.out
            refine ⟨A, k, c, xs, rfl, by have := HML.out; rw [e1] at this; exact this, ?_, p, by rw [HS.out, Co.tick, if_neg (by rw [← HCL.out]; decide), HLW.out]; exact HC1.out.below HBW.out, HS2.out.2.trans (Stp.of_below HBW.out), fun _ => rfl⟩
            rw [HXS.out, HQ.out, Co.tickMails, if_neg (by rw [← HCL.out]; decide), HLW.out, HN.out, List.take_length, HTH.out]
end Go.Proofs.Ytbcgffgiifminaa
namespace Go.Proofs.Ytbcgffgiifminaa
open Go.RowKit
set_option maxRecDepth 10000
set_option linter.unusedVariables false
def Co.setP (s : Co) (j : Nat) (q : Peer) : Co := { s with peers := s.peers.set j q }
def Co.pr (s : Co) (j : Nat) : Peer := s.peers.getD j Peer.zero
def Co.hear1 (s : Co) (j : Nat) : Co := s.setP j { s.pr j with heard := s.now }
def Co.hear2 (s : Co) (j : Nat) (p : Pkt) : Co := { s with ls := s.ls.set j (s.ls.getD j [] ++ putAdd (s.ls.getD j []) p.first p.press) }
def Co.acks (s : Co) (j : Nat) (p : Pkt) : Bool := decide (p.ack > (s.pr j).has) && decide (p.ack ≤ (s.mine.length : Int))
def Co.hear3 (s : Co) (j : Nat) (p : Pkt) : Co := if s.acks j p = true then s.setP j { s.pr j with has := p.ack } else s
def Co.words (s : Co) (j : Nat) (p : Pkt) : Bool := decide (p.frame > 0) && decide (p.frame ≥ (s.pr j).frame)
def Co.hear4 (s : Co) (j : Nat) (p : Pkt) : Co := if s.words j p = true then s.setP j { s.pr j with frame := p.frame, sum := p.sum } else s
/-- What a player knows behind a packet that is for it. -/
def Co.hear (s : Co) (p : Pkt) : Co :=
  if p.kind = 2 then { s.hear1 p.src.toNat with events := s.events ++ [.quit p.src], closed := true }
  else ((((s.hear1 p.src.toNat).hear2 p.src.toNat p).hear3 p.src.toNat p).hear4 p.src.toNat p).hold
/-- Is it for this player, of this game, of one of its players? -/
def Co.fits (s : Co) (p : Pkt) : Bool := decide (p.dst = s.cfg.me) && (decide (p.src < s.cfg.n) && decide (p.id = s.cfg.id))
section
variable {B : Nat} {w : World} {x : Nat} {p : CP} {s : Co}
theorem CAt.off (h : CAt B w x p s) {Ts : List TypeId} (h1 : ∀ T ∈ [84, 90, 50, 109, 5, 86, 39, 114], T ∉ Ts) : Off (cBlocks x p) w Ts := by
  intro k hk T hT hb
  have key : ∀ T', T' ∈ [84, 90, 50, 109, 5, 86, 39, 114] → TB w k T' → False := fun T' hm hb' => by
    rw [hb.one hb'] at hT
    exact h1 T' hm hT
  rcases hk with rfl | rfl | hk | ⟨i, hi, hk⟩ | rfl | hk | hk
  · exact key _ (by simp) h.head.tb
  · exact key _ (by simp) h.q.head.tb
  · exact key _ (by simp) (owns_tb h.q.row k hk)
  · rcases (h.line i hi).tb k hk with h' | h'
    · exact key _ (by simp) h'
    · exact key _ (by simp) h'
  · exact key _ (by simp) (owns_tb h.peers _ rfl)
  · exact key _ (by simp) (owns_tb h.marks k hk)
  · exact key _ (by simp) (owns_tb h.events k hk)
end
theorem core_Receive_nil (A : Option Addr) (n c : Nat) (w : World) : Calls Try.prog 20 #[.pointer none, .slice A n c] w fun r w' => r = .returned (.int .i64 6) ∧ w = w' := by
  go_enter Try.func20, Try.ntmps20
  go_wp2_with fail
  refine Calls.mono (core_Closed_nil w) ?_
  rintro r w2 ⟨rfl, rfl⟩
  go_wp2_with fail
  go_ret
  exact ⟨rfl, rfl⟩
theorem core_Receive_closed {B : Nat} {w : World} {x : Nat} {p : CP} {s : Co} (h : CAt B w x p s) (hcl : s.closed = true) (A : Option Addr) (n c : Nat) : Calls Try.prog 20 #[.pointer (some ⟨x, 0, none⟩), .slice A n c] w fun r w' => r = .returned (.int .i64 6) ∧ w = w' := by
  have H := hide h
  have HC := hide hcl
  clear h hcl
  go_enter Try.func20, Try.ntmps20
  go_wp2_with fail
  refine Calls.mono (core_Closed H.out) ?_
  rintro r w2 ⟨rfl, rfl⟩
  rw [HC.out]
  go_wp2_with fail
  go_ret
  exact ⟨rfl, rfl⟩
set_option maxHeartbeats 2000000 in
theorem core_Receive_no {B : Nat} {w : World} {x : Nat} {p : CP} {s : Co} (h : CAt B w x p s) (hcl : s.closed = false) {A : Option Addr} {n c B' : Nat} {b : List UInt8} (hb : ∀ q, ¬ Pkt.Is b q) (hA : LiesB w B' A n b) (hB' : B' ≤ w.heap.size) (hnc : n ≤ c) (hn : n ≤ 1000000) :
    Calls Try.prog 20 #[.pointer (some ⟨x, 0, none⟩), .slice A n c] w fun r w' => r = .returned (.int .i64 1) ∧ Below w.heap.size w w' := by
  have H := hide h
  have HC := hide hcl
  have HNO := hide hb
  have HA := hide hA
  have HBB := hide hB'
  have HNC := hide hnc
  clear h hcl hb hA hB' hnc
  go_enter Try.func20, Try.ntmps20
  go_wp2_with fail
  refine Calls.mono (core_Closed H.out) ?_
  rintro r w2 ⟨rfl, rfl⟩
  rw [HC.out]
  go_wp2_with fail
  refine Calls.mono (packet_Decode_no HNO.out HA.out HBB.out HNC.out hn) ?_
  rintro r w2 ⟨rfl, hb2⟩
  have HB2 := hide hb2
  clear hb2
  go_upto_region 4 with (refine wpP_init rfl (.tmp 5) (.tmp 13) rfl Pkt.zero none 0 0 rfl rfl rfl ?_; intro w3 ha3 hb3 hs3)
  have HB3 := hide (Below_step HB2.out hb3)
  clear ha3 hb3 hs3
  go_cut [46] (fun s46 wx => s46 = .bool true ∧ ∃ nd, wx = w3.drewN nd)
  case first =>
    go_quiet (fail)
    go_wp2_with fail
    go_meet
    exact ⟨rfl, _, rfl⟩
  case rest =>
  obtain ⟨rfl, nd, rfl⟩ := hcut
  go_wp2_with fail
  go_ret
  exact ⟨rfl, Below_drewN HB3.out nd⟩
end Go.Proofs.Ytbcgffgiifminaa
namespace Go.Proofs.Ytbcgffgiifminaa
open Go.RowKit
set_option maxRecDepth 10000
set_option linter.unusedVariables false
set_option maxHeartbeats 16000000 in
theorem core_Receive_yes {B : Nat} {w : World} {x : Nat} {p : CP} {s : Co} (h : CAt B w x p s) (hBw : B ≤ w.heap.size) (hcl : s.closed = false) (hen : p.en ≤ 999999000) {A : Option Addr} {n c B' : Nat} {b : List UInt8} (k : Pkt) (hb : Pkt.Is b k) (hA : LiesB w B' A n b) (hB' : B' ≤ w.heap.size) (hnc : n ≤ c) (hn : n ≤ 1000000) :
    Calls Try.prog 20 #[.pointer (some ⟨x, 0, none⟩), .slice A n c] w fun r w' => r = .returned (.int .i64 (if s.fits k = true then 0 else 1)) ∧ ∃ p', CAt B w' x p' (if s.fits k = true then s.hear k else s) ∧ Stp w w' x p p' := by
  have H := hide h
  have HC := hide hcl
  have HIS := hide hb
  have HA := hide hA
  have HBB := hide hB'
  have HB := hide hBw
  have HNC := hide hnc
  have hfine := Pkt.may_iff.1 hb.1
  have hwf := hb.2.1
  obtain ⟨j, hj⟩ : ∃ j : Nat, k.src = (j : Int) := ⟨k.src.toNat, by have := hfine.src; omega⟩
  have HJ := hide hj
  obtain ⟨S, hS⟩ : ∃ S, S = (if s.fits k = true then s.hear k else s) := ⟨_, rfl⟩
  have HS := hide hS
  obtain ⟨R, hR⟩ : ∃ R : Int, R = (if s.fits k = true then 0 else 1) := ⟨_, rfl⟩
  have HR := hide hR
  rw [← hS, ← hR]
  have HFINE := hide hfine
  have HWF := hide hwf
  have c1 := h.cell (coRow_me s p)
  have c2 := h.cell (coRow_id s p)
  have c0 := h.cell (coRow_n s p)
  clear h hcl hb hA hB' hnc hBw hfine hwf hj hS hR
  go_enter Try.func20, Try.ntmps20
  go_wp2_with fail
  refine Calls.mono (core_Closed H.out) ?_
  rintro r w2 ⟨rfl, rfl⟩
  rw [HC.out]
  go_wp2_with fail
  refine Calls.mono (packet_Decode_fresh k HIS.out HA.out HBB.out HNC.out hn) ?_
  rintro r w2 ⟨A2, n2, cc2, rfl, hl2, hcap2, hn2, hb2, hfr2⟩
  have HB2 := hide hb2
  have HL2 := hide hl2
  have HFR := hide hfr2
  have c1 := below_cell hb2 c1
  have c2 := below_cell hb2 c2
  have c0 := below_cell hb2 c0
  clear hb2 hl2 hfr2
  obtain ⟨kind, src, dst, kid, first, press, ack, frame, sum⟩ := k
  simp only at HJ HFR HL2
  go_upto_region 4 with (refine wpP_init rfl (.tmp 5) (.tmp 13) rfl ⟨kind, src, dst, kid, first, press, ack, frame, sum⟩ A2 n2 cc2 rfl rfl rfl ?_; intro w3 ha3 hb3 hs3)
  obtain ⟨g, hg⟩ : ∃ g, g = w2.heap.size := ⟨_, rfl⟩
  have HG := hide hg
  rw [← hg] at ha3 ⊢
  have HP3 := hide ha3
  have HB3 := hide (Below_step HB2.out hb3)
  have HL3 := hide (HL2.out.below hb3)
  have c1 := below_cell hb3 c1
  have c2 := below_cell hb3 c2
  have c0 := below_cell hb3 c0
  have q1 := ha3.cell (j := 1) (by simp)
  have q2 := ha3.cell (j := 2) (by simp)
  have q3 := ha3.cell (j := 3) (by simp)
  simp only [List.getElem_cons_zero, List.getElem_cons_succ] at q1 q2 q3
  obtain ⟨me, hme⟩ : ∃ me, me = s.cfg.me := ⟨_, rfl⟩
  obtain ⟨id, hid⟩ : ∃ id, id = s.cfg.id := ⟨_, rfl⟩
  obtain ⟨np, hnp⟩ : ∃ np, np = s.cfg.n := ⟨_, rfl⟩
  rw [← hme] at c1
  rw [← hid] at c2
  rw [← hnp] at c0
  obtain ⟨z, hz⟩ : ∃ z, z = s.fits ⟨kind, src, dst, kid, first, press, ack, frame, sum⟩ := ⟨_, rfl⟩
  have hz2 : z = (decide (dst = me) && (decide (src < np) && decide (kid = id))) := by rw [hz, Co.fits, hme, hid, hnp]
  have HZ := hide hz
  have HNP := hide hnp
  rw [← hz] at HS HR
  clear ha3 hb3 hs3 hg hz hme hid hnp
  go_cut [46] (fun s46 wx => s46 = .bool (!z) ∧ ∃ nd, wx = w3.drewN nd)
  case first =>
    by_cases h1 : dst = me
    · have d1 : (dst != me) = false := by simp [h1]
      by_cases h2 : src < np
      · have d2 : decide (src ≥ np) = false := decide_eq_false (by omega)
        by_cases h3 : kid = id
        · have d3 : (kid != id) = false := by simp [h3]
          have e : Hid (z = true) := by show _ = _; rw [hz2, decide_eq_true h1, decide_eq_true h2, decide_eq_true h3]; rfl
          clear hz2 h1 h2 h3
          go_quiet (fail)
          go_wp2_with fail
          go_meet
          exact ⟨by rw [e.out]; rfl, _, rfl⟩
        · have d3 : (kid != id) = true := by simp [h3]
          have e : Hid (z = false) := by show _ = _; rw [hz2, decide_eq_true h1, decide_eq_true h2, decide_eq_false h3]; rfl
          clear hz2 h1 h2 h3
          go_quiet (fail)
          go_wp2_with fail
          go_meet
          exact ⟨by rw [e.out]; rfl, _, rfl⟩
      · have d2 : decide (src ≥ np) = true := decide_eq_true (by omega)
        have e : Hid (z = false) := by show _ = _; rw [hz2, decide_eq_true h1, decide_eq_false h2]; rfl
        clear hz2 h1 h2
        go_quiet (fail)
        go_wp2_with fail
        go_meet
        exact ⟨by rw [e.out]; rfl, _, rfl⟩
    · have d1 : (dst != me) = true := by simp [h1]
      have e : Hid (z = false) := by show _ = _; rw [hz2, decide_eq_false h1]; rfl
      clear hz2 h1
      go_quiet (fail)
      go_wp2_with fail
      go_meet
      exact ⟨by rw [e.out]; rfl, _, rfl⟩
  case rest =>
  obtain ⟨rfl, nd, hnd⟩ := hcut
  obtain ⟨W4, hW4⟩ : ∃ W4, W4 = wc := ⟨_, rfl⟩
  subst hW4
  have HP4 : Hid (Arr 41 W4 g (Pkt.row ⟨kind, src, dst, kid, first, press, ack, frame, sum⟩ (.slice A2 n2 cc2))) := by show Arr _ _ _ _; rw [hnd]; exact HP3.out.drewN nd
  have HB4 : Hid (Below w.heap.size w W4) := by show Below _ _ _; rw [hnd]; exact Below_drewN HB3.out nd
  have HL4 : Hid (LiesB W4 w2.heap.size A2 n2 press) := by show LiesB _ _ _ _ _; rw [hnd]; exact HL3.out.drewN nd
  clear hnd HP3 HB3 HL3 HL2 c1 c2 c0 q1 q2 q3
  cases z with
  | false =>
    go_wp2_with fail
    go_ret
    refine ⟨by rw [HR.out]; rfl, p, ?_, Stp.of_below HB4.out⟩
    rw [HS.out, if_neg (by decide)]
    exact H.out.below HB4.out
  | true =>
    rw [if_pos rfl] at HS HR
    have hnpl : (s.peers.length : Int) = np := by rw [HNP.out]; exact H.out.ok.np
    have hjn : j < s.peers.length := by
      have h1 := hz2
      simp only [Bool.true_eq, Bool.and_eq_true, decide_eq_true_eq] at h1
      have := HJ.out
      omega
    have hjm : (j : Int) ≠ me := by
      have h1 := hz2
      simp only [Bool.true_eq, Bool.and_eq_true, decide_eq_true_eq] at h1
      have h3 := HFINE.out.ne
      simp only at h3
      rw [← h1.1, ← HJ.out]
      exact h3
    have HC4 := hide (H.out.below HB4.out)
    have c11 := HC4.out.cell (coRow_peers s p)
    have q1 := HP4.out.cell (j := 1) (by simp)
    simp only [List.getElem_cons_zero, List.getElem_cons_succ] at q1
    rw [HJ.out] at q1
    obtain ⟨npl, hnpl2⟩ : ∃ npl, npl = s.peers.length := ⟨_, rfl⟩
    rw [← hnpl2] at c11
    have hjl : (j : Int) < (npl : Int) := by rw [hnpl2]; omega
    have HJN := hide hjn
    have HJM := hide hjm
    have HNPL := hide hnpl2
    clear hz2 hnpl hjn hjm hnpl2
    go_upto_region 6 with fail
    go_cut [7] (fun s7 wx => s7 = .pointer (some ⟨p.g, j * 5, none⟩) ∧ ∃ nd, wx = W4.drewN nd)
    case first =>
      go_quiet (fail)
      go_wp2_with fail
      go_meet
      exact ⟨rfl, _, rfl⟩
    case rest =>
    obtain ⟨rfl, nd, hnd⟩ := hcut
    obtain ⟨W5, hW5⟩ : ∃ W5, W5 = wc := ⟨_, rfl⟩
    subst hW5
    have HP5 : Hid (Arr 41 W5 g (Pkt.row ⟨kind, src, dst, kid, first, press, ack, frame, sum⟩ (.slice A2 n2 cc2))) := by show Arr _ _ _ _; rw [hnd]; exact HP4.out.drewN nd
    have HB5 : Hid (Below w.heap.size w W5) := by show Below _ _ _; rw [hnd]; exact Below_drewN HB4.out nd
    have HL5 : Hid (LiesB W5 w2.heap.size A2 n2 press) := by show LiesB _ _ _ _ _; rw [hnd]; exact HL4.out.drewN nd
    have HC5 := hide (H.out.below HB5.out)
    clear hnd HP4 HB4 HL4 HC4 c11 q1
    obtain ⟨pr, hpr⟩ : ∃ pr, pr = s.peers[j]'HJN.out := ⟨_, rfl⟩
    have HPR : Hid (s.pr j = pr) := by show _ = _; rw [hpr, Co.pr, List.getD_eq_getElem?_getD, List.getElem?_eq_getElem HJN.out]; rfl
    have HPM : Hid (pr ∈ s.peers) := by rw [hpr]; exact List.getElem_mem _
    have cN := HC5.out.cell (coRow_now s p)
    have cH := HC5.out.pcell (i := j) (j := 1) (v := .int .i64 pr.heard) HJN.out (by omega) (by rw [hpr]; rfl)
    have fH := HC5.out.pfrozen (j * 5 + 1)
    have HS1 := hide (HC5.out.setPeer j 1 (.int .i64 s.now) { pr with heard := s.now } HJN.out (by omega) (by rw [hpr]; rfl) (HC5.out.ok.setPeer j _ (HC5.out.ok.has pr HPM.out) ⟨HC5.out.ok.now.1, Int.le_refl _⟩ (HC5.out.ok.frame pr HPM.out) (HC5.out.ok.sum pr HPM.out)))
    have HE1 : Hid ({ s with peers := s.peers.set j { pr with heard := s.now } } = s.hear1 j) := by show _ = _; rw [Co.hear1, HPR.out]; rfl
    have hpg : p.g < w.heap.size := (H.out.blocks p.g (.inr (.inr (.inr (.inr (.inl rfl)))))).2
    have hgw : w.heap.size ≤ g := by rw [HG.out]; exact HB2.out.size
    have hpgne : g ≠ p.g := by omega
    have HKK := hide (Keeps.setCell W5 ⟨p.g, j * 5 + 1, none⟩ (.int .i64 s.now))
    clear hpr
    go_upto_region 8 with fail
    generalize World.setCell W5 _ _ = W6 at HS1 HKK ⊢
    have HC6 : Hid (CAt B W6 x p (s.hear1 j)) := by rw [← HE1.out]; exact HS1.out.1
    have HST6 := hide ((Stp.of_below HB5.out).trans HS1.out.2)
    have HP6 := hide (HP5.out.keeps HKK.out (by show ¬ g = p.g; omega))
    have HL6 := hide (HL5.out.keeps HKK.out (fun bk off h1 h2 hm => by have := HFR.out bk off h1 h2; have hm : bk = p.g := hm; omega))
    have hsl1 : (s.hear1 j).peers.length = s.peers.length := by rw [← HE1.out]; exact List.length_set
    have hev1 : (s.hear1 j).events = s.events := by rw [← HE1.out]
    have HSL1 := hide hsl1
    have HEV1 := hide hev1
    have q0 := HP6.out.cell (j := 0) (by simp)
    simp only [List.getElem_cons_zero] at q0
    clear HS1 HKK HP5 HL5 HC5 cN cH fH hsl1 hev1
    rcases HFINE.out.kind with ⟨hk1, hkfi, hka, hkf, hkp⟩ | ⟨hk2, -⟩
    · simp only at hk1 hkfi hka hkf hkp
      have d2 : (kind == 2) = false := by rw [hk1]; rfl
      have HS0 : Hid (S = ((((s.hear1 j).hear2 j ⟨kind, src, dst, kid, first, press, ack, frame, sum⟩).hear3 j ⟨kind, src, dst, kid, first, press, ack, frame, sum⟩).hear4 j ⟨kind, src, dst, kid, first, press, ack, frame, sum⟩).hold) := by
        show _ = _
        rw [HS.out, Co.hear, if_neg (by show ¬ kind = 2; omega)]
        have e : (Pkt.src ⟨kind, src, dst, kid, first, press, ack, frame, sum⟩).toNat = j := by show src.toNat = j; rw [HJ.out]; rfl
        rw [e]
      have hjxs : j < p.xs.length := by rw [H.out.nx]; exact HJN.out
      have h8 : p.xs.length ≤ 8 := by have := H.out.nx; have := H.out.ok.np; have := H.out.ok.cfg.n; omega
      have c10 := HC6.out.cell (coRow_q _ _)
      have q1 := HP6.out.cell (j := 1) (by simp)
      have q4 := HP6.out.cell (j := 4) (by simp)
      have q5 := HP6.out.cell (j := 5) (by simp)
      simp only [List.getElem_cons_zero, List.getElem_cons_succ] at q1 q4 q5
      rw [HJ.out] at q1
      have hs26 : w2.heap.size ≤ W6.heap.size := by have := HP6.out.lt; have := HG.out; omega
      clear hk1
      go_upto_region 12 with fail
      refine wp_region_noPanic ?_
      refine wp_region_held_drew (S := (fun w' => w'.cell? ⟨x, 10, none⟩ = some (.pointer (some ⟨p.q, 0, none⟩)) ∧ w'.cell? ⟨g, 1, none⟩ = some (.int .i64 (j : Int)) ∧ w'.cell? ⟨g, 4, none⟩ = some (.int .i64 first) ∧ w'.cell? ⟨g, 5, none⟩ = some (.slice A2 n2 cc2))) (by kernel_rfl) ⟨c10, q1, q4, q5⟩ (fun hHeld => ?_)
      refine wpAnyH_take (i := 0) (oi := ?_) (v := ?_) ?_ (by kernel_rfl) (by kernel_rfl) (by kernel_rfl) ?_ ?_ (by assumption) ?_
      rotate_left 2
      · (simp only [List.getElem?_toArray, List.getElem?_cons_zero]; rfl)
      · exact fun _ _ _ h => h
      · (refine Or.inl ⟨by rfl, ?_⟩; intro w hSw; (try dsimp only at hSw); go_simp <;> with_reducible rfl)
      try simp only [Act.put, List.setIfInBounds_toArray, List.set_cons_zero, List.set_cons_succ]
      refine wpAnyH_take (i := 1) (oi := ?_) (v := ?_) ?_ (by kernel_rfl) (by kernel_rfl) (by kernel_rfl) ?_ ?_ (by assumption) ?_
      rotate_left 2
      · (simp only [List.getElem?_toArray, List.getElem?_cons_succ, List.getElem?_cons_zero]; rfl)
      · exact fun _ _ _ h => h
      · (refine Or.inl ⟨by rfl, ?_⟩; intro w hSw; (try dsimp only at hSw); go_simp <;> with_reducible rfl)
      try simp only [Act.put, List.setIfInBounds_toArray, List.set_cons_zero, List.set_cons_succ]
      refine wpAnyH_take (i := 2) (oi := ?_) (v := ?_) ?_ (by kernel_rfl) (by kernel_rfl) (by kernel_rfl) ?_ ?_ (by assumption) ?_
      rotate_left 2
      · (simp only [List.getElem?_toArray, List.getElem?_cons_succ, List.getElem?_cons_zero]; rfl)
      · exact fun _ _ _ h => h
      · (refine Or.inl ⟨by rfl, ?_⟩; intro w hSw; (try dsimp only at hSw); go_simp <;> with_reducible rfl)
      try simp only [Act.put, List.setIfInBounds_toArray, List.set_cons_zero, List.set_cons_succ]
      refine wpAnyH_take (i := 3) (oi := ?_) (v := ?_) ?_ (by kernel_rfl) (by kernel_rfl) (by kernel_rfl) ?_ ?_ (by assumption) ?_
      rotate_left 2
      · (simp only [List.getElem?_toArray, List.getElem?_cons_succ, List.getElem?_cons_zero]; rfl)
      · exact fun _ _ _ h => h
      · (refine Or.inl ⟨by rfl, ?_⟩; intro w hSw; (try dsimp only at hSw); go_simp <;> with_reducible rfl)
      try simp only [Act.put, List.setIfInBounds_toArray, List.set_cons_zero, List.set_cons_succ]
      refine wpAnyH_take (i := 4) (oi := ?_) (v := ?_) ?_ (by kernel_rfl) (by kernel_rfl) (by kernel_rfl) ?_ ?_ (by assumption) ?_
      rotate_left 2
      · (simp only [List.getElem?_toArray, List.getElem?_cons_succ, List.getElem?_cons_zero]; rfl)
      · exact fun _ _ _ h => h
      · (refine Or.inl ⟨by rfl, ?_⟩; intro w hSw; (try dsimp only at hSw); go_simp <;> with_reducible rfl)
      try simp only [Act.put, List.setIfInBounds_toArray, List.set_cons_zero, List.set_cons_succ]
      refine wpAnyH_take (i := 5) (oi := ?_) (v := ?_) ?_ (by kernel_rfl) (by kernel_rfl) (by kernel_rfl) ?_ ?_ (by assumption) ?_
      rotate_left 2
      · (simp only [List.getElem?_toArray, List.getElem?_cons_succ, List.getElem?_cons_zero]; rfl)
      · exact fun _ _ _ h => h
      · (refine Or.inl ⟨by rfl, ?_⟩; intro w hSw; (try dsimp only at hSw); go_simp <;> with_reducible rfl)
      try simp only [Act.put, List.setIfInBounds_toArray, List.set_cons_zero, List.set_cons_succ]
      refine wpAnyH_take (i := 7) (oi := ?_) (v := ?_) ?_ (by kernel_rfl) (by kernel_rfl) (by kernel_rfl) ?_ ?_ (by assumption) ?_
      rotate_left 2
      · (simp only [List.getElem?_toArray, List.getElem?_cons_succ, List.getElem?_cons_zero]; rfl)
      · exact fun _ _ _ h => h
      · (refine Or.inl ⟨by rfl, ?_⟩; intro w hSw; (try dsimp only at hSw); go_simp <;> with_reducible rfl)
      try simp only [Act.put, List.setIfInBounds_toArray, List.set_cons_zero, List.set_cons_succ]
      refine wpAnyH_take (i := 8) (oi := ?_) (v := ?_) ?_ (by kernel_rfl) (by kernel_rfl) (by kernel_rfl) ?_ ?_ (by assumption) ?_
      rotate_left 2
      · (simp only [List.getElem?_toArray, List.getElem?_cons_succ, List.getElem?_cons_zero]; rfl)
      · exact fun _ _ _ h => h
      · (refine Or.inl ⟨by rfl, ?_⟩; intro w hSw; (try dsimp only at hSw); go_simp <;> with_reducible rfl)
      try simp only [Act.put, List.setIfInBounds_toArray, List.set_cons_zero, List.set_cons_succ]
      refine wpAnyH_take (i := 9) (oi := ?_) (v := ?_) ?_ (by kernel_rfl) (by kernel_rfl) (by kernel_rfl) ?_ ?_ (by assumption) ?_
      rotate_left 2
      · (simp only [List.getElem?_toArray, List.getElem?_cons_succ, List.getElem?_cons_zero]; rfl)
      · exact fun _ _ _ h => h
      · (refine Or.inl ⟨by rfl, ?_⟩; intro w hSw; (try dsimp only at hSw); go_simp <;> with_reducible rfl)
      try simp only [Act.put, List.setIfInBounds_toArray, List.set_cons_zero, List.set_cons_succ]
      refine wpAnyH_take (i := 10) (oi := ?_) (v := ?_) ?_ (by kernel_rfl) (by kernel_rfl) (by kernel_rfl) ?_ ?_ (by assumption) ?_
      rotate_left 2
      · (simp only [List.getElem?_toArray, List.getElem?_cons_succ, List.getElem?_cons_zero]; rfl)
      · exact fun _ _ _ h => h
      · (refine Or.inl ⟨by rfl, ?_⟩; intro w hSw; (try dsimp only at hSw); go_simp <;> with_reducible rfl)
      try simp only [Act.put, List.setIfInBounds_toArray, List.set_cons_zero, List.set_cons_succ]
      refine wpAnyH_ready (rs := [6]) (by kernel_rfl) (by simp) ?_
      refine AllReadyH.cons (o := ?_) ?_ (fun K hK => ?_) AllReadyH.nil
      rotate_left 1
      · (simp only [List.getElem?_toArray, List.getElem?_cons_succ, List.getElem?_cons_zero]; rfl)
      go_simp
      refine Calls.mono (queue_Line HC6.out.drew.q j hjxs (by omega) rfl rfl) ?_
      rintro r w3 ⟨rfl, rfl⟩
      refine hK.out _ _ ⟨c10, q1, q4, q5⟩ (fun hHeld => ?_)
      clear hK K
      try simp only [Act.put, List.setIfInBounds_toArray, List.set_cons_zero, List.set_cons_succ]
      refine wpAnyH_ready (rs := [11]) (by kernel_rfl) (by simp) ?_
      refine AllReadyH.cons (o := ?_) ?_ (fun K hK => ?_) AllReadyH.nil
      rotate_left 1
      · (simp only [List.getElem?_toArray, List.getElem?_cons_succ, List.getElem?_cons_zero]; rfl)
      go_simp
      refine Calls.mono (line_Put_v _ _ ((s.hear1 j).ls.getD j []) first A2 n2 cc2 press _ _ _ _ (HC6.out.drew.line j hjxs) (HL6.out.drew.more hs26) ?_ (by omega) (by omega) (by omega) rfl rfl rfl) ?_
      · intro bk off h1 h2 hm
        have hf := HFR.out bk off h1 h2
        have hlb := (H.out.blocks bk (.inr (.inr (.inr (.inl ⟨j, hjxs, hm⟩))))).2
        omega
      rintro r w7 ⟨rfl, g', hl7, hk7, hg7⟩
      have HC7 := hide (HC6.out.drew.setLine (Nat.le_trans HB.out HST6.out.keeps.size) j hjxs hl7 hk7 hg7 hl7.1 (by rw [List.length_append]; omega))
      have HP7 := hide (HP6.out.drew.off HC7.out.2.keeps (HC6.out.drew.off (Ts := [41]) (by decide)) (by simp))
      have r1 := HP7.out.cell (j := 1) (by simp)
      have r4 := HP7.out.cell (j := 4) (by simp)
      have r5 := HP7.out.cell (j := 5) (by simp)
      simp only [List.getElem_cons_zero, List.getElem_cons_succ] at r1 r4 r5
      rw [HJ.out] at r1
      refine hK.out _ _ ⟨HC7.out.1.cell (coRow_q _ _), r1, r4, r5⟩ (fun hHeld => ?_)
      clear hK K
      try simp only [Act.put, List.setIfInBounds_toArray, List.set_cons_zero, List.set_cons_succ]
      refine wpAnyH_done (by kernel_rfl) (NoPanic.normal ?_) _
      obtain ⟨p7, hp7⟩ : ∃ p7 : CP, p7 = { p with xs := p.xs.set j (p.xs[j].1, g') } := ⟨_, rfl⟩
      have HG7 : Hid (p7.g = p.g) := by show _ = _; rw [hp7]
      have HC8 : Hid (CAt B w7 x p7 ((s.hear1 j).hear2 j ⟨kind, src, dst, kid, first, press, ack, frame, sum⟩)) := by rw [hp7]; exact HC7.out.1
      have HST8 : Hid (Stp w w7 x p p7) := by rw [hp7]; exact (HST6.out.trans (Stp.of_below ((Below.refl _ _).drew))).trans HC7.out.2
      obtain ⟨s2, hs2⟩ : ∃ s2, s2 = (s.hear1 j).hear2 j ⟨kind, src, dst, kid, first, press, ack, frame, sum⟩ := ⟨_, rfl⟩
      rw [← hs2] at HC8 HS0
      have hsl2 : s2.peers.length = s.peers.length := by rw [hs2]; exact HSL1.out
      have hev2 : s2.events = s.events := by rw [hs2]; exact HEV1.out
      obtain ⟨pr2, hpr2⟩ : ∃ pr2, pr2 = s2.peers[j]'(by rw [hsl2]; exact HJN.out) := ⟨_, rfl⟩
      have HPR2 : Hid (s2.pr j = pr2) := by show _ = _; rw [hpr2, Co.pr, List.getD_eq_getElem?_getD, List.getElem?_eq_getElem (by rw [hsl2]; exact HJN.out)]; rfl
      have HPM2 : Hid (pr2 ∈ s2.peers) := by rw [hpr2]; exact List.getElem_mem _
      have ch : w7.cell? ⟨p7.g, j * 5, none⟩ = some (.int .i64 pr2.has) := HC8.out.pcell (i := j) (j := 0) (v := .int .i64 pr2.has) (by rw [hsl2]; exact HJN.out) (by omega) (by rw [← hpr2]; rfl)
      rw [← HG7.out]
      have q6 := HP7.out.cell (j := 6) (by simp)
      simp only [List.getElem_cons_zero, List.getElem_cons_succ] at q6
      obtain ⟨hs, hhs⟩ : ∃ hs, hs = pr2.has := ⟨_, rfl⟩
      rw [← hhs] at ch
      obtain ⟨ml, hml⟩ : ∃ ml, ml = (s2.mine.length : Int) := ⟨_, rfl⟩
      have HML := hide hml
      obtain ⟨az, haz⟩ : ∃ az, az = s2.acks j ⟨kind, src, dst, kid, first, press, ack, frame, sum⟩ := ⟨_, rfl⟩
      have haz2 : az = (decide (ack > hs) && decide (ack ≤ ml)) := by rw [haz, Co.acks, HPR2.out, ← hhs, hml]
      have HAZ := hide haz
      have HSL2 := hide hsl2
      have HEV2 := hide hev2
      have HPR3 : Hid (∀ h : j < s2.peers.length, s2.peers[j]'h = pr2) := fun h => hpr2.symm
      have HS2D := hide hs2
      clear hp7 HC7 hl7 hk7 hg7 haz hhs hml hpr2 hsl2 hev2 hs2 c10 q1 q4 q5 r1 r4 r5 q0 HC6 HP6 HL6
      go_upto_region 13 with fail
      go_cut [97] (fun s97 wx => s97 = .bool az ∧ Below w7.heap.size w7 wx)
      case first =>
        by_cases h1 : ack > hs
        · have d1 : decide (ack > hs) = true := decide_eq_true h1
          obtain ⟨z2, hz2⟩ : ∃ z2 : Bool, decide (ack ≤ ml) = z2 := ⟨_, rfl⟩
          have e : Hid (az = z2) := by show _ = _; rw [haz2, d1, hz2]; rfl
          clear haz2 h1
          refine wp_region_noPanic ?_
          refine wp_region_held_drew (S := (fun w' => w'.cell? ⟨g, 6, none⟩ = some (.int .i64 ack) ∧ w'.cell? ⟨p7.g, j * 5, none⟩ = some (.int .i64 hs))) (by kernel_rfl) ⟨q6, ch⟩ (fun hHeld => ?_)
          refine wpAnyH_take (i := 0) (oi := ?_) (v := ?_) ?_ (by kernel_rfl) (by kernel_rfl) (by kernel_rfl) ?_ ?_ (by assumption) ?_
          rotate_left 2
          · (simp only [List.getElem?_toArray, List.getElem?_cons_zero]; rfl)
          · exact fun _ _ _ h => h
          · (refine Or.inl ⟨by rfl, ?_⟩; intro w hSw; (try dsimp only at hSw); go_simp <;> with_reducible rfl)
          try simp only [Act.put, List.setIfInBounds_toArray, List.set_cons_zero, List.set_cons_succ]
          refine wpAnyH_take (i := 1) (oi := ?_) (v := ?_) ?_ (by kernel_rfl) (by kernel_rfl) (by kernel_rfl) ?_ ?_ (by assumption) ?_
          rotate_left 2
          · (simp only [List.getElem?_toArray, List.getElem?_cons_succ, List.getElem?_cons_zero]; rfl)
          · exact fun _ _ _ h => h
          · (refine Or.inl ⟨by rfl, ?_⟩; intro w hSw; (try dsimp only at hSw); go_simp <;> with_reducible rfl)
          try simp only [Act.put, List.setIfInBounds_toArray, List.set_cons_zero, List.set_cons_succ]
          refine wpAnyH_take (i := 2) (oi := ?_) (v := ?_) ?_ (by kernel_rfl) (by kernel_rfl) (by kernel_rfl) ?_ ?_ (by assumption) ?_
          rotate_left 2
          · (simp only [List.getElem?_toArray, List.getElem?_cons_succ, List.getElem?_cons_zero]; rfl)
          · exact fun _ _ _ h => h
          · (refine Or.inl ⟨by rfl, ?_⟩; intro w hSw; (try dsimp only at hSw); go_simp <;> with_reducible rfl)
          try simp only [Act.put, List.setIfInBounds_toArray, List.set_cons_zero, List.set_cons_succ]
          refine wpAnyH_take (i := 3) (oi := ?_) (v := ?_) ?_ (by kernel_rfl) (by kernel_rfl) (by kernel_rfl) ?_ ?_ (by assumption) ?_
          rotate_left 2
          · (simp only [List.getElem?_toArray, List.getElem?_cons_succ, List.getElem?_cons_zero]; rfl)
          · exact fun _ _ _ h => h
          · (refine Or.inl ⟨by rfl, ?_⟩; intro w hSw; (try dsimp only at hSw); go_simp <;> with_reducible rfl)
          try simp only [Act.put, List.setIfInBounds_toArray, List.set_cons_zero, List.set_cons_succ]
          refine wpAnyH_take (i := 4) (oi := ?_) (v := ?_) ?_ (by kernel_rfl) (by kernel_rfl) (by kernel_rfl) ?_ ?_ (by assumption) ?_
          rotate_left 2
          · (simp only [List.getElem?_toArray, List.getElem?_cons_succ, List.getElem?_cons_zero]; rfl)
          · exact fun _ _ _ h => h
          · (refine Or.inl ⟨by rfl, ?_⟩; intro w hSw; (try dsimp only at hSw); go_simp <;> with_reducible rfl)
          try simp only [Act.put, List.setIfInBounds_toArray, List.set_cons_zero, List.set_cons_succ]
          refine wpAnyH_take (i := 5) (oi := ?_) (v := ?_) ?_ (by kernel_rfl) (by kernel_rfl) (by kernel_rfl) ?_ ?_ (by assumption) ?_
          rotate_left 2
          · (simp only [List.getElem?_toArray, List.getElem?_cons_succ, List.getElem?_cons_zero]; rfl)
          · exact fun _ _ _ h => h
          · (refine Or.inl ⟨by rfl, ?_⟩; intro w hSw; (try dsimp only at hSw); go_simp <;> with_reducible rfl)
          try simp only [Act.put, List.setIfInBounds_toArray, List.set_cons_zero, List.set_cons_succ]
          refine wpAnyH_take (i := 6) (oi := ?_) (v := ?_) ?_ (by kernel_rfl) (by kernel_rfl) (by kernel_rfl) ?_ ?_ (by assumption) ?_
          rotate_left 2
          · (simp only [List.getElem?_toArray, List.getElem?_cons_succ, List.getElem?_cons_zero]; rfl)
          · exact fun _ _ _ h => h
          · (refine Or.inl ⟨by rfl, ?_⟩; intro w hSw; (try dsimp only at hSw); go_simp <;> with_reducible rfl)
          try simp only [Act.put, List.setIfInBounds_toArray, List.set_cons_zero, List.set_cons_succ]
          refine wpAnyH_take (i := 7) (oi := ?_) (v := ?_) ?_ (by kernel_rfl) (by kernel_rfl) (by kernel_rfl) ?_ ?_ (by assumption) ?_
          rotate_left 2
          · (simp only [List.getElem?_toArray, List.getElem?_cons_succ, List.getElem?_cons_zero]; rfl)
          · exact fun _ _ _ h => h
          · (refine Or.inl ⟨by rfl, ?_⟩; intro w hSw; (try dsimp only at hSw); go_simp <;> with_reducible rfl)
          try simp only [Act.put, List.setIfInBounds_toArray, List.set_cons_zero, List.set_cons_succ]
          refine wpAnyH_take (i := 8) (oi := ?_) (v := ?_) ?_ (by kernel_rfl) (by kernel_rfl) (by kernel_rfl) ?_ ?_ (by assumption) ?_
          rotate_left 2
          · (simp only [List.getElem?_toArray, List.getElem?_cons_succ, List.getElem?_cons_zero]; rfl)
          · exact fun _ _ _ h => h
          · (refine Or.inl ⟨by rfl, ?_⟩; intro w hSw; (try dsimp only at hSw); go_simp <;> with_reducible rfl)
          try simp only [Act.put, List.setIfInBounds_toArray, List.set_cons_zero, List.set_cons_succ]
          refine wpAnyH_take (i := 9) (oi := ?_) (v := ?_) ?_ (by kernel_rfl) (by kernel_rfl) (by kernel_rfl) ?_ ?_ (by assumption) ?_
          rotate_left 2
          · (simp only [List.getElem?_toArray, List.getElem?_cons_succ, List.getElem?_cons_zero]; rfl)
          · exact fun _ _ _ h => h
          · (refine Or.inl ⟨by rfl, ?_⟩; intro w hSw; (try dsimp only at hSw); go_simp <;> with_reducible rfl)
          try simp only [Act.put, List.setIfInBounds_toArray, List.set_cons_zero, List.set_cons_succ]
          refine wpAnyH_take (i := 10) (oi := ?_) (v := ?_) ?_ (by kernel_rfl) (by kernel_rfl) (by kernel_rfl) ?_ ?_ (by assumption) ?_
          rotate_left 2
          · (simp only [List.getElem?_toArray, List.getElem?_cons_succ, List.getElem?_cons_zero]; rfl)
          · exact fun _ _ _ h => h
          · (refine Or.inl ⟨by rfl, ?_⟩; intro w hSw; (try dsimp only at hSw); go_simp <;> with_reducible rfl)
          try simp only [Act.put, List.setIfInBounds_toArray, List.set_cons_zero, List.set_cons_succ]
          refine wpAnyH_ready (rs := [11]) (by kernel_rfl) (by simp) ?_
          refine AllReadyH.cons (o := ?_) ?_ (fun K hK => ?_) AllReadyH.nil
          rotate_left 1
          · (simp only [List.getElem?_toArray, List.getElem?_cons_succ, List.getElem?_cons_zero]; rfl)
          go_simp
          refine Calls.mono (core_Head HC8.out.drew) ?_
          rw [← HML.out]
          rintro r w8 ⟨rfl, hb8⟩
          refine hK.out _ _ ⟨below_cell hb8 q6, below_cell hb8 ch⟩ (fun hHeld => ?_)
          clear hK K
          try simp only [Act.put, List.setIfInBounds_toArray, List.set_cons_zero, List.set_cons_succ]
          refine wpAnyH_take (i := 12) (oi := ?_) (v := .bool z2) ?_ (by kernel_rfl) (by kernel_rfl) (by kernel_rfl) ?_ ?_ (by assumption) ?_
          rotate_left 1
          · (simp only [List.getElem?_toArray, List.getElem?_cons_succ, List.getElem?_cons_zero]; rfl)
          · exact fun _ _ _ h => h
          · (refine Or.inl ⟨by rfl, ?_⟩; intro w hSw; (try dsimp only at hSw); (rw [← hz2]; go_simp <;> with_reducible rfl))
          try simp only [Act.put, List.setIfInBounds_toArray, List.set_cons_zero, List.set_cons_succ]
          refine wpAnyH_take (i := 13) (oi := ?_) (v := ?_) ?_ (by kernel_rfl) (by kernel_rfl) (by kernel_rfl) ?_ ?_ (by assumption) ?_
          rotate_left 2
          · (simp only [List.getElem?_toArray, List.getElem?_cons_succ, List.getElem?_cons_zero]; rfl)
          · exact fun _ _ _ h => h
          · (refine Or.inl ⟨by rfl, ?_⟩; intro w hSw; (try dsimp only at hSw); go_simp <;> with_reducible rfl)
          try simp only [Act.put, List.setIfInBounds_toArray, List.set_cons_zero, List.set_cons_succ]
          refine wpAnyH_done (by kernel_rfl) (NoPanic.normal ?_) _
          go_wp2_with fail
          go_meet
          exact ⟨by rw [e.out], ⟨hb8.os, hb8.tape, hb8.output, hb8.size, hb8.block⟩⟩
        · have d1 : decide (ack > hs) = false := decide_eq_false h1
          have e : Hid (az = false) := by show _ = _; rw [haz2, d1]; rfl
          clear haz2 h1
          refine wp_region_noPanic ?_
          refine wp_region_held_drew (S := (fun w' => w'.cell? ⟨g, 6, none⟩ = some (.int .i64 ack) ∧ w'.cell? ⟨p7.g, j * 5, none⟩ = some (.int .i64 hs))) (by kernel_rfl) ⟨q6, ch⟩ (fun hHeld => ?_)
          refine wpAnyH_take (i := 0) (oi := ?_) (v := ?_) ?_ (by kernel_rfl) (by kernel_rfl) (by kernel_rfl) ?_ ?_ (by assumption) ?_
          rotate_left 2
          · (simp only [List.getElem?_toArray, List.getElem?_cons_zero]; rfl)
          · exact fun _ _ _ h => h
          · (refine Or.inl ⟨by rfl, ?_⟩; intro w hSw; (try dsimp only at hSw); go_simp <;> with_reducible rfl)
          try simp only [Act.put, List.setIfInBounds_toArray, List.set_cons_zero, List.set_cons_succ]
          refine wpAnyH_take (i := 1) (oi := ?_) (v := ?_) ?_ (by kernel_rfl) (by kernel_rfl) (by kernel_rfl) ?_ ?_ (by assumption) ?_
          rotate_left 2
          · (simp only [List.getElem?_toArray, List.getElem?_cons_succ, List.getElem?_cons_zero]; rfl)
          · exact fun _ _ _ h => h
          · (refine Or.inl ⟨by rfl, ?_⟩; intro w hSw; (try dsimp only at hSw); go_simp <;> with_reducible rfl)
          try simp only [Act.put, List.setIfInBounds_toArray, List.set_cons_zero, List.set_cons_succ]
          refine wpAnyH_take (i := 2) (oi := ?_) (v := ?_) ?_ (by kernel_rfl) (by kernel_rfl) (by kernel_rfl) ?_ ?_ (by assumption) ?_
          rotate_left 2
          · (simp only [List.getElem?_toArray, List.getElem?_cons_succ, List.getElem?_cons_zero]; rfl)
          · exact fun _ _ _ h => h
          · (refine Or.inl ⟨by rfl, ?_⟩; intro w hSw; (try dsimp only at hSw); go_simp <;> with_reducible rfl)
          try simp only [Act.put, List.setIfInBounds_toArray, List.set_cons_zero, List.set_cons_succ]
          refine wpAnyH_take (i := 3) (oi := ?_) (v := ?_) ?_ (by kernel_rfl) (by kernel_rfl) (by kernel_rfl) ?_ ?_ (by assumption) ?_
          rotate_left 2
          · (simp only [List.getElem?_toArray, List.getElem?_cons_succ, List.getElem?_cons_zero]; rfl)
          · exact fun _ _ _ h => h
          · (refine Or.inl ⟨by rfl, ?_⟩; intro w hSw; (try dsimp only at hSw); go_simp <;> with_reducible rfl)
          try simp only [Act.put, List.setIfInBounds_toArray, List.set_cons_zero, List.set_cons_succ]
          refine wpAnyH_take (i := 4) (oi := ?_) (v := ?_) ?_ (by kernel_rfl) (by kernel_rfl) (by kernel_rfl) ?_ ?_ (by assumption) ?_
          rotate_left 2
          · (simp only [List.getElem?_toArray, List.getElem?_cons_succ, List.getElem?_cons_zero]; rfl)
          · exact fun _ _ _ h => h
          · (refine Or.inl ⟨by rfl, ?_⟩; intro w hSw; (try dsimp only at hSw); go_simp <;> with_reducible rfl)
          try simp only [Act.put, List.setIfInBounds_toArray, List.set_cons_zero, List.set_cons_succ]
          refine wpAnyH_take (i := 5) (oi := ?_) (v := ?_) ?_ (by kernel_rfl) (by kernel_rfl) (by kernel_rfl) ?_ ?_ (by assumption) ?_
          rotate_left 2
          · (simp only [List.getElem?_toArray, List.getElem?_cons_succ, List.getElem?_cons_zero]; rfl)
          · exact fun _ _ _ h => h
          · (refine Or.inl ⟨by rfl, ?_⟩; intro w hSw; (try dsimp only at hSw); go_simp <;> with_reducible rfl)
          try simp only [Act.put, List.setIfInBounds_toArray, List.set_cons_zero, List.set_cons_succ]
          refine wpAnyH_take (i := 6) (oi := ?_) (v := ?_) ?_ (by kernel_rfl) (by kernel_rfl) (by kernel_rfl) ?_ ?_ (by assumption) ?_
          rotate_left 2
          · (simp only [List.getElem?_toArray, List.getElem?_cons_succ, List.getElem?_cons_zero]; rfl)
          · exact fun _ _ _ h => h
          · (refine Or.inl ⟨by rfl, ?_⟩; intro w hSw; (try dsimp only at hSw); go_simp <;> with_reducible rfl)
          try simp only [Act.put, List.setIfInBounds_toArray, List.set_cons_zero, List.set_cons_succ]
          refine wpAnyH_take (i := 7) (oi := ?_) (v := ?_) ?_ (by kernel_rfl) (by kernel_rfl) (by kernel_rfl) ?_ ?_ (by assumption) ?_
          rotate_left 2
          · (simp only [List.getElem?_toArray, List.getElem?_cons_succ, List.getElem?_cons_zero]; rfl)
          · exact fun _ _ _ h => h
          · (refine Or.inl ⟨by rfl, ?_⟩; intro w hSw; (try dsimp only at hSw); go_simp <;> with_reducible rfl)
          try simp only [Act.put, List.setIfInBounds_toArray, List.set_cons_zero, List.set_cons_succ]
          refine wpAnyH_take (i := 8) (oi := ?_) (v := undef) ?_ (by kernel_rfl) (by kernel_rfl) (by kernel_rfl) ?_ ?_ (by assumption) ?_
          rotate_left 1
          · (simp only [List.getElem?_toArray, List.getElem?_cons_succ, List.getElem?_cons_zero]; rfl)
          · exact fun _ _ _ h => h
          · exact Or.inr ⟨by rfl, rfl⟩
          try simp only [Act.put, List.setIfInBounds_toArray, List.set_cons_zero, List.set_cons_succ]
          refine wpAnyH_take (i := 9) (oi := ?_) (v := undef) ?_ (by kernel_rfl) (by kernel_rfl) (by kernel_rfl) ?_ ?_ (by assumption) ?_
          rotate_left 1
          · (simp only [List.getElem?_toArray, List.getElem?_cons_succ, List.getElem?_cons_zero]; rfl)
          · exact fun _ _ _ h => h
          · exact Or.inr ⟨by rfl, rfl⟩
          try simp only [Act.put, List.setIfInBounds_toArray, List.set_cons_zero, List.set_cons_succ]
          refine wpAnyH_take (i := 10) (oi := ?_) (v := undef) ?_ (by kernel_rfl) (by kernel_rfl) (by kernel_rfl) ?_ ?_ (by assumption) ?_
          rotate_left 1
          · (simp only [List.getElem?_toArray, List.getElem?_cons_succ, List.getElem?_cons_zero]; rfl)
          · exact fun _ _ _ h => h
          · exact Or.inr ⟨by rfl, rfl⟩
          try simp only [Act.put, List.setIfInBounds_toArray, List.set_cons_zero, List.set_cons_succ]
          refine wpAnyH_take (i := 11) (oi := ?_) (v := undef) ?_ (by kernel_rfl) (by kernel_rfl) (by kernel_rfl) ?_ ?_ (by assumption) ?_
          rotate_left 1
          · (simp only [List.getElem?_toArray, List.getElem?_cons_succ, List.getElem?_cons_zero]; rfl)
          · exact fun _ _ _ h => h
          · exact Or.inr ⟨by rfl, rfl⟩
          try simp only [Act.put, List.setIfInBounds_toArray, List.set_cons_zero, List.set_cons_succ]
          refine wpAnyH_take (i := 12) (oi := ?_) (v := undef) ?_ (by kernel_rfl) (by kernel_rfl) (by kernel_rfl) ?_ ?_ (by assumption) ?_
          rotate_left 1
          · (simp only [List.getElem?_toArray, List.getElem?_cons_succ, List.getElem?_cons_zero]; rfl)
          · exact fun _ _ _ h => h
          · exact Or.inr ⟨by rfl, rfl⟩
          try simp only [Act.put, List.setIfInBounds_toArray, List.set_cons_zero, List.set_cons_succ]
          refine wpAnyH_take (i := 13) (oi := ?_) (v := ?_) ?_ (by kernel_rfl) (by kernel_rfl) (by kernel_rfl) ?_ ?_ (by assumption) ?_
          rotate_left 2
          · (simp only [List.getElem?_toArray, List.getElem?_cons_succ, List.getElem?_cons_zero]; rfl)
          · exact fun _ _ _ h => h
          · (refine Or.inl ⟨by rfl, ?_⟩; intro w hSw; (try dsimp only at hSw); go_simp <;> with_reducible rfl)
          try simp only [Act.put, List.setIfInBounds_toArray, List.set_cons_zero, List.set_cons_succ]
          refine wpAnyH_done (by kernel_rfl) (NoPanic.normal ?_) _
          go_wp2_with fail
          go_meet
          exact ⟨by rw [e.out], (Below.refl _ _).drew⟩
      case rest =>
      obtain ⟨rfl, hb9⟩ := hcut
      obtain ⟨W9, hW9⟩ : ∃ W9, W9 = wc := ⟨_, rfl⟩
      subst hW9
      have HC9 := hide (HC8.out.below hb9)
      have HST9 := hide (HST8.out.trans (Stp.of_below hb9))
      have HP9 := hide (HP7.out.belowN hb9)
      clear hb9 q6 ch haz2
      cases az with
      | false =>
        obtain ⟨px, hpx⟩ : ∃ px, px = p7 := ⟨_, rfl⟩
        subst hpx
        have HS2 : Hid (S = (s2.hear4 j ⟨kind, src, dst, kid, first, press, ack, frame, sum⟩).hold) := by show _ = _; rw [HS0.out, Co.hear3, ← HAZ.out, if_neg (by decide)]
        have hsl : s2.peers.length = s.peers.length := HSL2.out
        have hsev : s2.events = s.events := HEV2.out
        obtain ⟨sx, hsx⟩ : ∃ sx, sx = s2 := ⟨_, rfl⟩
        have HSX := hide hsx
        have HCX := hide (show CAt B W9 x px sx by rw [hsx]; exact HC9.out)
        have HPX := hide HP9.out
        have HSTX := hide (show Stp w W9 x p px from HST9.out)
        have hplen : sx.peers.length = s.peers.length := by rw [hsx]; exact hsl
        have hevl : sx.events = s.events := by rw [hsx]; exact hsev
        have HENX : Hid (px.en ≤ 999999000) := by show _ ≤ _; have h1 := HCX.out.en; have h2 := H.out.en; rw [hevl] at h1; omega
        obtain ⟨prx, hprx⟩ : ∃ prx, prx = sx.peers[j]'(by rw [hplen]; exact HJN.out) := ⟨_, rfl⟩
        have HPRX : Hid (sx.pr j = prx) := by show _ = _; rw [hprx, Co.pr, List.getD_eq_getElem?_getD, List.getElem?_eq_getElem (by rw [hplen]; exact HJN.out)]; rfl
        have HPRM : Hid (prx ∈ sx.peers) := by rw [hprx]; exact List.getElem_mem _
        have c2 := HCX.out.pcell (i := j) (j := 2) (v := .int .i64 prx.frame) (by rw [hplen]; exact HJN.out) (by omega) (by rw [← hprx]; rfl)
        obtain ⟨fr, hfr⟩ : ∃ fr, fr = prx.frame := ⟨_, rfl⟩
        rw [← hfr] at c2
        have q7 := HPX.out.cell (j := 7) (by simp)
        simp only [List.getElem_cons_zero, List.getElem_cons_succ] at q7
        obtain ⟨wz, hwz⟩ : ∃ wz, wz = sx.words j ⟨kind, src, dst, kid, first, press, ack, frame, sum⟩ := ⟨_, rfl⟩
        have hwz2 : wz = (decide (frame > 0) && decide (frame ≥ fr)) := by rw [hwz, Co.words, HPRX.out, ← hfr]
        have HWZ := hide hwz
        have HPLEN := hide hplen
        clear hsx hplen hevl hprx hwz hfr
        go_upto_region 15 with fail
        go_cut [114] (fun s114 wx => s114 = .bool wz ∧ ∃ nd, wx = W9.drewN nd)
        case first =>
          by_cases h1 : frame > 0
          · have d1 : decide (frame > 0) = true := decide_eq_true h1
            by_cases h2 : frame ≥ fr
            · have d2 : decide (frame ≥ fr) = true := decide_eq_true h2
              have e : Hid (wz = true) := by show _ = _; rw [hwz2, d1, d2]; rfl
              clear hwz2 h1 h2
              go_quiet (fail)
              go_wp2_with fail
              go_meet
              exact ⟨by rw [e.out], _, rfl⟩
            · have d2 : decide (frame ≥ fr) = false := decide_eq_false h2
              have e : Hid (wz = false) := by show _ = _; rw [hwz2, d1, d2]; rfl
              clear hwz2 h1 h2
              go_quiet (fail)
              go_wp2_with fail
              go_meet
              exact ⟨by rw [e.out], _, rfl⟩
          · have d1 : decide (frame > 0) = false := decide_eq_false h1
            have e : Hid (wz = false) := by show _ = _; rw [hwz2, d1]; rfl
            clear hwz2 h1
            go_quiet (fail)
            go_wp2_with fail
            go_meet
            exact ⟨by rw [e.out], _, rfl⟩
        case rest =>
        obtain ⟨rfl, nd, hnd⟩ := hcut
        obtain ⟨WZ, hWZ⟩ : ∃ WZ, WZ = wc := ⟨_, rfl⟩
        subst hWZ
        have HCZ : Hid (CAt B WZ x px sx) := by show CAt _ _ _ _ _; rw [hnd]; exact HCX.out.drewN nd
        have HPZ : Hid (Arr 41 WZ g (Pkt.row ⟨kind, src, dst, kid, first, press, ack, frame, sum⟩ (.slice A2 n2 cc2))) := by show Arr _ _ _ _; rw [hnd]; exact HPX.out.drewN nd
        have HSTZ : Hid (Stp w WZ x p px) := by show Stp _ _ _ _ _; rw [hnd]; exact HSTX.out.trans (Stp.of_below (Below_drewN (Below.refl _ _) nd))
        clear hnd c2 q7 HCX HPX HSTX hwz2
        cases wz with
        | false =>
          have HS4 : Hid (S = sx.hold) := by show _ = _; rw [HS2.out, ← HSX.out, Co.hear4, ← HWZ.out, if_neg (by decide)]
          have hBZ : B ≤ WZ.heap.size := Nat.le_trans HB.out HSTZ.out.keeps.size
          go_wp2_with fail
          refine Calls.mono (core_hold HCZ.out hBZ HENX.out) ?_
          rintro r w9 ⟨rfl, p9, hc9, hst9⟩
          go_wp2_with fail
          go_ret
          exact ⟨by rw [HR.out]; rfl, p9, by rw [HS4.out]; exact hc9, HSTZ.out.trans hst9⟩
        | true =>
          have HS4 : Hid (S = (sx.setP j { prx with frame := frame, sum := sum }).hold) := by show _ = _; rw [HS2.out, ← HSX.out, Co.hear4, ← HWZ.out, if_pos rfl, HPRX.out]
          have hpx : sx.peers[j]'(by rw [HPLEN.out]; exact HJN.out) = prx := by
            have := HPRX.out
            rw [Co.pr, List.getD_eq_getElem?_getD, List.getElem?_eq_getElem (by rw [HPLEN.out]; exact HJN.out)] at this
            exact this
          have hjx : j < sx.peers.length := by rw [HPLEN.out]; exact HJN.out
          have c2 := HCZ.out.pcell (i := j) (j := 2) (v := .int .i64 prx.frame) hjx (by omega) (by rw [hpx]; rfl)
          have c3 := HCZ.out.pcell (i := j) (j := 3) (v := .int .u32 prx.sum) hjx (by omega) (by rw [hpx]; rfl)
          have f2 := HCZ.out.pfrozen (j * 5 + 2)
          have f3 := HCZ.out.pfrozen (j * 5 + 3)
          have q7 := HPZ.out.cell (j := 7) (by simp)
          have q8 := HPZ.out.cell (j := 8) (by simp)
          simp only [List.getElem_cons_zero, List.getElem_cons_succ] at q7 q8
          have hgp : g ≠ px.g := by
            intro e
            have h1 := HPZ.out.tb
            have h2 := owns_tb HCZ.out.peers px.g rfl
            rw [e] at h1
            exact absurd (h1.one h2) (by decide)
          have hfr1 : 0 ≤ frame ∧ frame ≤ 1000 := hkf
          have HP1 := hide (HCZ.out.setPeer j 2 (.int .i64 frame) { prx with frame := frame } hjx (by omega) (by rw [hpx]; rfl) (HCZ.out.ok.setPeer j _ (HCZ.out.ok.has prx HPRM.out) (HCZ.out.ok.heard prx HPRM.out) hfr1 (HCZ.out.ok.sum prx HPRM.out)))
          have HP2 := hide (HP1.out.1.setPeer j 3 (.int .u32 sum) { prx with frame := frame, sum := sum } (by show j < (sx.peers.set j _).length; rw [List.length_set]; exact hjx) (by omega) (by rw [List.getElem_set_self]; rfl) (HP1.out.1.ok.setPeer j _ (HCZ.out.ok.has prx HPRM.out) (HCZ.out.ok.heard prx HPRM.out) hfr1 HWF.out))
          have HP3 : Hid (CAt B ((WZ.setCell ⟨px.g, j * 5 + 2, none⟩ (.int .i64 frame)).setCell ⟨px.g, j * 5 + 3, none⟩ (.int .u32 sum)) x px (sx.setP j { prx with frame := frame, sum := sum })) := by
            have := HP2.out.1
            rw [List.set_set] at this
            exact this
          have HST3 := hide ((HSTZ.out.trans HP1.out.2).trans HP2.out.2)
          clear hjx hpx
          go_upto_region 16 with fail
          go_cut [121] (fun s121 wx => ∃ nd, wx = (((WZ.setCell ⟨px.g, j * 5 + 2, none⟩ (.int .i64 frame)).setCell ⟨px.g, j * 5 + 3, none⟩ (.int .u32 sum))).drewN nd)
          case first =>
            go_region
            go_wp2_with fail
            go_meet
            exact ⟨1, rfl⟩
          case rest =>
          obtain ⟨nd, hnd⟩ := hcut
          obtain ⟨WY, hWY⟩ : ∃ WY, WY = wc := ⟨_, rfl⟩
          subst hWY
          have HCY : Hid (CAt B WY x px (sx.setP j { prx with frame := frame, sum := sum })) := by show CAt _ _ _ _ _; rw [hnd]; exact HP3.out.drewN nd
          have HSTY : Hid (Stp w WY x p px) := by show Stp _ _ _ _ _; rw [hnd]; exact HST3.out.trans (Stp.of_below (Below_drewN (Below.refl _ _) nd))
          have hBZ : B ≤ WY.heap.size := Nat.le_trans HB.out HSTY.out.keeps.size
          clear hnd c2 c3 f2 f3 q7 q8
          go_wp2_with fail
          refine Calls.mono (core_hold HCY.out hBZ HENX.out) ?_
          rintro r w9 ⟨rfl, p9, hc9, hst9⟩
          go_wp2_with fail
          go_ret
          exact ⟨by rw [HR.out]; rfl, p9, by rw [HS4.out]; exact hc9, HSTY.out.trans hst9⟩
      | true =>
        have hack : 0 ≤ ack ∧ ack ≤ (s2.mine.length : Int) := by
          have h1 := HAZ.out
          rw [Co.acks] at h1
          have h2 := Bool.and_eq_true_iff.1 h1.symm
          exact ⟨hka.1, of_decide_eq_true h2.2⟩
        have hp2 : s2.peers[j]'(by rw [HSL2.out]; exact HJN.out) = pr2 := HPR3.out _
        have ch : W9.cell? ⟨p7.g, j * 5, none⟩ = some (.int .i64 pr2.has) := HC9.out.pcell (i := j) (j := 0) (v := .int .i64 pr2.has) (by rw [HSL2.out]; exact HJN.out) (by omega) (by rw [hp2]; rfl)
        have fh := HC9.out.pfrozen (j * 5)
        have q6 := HP9.out.cell (j := 6) (by simp)
        simp only [List.getElem_cons_zero, List.getElem_cons_succ] at q6
        have HS9 := hide (HC9.out.setPeer j 0 (.int .i64 ack) { pr2 with has := ack } (by rw [HSL2.out]; exact HJN.out) (by omega) (by rw [hp2]; rfl) (HC9.out.ok.setPeer j _ hack (HC9.out.ok.heard pr2 HPM2.out) (HC9.out.ok.frame pr2 HPM2.out) (HC9.out.ok.sum pr2 HPM2.out)))
        clear hp2
        go_upto_region 15 with fail
        have HSA : Hid (CAt B (W9.setCell ⟨p7.g, j * 5, none⟩ (.int .i64 ack)) x p7 (s2.setP j { pr2 with has := ack }) ∧ Stp W9 (W9.setCell ⟨p7.g, j * 5, none⟩ (.int .i64 ack)) x p7 p7) := HS9.out
        have HPA := hide (HP9.out.off HSA.out.2.keeps (HC9.out.off (Ts := [41]) (by decide)) (by simp))
        generalize World.setCell W9 _ _ = WA at HSA HPA ⊢
        clear ch fh q6
        obtain ⟨px, hpx⟩ : ∃ px, px = p7 := ⟨_, rfl⟩
        subst hpx
        have HS2 : Hid (S = ((s2.setP j { pr2 with has := ack }).hear4 j ⟨kind, src, dst, kid, first, press, ack, frame, sum⟩).hold) := by show _ = _; rw [HS0.out, Co.hear3, ← HAZ.out, if_pos rfl, HPR2.out]
        have hsl : (s2.setP j { pr2 with has := ack }).peers.length = s.peers.length := by show (s2.peers.set j _).length = _; rw [List.length_set]; exact HSL2.out
        have hsev : (s2.setP j { pr2 with has := ack }).events = s.events := HEV2.out
        obtain ⟨sx, hsx⟩ : ∃ sx, sx = (s2.setP j { pr2 with has := ack }) := ⟨_, rfl⟩
        have HSX := hide hsx
        have HCX := hide (show CAt B WA x px sx by rw [hsx]; exact HSA.out.1)
        have HPX := hide HPA.out
        have HSTX := hide (show Stp w WA x p px from (HST9.out.trans HSA.out.2))
        have hplen : sx.peers.length = s.peers.length := by rw [hsx]; exact hsl
        have hevl : sx.events = s.events := by rw [hsx]; exact hsev
        have HENX : Hid (px.en ≤ 999999000) := by show _ ≤ _; have h1 := HCX.out.en; have h2 := H.out.en; rw [hevl] at h1; omega
        obtain ⟨prx, hprx⟩ : ∃ prx, prx = sx.peers[j]'(by rw [hplen]; exact HJN.out) := ⟨_, rfl⟩
        have HPRX : Hid (sx.pr j = prx) := by show _ = _; rw [hprx, Co.pr, List.getD_eq_getElem?_getD, List.getElem?_eq_getElem (by rw [hplen]; exact HJN.out)]; rfl
        have HPRM : Hid (prx ∈ sx.peers) := by rw [hprx]; exact List.getElem_mem _
        have c2 := HCX.out.pcell (i := j) (j := 2) (v := .int .i64 prx.frame) (by rw [hplen]; exact HJN.out) (by omega) (by rw [← hprx]; rfl)
        obtain ⟨fr, hfr⟩ : ∃ fr, fr = prx.frame := ⟨_, rfl⟩
        rw [← hfr] at c2
        have q7 := HPX.out.cell (j := 7) (by simp)
        simp only [List.getElem_cons_zero, List.getElem_cons_succ] at q7
        obtain ⟨wz, hwz⟩ : ∃ wz, wz = sx.words j ⟨kind, src, dst, kid, first, press, ack, frame, sum⟩ := ⟨_, rfl⟩
        have hwz2 : wz = (decide (frame > 0) && decide (frame ≥ fr)) := by rw [hwz, Co.words, HPRX.out, ← hfr]
        have HWZ := hide hwz
        have HPLEN := hide hplen
        clear hsx hplen hevl hprx hwz hfr
        go_upto_region 15 with fail
        go_cut [114] (fun s114 wx => s114 = .bool wz ∧ ∃ nd, wx = WA.drewN nd)
        case first =>
          by_cases h1 : frame > 0
          · have d1 : decide (frame > 0) = true := decide_eq_true h1
            by_cases h2 : frame ≥ fr
            · have d2 : decide (frame ≥ fr) = true := decide_eq_true h2
              have e : Hid (wz = true) := by show _ = _; rw [hwz2, d1, d2]; rfl
              clear hwz2 h1 h2
              go_quiet (fail)
              go_wp2_with fail
              go_meet
              exact ⟨by rw [e.out], _, rfl⟩
            · have d2 : decide (frame ≥ fr) = false := decide_eq_false h2
              have e : Hid (wz = false) := by show _ = _; rw [hwz2, d1, d2]; rfl
              clear hwz2 h1 h2
              go_quiet (fail)
              go_wp2_with fail
              go_meet
              exact ⟨by rw [e.out], _, rfl⟩
          · have d1 : decide (frame > 0) = false := decide_eq_false h1
            have e : Hid (wz = false) := by show _ = _; rw [hwz2, d1]; rfl
            clear hwz2 h1
            go_quiet (fail)
            go_wp2_with fail
            go_meet
            exact ⟨by rw [e.out], _, rfl⟩
        case rest =>
        obtain ⟨rfl, nd, hnd⟩ := hcut
        obtain ⟨WZ, hWZ⟩ : ∃ WZ, WZ = wc := ⟨_, rfl⟩
        subst hWZ
        have HCZ : Hid (CAt B WZ x px sx) := by show CAt _ _ _ _ _; rw [hnd]; exact HCX.out.drewN nd
        have HPZ : Hid (Arr 41 WZ g (Pkt.row ⟨kind, src, dst, kid, first, press, ack, frame, sum⟩ (.slice A2 n2 cc2))) := by show Arr _ _ _ _; rw [hnd]; exact HPX.out.drewN nd
        have HSTZ : Hid (Stp w WZ x p px) := by show Stp _ _ _ _ _; rw [hnd]; exact HSTX.out.trans (Stp.of_below (Below_drewN (Below.refl _ _) nd))
        clear hnd c2 q7 HCX HPX HSTX hwz2
        cases wz with
        | false =>
          have HS4 : Hid (S = sx.hold) := by show _ = _; rw [HS2.out, ← HSX.out, Co.hear4, ← HWZ.out, if_neg (by decide)]
          have hBZ : B ≤ WZ.heap.size := Nat.le_trans HB.out HSTZ.out.keeps.size
          go_wp2_with fail
          refine Calls.mono (core_hold HCZ.out hBZ HENX.out) ?_
          rintro r w9 ⟨rfl, p9, hc9, hst9⟩
          go_wp2_with fail
          go_ret
          exact ⟨by rw [HR.out]; rfl, p9, by rw [HS4.out]; exact hc9, HSTZ.out.trans hst9⟩
        | true =>
          have HS4 : Hid (S = (sx.setP j { prx with frame := frame, sum := sum }).hold) := by show _ = _; rw [HS2.out, ← HSX.out, Co.hear4, ← HWZ.out, if_pos rfl, HPRX.out]
          have hpx : sx.peers[j]'(by rw [HPLEN.out]; exact HJN.out) = prx := by
            have := HPRX.out
            rw [Co.pr, List.getD_eq_getElem?_getD, List.getElem?_eq_getElem (by rw [HPLEN.out]; exact HJN.out)] at this
            exact this
          have hjx : j < sx.peers.length := by rw [HPLEN.out]; exact HJN.out
          have c2 := HCZ.out.pcell (i := j) (j := 2) (v := .int .i64 prx.frame) hjx (by omega) (by rw [hpx]; rfl)
          have c3 := HCZ.out.pcell (i := j) (j := 3) (v := .int .u32 prx.sum) hjx (by omega) (by rw [hpx]; rfl)
          have f2 := HCZ.out.pfrozen (j * 5 + 2)
          have f3 := HCZ.out.pfrozen (j * 5 + 3)
          have q7 := HPZ.out.cell (j := 7) (by simp)
          have q8 := HPZ.out.cell (j := 8) (by simp)
          simp only [List.getElem_cons_zero, List.getElem_cons_succ] at q7 q8
          have hgp : g ≠ px.g := by
            intro e
            have h1 := HPZ.out.tb
            have h2 := owns_tb HCZ.out.peers px.g rfl
            rw [e] at h1
            exact absurd (h1.one h2) (by decide)
          have hfr1 : 0 ≤ frame ∧ frame ≤ 1000 := hkf
          have HP1 := hide (HCZ.out.setPeer j 2 (.int .i64 frame) { prx with frame := frame } hjx (by omega) (by rw [hpx]; rfl) (HCZ.out.ok.setPeer j _ (HCZ.out.ok.has prx HPRM.out) (HCZ.out.ok.heard prx HPRM.out) hfr1 (HCZ.out.ok.sum prx HPRM.out)))
          have HP2 := hide (HP1.out.1.setPeer j 3 (.int .u32 sum) { prx with frame := frame, sum := sum } (by show j < (sx.peers.set j _).length; rw [List.length_set]; exact hjx) (by omega) (by rw [List.getElem_set_self]; rfl) (HP1.out.1.ok.setPeer j _ (HCZ.out.ok.has prx HPRM.out) (HCZ.out.ok.heard prx HPRM.out) hfr1 HWF.out))
          have HP3 : Hid (CAt B ((WZ.setCell ⟨px.g, j * 5 + 2, none⟩ (.int .i64 frame)).setCell ⟨px.g, j * 5 + 3, none⟩ (.int .u32 sum)) x px (sx.setP j { prx with frame := frame, sum := sum })) := by
            have := HP2.out.1
            rw [List.set_set] at this
            exact this
          have HST3 := hide ((HSTZ.out.trans HP1.out.2).trans HP2.out.2)
          clear hjx hpx
          go_upto_region 16 with fail
          go_cut [121] (fun s121 wx => ∃ nd, wx = (((WZ.setCell ⟨px.g, j * 5 + 2, none⟩ (.int .i64 frame)).setCell ⟨px.g, j * 5 + 3, none⟩ (.int .u32 sum))).drewN nd)
          case first =>
            go_region
            go_wp2_with fail
            go_meet
            exact ⟨1, rfl⟩
          case rest =>
          obtain ⟨nd, hnd⟩ := hcut
          obtain ⟨WY, hWY⟩ : ∃ WY, WY = wc := ⟨_, rfl⟩
          subst hWY
          have HCY : Hid (CAt B WY x px (sx.setP j { prx with frame := frame, sum := sum })) := by show CAt _ _ _ _ _; rw [hnd]; exact HP3.out.drewN nd
          have HSTY : Hid (Stp w WY x p px) := by show Stp _ _ _ _ _; rw [hnd]; exact HST3.out.trans (Stp.of_below (Below_drewN (Below.refl _ _) nd))
          have hBZ : B ≤ WY.heap.size := Nat.le_trans HB.out HSTY.out.keeps.size
          clear hnd c2 c3 f2 f3 q7 q8
          go_wp2_with fail
          refine Calls.mono (core_hold HCY.out hBZ HENX.out) ?_
          rintro r w9 ⟨rfl, p9, hc9, hst9⟩
          go_wp2_with fail
          go_ret
          exact ⟨by rw [HR.out]; rfl, p9, by rw [HS4.out]; exact hc9, HSTY.out.trans hst9⟩
    · simp only at hk2
      have d2 : (kind == 2) = true := by rw [hk2]; rfl
      have HS0 : Hid (S = { s.hear1 j with events := (s.hear1 j).events ++ [.quit (j : Int)], closed := true }) := by
        show _ = _
        rw [HS.out, Co.hear, if_pos hk2, HEV1.out]
        have e : (Pkt.src ⟨kind, src, dst, kid, first, press, ack, frame, sum⟩).toNat = j := by show src.toNat = j; rw [HJ.out]; rfl
        rw [e, ← HJ.out]
      have q1 := HP6.out.cell (j := 1) (by simp)
      simp only [List.getElem_cons_zero, List.getElem_cons_succ] at q1
      rw [HJ.out] at q1
      have hj8 : j < 8 := by have := HJN.out; have := H.out.ok.np; have := H.out.ok.cfg.n; omega
      have hB6 : B ≤ W6.heap.size := Nat.le_trans HB.out HST6.out.keeps.size
      clear hk2
      go_wp2_with fail
      refine Calls.mono (core_note HC6.out hB6 (.quit (j : Int)) ⟨⟨by show 0 ≤ (j : Int); omega, by show (j : Int) < 8; omega⟩, ⟨by show (0 : Int) ≤ 0; omega, by show (0 : Int) ≤ 1000; omega⟩⟩ (by omega)) ?_
      rintro r w7 ⟨rfl, p7, hc7, hst7⟩
      have HST7 := hide (HST6.out.trans hst7)
      have f15 := hc7.hfrozen 15
      have c15 := hc7.cell (coRow_closed _ _)
      have HC8 := hide (hc7.setHead 15 (.bool true) { s.hear1 j with events := (s.hear1 j).events ++ [.quit (j : Int)], closed := true } (by rfl) rfl rfl rfl rfl ⟨hc7.ok.cfg, hc7.ok.np, hc7.ok.nl, hc7.ok.short, hc7.ok.head, hc7.ok.has, hc7.ok.heard, hc7.ok.frame, hc7.ok.sum, hc7.ok.marks, hc7.ok.mark, hc7.ok.now, hc7.ok.events⟩)
      clear hc7 hst7
      go_wp2_with fail
      go_ret
      exact ⟨by rw [HR.out]; rfl, p7, by rw [HS0.out]; exact HC8.out.1, HST7.out.trans HC8.out.2⟩
end Go.Proofs.Ytbcgffgiifminaa
