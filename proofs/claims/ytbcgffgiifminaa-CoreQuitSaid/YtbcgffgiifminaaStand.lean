/-
  What law 21 stands on: a core of the law's own; its events told.
  quintainlaw21.begun: two players.
-/
import Derived.Test.YtbcgffgiifminaaStand10
namespace Go.Proofs.Ytbcgffgiifminaa
open Go.RowKit
set_option maxRecDepth 10000
set_option linter.unusedVariables false
/-- A core of the call's own: what lies below B is as it was. -/
structure HC (B : Nat) (w0 w : World) (x : Nat) (p : CP) (s : Co) : Prop where
  core : CAt B w x p s
  bel : Below B w0 w
  base : B ≤ w.heap.size
section
variable {B : Nat} {w0 w w' : World} {x : Nat} {p p' : CP} {s s' : Co}
theorem HC.step (h : HC B w0 w x p s) (c : CAt B w' x p' s') (st : Stp w w' x p p') : HC B w0 w' x p' s' := ⟨c, h.bel.trans (st.below h.core h.base), Nat.le_trans h.base st.keeps.size⟩
theorem HC.below (h : HC B w0 w x p s) (hb : Below w.heap.size w w') : HC B w0 w' x p s := ⟨h.core.below hb, h.bel.trans (hb.mono h.base), Nat.le_trans h.base hb.size⟩
theorem HC.drewN (h : HC B w0 w x p s) (k : Nat) : HC B w0 (w.drewN k) x p s := h.below (Below_drewN (Below.refl _ _) k)
theorem HC.en (h : HC B w0 w x p s) (n : Nat) (hn : s.events.length ≤ n) : p.en ≤ n := by rw [← h.core.en]; exact hn
/-- Bytes beside a core. -/
structure Aside (w : World) (x : Nat) (p : CP) (A : Option Addr) (n c : Nat) (l : List UInt8) : Prop where
  own : OwnB w 0 A n c l
  out : ∀ k, some k = (Value.slice A n c).ownBlock → ¬ cBlocks x p k
theorem Aside.new {A : Option Addr} {n c : Nat} {l : List UInt8} (h : CAt B w x p s) (ho : OwnB w' w.heap.size A n c l) : Aside w' x p A n c l :=
  ⟨OwnB.base_le ho (Nat.zero_le _), fun k hk hc => by have := (ho.blk k hk).1; have := (h.blocks k hc).2; omega⟩
theorem Aside.below {A : Option Addr} {n c : Nat} {l : List UInt8} (h : Aside w x p A n c l) (hb : Below w.heap.size w w') : Aside w' x p A n c l := ⟨h.own.below hb, h.out⟩
theorem Aside.step {A : Option Addr} {n c : Nat} {l : List UInt8} (h : Aside w x p A n c l) (st : Stp w w' x p p') : Aside w' x p' A n c l :=
  ⟨h.own.keeps st.keeps h.out, fun k hk hc => by
    rcases st.new k hc with h' | h'
    · exact h.out k hk h'
    · have := (h.own.blk k hk).2; omega⟩
theorem use_New (c : Cfg) (hf : c.Fine) (w : World) : Calls Try.prog 14 #[c.val] w fun e w' => ∃ x p, e = .returned (.tuple #[.pointer (some ⟨x, 0, none⟩), .int .i64 0]) ∧ HC w.heap.size w w' x p (Co.new c) :=
  (core_New c hf w).mono fun r w' ⟨x, p, hr, hc, hb⟩ => ⟨x, p, hr, ⟨hc, hb, hb.size⟩⟩
theorem use_Press (h : HC B w0 w x p s) (b : UInt8) {v : Int} (hv : v = (b.toNat : Int)) {E : Int} (hE : s.pressErr = E) {S : Co} (hS : s.press b = S) :
    Calls Try.prog 15 #[.pointer (some ⟨x, 0, none⟩), .int .u8 v] w fun r w' => r = .returned (.int .i64 E) ∧ ∃ p', HC B w0 w' x p' S ∧ Stp w w' x p p' := by
  subst hE hS
  exact (core_Press h.core h.base b hv).mono fun r w' ⟨hr, p', hc, st⟩ => ⟨hr, p', h.step hc st, st⟩
theorem use_Mark (h : HC B w0 w x p s) (hen : s.events.length ≤ 999999000) (m : Int) (hm : 0 ≤ m ∧ m < 4294967296) {S : Co} (hS : s.mark m = S) :
    Calls Try.prog 30 #[.pointer (some ⟨x, 0, none⟩), .int .u32 m] w fun r w' => r = .returned (.tuple #[]) ∧ ∃ p', HC B w0 w' x p' S ∧ Stp w w' x p p' := by
  subst hS
  exact (core_Mark h.core h.base (h.en _ hen) m hm).mono fun r w' ⟨hr, p', hc, st⟩ => ⟨hr, p', h.step hc st, st⟩
theorem use_Quit (h : HC B w0 w x p s) {M : List Mle} (hM : s.quitMails = M) :
    Calls Try.prog 32 #[.pointer (some ⟨x, 0, none⟩)] w fun r w' => ∃ A n c xs, r = .returned (.slice A n c) ∧ ML 47 w.heap.size w' A n c xs ∧ xs.map Prod.fst = M ∧ HC B w0 w' x p s.quit ∧ Stp w w' x p p := by
  subst hM
  exact (core_Quit h.core h.base).mono fun r w' ⟨A, n, c, xs, hr, hm, hx, hc, st⟩ => ⟨A, n, c, xs, hr, hm, hx, h.step hc st, st⟩
theorem use_Tick (h : HC B w0 w x p s) (hnow : s.now < 1000000000) (hen : s.events.length ≤ 999999000) {M : List Mle} (hM : s.tickMails = M) {S : Co} (hS : s.tick = S) :
    Calls Try.prog 22 #[.pointer (some ⟨x, 0, none⟩)] w fun r w' => ∃ A n c xs, r = .returned (.slice A n c) ∧ ML 47 w.heap.size w' A n c xs ∧ xs.map Prod.fst = M ∧ ∃ p', HC B w0 w' x p' S ∧ Stp w w' x p p' ∧ (0 < n → p' = p) := by
  subst hM hS
  exact (core_Tick h.core h.base hnow (by have := h.en _ hen; omega)).mono fun r w' ⟨A, n, c, xs, hr, hm, hx, p', hc, st, he⟩ => ⟨A, n, c, xs, hr, hm, hx, p', h.step hc st, st, he⟩
theorem use_Receive_closed (h : HC B w0 w x p s) (hcl : s.closed = true) (A : Option Addr) (n c : Nat) : Calls Try.prog 20 #[.pointer (some ⟨x, 0, none⟩), .slice A n c] w fun r w' => r = .returned (.int .i64 6) ∧ w = w' := core_Receive_closed h.core hcl A n c
theorem use_Receive_no (h : HC B w0 w x p s) (hcl : s.closed = false) {A : Option Addr} {n c B' : Nat} {b : List UInt8} (hb : ∀ q, ¬ Pkt.Is b q) (hA : LiesB w B' A n b) (hB' : B' ≤ w.heap.size) (hnc : n ≤ c) (hn : n ≤ 1000000) :
    Calls Try.prog 20 #[.pointer (some ⟨x, 0, none⟩), .slice A n c] w fun r w' => r = .returned (.int .i64 1) ∧ HC B w0 w' x p s ∧ Below w.heap.size w w' :=
  (core_Receive_no h.core hcl hb hA hB' hnc hn).mono fun r w' ⟨hr, hb⟩ => ⟨hr, h.below hb, hb⟩
theorem use_Receive_yes (h : HC B w0 w x p s) (hcl : s.closed = false) (hen : s.events.length ≤ 999999000) {A : Option Addr} {n c B' : Nat} {b : List UInt8} (k : Pkt) (hb : Pkt.Is b k) (hA : LiesB w B' A n b) (hB' : B' ≤ w.heap.size) (hnc : n ≤ c) (hn : n ≤ 1000000)
    {R : Int} (hR : (if s.fits k = true then 0 else 1) = R) {S : Co} (hS : (if s.fits k = true then s.hear k else s) = S) :
    Calls Try.prog 20 #[.pointer (some ⟨x, 0, none⟩), .slice A n c] w fun r w' => r = .returned (.int .i64 R) ∧ ∃ p', HC B w0 w' x p' S ∧ Stp w w' x p p' := by
  subst hR hS
  exact (core_Receive_yes h.core h.base hcl (h.en _ hen) k hb hA hB' hnc hn).mono fun r w' ⟨hr, p', hc, st⟩ => ⟨hr, p', h.step hc st, st⟩
theorem use_Events (h : HC B w0 w x p s) {l : List Ev} (hl : s.events = l) : Calls Try.prog 27 #[.pointer (some ⟨x, 0, none⟩)] w fun r w' => ∃ A c, r = .returned (.slice A l.length c) ∧ OwnV 114 w' B A l.length c (l.map Ev.val) ∧ ∃ p', HC B w0 w' x p' { s with events := [] } ∧ Stp w w' x p p' := by
  subst hl
  refine (core_Events h.core).mono ?_
  rintro r w' ⟨hr, ho, hc, st⟩
  have e := h.core.en
  exact ⟨p.eA, p.ec, by rw [e]; exact hr, by rw [e]; exact ho, _, h.step hc st, st⟩
theorem use_Head (h : HC B w0 w x p s) {m : Int} (hm : (s.mine.length : Int) = m) : Calls Try.prog 16 #[.pointer (some ⟨x, 0, none⟩)] w fun r w' => r = .returned (.int .i64 m) ∧ HC B w0 w' x p s ∧ Below w.heap.size w w' := by
  subst hm
  exact (core_Head h.core).mono fun r w' ⟨hr, hb⟩ => ⟨hr, h.below hb, hb⟩
theorem use_Front (h : HC B w0 w x p s) {m : Int} (hm : (front s.ls : Int) = m) : Calls Try.prog 18 #[.pointer (some ⟨p.q, 0, none⟩)] w fun r w' => r = .returned (.int .i64 m) ∧ w = w' := by
  obtain ⟨i, -, hi, -, -, h8⟩ := h.core.me
  exact queue_Front h.core.q (by omega) (by omega) hm.symm
theorem use_Marks (h : HC B w0 w x p s) {m : Int} (hm : (s.marks.length : Int) = m) : Calls Try.prog 31 #[.pointer (some ⟨x, 0, none⟩)] w fun r w' => r = .returned (.int .i64 m) ∧ w = w' := by
  subst hm
  rw [h.core.mn]
  exact core_Marks h.core
theorem use_Closed (h : HC B w0 w x p s) {z : Bool} (hz : s.closed = z) : Calls Try.prog 26 #[.pointer (some ⟨x, 0, none⟩)] w fun r w' => r = .returned (.bool z) ∧ w = w' := by
  subst hz
  exact core_Closed h.core
end
theorem core_Mark_nil (m : Int) (w : World) : Calls Try.prog 30 #[.pointer none, .int .u32 m] w fun r w' => r = .returned (.tuple #[]) ∧ w = w' := by
  go_enter Try.func30, Try.ntmps30
  go_wp2_with fail
  exact bodyPost_ret (v := .tuple #[]) (by simp [results, go_sem]) rfl ⟨rfl, rfl⟩
theorem elem_raws : ElemN 56 59 (.agg #[.int .i64 0, .int .i64 0, .int .i64 0]) 3 24 := ⟨Try.underlying56, by kernel_rfl, rfl, by omega⟩
theorem Ev.row_len (e : Ev) : e.row.length = 3 := rfl
theorem Ev.val_one (e : Ev) : e.val.oneCell' = true := by cases e <;> rfl
set_option maxHeartbeats 2000000 in
theorem law_Raws {B : Nat} {A : Option Addr} {n c : Nat} {es : List Ev} {w : World} (h : OwnV 114 w B A n c (es.map Ev.val)) (hn8 : n ≤ 999999999) :
    Calls Try.prog 29 #[.slice A n c] w fun r w' => ∃ A' c', r = .returned (.slice A' n c') ∧ w'.ownsRow w.heap.size 59 3 (.slice A' n c') n (es.flatMap Ev.row) ∧ Below w.heap.size w w' := by
  have hel : es.length = n := by have := h.len; rwa [List.length_map] at this
  have HO := hide h
  have HEL := hide hel
  clear h hel
  go_enter Try.func29, Try.ntmps29
  go_wp2_with fail
  go_loopg [3, 4] n (fun gg s3 s4 wr => ∃ (k : Nat) (A' : Option Addr) (c' : Nat), k ≤ n ∧ gg = n - k ∧ s4 = .int .i64 (k : Int) ∧ s3 = .slice A' k c' ∧ Hid (wr.ownsRow w.heap.size 59 3 (.slice A' k c') k ((es.take k).flatMap Ev.row)) ∧ Hid (Below w.heap.size w wr))
  case atStart => exact ⟨0, none, 0, by omega, rfl, rfl, rfl, World.ownsRow_nil _ _ _ _, Below.refl _ _⟩
  case round =>
    obtain ⟨W1, hW1⟩ : ∃ W1, W1 = wr := ⟨_, rfl⟩
    subst hW1
    obtain ⟨k, A', c', hkn, rfl, rfl, rfl, HR, HB⟩ := hrel
    by_cases hlt : k < n
    · obtain ⟨g, hg, -, -⟩ := HO.out.form (by omega)
      have HO1 := HO.out.below HB.out
      rw [hg] at HO1
      obtain ⟨hl9, c9⟩ := HO1.cell hlt
      have hlL : k < es.length := by rw [HEL.out]; exact hlt
      obtain ⟨e, he⟩ : ∃ e, e = es[k] := ⟨_, rfl⟩
      have hr : W1.rangeAt g k [e.val] := by
        intro j v hv
        cases j with
        | zero =>
          have : v = e.val := by simpa using hv.symm
          rw [this, Nat.add_zero, c9, List.getElem_map, he]
        | succ j => simp at hv
      have HRG := hide hr
      have HTK : Hid ((es.take (k + 1)).flatMap Ev.row = (es.take k).flatMap Ev.row ++ e.row) := by
        show _ = _
        rw [List.take_succ_eq_append_getElem hlL, List.flatMap_append, List.flatMap_singleton, he]
      have hki : (k : Int) < (n : Int) := by omega
      subst hg
      clear hr hl9 c9 he HO1
      go_wp2_with (refine wpList_load_mid rfl 114 (.tmp 14) rfl g k rfl [e.val] _ HRG.out Try.underlying114 rfl info_ev ?_)
      refine Calls.mono (event_Raw e _) ?_
      rintro r w2 ⟨rfl, hb2⟩
      rw [show Value.agg e.row.toArray = .agg #[.int .i64 e.kind, .int .i64 e.player, .int .i64 e.frame] from rfl]
      have bn := Below_new w2 (.cells #[.int .i64 e.kind, .int .i64 e.player, .int .i64 e.frame] 59)
      have HR2 := hide (ownsRow_below (ownsRow_below HR.out hb2) bn)
      have HB2 := hide (Below_step (HB.out.trans (hb2.mono HB.out.size)) bn)
      have HL2 := hide (Lies.new w2 #[.int .i64 e.kind, .int .i64 e.player, .int .i64 e.frame] 59 (0, 0))
      have hB2 := HB2.out.size
      clear hb2 bn
      go_wp2_with (refine wpN_append elem_raws rfl (.tmp 11) (.tmp 17) rfl w.heap.size A' k c' _ rfl HR2.out _ _ 1 [.int .i64 e.kind, .int .i64 e.player, .int .i64 e.frame] rfl rfl HL2.out (by simp [Value.oneCell']) (by omega) (by omega) hB2 ?_; intro g9 c9 w9 own9 k9 hk9; have HOW := hide own9; have HK9 := hide (HB2.out.trans (k9.below hB2 (fun j hj hm => by have := World.ownsRow.lt HR2.out j hm.symm; omega))); clear own9 k9 hk9)
      go_roundg (n - (k + 1))
      case measure => omega
      case rel => exact ⟨k + 1, some ⟨g9, 0, none⟩, c9, by omega, rfl, by go_num, rfl, by rw [HTK.out]; exact HOW, HK9⟩
    · obtain rfl : n = k := by omega
      go_wp2_with fail
      go_ret
      refine ⟨A', c', rfl, ?_, HB.out⟩
      have := HR.out
      rw [List.take_of_length_le (by rw [HEL.out]; exact Nat.le_refl _)] at this
      exact this
end Go.Proofs.Ytbcgffgiifminaa
namespace Go.Proofs.Ytbcgffgiifminaa
open Go.RowKit
set_option maxRecDepth 10000
set_option linter.unusedVariables false
/-- A row beside a core. -/
structure AsideN (e : TypeId) (sz : Nat) (w : World) (x : Nat) (p : CP) (A : Option Addr) (n c : Nat) (l : List Value) : Prop where
  own : w.ownsRow 0 e sz (.slice A n c) n l
  out : ∀ k, some k = (Value.slice A n c).ownBlock → ¬ cBlocks x p k
section
variable {e : TypeId} {sz : Nat} {w w' : World} {x : Nat} {p p' : CP} {A : Option Addr} {n c : Nat} {l : List Value}
theorem AsideN.below (h : AsideN e sz w x p A n c l) (hb : Below w.heap.size w w') : AsideN e sz w' x p A n c l := ⟨ownsRow_below h.own hb, h.out⟩
theorem ownsRow_keeps {S : Nat → Prop} {B : Nat} (h : w.ownsRow B e sz (.slice A n c) n l) (hk : Keeps S w w') (hn : ∀ k, some k = (Value.slice A n c).ownBlock → ¬ S k) : w'.ownsRow B e sz (.slice A n c) n l := by
  refine ⟨h.1, ?_⟩
  rcases h.2 with h2 | ⟨g, cap, cur, hv, hb, hh, r⟩
  · exact .inl h2
  · refine .inr ⟨g, cap, cur, hv, hb, ?_, r⟩
    rw [hk.block g (Array.getElem?_eq_some_iff.1 hh).1 (hn g (by rw [hv]; rfl))]
    exact hh
theorem AsideN.step (h : AsideN e sz w x p A n c l) (st : Stp w w' x p p') : AsideN e sz w' x p' A n c l :=
  ⟨ownsRow_keeps h.own st.keeps h.out, fun k hk hc => by
    rcases st.new k hc with h' | h'
    · exact h.out k hk h'
    · have := (World.ownsRow.lt h.own k hk.symm).2; omega⟩
theorem AsideN.of {B B' : Nat} {s : Co} {w1 : World} (h : w.ownsRow B e sz (.slice A n c) n l) (hc : CAt B' w1 x p s) (hb : w1.heap.size ≤ B) : AsideN e sz w x p A n c l :=
  ⟨ownsRow_base_le h (Nat.zero_le _), fun k hk hm => by have := (World.ownsRow.lt h k hk.symm).1; have := (hc.blocks k hm).2; omega⟩
end
/-- The cells of a mail in its row. -/
theorem mail_cell {T : TypeId} {B : Nat} {w : World} {A : Option Addr} {n c : Nat} {xs : List (Mle × Sl)} (h : w.ownsRow B T 3 (.slice A n c) n (xs.flatMap mrow)) {i : Nat} (hi : i < n) (hx : i < xs.length) :
    ∃ g, A = some ⟨g, 0, none⟩ ∧ w.cell? ⟨g, i * 3, none⟩ = some (.int .i64 xs[i].1.src) ∧ w.cell? ⟨g, i * 3 + 1, none⟩ = some (.int .i64 xs[i].1.dst) ∧ w.cell? ⟨g, i * 3 + 2, none⟩ = some (sv xs[i].2) := by
  obtain ⟨g, hg⟩ : ∃ g, A = some ⟨g, 0, none⟩ := by
    rcases h.2 with ⟨hv, hx⟩ | ⟨g, cap, cur, hv, _⟩
    · omega
    · injection hv with h1 _ _; exact ⟨g, h1⟩
  subst hg
  have cc : ∀ j, j < 3 → ∀ v, (mrow xs[i])[j]? = some v → w.cell? ⟨g, i * 3 + j, none⟩ = some v := by
    intro j hj v hv
    rw [World.ownsRow.cellAt h (i * 3 + j) (by omega), flat_get mrow_len _ i j hx hj, hv]
  exact ⟨g, rfl, cc 0 (by omega) _ rfl, cc 1 (by omega) _ rfl, cc 2 (by omega) _ rfl⟩
def cfgB : Cfg := ⟨2, 1, 5, 0, 4, 1, 0, 0, 0, 3⟩
def pktB : Pkt := ⟨1, 0, 1, 5, 0, [3], 1, 0, 0⟩
def coB1 : Co := (Co.new cfgB).press 7
def coB2 : Co := coB1.tick
def coB3 : Co := coB2.hear pktB
def coB4 : Co := coB3.tick
theorem cfgB_fine : cfgB.Fine := cfgB.may_iff.1 (by decide)
theorem pktB_may : pktB.may = true := by decide
theorem pktB_wf : pktB.WF := ⟨by decide, by decide⟩
theorem coB1_err : (Co.new cfgB).pressErr = 0 := by decide
theorem coB1_mails : coB1.tickMails = [coB1.ticked.tellTo 0] := by rfl
theorem coB2_fits : coB2.fits pktB = true := by decide
theorem coB3_mails : coB3.tickMails = [coB3.ticked.tellTo 0] := by rfl
theorem coB4_mine : coB4.mine.length = 1 := by rfl
theorem coB4_front : front coB4.ls = 1 := by rfl
theorem coB4_closed : coB4.closed = false := by rfl
theorem coB4_events : coB4.events = [] := by rfl
theorem nil_no : ∀ q, ¬ Pkt.Is [] q := fun q h => by have := (Pkt.is_head h).1; simp at this
set_option maxHeartbeats 8000000 in
theorem begun21 (w : World) : Calls Try.prog 13 #[] w fun r w' => r = .returned (.bool true) ∧ Below w.heap.size w w' := by
  obtain ⟨s0, h0⟩ : ∃ s, s = Co.new cfgB := ⟨_, rfl⟩
  obtain ⟨s1, h1⟩ : ∃ s, s = coB1 := ⟨_, rfl⟩
  obtain ⟨s2, h2⟩ : ∃ s, s = coB2 := ⟨_, rfl⟩
  obtain ⟨s3, h3⟩ : ∃ s, s = coB3 := ⟨_, rfl⟩
  obtain ⟨s4, h4⟩ : ∃ s, s = coB4 := ⟨_, rfl⟩
  have HE0 : Hid (s0.pressErr = 0) := by show _ = _; rw [h0]; exact coB1_err
  have HP0 : Hid (s0.press 7 = s1) := by show _ = _; rw [h0, h1]; rfl
  have HM1 : Hid (s1.tickMails = [coB1.ticked.tellTo 0]) := by show _ = _; rw [h1]; exact coB1_mails
  have HT1 : Hid (s1.tick = s2) := by show _ = _; rw [h1, h2]; rfl
  have HN1 : Hid (s1.now < 1000000000 ∧ s1.events.length ≤ 999999000) := by show _ ∧ _; rw [h1]; decide
  have HF2 : Hid ((if s2.fits pktB = true then (0 : Int) else 1) = 0) := by show _ = _; rw [h2]; decide
  have HS2 : Hid ((if s2.fits pktB = true then s2.hear pktB else s2) = s3) := by show _ = _; rw [h2, h3]; rw [if_pos coB2_fits]; rfl
  have HC2 : Hid (s2.closed = false ∧ s2.events.length ≤ 999999000) := by show _ ∧ _; rw [h2]; exact ⟨by rfl, by decide⟩
  have HM3 : Hid (s3.tickMails = [coB3.ticked.tellTo 0]) := by show _ = _; rw [h3]; exact coB3_mails
  have HT3 : Hid (s3.tick = s4) := by show _ = _; rw [h3, h4]; rfl
  have HN3 : Hid (s3.now < 1000000000 ∧ s3.events.length ≤ 999999000) := by show _ ∧ _; rw [h3]; exact ⟨by decide, by decide⟩
  have HH4 : Hid ((s4.mine.length : Int) = 1) := by show _ = _; rw [h4, coB4_mine]; rfl
  have HR4 : Hid ((front s4.ls : Int) = 1) := by show _ = _; rw [h4, coB4_front]; rfl
  have HC4 : Hid (s4.closed = false) := by show _ = _; rw [h4]; exact coB4_closed
  have HE4 : Hid (s4.events = []) := by show _ = _; rw [h4]; exact coB4_events
  have HNEW : Hid (Co.new cfgB = s0) := h0.symm
  clear h0 h1 h2 h3 h4
  go_enter Try.func13, Try.ntmps13
  go_wp2_with fail
  refine Calls.mono (use_New cfgB cfgB_fine w) ?_
  rintro r w1 ⟨x, p1, rfl, hc1⟩
  rw [HNEW.out] at hc1
  have H1 := hide hc1
  clear hc1
  go_wp2_with fail
  refine Calls.mono (core_Queue H1.out.core) ?_
  rintro r w2 ⟨rfl, rfl⟩
  go_wp2_with fail
  refine Calls.mono (use_Press H1.out 7 rfl HE0.out HP0.out) ?_
  rintro r w2 ⟨rfl, p2, hc2, st2⟩
  have H2 := hide hc2
  clear hc2 st2
  go_wp2_with fail
  refine Calls.mono (use_Tick H2.out HN1.out.1 HN1.out.2 HM1.out HT1.out) ?_
  rintro r w3 ⟨mA, mn, mc, xs, rfl, hml, hxs, p3, hc3, st3, hp3⟩
  have hx1 : xs.length = 1 := by have := congrArg List.length hxs; simpa using this
  have hmn : mn = 1 := by rw [← hml.len]; exact hx1
  subst hmn
  obtain rfl := hp3 (by omega)
  have hxd : ∀ h : 0 < xs.length, (xs[0]'h).1.dst = 0 := by
    intro h
    have h2 : (xs.map Prod.fst)[0]? = some (coB1.ticked.tellTo 0) := by rw [hxs]; rfl
    rw [List.getElem?_map, List.getElem?_eq_getElem h] at h2
    injection h2 with h2
    rw [h2]; rfl
  have HX1 := hide hx1
  have HXD := hide hxd
  have HA3 := hide (AsideN.of hml.row H2.out.core (Nat.le_refl _))
  have H3 := hide hc3
  clear hml hxs hc3 st3 hp3 hx1 hxd
  have bn := Below_new w3 (.cells #[.int .u8 3] 5)
  have HL4 := hide (LiesB.new w3 #[.int .u8 3] 5 (0, 0) [3] 1 rfl rfl)
  have H4 := hide (H3.out.below bn)
  have HA4 := hide (HA3.out.below bn)
  clear bn
  go_wp2_with fail
  refine Calls.mono (ref_Packet pktB HL4.out (by rw [World.size_alloc]; omega) (by omega) pktB_wf) ?_
  rintro r w5 ⟨A5, n5, c5, rfl, ho5, hb5⟩
  have hn5 : n5 ≤ 100 := by have := ho5.len; have := Pkt.enc_short pktB; omega
  have HO5 := hide ho5
  have H5 := hide (H4.out.below hb5)
  have HA5 := hide (HA4.out.below hb5)
  clear ho5 hb5
  go_wp2_with fail
  refine Calls.mono (use_Receive_yes H5.out HC2.out.1 HC2.out.2 pktB (Pkt.enc_is pktB_may pktB_wf) HO5.out.lies (Nat.le_refl _) HO5.out.cap (by omega) HF2.out HS2.out) ?_
  rintro r w6 ⟨rfl, p6, hc6, st6⟩
  have H6 := hide hc6
  have HA6 := hide (HA5.out.step st6)
  clear hc6 st6
  go_wp2_with fail
  refine Calls.mono (use_Tick H6.out HN3.out.1 HN3.out.2 HM3.out HT3.out) ?_
  rintro r w7 ⟨kA, kn, kc, ys, rfl, hml, hxs, p7, hc7, st7, hp7⟩
  have hy1 : ys.length = 1 := by have := congrArg List.length hxs; simpa using this
  have hmn : kn = 1 := by rw [← hml.len]; exact hy1
  subst hmn
  have H7 := hide hc7
  have HA7 := hide (HA6.out.step st7)
  clear hml hxs hc7 st7 hp7 hy1
  obtain ⟨mg, rfl, -, md, -⟩ := mail_cell HA7.out.own (i := 0) (by omega) (by rw [HX1.out]; omega)
  rw [HXD.out _] at md
  go_wp2_with fail
  refine Calls.mono (use_Head H7.out HH4.out) ?_
  rintro r w8 ⟨rfl, hc8, hb8⟩
  have H8 := hide hc8
  clear hc8 hb8
  go_wp2_with fail
  refine Calls.mono (core_Queue H8.out.core) ?_
  rintro r w9 ⟨rfl, rfl⟩
  go_wp2_with fail
  refine Calls.mono (use_Front H8.out HR4.out) ?_
  rintro r w9 ⟨rfl, rfl⟩
  go_wp2_with fail
  refine Calls.mono (use_Receive_no H8.out HC4.out nil_no (LiesB.nil _ 0 none) (Nat.zero_le _) (Nat.le_refl _) (by omega)) ?_
  rintro r w9 ⟨rfl, hc9, hb9⟩
  have H9 := hide hc9
  clear hc9 hb9
  go_wp2_with fail
  refine Calls.mono (use_Closed H9.out HC4.out) ?_
  rintro r w10 ⟨rfl, rfl⟩
  go_wp2_with fail
  refine Calls.mono (use_Events H9.out HE4.out) ?_
  rintro r w10 ⟨eA, ec, rfl, -, p10, hc10, -⟩
  go_wp2_with fail
  go_ret
  exact ⟨rfl, hc10.bel⟩
end Go.Proofs.Ytbcgffgiifminaa
