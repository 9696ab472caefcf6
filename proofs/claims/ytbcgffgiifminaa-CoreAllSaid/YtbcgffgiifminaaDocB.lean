/-
  The document's player in memory.
-/
import Derived.Test.YtbcgffgiifminaaDocA
namespace Go.Proofs.Ytbcgffgiifminaa
open Go.RowKit
set_option maxRecDepth 10000
set_option linter.unusedVariables false
section
variable {w : World} {T e : TypeId} {sz B k n c g : Nat} {l : List Value} {a : Addr} {v z : Value}
theorem own_al (h : w.ownsRow B e sz v n l) (o : Obj) : (w.alloc o).ownsRow B e sz v n l := ownsRow_below h (Below_new w o)
theorem own_drew (h : w.ownsRow B e sz v n l) : w.drew.ownsRow B e sz v n l := h
theorem own_mk (hk : k = w.heap.size) (hB : B ≤ w.heap.size) (hn : n ≤ maxLen) (z : Value) (hl : l = (madeCells z.cells (n * sz)).toList) : (w.alloc (.cells (madeCells z.cells (n * sz)) e)).ownsRow B e sz (.slice (some ⟨k, 0, none⟩) n n) n l := by
  subst hk hl
  exact World.ownsRow_lit w _ n hB hn (size_madeCells _ _)
theorem Arr.al (h : Arr T w g l) (o : Obj) : Arr T (w.alloc o) g l := h.belowN (Below_new w o)
theorem Arr.mk (cs : Array Value) (hk : g = w.heap.size) (hl : cs.toList = l) : Arr T (w.alloc (.cells cs T)) g l := by subst hk; exact Arr.new T w cs l hl
theorem cell_al (h : w.cell? a = some v) (o : Obj) : (w.alloc o).cell? a = some v := below_cell (Below_new w o) h
theorem cell_drew (h : w.cell? a = some v) : w.drew.cell? a = some v := h
end
section
variable {S : Nat → Prop} {B : Nat} {w w' : World}
theorem owns_keep {e : TypeId} {z n : Nat} {v : Value} {l : List Value} (h : w.ownsRow B e z v n l) (hk : Keeps S w w') (hn : ∀ k, some k = v.ownBlock → ¬ S k) : w'.ownsRow B e z v n l := by
  refine ⟨h.1, ?_⟩
  rcases h.2 with h2 | ⟨g, cap, cur, hv, hb, hh, r⟩
  · exact .inl h2
  · refine .inr ⟨g, cap, cur, hv, hb, ?_, r⟩
    rw [hk.block g (Array.getElem?_eq_some_iff.1 hh).1 (hn g (by rw [hv]; rfl))]
    exact hh
end
/-- Where the document's player lies. -/
structure RP where
  A : Option Addr
  gc : Nat
  ss : List Sl
  hg : Nat
  hc : Nat
  ag : Nat
  ac : Nat
  wg : Nat
  wc : Nat
  tg : Nat
  tc : Nat
  mA : Option Addr
  mn : Nat
  mc : Nat
  eA : Option Addr
  en : Nat
  ec : Nat
def rhv (q : Peer) : Value := .int .i64 q.heard
def rav (q : Peer) : Value := .int .i64 q.has
def rwv (q : Peer) : List Value := [.int .i64 q.frame, .int .u32 q.sum]
def rtv (q : Peer) : Value := .bool q.apart
theorem rwv_len (q : Peer) : (rwv q).length = 2 := rfl
def reRow (s : Co) (p : RP) : List Value := s.cfg.row ++ [.slice p.A s.ls.length p.gc, .int .i64 s.now, .slice (some ⟨p.hg, 0, none⟩) s.peers.length p.hc, .slice (some ⟨p.ag, 0, none⟩) s.peers.length p.ac, .slice (some ⟨p.wg, 0, none⟩) s.peers.length p.wc, .slice (some ⟨p.tg, 0, none⟩) s.peers.length p.tc, .slice p.mA p.mn p.mc, .slice p.eA p.en p.ec, .bool s.closed]
theorem reRow_n (s : Co) (p : RP) : (reRow s p)[0]? = some (.int .i64 s.cfg.n) := rfl
theorem reRow_me (s : Co) (p : RP) : (reRow s p)[1]? = some (.int .i64 s.cfg.me) := rfl
theorem reRow_id (s : Co) (p : RP) : (reRow s p)[2]? = some (.int .i64 s.cfg.id) := rfl
theorem reRow_window (s : Co) (p : RP) : (reRow s p)[4]? = some (.int .i64 s.cfg.window) := rfl
theorem reRow_L (s : Co) (p : RP) : (reRow s p)[10]? = some (.slice p.A s.ls.length p.gc) := rfl
theorem reRow_now (s : Co) (p : RP) : (reRow s p)[11]? = some (.int .i64 s.now) := rfl
theorem reRow_heard (s : Co) (p : RP) : (reRow s p)[12]? = some (.slice (some ⟨p.hg, 0, none⟩) s.peers.length p.hc) := rfl
theorem reRow_has (s : Co) (p : RP) : (reRow s p)[13]? = some (.slice (some ⟨p.ag, 0, none⟩) s.peers.length p.ac) := rfl
theorem reRow_words (s : Co) (p : RP) : (reRow s p)[14]? = some (.slice (some ⟨p.wg, 0, none⟩) s.peers.length p.wc) := rfl
theorem reRow_apart (s : Co) (p : RP) : (reRow s p)[15]? = some (.slice (some ⟨p.tg, 0, none⟩) s.peers.length p.tc) := rfl
theorem reRow_marks (s : Co) (p : RP) : (reRow s p)[16]? = some (.slice p.mA p.mn p.mc) := rfl
theorem reRow_events (s : Co) (p : RP) : (reRow s p)[17]? = some (.slice p.eA p.en p.ec) := rfl
theorem reRow_closed (s : Co) (p : RP) : (reRow s p)[18]? = some (.bool s.closed) := rfl
theorem Arr.at_ {T : TypeId} {w : World} {g j : Nat} {l : List Value} {v : Value} (h : Arr T w g l) (hv : l[j]? = some v) : w.cell? ⟨g, j, none⟩ = some v := by
  obtain ⟨hj, e⟩ := List.getElem?_eq_some_iff.1 hv
  rw [h.cell hj, e]
/-- The document's player in memory, all its blocks from B on. -/
structure RAt (B : Nat) (w : World) (x : Nat) (p : RP) (s : Co) : Prop where
  head : Arr 120 w x (reRow s p)
  base : B ≤ x
  ls : p.A = none ∧ s.ls = [] ∧ p.ss = [] ∧ p.gc = 0 ∨ ∃ g, p.A = some ⟨g, 0, none⟩ ∧ 0 < s.ls.length ∧ RL B w g s.ls.length p.gc p.ss s.ls
  heard : OwnV 3 w B (some ⟨p.hg, 0, none⟩) s.peers.length p.hc (s.peers.map rhv)
  has : OwnV 3 w B (some ⟨p.ag, 0, none⟩) s.peers.length p.ac (s.peers.map rav)
  words : w.ownsRow B 128 2 (.slice (some ⟨p.wg, 0, none⟩) s.peers.length p.wc) s.peers.length (s.peers.flatMap rwv)
  apart : OwnV 4 w B (some ⟨p.tg, 0, none⟩) s.peers.length p.tc (s.peers.map rtv)
  hne : p.hg ≠ p.ag
  marks : OwnV 39 w B p.mA p.mn p.mc (s.marks.map mv)
  events : w.ownsRow B 59 3 (.slice p.eA p.en p.ec) p.en (s.events.flatMap Ev.row)
def rBlocks (x : Nat) (p : RP) (k : Nat) : Prop := k = x ∨ Mine p.A 0 0 k ∨ (∃ (i : Nat) (h : i < p.ss.length), some k = (sv p.ss[i]).ownBlock) ∨ k = p.hg ∨ k = p.ag ∨ k = p.wg ∨ k = p.tg ∨ Mine p.mA 0 0 k ∨ Mine p.eA 0 0 k
theorem mine_any {A : Option Addr} {n c n' c' k : Nat} : Mine A n c k ↔ Mine A n' c' k := by cases A <;> exact Iff.rfl
theorem own_any {A : Option Addr} (n c n' c' : Nat) : (Value.slice A n c).ownBlock = (Value.slice A n' c').ownBlock := by cases A <;> rfl
/-- One step of the document's player: what it may change, where its new blocks lie. -/
structure RSt (w w' : World) (x : Nat) (p p' : RP) : Prop where
  keeps : Keeps (rBlocks x p) w w'
  new : ∀ k, rBlocks x p' k → rBlocks x p k ∨ w.heap.size ≤ k
section
variable {B : Nat} {w w' w1 w2 : World} {x : Nat} {p p1 p2 : RP} {s : Co}
theorem RSt.refl (w : World) (x : Nat) (p : RP) : RSt w w x p p := ⟨Keeps.refl _ _, fun k h => .inl h⟩
theorem RSt.of_below (h : Below w.heap.size w w') : RSt w w' x p p := ⟨Keeps.of_below h, fun k h => .inl h⟩
theorem RSt.trans (h : RSt w w1 x p p1) (h2 : RSt w1 w2 x p1 p2) : RSt w w2 x p p2 := by
  refine ⟨h.keeps.trans h2.keeps fun k hk hb => ?_, fun k hk => ?_⟩
  · rcases h.new k hb with h' | h'
    · exact h'
    · omega
  · rcases h2.new k hk with h' | h'
    · exact h.new k h'
    · exact .inr (Nat.le_trans h.keeps.size h')
theorem RAt.below (h : RAt B w x p s) (hb : Below w.heap.size w w') : RAt B w' x p s :=
  ⟨h.head.belowN hb, h.base, h.ls.imp id fun ⟨g, e, h0, h⟩ => ⟨g, e, h0, h.below hb⟩, h.heard.below hb, h.has.below hb, ownsRow_below h.words hb, h.apart.below hb, h.hne, h.marks.below hb, ownsRow_below h.events hb⟩
theorem RAt.drew (h : RAt B w x p s) : RAt B w.drew x p s := h.below ((Below.refl _ _).drew)
theorem RAt.drewN (h : RAt B w x p s) (k : Nat) : RAt B (w.drewN k) x p s := h.below (Below_drewN (Below.refl _ _) k)
theorem RAt.mn (h : RAt B w x p s) : s.marks.length = p.mn := by have := h.marks.len; rwa [List.length_map] at this
theorem RAt.en (h : RAt B w x p s) : s.events.length = p.en := by have := h.events.1; rw [flat_len Ev.row_len] at this; omega
theorem RAt.cell (h : RAt B w x p s) {j : Nat} {v : Value} (hv : (reRow s p)[j]? = some v) : w.cell? ⟨x, j, none⟩ = some v := by
  obtain ⟨hj, e⟩ := List.getElem?_eq_some_iff.1 hv
  rw [h.head.cell hj, e]
theorem RAt.frozen (h : RAt B w x p s) (j : Nat) : w.frozen? ⟨x, j, none⟩ = false := h.head.frozen j
theorem RAt.blocks (h : RAt B w x p s) : ∀ k, rBlocks x p k → B ≤ k ∧ k < w.heap.size := by
  intro k hk
  rcases hk with rfl | hk | ⟨i, hi, hk⟩ | rfl | rfl | rfl | rfl | hk | hk
  · exact ⟨h.base, h.head.lt⟩
  · rcases h.ls with ⟨e, -⟩ | ⟨g, e, h0, hr⟩
    · rw [e] at hk; cases hk
    · rw [e] at hk
      exact hr.row.blk k (mine_any.1 hk)
  · rcases h.ls with ⟨-, -, e, -⟩ | ⟨g, e, h0, hr⟩
    · rw [e] at hi; simp at hi
    · exact (hr.line i hi).blk k hk
  · exact h.heard.blk _ rfl
  · exact h.has.blk _ rfl
  · exact World.ownsRow.lt h.words _ rfl
  · exact h.apart.blk _ rfl
  · exact h.marks.blk k (mine_any.1 hk)
  · exact World.ownsRow.lt h.events k (mine_any.1 hk).symm
theorem RSt.below (h : RSt w w' x p p1) (hc : RAt B w x p s) (hB : B ≤ w.heap.size) : Below B w w' := h.keeps.below hB fun k hk hb => by have := (hc.blocks k hb).1; omega
/-- Off other blocks of its own types: it stays. -/
theorem RAt.keeps {S : Nat → Prop} (h : RAt B w x p s) (hk : Keeps S w w') (hn : ∀ k, rBlocks x p k → ¬ S k) : RAt B w' x p s := by
  refine ⟨h.head.keeps hk (hn _ (.inl rfl)), h.base, ?_, owns_keep h.heard hk (fun k e => hn k (.inr (.inr (.inr (.inl (by injection e)))))), owns_keep h.has hk (fun k e => hn k (.inr (.inr (.inr (.inr (.inl (by injection e))))))),
    owns_keep h.words hk (fun k e => hn k (.inr (.inr (.inr (.inr (.inr (.inl (by injection e)))))))), owns_keep h.apart hk (fun k e => hn k (.inr (.inr (.inr (.inr (.inr (.inr (.inl (by injection e))))))))), h.hne,
    owns_keep h.marks hk (fun k e => hn k (.inr (.inr (.inr (.inr (.inr (.inr (.inr (.inl (mine_any.1 e)))))))))), owns_keep h.events hk (fun k e => hn k (.inr (.inr (.inr (.inr (.inr (.inr (.inr (.inr (mine_any.1 e))))))))))⟩
  rcases h.ls with h' | ⟨g, e, h0, hr⟩
  · exact .inl h'
  · exact .inr ⟨g, e, h0, hr.keeps hk (hn g (.inr (.inl (by rw [e]; rfl)))) (fun i hi k hk' => hn k (.inr (.inr (.inl ⟨i, hi, hk'⟩))))⟩
end
def tR : List TypeId := [120, 122, 5, 3, 128, 4, 39, 59]
section
variable {B : Nat} {w w' : World} {x : Nat} {p : RP} {s : Co} {S : Nat → Prop} {Ts : List TypeId}
theorem RL.off {g n c : Nat} {ss : List Sl} {ls : List (List UInt8)} (h : RL B w g n c ss ls) (hn : 0 < n) (hk : Keeps S w w') (ho : Off S w Ts) (h1 : 122 ∈ Ts) (h2 : 5 ∈ Ts) : RL B w' g n c ss ls :=
  h.keeps hk (fun hs => ho g hs _ h1 (owns_tb h.row g rfl)) fun i hi k hk' hs => ho k hs _ h2 (owns_tb (h.line i hi) k hk')
theorem RAt.lsOff (h : RAt B w x p s) (hk : Keeps S w w') (ho : Off S w Ts) (h1 : 122 ∈ Ts) (h2 : 5 ∈ Ts) : p.A = none ∧ s.ls = [] ∧ p.ss = [] ∧ p.gc = 0 ∨ ∃ g, p.A = some ⟨g, 0, none⟩ ∧ 0 < s.ls.length ∧ RL B w' g s.ls.length p.gc p.ss s.ls := by
  rcases h.ls with h' | ⟨g, e, h0, hr⟩
  · exact .inl h'
  · refine .inr ⟨g, e, h0, hr.keeps hk (fun hs => ho g hs _ h1 (owns_tb hr.row g rfl)) fun i hi k hk' hs => ho k hs _ h2 (owns_tb (hr.line i hi) k hk')⟩
/-- The head alone is written. -/
theorem RAt.setHead (h : RAt B w x p s) (j : Nat) (v : Value) (p' : RP) (s' : Co) (hr : reRow s' p' = (reRow s p).set j v) (h1 : s'.ls = s.ls) (h2 : s'.peers = s.peers) (h3 : s'.marks = s.marks) (h4 : s'.events = s.events) (hp : p' = p) :
    RAt B (w.setCell ⟨x, j, none⟩ v) x p s' ∧ RSt w (w.setCell ⟨x, j, none⟩ v) x p p := by
  subst hp
  have ks := Keeps.setCell w ⟨x, j, none⟩ v
  have off : Off (fun k => k = (⟨x, j, none⟩ : Addr).block) w [122, 5, 3, 128, 4, 39, 59] := Off.of (T := 120) (fun k hk => by rw [hk]; exact h.head.tb) (by decide)
  refine ⟨⟨?_, h.base, ?_, ?_, ?_, ?_, ?_, h.hne, ?_, ?_⟩, ⟨ks.mono fun k _ hk => .inl hk, fun k hk => .inl hk⟩⟩
  · rw [hr]; exact h.head.set j v
  · rw [h1]; exact h.lsOff ks off (by decide) (by decide)
  · rw [h2]; exact owns_off h.heard ks off (by decide)
  · rw [h2]; exact owns_off h.has ks off (by decide)
  · rw [h2]; exact owns_off h.words ks off (by decide)
  · rw [h2]; exact owns_off h.apart ks off (by decide)
  · rw [h3]; exact owns_off h.marks ks off (by decide)
  · rw [h4]; exact owns_off h.events ks off (by decide)
/-- The row of marks has grown. -/
theorem RAt.setMarks (h : RAt B w x p s) {A5 : Option Addr} {c5 : Nat} {m : Int} (k5 : Keeps (Mine p.mA p.mn p.mc) w w') (own5 : OwnV 39 w' B A5 (p.mn + 1) c5 (s.marks.map mv ++ [mv m]))
    (hk5 : (Value.slice A5 (p.mn + 1) c5).ownBlock = (Value.slice p.mA p.mn p.mc).ownBlock ∨ (Value.slice A5 (p.mn + 1) c5).ownBlock = some w.heap.size) :
    Arr 120 w' x (reRow s p) ∧ RAt B (w'.setCell ⟨x, 16, none⟩ (.slice A5 (p.mn + 1) c5)) x { p with mA := A5, mn := p.mn + 1, mc := c5 } { s with marks := s.marks ++ [m] } ∧ RSt w (w'.setCell ⟨x, 16, none⟩ (.slice A5 (p.mn + 1) c5)) x p { p with mA := A5, mn := p.mn + 1, mc := c5 } := by
  have off : Off (Mine p.mA p.mn p.mc) w [120, 122, 5, 3, 128, 4, 59] := Off.of (T := 39) (owns_tb h.marks) (by decide)
  have hh := h.head.off k5 off (by decide)
  have ks := Keeps.setCell w' ⟨x, 16, none⟩ (.slice A5 (p.mn + 1) c5)
  have h1 : ∀ k, rBlocks x p k → Mine p.mA p.mn p.mc k → Mine p.mA 0 0 k := fun k _ h => mine_any.1 h
  have off2 : Off (fun k => k = (⟨x, 16, none⟩ : Addr).block) w' [122, 5, 3, 128, 4, 39, 59] := Off.of (T := 120) (fun k hk => by rw [hk]; exact hh.tb) (by decide)
  have lsk := h.lsOff k5 off (by decide) (by decide)
  refine ⟨hh, ⟨?_, h.base, ?_, owns_off (owns_off h.heard k5 off (by decide)) ks off2 (by decide), owns_off (owns_off h.has k5 off (by decide)) ks off2 (by decide), owns_off (owns_off h.words k5 off (by decide)) ks off2 (by decide), owns_off (owns_off h.apart k5 off (by decide)) ks off2 (by decide), h.hne, ?_, owns_off (owns_off h.events k5 off (by decide)) ks off2 (by decide)⟩, ⟨?_, ?_⟩⟩
  · exact hh.set 16 _
  · rcases lsk with h' | ⟨g, e, h0, hr⟩
    · exact .inl h'
    · exact .inr ⟨g, e, h0, hr.keeps ks (fun hs => off2 g hs _ (by decide) (owns_tb hr.row g rfl)) fun i hi k hk' hs => off2 k hs _ (by decide) (owns_tb (hr.line i hi) k hk')⟩
  · show OwnV _ _ _ _ _ _ _
    rw [List.map_append]
    exact owns_off own5 ks off2 (by decide)
  · refine (k5.mono fun k _ hk => .inr (.inr (.inr (.inr (.inr (.inr (.inr (.inl (mine_any.1 hk))))))))).trans ks fun k _ hk => .inl hk
  · intro k hk
    rcases hk with hk | hk | hk | hk | hk | hk | hk | hk | hk
    · exact .inl (.inl hk)
    · exact .inl (.inr (.inl hk))
    · exact .inl (.inr (.inr (.inl hk)))
    · exact .inl (.inr (.inr (.inr (.inl hk))))
    · exact .inl (.inr (.inr (.inr (.inr (.inl hk)))))
    · exact .inl (.inr (.inr (.inr (.inr (.inr (.inl hk))))))
    · exact .inl (.inr (.inr (.inr (.inr (.inr (.inr (.inl hk)))))))
    · rcases mine_next hk5 (mine_any.1 hk) with h' | h'
      · exact .inl (.inr (.inr (.inr (.inr (.inr (.inr (.inr (.inl (mine_any.1 h')))))))))
      · exact .inr h'
    · exact .inl (.inr (.inr (.inr (.inr (.inr (.inr (.inr (.inr hk))))))))
/-- The row of events has grown. -/
theorem RAt.setEvents (h : RAt B w x p s) {g5 c5 : Nat} {e : Ev} (k5 : Keeps (Mine p.eA p.en p.ec) w w') (own5 : w'.ownsRow B 59 3 (.slice (some ⟨g5, 0, none⟩) (p.en + 1) c5) (p.en + 1) (s.events.flatMap Ev.row ++ e.row))
    (hk5 : some g5 = (Value.slice p.eA p.en p.ec).ownBlock ∨ g5 = w.heap.size) :
    Arr 120 w' x (reRow s p) ∧ RAt B (w'.setCell ⟨x, 17, none⟩ (.slice (some ⟨g5, 0, none⟩) (p.en + 1) c5)) x { p with eA := some ⟨g5, 0, none⟩, en := p.en + 1, ec := c5 } { s with events := s.events ++ [e] } ∧ RSt w (w'.setCell ⟨x, 17, none⟩ (.slice (some ⟨g5, 0, none⟩) (p.en + 1) c5)) x p { p with eA := some ⟨g5, 0, none⟩, en := p.en + 1, ec := c5 } := by
  have off : Off (Mine p.eA p.en p.ec) w [120, 122, 5, 3, 128, 4, 39] := Off.of (T := 59) (owns_tb h.events) (by decide)
  have hh := h.head.off k5 off (by decide)
  have ks := Keeps.setCell w' ⟨x, 17, none⟩ (.slice (some ⟨g5, 0, none⟩) (p.en + 1) c5)
  have off2 : Off (fun k => k = (⟨x, 17, none⟩ : Addr).block) w' [122, 5, 3, 128, 4, 39, 59] := Off.of (T := 120) (fun k hk => by rw [hk]; exact hh.tb) (by decide)
  have lsk := h.lsOff k5 off (by decide) (by decide)
  refine ⟨hh, ⟨?_, h.base, ?_, owns_off (owns_off h.heard k5 off (by decide)) ks off2 (by decide), owns_off (owns_off h.has k5 off (by decide)) ks off2 (by decide), owns_off (owns_off h.words k5 off (by decide)) ks off2 (by decide), owns_off (owns_off h.apart k5 off (by decide)) ks off2 (by decide), h.hne, owns_off (owns_off h.marks k5 off (by decide)) ks off2 (by decide), ?_⟩, ⟨?_, ?_⟩⟩
  · exact hh.set 17 _
  · rcases lsk with h' | ⟨g, e, h0, hr⟩
    · exact .inl h'
    · exact .inr ⟨g, e, h0, hr.keeps ks (fun hs => off2 g hs _ (by decide) (owns_tb hr.row g rfl)) fun i hi k hk' hs => off2 k hs _ (by decide) (owns_tb (hr.line i hi) k hk')⟩
  · rw [List.flatMap_append, List.flatMap_singleton]
    exact owns_off own5 ks off2 (by decide)
  · refine (k5.mono fun k _ hk => .inr (.inr (.inr (.inr (.inr (.inr (.inr (.inr (mine_any.1 hk))))))))).trans ks fun k _ hk => .inl hk
  · intro k hk
    rcases hk with hk | hk | hk | hk | hk | hk | hk | hk | hk
    · exact .inl (.inl hk)
    · exact .inl (.inr (.inl hk))
    · exact .inl (.inr (.inr (.inl hk)))
    · exact .inl (.inr (.inr (.inr (.inl hk))))
    · exact .inl (.inr (.inr (.inr (.inr (.inl hk)))))
    · exact .inl (.inr (.inr (.inr (.inr (.inr (.inl hk))))))
    · exact .inl (.inr (.inr (.inr (.inr (.inr (.inr (.inl hk)))))))
    · exact .inl (.inr (.inr (.inr (.inr (.inr (.inr (.inr (.inl hk))))))))
    · have hk' : k = g5 := by injection (show some k = some g5 from hk)
      rcases hk5 with h' | h'
      · exact .inl (.inr (.inr (.inr (.inr (.inr (.inr (.inr (.inr (mine_any.1 (show Mine p.eA p.en p.ec k by rw [hk']; exact h'))))))))))
      · exact .inr (by omega)
/-- A player's number is another one: one of its cells is written. -/
theorem RAt.setPeer (h : RAt B w x p s) (i : Nat) (q : Peer) (hi : i < s.peers.length) (g j : Nat) (v : Value)
    (hg : g = p.hg ∧ j = i ∧ rhv q = v ∧ rav q = rav s.peers[i] ∧ rwv q = rwv s.peers[i] ∧ rtv q = rtv s.peers[i] ∨
          g = p.ag ∧ j = i ∧ rav q = v ∧ rhv q = rhv s.peers[i] ∧ rwv q = rwv s.peers[i] ∧ rtv q = rtv s.peers[i] ∨
          g = p.tg ∧ j = i ∧ rtv q = v ∧ rhv q = rhv s.peers[i] ∧ rav q = rav s.peers[i] ∧ rwv q = rwv s.peers[i] ∨
          g = p.wg ∧ (∃ m, m < 2 ∧ j = i * 2 + m ∧ rwv q = (rwv s.peers[i]).set m v) ∧ rhv q = rhv s.peers[i] ∧ rav q = rav s.peers[i] ∧ rtv q = rtv s.peers[i]) :
    RAt B (w.setCell ⟨g, j, none⟩ v) x p { s with peers := s.peers.set i q } ∧ RSt w (w.setCell ⟨g, j, none⟩ v) x p p := by
  have ks := Keeps.setCell w ⟨g, j, none⟩ v
  have hrow : reRow { s with peers := s.peers.set i q } p = reRow s p := by unfold reRow; rw [List.length_set]
  have mapf : ∀ (f : Peer → Value), (s.peers.set i q).map f = (s.peers.map f).set i (f q) := fun f => List.map_set
  have same : ∀ (f : Peer → Value), f q = f s.peers[i] → (s.peers.set i q).map f = s.peers.map f := fun f e => by
    rw [mapf, e]
    have : f s.peers[i] = (s.peers.map f)[i]'(by simpa using hi) := by rw [List.getElem_map]
    rw [this]
    exact List.set_getElem_self _
  have samew : rwv q = rwv s.peers[i] → (s.peers.set i q).flatMap rwv = s.peers.flatMap rwv := fun e => by
    have h1 := flat_set rwv_len s.peers i 0 (.int .i64 q.frame) q hi (by omega) (by rw [← e]; rfl)
    rw [← h1]
    have h2 := flat_get rwv_len s.peers i 0 hi (by omega)
    rw [← e] at h2
    obtain ⟨h3, h4⟩ := List.getElem?_eq_some_iff.1 (show (s.peers.flatMap rwv)[i * 2 + 0]? = some (.int .i64 q.frame) from h2)
    rw [← h4]
    exact List.set_getElem_self _
  rcases hg with ⟨rfl, rfl, e1, e2, e3, e4⟩ | ⟨rfl, rfl, e1, e2, e3, e4⟩ | ⟨rfl, rfl, e1, e2, e3, e4⟩ | ⟨rfl, ⟨m, hm, rfl, e1⟩, e2, e3, e4⟩
  · have off : Off (fun k => k = (⟨p.hg, j, none⟩ : Addr).block) w [120, 122, 5, 128, 4, 39, 59] := Off.of (T := 3) (fun k hk => by rw [hk]; exact owns_tb h.heard _ rfl) (by decide)
    refine ⟨⟨by rw [hrow]; exact h.head.off ks off (by decide), h.base, h.lsOff ks off (by decide) (by decide), ?_, ?_, ?_, ?_, h.hne, owns_off h.marks ks off (by decide), owns_off h.events ks off (by decide)⟩, ⟨ks.mono fun k _ hk => .inr (.inr (.inr (.inl hk))), fun k hk => .inl hk⟩⟩
    · rw [List.length_set, mapf, e1]; exact h.heard.store j v
    · rw [List.length_set, same _ e2]; exact owns_keep h.has ks (fun k e hs => h.hne (by injection e with e; exact hs.symm.trans e))
    · rw [List.length_set, samew e3]; exact owns_off h.words ks off (by decide)
    · rw [List.length_set, same _ e4]; exact owns_off h.apart ks off (by decide)
  · have off : Off (fun k => k = (⟨p.ag, j, none⟩ : Addr).block) w [120, 122, 5, 128, 4, 39, 59] := Off.of (T := 3) (fun k hk => by rw [hk]; exact owns_tb h.has _ rfl) (by decide)
    refine ⟨⟨by rw [hrow]; exact h.head.off ks off (by decide), h.base, h.lsOff ks off (by decide) (by decide), ?_, ?_, ?_, ?_, h.hne, owns_off h.marks ks off (by decide), owns_off h.events ks off (by decide)⟩, ⟨ks.mono fun k _ hk => .inr (.inr (.inr (.inr (.inl hk)))), fun k hk => .inl hk⟩⟩
    · rw [List.length_set, same _ e2]; exact owns_keep h.heard ks (fun k e hs => h.hne (by injection e with e; exact e.symm.trans hs))
    · rw [List.length_set, mapf, e1]; exact h.has.store j v
    · rw [List.length_set, samew e3]; exact owns_off h.words ks off (by decide)
    · rw [List.length_set, same _ e4]; exact owns_off h.apart ks off (by decide)
  · have off : Off (fun k => k = (⟨p.tg, j, none⟩ : Addr).block) w [120, 122, 5, 3, 128, 39, 59] := Off.of (T := 4) (fun k hk => by rw [hk]; exact owns_tb h.apart _ rfl) (by decide)
    refine ⟨⟨by rw [hrow]; exact h.head.off ks off (by decide), h.base, h.lsOff ks off (by decide) (by decide), ?_, ?_, ?_, ?_, h.hne, owns_off h.marks ks off (by decide), owns_off h.events ks off (by decide)⟩, ⟨ks.mono fun k _ hk => .inr (.inr (.inr (.inr (.inr (.inr (.inl hk)))))), fun k hk => .inl hk⟩⟩
    · rw [List.length_set, same _ e2]; exact owns_off h.heard ks off (by decide)
    · rw [List.length_set, same _ e3]; exact owns_off h.has ks off (by decide)
    · rw [List.length_set, samew e4]; exact owns_off h.words ks off (by decide)
    · rw [List.length_set, mapf, e1]; exact h.apart.store j v
  · have off : Off (fun k => k = (⟨p.wg, i * 2 + m, none⟩ : Addr).block) w [120, 122, 5, 3, 4, 39, 59] := Off.of (T := 128) (fun k hk => by rw [hk]; exact owns_tb h.words _ rfl) (by decide)
    refine ⟨⟨by rw [hrow]; exact h.head.off ks off (by decide), h.base, h.lsOff ks off (by decide) (by decide), ?_, ?_, ?_, ?_, h.hne, owns_off h.marks ks off (by decide), owns_off h.events ks off (by decide)⟩, ⟨ks.mono fun k _ hk => .inr (.inr (.inr (.inr (.inr (.inl hk))))), fun k hk => .inl hk⟩⟩
    · rw [List.length_set, same _ e2]; exact owns_off h.heard ks off (by decide)
    · rw [List.length_set, same _ e3]; exact owns_off h.has ks off (by decide)
    · have h1 := (World.ownsRow.stored h.words (i * 2 + m) v).1
      rw [flat_set rwv_len s.peers i m v q hi hm e1] at h1
      rw [List.length_set]; exact h1
    · rw [List.length_set, same _ e4]; exact owns_off h.apart ks off (by decide)
/-- One line more. -/
theorem RAt.addLine {w2 w3 w4 : World} {y : Sl} {l : List UInt8} {g' c' : Nat} (h : RAt B w x p s) (hB : B ≤ w.heap.size) (hb : Below w.heap.size w w2) (ho : OwnB w2 w.heap.size y.1 y.2.1 y.2.2 l) (hb3 : Below w2.heap.size w2 w3)
    (own4 : OwnV 122 w4 B (some ⟨g', 0, none⟩) (s.ls.length + 1) c' (p.ss.map sv ++ [sv y])) (k4 : Keeps (Mine p.A s.ls.length p.gc) w3 w4) (hl : l.length ≤ 1000) :
    Arr 120 w4 x (reRow s p) ∧ RAt B (w4.setCell ⟨x, 10, none⟩ (.slice (some ⟨g', 0, none⟩) (s.ls.length + 1) c')) x { p with A := some ⟨g', 0, none⟩, gc := c', ss := p.ss ++ [y] } { s with ls := s.ls ++ [l] } ∧ Below B w (w4.setCell ⟨x, 10, none⟩ (.slice (some ⟨g', 0, none⟩) (s.ls.length + 1) c')) := by
  have h3 := (h.below hb).below hb3
  have hrow : ∀ k, Mine p.A s.ls.length p.gc k → TB w3 k 122 := by
    rcases h3.ls with ⟨e, -⟩ | ⟨g, e, h0, hr⟩
    · intro k hk; rw [e] at hk; cases hk
    · intro k hk; rw [e] at hk; exact owns_tb hr.row k hk
  have off : Off (Mine p.A s.ls.length p.gc) w3 [120, 5, 3, 128, 4, 39, 59] := Off.of hrow (by decide)
  have hh := h3.head.off k4 off (by decide)
  have ks := Keeps.setCell w4 ⟨x, 10, none⟩ (.slice (some ⟨g', 0, none⟩) (s.ls.length + 1) c')
  have off2 : Off (fun k => k = (⟨x, 10, none⟩ : Addr).block) w4 [122, 5, 3, 128, 4, 39, 59] := Off.of (T := 120) (fun k hk => by rw [hk]; exact hh.tb) (by decide)
  have hR : RL B w4 g' (s.ls.length + 1) c' (p.ss ++ [y]) (s.ls ++ [l]) := by
    rcases h.ls with ⟨e1, e2, e3, -⟩ | ⟨g, e, h0, hr⟩
    · have hn : s.ls.length = 0 := by rw [e2]; rfl
      refine RL.add (g := 0) (n := s.ls.length) (c := p.gc) (.inl ⟨hn, e3, e2⟩) hB hb ho hb3 (A := p.A) (.inl hn) own4 k4 (fun _ => by rw [e1]; rfl) hl
    · refine RL.add (g := g) (.inr hr) hB hb ho hb3 (A := p.A) (.inr e) own4 k4 (fun hn => by omega) hl
  refine ⟨hh, ⟨?_, h.base, .inr ⟨g', rfl, ?_, ?_⟩, owns_off (owns_off h3.heard k4 off (by decide)) ks off2 (by decide), owns_off (owns_off h3.has k4 off (by decide)) ks off2 (by decide), owns_off (owns_off h3.words k4 off (by decide)) ks off2 (by decide), owns_off (owns_off h3.apart k4 off (by decide)) ks off2 (by decide), h.hne, owns_off (owns_off h3.marks k4 off (by decide)) ks off2 (by decide), owns_off (owns_off h3.events k4 off (by decide)) ks off2 (by decide)⟩, ?_⟩
  · have := hh.set 10 (.slice (some ⟨g', 0, none⟩) (s.ls.length + 1) c')
    have e : reRow { s with ls := s.ls ++ [l] } { p with A := some ⟨g', 0, none⟩, gc := c', ss := p.ss ++ [y] } = (reRow s p).set 10 (.slice (some ⟨g', 0, none⟩) (s.ls.length + 1) c') := by
      unfold reRow
      rw [List.length_append]; rfl
    rw [e]; exact this
  · rw [List.length_append]; exact Nat.succ_pos _
  · rw [List.length_append]
    exact hR.keeps ks (fun hs => off2 g' hs _ (by decide) (owns_tb hR.row g' rfl)) fun i hi k hk' hs => off2 k hs _ (by decide) (owns_tb (hR.line i hi) k hk')
  · have h1 : Below B w w3 := (hb.mono hB).trans (hb3.mono (Nat.le_trans hB hb.size))
    refine (h1.trans (k4.below (Nat.le_trans hB h1.size) fun k hk hm => ?_)).setCell (p := ⟨x, 10, none⟩) h.base _
    have := (h.blocks k (.inr (.inl (mine_any.1 hm)))).1
    omega
end
end Go.Proofs.Ytbcgffgiifminaa
