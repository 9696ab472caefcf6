/-
  The document's lines: what a row of them holds.
-/
import Derived.Test.YtciogjnchpeaaaaLineV
import Derived.Test.YtciogjnchpeaaaaVal
import Derived.Test.YtciogjnchpeaaaaRegion
import Derived.Test.YtciogjnchpeaaaaQ
namespace Go.Proofs.Ytciogjnchpeaaaa
open Go.RowKit
set_option maxRecDepth 10000
set_option linter.unusedVariables false
theorem elem_rline : Elem 30 36 (.agg #[.slice none 0 0]) 24 := ⟨Try.underlying30, by kernel_rfl, rfl⟩
/-- A slice: where, how long, with how much room. -/
abbrev Sl := Option Addr × Nat × Nat
@[reducible] def sv (x : Sl) : Value := .slice x.1 x.2.1 x.2.2
theorem sv_one (ss : List Sl) : ∀ u ∈ ss.map sv, u.oneCell' = true := by
  intro u hu
  obtain ⟨c, _, rfl⟩ := List.mem_map.1 hu
  rfl
/-- Block g holds lines (their blocks from B on). -/
structure RL (B : Nat) (w : World) (g n c : Nat) (ss : List Sl) (ls : List (List UInt8)) : Prop where
  row : OwnV 36 w B (some ⟨g, 0, none⟩) n c (ss.map sv)
  len : ls.length = n
  line : ∀ (i : Nat) (h : i < ss.length), OwnB w B ss[i].1 ss[i].2.1 ss[i].2.2 (ls.getD i [])
  apart : ∀ (i j : Nat) (hi : i < ss.length) (hj : j < ss.length), i ≠ j → ∀ k, (sv ss[i]).ownBlock = some k → (sv ss[j]).ownBlock ≠ some k
  short : ∀ i, (ls.getD i []).length ≤ 1000
/-- The blocks of one line. -/
def rlBlocks (g : Nat) (x : Sl) (k : Nat) : Prop := k = g ∨ some k = (sv x).ownBlock
section
variable {B : Nat} {w w' : World} {g n c : Nat} {ss : List Sl} {ls : List (List UInt8)}
theorem RL.slen (h : RL B w g n c ss ls) : ss.length = n := by have := h.row.len; rwa [List.length_map] at this
theorem RL.below (h : RL B w g n c ss ls) (hb : Below w.heap.size w w') : RL B w' g n c ss ls := ⟨h.row.below hb, h.len, fun i hi => (h.line i hi).below hb, h.apart, h.short⟩
theorem RL.drew (h : RL B w g n c ss ls) : RL B w.drew g n c ss ls := h.below ⟨rfl, rfl, rfl, Nat.le_refl _, fun _ _ => rfl⟩
theorem RL.gblk (h : RL B w g n c ss ls) (hn : 0 < n) : B ≤ g ∧ g < w.heap.size := by
  obtain ⟨g', e, h1, h2⟩ := h.row.form hn
  injection e with e; injection e with e
  subst e
  exact ⟨h1, h2⟩
theorem RL.keeps {S : Nat → Prop} (h : RL B w g n c ss ls) (hk : Keeps S w w') (h1 : ¬ S g) (h2 : ∀ (i : Nat) (hi : i < ss.length) k, some k = (sv ss[i]).ownBlock → ¬ S k) : RL B w' g n c ss ls :=
  ⟨h.row.keeps hk (fun k hk' => by
      have : k = g := by simpa [Value.ownBlock] using hk'
      subst this; exact h1), h.len, fun i hi => (h.line i hi).keeps hk (h2 i hi), h.apart, h.short⟩
theorem RL.cell (h : RL B w g n c ss ls) (i : Nat) (hi : i < n) : ∃ hs : i < ss.length, w.cell? ⟨g, i, none⟩ = some (.slice ss[i].1 ss[i].2.1 ss[i].2.2) ∧ w.frozen? ⟨g, i, none⟩ = false ∧ (ls.getD i []).length = ss[i].2.1 := by
  have hs : i < ss.length := by rw [h.slen]; exact hi
  obtain ⟨hl, hc⟩ := h.row.cell (j := i) hi
  refine ⟨hs, ?_, h.row.frozen i, (h.line i hs).len⟩
  rw [hc, List.getElem_map]
theorem RL.ne_g (h : RL B w g n c ss ls) (hn : 0 < n) (i : Nat) (hi : i < ss.length) : ∀ k, some k = (sv ss[i]).ownBlock → k ≠ g := by
  intro k hk e
  subst e
  exact h.row.apart (OwnV.of_B (h.line i hi)) (by decide) k (by rfl) hk
/-- One line is another one. -/
theorem RL.put (h : RL B w g n c ss ls) (i : Nat) (hi : i < n) {x : Sl} {l : List UInt8} (hr : OwnV 36 w' B (some ⟨g, 0, none⟩) n c ((ss.map sv).set i (sv x))) (ho : OwnB w' B x.1 x.2.1 x.2.2 l) (hs : i < ss.length)
    (hk : Keeps (rlBlocks g ss[i]) w w') (hx : (sv x).ownBlock = (sv ss[i]).ownBlock ∨ ∃ k, (sv x).ownBlock = some k ∧ w.heap.size ≤ k) (hl : l.length ≤ 1000) : RL B w' g n c (ss.set i x) (ls.set i l) := by
  have hls : i < ls.length := by rw [h.len]; exact hi
  have hg : ∀ j, (ls.set i l).getD j [] = if i = j then l else ls.getD j [] := by
    intro j
    by_cases e : i = j
    · subst e; rw [if_pos rfl, List.getD_eq_getElem?_getD, List.getElem?_set_self hls]; rfl
    · rw [if_neg e, List.getD_eq_getElem?_getD, List.getElem?_set_ne e, ← List.getD_eq_getElem?_getD]
  refine ⟨by rw [List.map_set]; exact hr, by rw [List.length_set]; exact h.len, ?_, ?_, ?_⟩
  · intro j hj
    rw [List.length_set] at hj
    rw [List.getElem_set, hg]
    by_cases e : i = j
    · subst e; rw [if_pos rfl, if_pos rfl]; exact ho
    · rw [if_neg e, if_neg e]
      refine (h.line j hj).keeps hk fun k hkj hki => ?_
      rcases hki with rfl | hki
      · exact h.ne_g (by omega) j hj _ hkj rfl
      · exact h.apart i j hs hj e k hki.symm hkj.symm
  · intro a b ha hb hab k
    rw [List.length_set] at ha hb
    rw [List.getElem_set, List.getElem_set]
    have fresh : ∀ j (hj : j < ss.length), i ≠ j → ∀ k, (sv x).ownBlock = some k → (sv ss[j]).ownBlock ≠ some k := by
      intro j hj e k hk' he
      rcases hx with hx | ⟨k2, hx, h2⟩
      · exact h.apart i j hs hj e k (by rw [← hx]; exact hk') he
      · rw [hx] at hk'; injection hk' with hk'
        have := ((h.line j hj).blk k he.symm).2
        omega
    by_cases e1 : i = a
    · subst e1
      rw [if_pos rfl, if_neg hab]
      exact fresh b hb hab k
    · rw [if_neg e1]
      by_cases e2 : i = b
      · subst e2
        rw [if_pos rfl]
        exact fun h1 h2 => fresh a ha e1 k h2 h1
      · rw [if_neg e2]
        exact h.apart a b ha hb hab k
  · intro j
    rw [hg]
    split
    · exact hl
    · exact h.short j
/-- One line more. -/
theorem RL.add {w2 w3 w4 : World} {g' c' : Nat} {x : Sl} {l : List UInt8} (h : n = 0 ∧ ss = [] ∧ ls = [] ∨ RL B w g n c ss ls) (hB : B ≤ w.heap.size) (hb : Below w.heap.size w w2) (ho : OwnB w2 w.heap.size x.1 x.2.1 x.2.2 l) (hb3 : Below w2.heap.size w2 w3) {A : Option Addr} (hA : n = 0 ∨ A = some ⟨g, 0, none⟩)
    (hr : OwnV 36 w4 B (some ⟨g', 0, none⟩) (n + 1) c' (ss.map sv ++ [sv x])) (hk : Keeps (Mine A n c) w3 w4) (hgm : n = 0 → (Value.slice A n c).ownBlock = none) (hl : l.length ≤ 1000) : RL B w4 g' (n + 1) c' (ss ++ [x]) (ls ++ [l]) := by
  have hns : ss.length = n := by
    rcases h with ⟨h1, h2, -⟩ | h
    · rw [h1, h2]; rfl
    · exact h.slen
  have hnl : ls.length = n := by
    rcases h with ⟨h1, -, h2⟩ | h
    · rw [h1, h2]; rfl
    · exact h.len
  have o3 := ho.below hb3
  have hmine : ∀ k, Mine A n c k → k = g ∧ 0 < n := by
    intro k hm
    rcases Nat.eq_zero_or_pos n with h0 | h0
    · have := hgm h0
      have hm' : some k = (Value.slice A n c).ownBlock := hm
      rw [this] at hm'; cases hm'
    · rcases hA with hA | hA
      · omega
      · subst hA
        have hm' : some k = (Value.slice (some ⟨g, 0, none⟩) n c).ownBlock := hm
        exact ⟨by simpa [Value.ownBlock] using hm', h0⟩
  have key : ∀ (i : Nat) (hi : i < (ss ++ [x]).length), (∃ h : i < ss.length, (ss ++ [x])[i] = ss[i]) ∨ (i = ss.length ∧ (ss ++ [x])[i] = x) := by
    intro i hi
    by_cases e : i < ss.length
    · exact .inl ⟨e, List.getElem_append_left e⟩
    · have : i = ss.length := by simp at hi; omega
      subst this
      exact .inr ⟨rfl, by simp⟩
  have gd : ∀ j, (ls ++ [l]).getD j [] = if j < n then ls.getD j [] else if j = n then l else [] := by
    intro j
    by_cases e : j < n
    · rw [if_pos e, List.getD_eq_getElem?_getD, List.getElem?_append_left (by rw [hnl]; exact e), ← List.getD_eq_getElem?_getD]
    · rw [if_neg e, List.getD_eq_getElem?_getD, List.getElem?_append_right (by rw [hnl]; omega), hnl]
      by_cases e2 : j = n
      · subst e2; rw [if_pos rfl, Nat.sub_self]; rfl
      · rw [if_neg e2]
        obtain ⟨q, hq⟩ : ∃ q, j - n = q + 1 := ⟨j - n - 1, by omega⟩
        rw [hq]; rfl
  refine ⟨by rw [List.map_append]; exact hr, by rw [List.length_append, hnl]; rfl, ?_, ?_, ?_⟩
  · intro i hi
    rcases key i hi with ⟨e, e2⟩ | ⟨e, e2⟩
    · rw [e2, gd, if_pos (by omega)]
      rcases h with ⟨h1, -, -⟩ | h
      · omega
      · have l4 : OwnB w3 B ss[i].1 ss[i].2.1 ss[i].2.2 (ls.getD i []) := ((h.line i e).below hb).below hb3
        exact l4.keeps hk fun k hk' hm => h.ne_g (hmine k hm).2 i e k hk' (hmine k hm).1
    · rw [e2, gd, if_neg (by omega), if_pos (by omega)]
      refine (o3.base_le hB).keeps hk fun k hk' hm => ?_
      rcases h with ⟨h1, -, -⟩ | h
      · have := (hmine k hm).2; omega
      · have h1 := (h.gblk (hmine k hm).2).2
        have h2 := (ho.blk k hk').1
        have := (hmine k hm).1
        omega
  · intro i j hi hj hij k
    rcases key i hi with ⟨e, e2⟩ | ⟨e, e2⟩
    · rcases key j hj with ⟨f, f2⟩ | ⟨f, f2⟩
      · rw [e2, f2]
        rcases h with ⟨h1, -, -⟩ | h
        · omega
        · exact h.apart i j e f hij k
      · rw [e2, f2]
        intro h1 h2
        rcases h with ⟨h1', -, -⟩ | h
        · omega
        · have := ((h.line i e).blk k h1.symm).2
          have := (ho.blk k h2.symm).1
          omega
    · rcases key j hj with ⟨f, f2⟩ | ⟨f, f2⟩
      · rw [e2, f2]
        intro h1 h2
        rcases h with ⟨h1', -, -⟩ | h
        · omega
        · have := ((h.line j f).blk k h2.symm).2
          have := (ho.blk k h1.symm).1
          omega
      · omega
  · intro j
    rw [gd]
    split
    · rcases h with ⟨h1, -, -⟩ | h
      · omega
      · exact h.short j
    · split
      · exact hl
      · simp
end
end Go.Proofs.Ytciogjnchpeaaaa
