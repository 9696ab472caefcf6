/-
  Queues: what a queue holds.
-/
import Derived.Test.YtciogjnchpeaaaaLineV
import Derived.Test.YtciogjnchpeaaaaVal
import Derived.Test.YtciogjnchpeaaaaRegion
namespace Go.Proofs.Ytciogjnchpeaaaa
open Go.RowKit
set_option maxRecDepth 10000
set_option linter.unusedVariables false
theorem elem_line : Elem 56 50 (.pointer none) 8 := ⟨Try.underlying56, by kernel_rfl, rfl⟩
/-- A line's address. -/
def lptr (x : Nat × Option Nat) : Value := .pointer (some ⟨x.1, 0, none⟩)
section
variable {w w' : World} {p : Nat} {g : Option Nat} {l : List UInt8}
theorem LineAt.ne_blk (h : LineAt w p g l) {k k' : Nat} {T : TypeId} {cs : Array Value} (hk : lineBlocks p g k) (hb : Blk w k' T cs) (h1 : 65 ≠ T) (h2 : 5 ≠ T) : k ≠ k' := by
  obtain ⟨hl, A, c, hp, ho, hg⟩ := h
  rcases hk with rfl | hk
  · exact Blk.ne_ hp hb h1
  · rintro rfl
    exact ho.ne_blk hb h2 (by rw [hk, hg])
theorem LineAt.ne_row (h : LineAt w p g l) {k : Nat} {e : TypeId} {base n c : Nat} {A : Option Addr} {xs : List Value} (hk : lineBlocks p g k) (hr : OwnV e w base A n c xs) (h1 : 65 ≠ e) (h2 : 5 ≠ e) : ¬ Mine A n c k := by
  obtain ⟨hl, A1, c1, hp, ho, hg⟩ := h
  intro hm
  rcases hk with rfl | hk
  · rcases hr.2 with ⟨hv, _⟩ | ⟨g', cap, cur, hv, _, hh, _⟩
    · have hm' : some k = (Value.slice A n c).ownBlock := hm
      rw [hv] at hm'; simp [Value.ownBlock] at hm'
    · have hm' : some k = (Value.slice A n c).ownBlock := hm
      rw [hv] at hm'
      have e1 : k = g' := by simpa [Value.ownBlock] using hm'
      subst e1
      exact Blk.ne_ hp (show Blk w k e cur from hh) h1 rfl
  · exact (OwnV.of_B ho).apart hr h2 k (by rw [hg]; exact hk) hm
theorem LineAt.base {B : Nat} (h : LineAt w p g l) : ∀ k, lineBlocks p g k → k < w.heap.size := by
  intro k hk
  rcases hk with rfl | hk
  · exact h.lt.1
  · exact h.lt.2 k hk
end
theorem OwnV.ne_blk {w : World} {e : TypeId} {base n c k : Nat} {A : Option Addr} {xs : List Value} {T : TypeId} {cs : Array Value} (h : OwnV e w base A n c xs) (hb : Blk w k T cs) (he : e ≠ T) : ¬ Mine A n c k := by
  intro hm
  have hm' : some k = (Value.slice A n c).ownBlock := hm
  rcases h.2 with ⟨hv, _⟩ | ⟨g', cap, cur, hv, _, hh, _⟩
  · rw [hv] at hm'; simp [Value.ownBlock] at hm'
  · rw [hv] at hm'
    have e1 : k = g' := by simpa [Value.ownBlock] using hm'
    subst e1
    exact Blk.ne_ (show Blk w k e cur from hh) hb he rfl

/-- Block q is a queue (its blocks from B on): its row of lines, the lines' blocks, what they hold. -/
structure QAt (B : Nat) (w : World) (q : Nat) (A : Option Addr) (c : Nat) (xs : List (Nat × Option Nat)) (ls : List (List UInt8)) : Prop where
  head : Blk w q 58 #[.slice A xs.length c]
  base : B ≤ q
  row : OwnV 50 w B A xs.length c (xs.map lptr)
  len : ls.length = xs.length
  line : ∀ (i : Nat) (h : i < xs.length), LineAt w xs[i].1 xs[i].2 (ls.getD i [])
  lbase : ∀ (i : Nat) (h : i < xs.length), B ≤ xs[i].1 ∧ ∀ k, xs[i].2 = some k → B ≤ k
  apart : ∀ (i j : Nat) (hi : i < xs.length) (hj : j < xs.length), i ≠ j → xs[i].1 ≠ xs[j].1 ∧ ∀ k, xs[i].2 = some k → xs[j].2 ≠ some k
section
variable {B : Nat} {w w' : World} {q c : Nat} {A : Option Addr} {xs : List (Nat × Option Nat)} {ls : List (List UInt8)}
theorem QAt.below (h : QAt B w q A c xs ls) (hb : Below w.heap.size w w') : QAt B w' q A c xs ls :=
  ⟨h.head.below hb h.head.lt, h.base, h.row.below hb, h.len, fun i hi => (h.line i hi).below hb, h.lbase, h.apart⟩
theorem QAt.drew (h : QAt B w q A c xs ls) : QAt B w.drew q A c xs ls := h.below ⟨rfl, rfl, rfl, Nat.le_refl _, fun _ _ => rfl⟩
theorem QAt.cell (h : QAt B w q A c xs ls) : w.cell? ⟨q, 0, none⟩ = some (.slice A xs.length c) := by
  have := h.head.cell 0
  simpa using this
theorem QAt.ptr (h : QAt B w q A c xs ls) (i : Nat) (hi : i < xs.length) : ∃ g, A = some ⟨g, 0, none⟩ ∧ w.cell? ⟨g, i, none⟩ = some (.pointer (some ⟨xs[i].1, 0, none⟩)) := by
  obtain ⟨g, rfl, _, _⟩ := h.row.form (by omega)
  obtain ⟨hl, hc⟩ := h.row.cell (j := i) hi
  refine ⟨g, rfl, ?_⟩
  rw [hc, List.getElem_map]; rfl
theorem QAt.cap (h : QAt B w q A c xs ls) : xs.length ≤ c := h.row.cap
/-- One line is changed. -/
theorem QAt.put (h : QAt B w q A c xs ls) (hB : B ≤ w.heap.size) (i : Nat) (hi : i < xs.length) {g' : Option Nat} {l' : List UInt8} (hl : LineAt w' xs[i].1 g' l') (hk : Keeps (lineBlocks xs[i].1 xs[i].2) w w')
    (hg : g' = xs[i].2 ∨ ∃ k, g' = some k ∧ w.heap.size ≤ k) : QAt B w' q A c (xs.set i (xs[i].1, g')) (ls.set i l') := by
  have hn : (xs.set i (xs[i].1, g')).length = xs.length := List.length_set
  have hm : (xs.set i (xs[i].1, g')).map lptr = xs.map lptr := by
    rw [List.map_set]
    apply List.ext_getElem (by simp)
    intro j h1 h2
    rw [List.getElem_set]
    split
    · subst_vars; simp [lptr]
    · rfl
  refine ⟨?_, h.base, ?_, ?_, ?_, ?_, ?_⟩
  · rw [hn]
    exact h.head.keeps hk fun hs => (h.line i hi).ne_blk hs h.head (by decide) (by decide) rfl
  · rw [hn, hm]
    exact h.row.keeps hk fun k e hs => (h.line i hi).ne_row hs h.row (by decide) (by decide) e
  · rw [hn, List.length_set]; exact h.len
  · intro j hj
    rw [hn] at hj
    rw [List.getElem_set]
    by_cases e : i = j
    · subst e
      rw [if_pos rfl]
      have : (ls.set i l').getD i [] = l' := by rw [List.getD_eq_getElem?_getD, List.getElem?_set_self (by rw [h.len]; exact hi)]; rfl
      rw [this]
      exact hl
    · rw [if_neg e]
      have : (ls.set i l').getD j [] = ls.getD j [] := by rw [List.getD_eq_getElem?_getD, List.getElem?_set_ne e, ← List.getD_eq_getElem?_getD]
      rw [this]
      refine (h.line j hj).keeps hk fun k hkj hki => ?_
      obtain ⟨a1, a2⟩ := h.apart i j hi hj e
      rcases hki with hki | hki
      · rcases hkj with hkj | hkj
        · exact a1 (by omega)
        · obtain ⟨_, A1, c1, hp1, _, _⟩ := h.line i hi
          obtain ⟨_, A2, c2, _, ho2, hg2⟩ := h.line j hj
          subst hki
          exact ho2.ne_blk hp1 (by decide) (by rw [hkj, hg2])
      · rcases hkj with hkj | hkj
        · obtain ⟨_, A1, c1, hp1, _, _⟩ := h.line j hj
          obtain ⟨_, A2, c2, _, ho2, hg2⟩ := h.line i hi
          subst hkj
          exact ho2.ne_blk hp1 (by decide) (by rw [hki, hg2])
        · exact a2 k hki.symm hkj.symm
  · intro j hj
    rw [hn] at hj
    rw [List.getElem_set]
    by_cases e : i = j
    · subst e
      rw [if_pos rfl]
      refine ⟨(h.lbase i hi).1, fun k hk' => ?_⟩
      rcases hg with hg | ⟨k2, hg, h2⟩
      · exact (h.lbase i hi).2 k (by rw [← hg]; exact hk')
      · have hk2 : g' = some k := hk'
        rw [hg] at hk2; injection hk2 with hk2; omega
    · rw [if_neg e]; exact h.lbase j hj
  · intro a b ha hb hab
    rw [hn] at ha hb
    rw [List.getElem_set, List.getElem_set]
    have fresh : ∀ j (hj : j < xs.length), i ≠ j → ∀ k, g' = some k → xs[j].2 ≠ some k := by
      intro j hj e k hk' he
      rcases hg with hg | ⟨k2, hg, h2⟩
      · exact (h.apart i j hi hj e).2 k (by rw [← hg]; exact hk') he
      · rw [hg] at hk'; injection hk' with hk'
        have := (h.line j hj).lt.2 k he.symm
        omega
    by_cases e1 : i = a
    · subst e1
      rw [if_pos rfl, if_neg hab]
      exact ⟨(h.apart i b hi hb hab).1, fun k hk' => fresh b hb hab k hk'⟩
    · rw [if_neg e1]
      by_cases e2 : i = b
      · subst e2
        rw [if_pos rfl]
        exact ⟨(h.apart a i ha hi hab).1, fun k hk' he => fresh a ha e1 k he hk'⟩
      · rw [if_neg e2]
        exact h.apart a b ha hb hab
end
/-- The least of the lengths. -/
def frontK (ls : List (List UInt8)) (k : Nat) : Nat := (ls.take k).foldl (fun n x => min n x.length) (ls.getD 0 []).length
def front (ls : List (List UInt8)) : Nat := frontK ls ls.length
theorem frontK_succ (ls : List (List UInt8)) (k : Nat) (h : k < ls.length) : frontK ls (k + 1) = min (frontK ls k) (ls.getD k []).length := by
  unfold frontK
  rw [List.take_succ_eq_append_getElem h, List.foldl_append, List.getD_eq_getElem?_getD (i := k), List.getElem?_eq_getElem h]
  rfl
theorem frontK_le (ls : List (List UInt8)) (k : Nat) (h : k ≤ ls.length) : ∀ i, i < k → frontK ls k ≤ (ls.getD i []).length := by
  induction k with
  | zero => intro i hi; omega
  | succ k ih =>
    intro i hi
    rw [frontK_succ _ _ (by omega)]
    by_cases e : i = k
    · subst e; omega
    · have := ih (by omega) i (by omega); omega
theorem frontK_mem (ls : List (List UInt8)) (k : Nat) (h : k ≤ ls.length) (h0 : 0 < ls.length) : ∃ i, i < ls.length ∧ frontK ls k = (ls.getD i []).length := by
  induction k with
  | zero => exact ⟨0, h0, rfl⟩
  | succ k ih =>
    obtain ⟨i, hi, e⟩ := ih (by omega)
    rw [frontK_succ _ _ (by omega)]
    by_cases q : frontK ls k ≤ (ls.getD k []).length
    · exact ⟨i, hi, by omega⟩
    · exact ⟨k, by omega, by omega⟩
end Go.Proofs.Ytciogjnchpeaaaa
