/-
  Sorting, plain: segments, insertion, merging by a key.
-/
import Derived.Test.YtciogjnchpeaaaaNums
namespace Go.Proofs.Ytciogjnchpeaaaa
open Go.RowKit
set_option maxRecDepth 10000
set_option linter.unusedVariables false
namespace Srt
/-- What stands from i to j. -/
def seg (l : List UInt8) (i j : Nat) : List UInt8 := (l.drop i).take (j - i)
theorem seg_len {l : List UInt8} {i j : Nat} (h : i ≤ j) (hj : j ≤ l.length) : (seg l i j).length = j - i := by
  unfold seg; rw [List.length_take, List.length_drop]; omega
theorem split3 {l : List UInt8} {i j : Nat} (h : i ≤ j) : l = l.take i ++ (seg l i j ++ l.drop j) := by
  have h1 := (List.take_append_drop (j - i) (l.drop i))
  rw [List.drop_drop, show i + (j - i) = j by omega] at h1
  unfold seg
  rw [h1, List.take_append_drop]
theorem seg_getD {l : List UInt8} {i j k : Nat} (hk : k < j - i) : (seg l i j).getD k 0 = l.getD (i + k) 0 := by
  unfold seg
  rw [List.getD_eq_getElem?_getD, List.getElem?_take, if_pos hk, List.getElem?_drop, ← List.getD_eq_getElem?_getD]
theorem mem_seg {l : List UInt8} {i j : Nat} {x : UInt8} (h : x ∈ seg l i j) : ∃ k, i ≤ k ∧ k < j ∧ k < l.length ∧ l.getD k 0 = x := by
  obtain ⟨k, hk, e⟩ := List.mem_iff_getElem.1 h
  unfold seg at hk e
  rw [List.length_take, List.length_drop] at hk
  rw [List.getElem_take, List.getElem_drop] at e
  refine ⟨i + k, by omega, by omega, by omega, ?_⟩
  rw [List.getD_eq_getElem?_getD, List.getElem?_eq_getElem (by omega), ← e]; rfl
theorem seg_seg {l : List UInt8} {i j k : Nat} (h : i ≤ j) (h2 : j ≤ k) : seg l i k = seg l i j ++ seg l j k := by
  unfold seg
  have : k - i = (j - i) + (k - j) := by omega
  rw [this, List.take_add, List.drop_drop, show i + (j - i) = j by omega]
theorem seg_one {l : List UInt8} {i : Nat} (h : i < l.length) : seg l i (i + 1) = [l.getD i 0] := by
  unfold seg
  rw [show i + 1 - i = 1 by omega, List.drop_eq_getElem_cons h, List.getD_eq_getElem?_getD, List.getElem?_eq_getElem h]
  rfl
theorem seg_nil (l : List UInt8) (i : Nat) : seg l i i = [] := by unfold seg; rw [Nat.sub_self]; rfl
/-- A list that is built of three pieces: its segments. -/
theorem seg_of_parts {P M S : List UInt8} {a b : Nat} (ha : P.length = a) (hb : a + M.length = b) : seg (P ++ (M ++ S)) a b = M := by
  unfold seg
  subst ha
  rw [List.drop_left, show b - P.length = M.length by omega, List.take_left]
theorem getD_mid (P S : List UInt8) (x : UInt8) (k : Nat) (h : P.length = k) : (P ++ x :: S).getD k 0 = x := by
  subst h
  rw [List.getD_eq_getElem?_getD, List.getElem?_append_right (Nat.le_refl _), Nat.sub_self]; rfl
/-- Two cells change places. -/
def swp (l : List UInt8) (i j : Nat) : List UInt8 := (l.set i (l.getD j 0)).set j (l.getD i 0)
theorem set_mid (P S : List UInt8) (x y : UInt8) (k : Nat) (h : P.length = k) : (P ++ x :: S).set k y = P ++ y :: S := by
  subst h
  rw [List.set_append_right _ _ (Nat.le_refl _), Nat.sub_self]; rfl
theorem swp_parts (P M S : List UInt8) (u v : UInt8) (i j : Nat) (hi : P.length = i) (hj : i + 1 + M.length = j) : swp (P ++ u :: (M ++ v :: S)) i j = P ++ v :: (M ++ u :: S) := by
  unfold swp
  have e1 : (P ++ u :: (M ++ v :: S)).getD j 0 = v := by
    have : P ++ u :: (M ++ v :: S) = (P ++ u :: M) ++ v :: S := by simp
    rw [this]; exact getD_mid _ _ _ _ (by simp; omega)
  rw [getD_mid _ _ _ _ hi, e1, set_mid _ _ _ _ _ hi]
  have : P ++ v :: (M ++ v :: S) = (P ++ v :: M) ++ v :: S := by simp
  rw [this, set_mid _ _ _ _ _ (by simp; omega)]
  simp
theorem swp_comm (l : List UInt8) (i j : Nat) (h : i ≠ j) : swp l i j = swp l j i := by
  unfold swp
  exact List.set_comm _ _ h
theorem swp_len (l : List UInt8) (i j : Nat) : (swp l i j).length = l.length := by simp [swp]
section
variable (K : UInt8 → Nat)
/-- Rising keys. -/
def Sorted (l : List UInt8) : Prop := l.Pairwise fun x y => K x < K y
variable {K}
theorem Sorted.append {l r : List UInt8} (hl : Sorted K l) (hr : Sorted K r) (h : ∀ x ∈ l, ∀ y ∈ r, K x < K y) : Sorted K (l ++ r) := List.pairwise_append.2 ⟨hl, hr, h⟩
theorem Sorted.left {l r : List UInt8} (h : Sorted K (l ++ r)) : Sorted K l := (List.pairwise_append.1 h).1
theorem Sorted.right {l r : List UInt8} (h : Sorted K (l ++ r)) : Sorted K r := (List.pairwise_append.1 h).2.1
theorem Sorted.cross {l r : List UInt8} (h : Sorted K (l ++ r)) : ∀ x ∈ l, ∀ y ∈ r, K x < K y := (List.pairwise_append.1 h).2.2
theorem Sorted.idx {l : List UInt8} (h : Sorted K l) {i j : Nat} (hij : i < j) (hj : j < l.length) : K (l.getD i 0) < K (l.getD j 0) := by
  have := (List.pairwise_iff_getElem.1 h) i j (by omega) hj hij
  rw [List.getD_eq_getElem?_getD, List.getD_eq_getElem?_getD, List.getElem?_eq_getElem hj, List.getElem?_eq_getElem (show i < l.length by omega)]
  exact this
theorem Sorted.seg_idx {l : List UInt8} {a b : Nat} (h : Sorted K (seg l a b)) (hab : a ≤ b) (hb : b ≤ l.length) {i j : Nat} (hi : a ≤ i) (hij : i < j) (hj : j < b) : K (l.getD i 0) < K (l.getD j 0) := by
  have hl := seg_len hab hb
  have := h.idx (i := i - a) (j := j - a) (by omega) (by omega)
  rwa [seg_getD (by omega), seg_getD (by omega), show a + (i - a) = i by omega, show a + (j - a) = j by omega] at this
theorem Sorted.sub {l : List UInt8} {a b c d : Nat} (h : Sorted K (seg l a b)) (h1 : a ≤ c) (h2 : c ≤ d) (h3 : d ≤ b) : Sorted K (seg l c d) := by
  rw [seg_seg (j := c) h1 (by omega), seg_seg (i := c) (j := d) h2 h3] at h
  exact h.right.left
/-- What a stretch becomes. -/
structure Made (K : UInt8 → Nat) (l : List UInt8) (a b : Nat) (l' : List UInt8) : Prop where
  ex : ∃ M, l' = l.take a ++ (M ++ l.drop b) ∧ M.Perm (seg l a b) ∧ Sorted K M
theorem Made.seg {l l' : List UInt8} {a b : Nat} (h : Made K l a b l') (hab : a ≤ b) (hb : b ≤ l.length) : (Srt.seg l' a b).Perm (Srt.seg l a b) ∧ Sorted K (Srt.seg l' a b) ∧ l'.length = l.length ∧ (∀ i j, i ≤ j → j ≤ a ∨ b ≤ i → Srt.seg l' i j = Srt.seg l i j) := by
  obtain ⟨M, rfl, hp, hs⟩ := h.ex
  have hM : M.length = b - a := by rw [hp.length_eq, seg_len hab hb]
  have hta : (l.take a).length = a := by rw [List.length_take]; omega
  have e : Srt.seg (l.take a ++ (M ++ l.drop b)) a b = M := seg_of_parts hta (by omega)
  refine ⟨by rw [e]; exact hp, by rw [e]; exact hs, by rw [List.length_append, List.length_append, hta, hM, List.length_drop]; omega, ?_⟩
  intro i j hij hor
  rcases hor with h1 | h1
  · unfold Srt.seg
    rw [List.drop_append_of_le_length (by omega), List.take_append_of_le_length (by rw [List.length_drop]; omega), List.drop_take, List.take_take, Nat.min_eq_left (by omega)]
  · unfold Srt.seg
    congr 1
    rw [← List.append_assoc, List.drop_append, List.drop_eq_nil_of_le (by rw [List.length_append]; omega), List.nil_append, List.length_append, hta, hM, List.drop_drop]
    congr 1; omega
/-- One element goes between. -/
theorem insert_sorted {P Q : List UInt8} {x : UInt8} (h : Sorted K (P ++ Q)) (h1 : ∀ p ∈ P, K p < K x) (h2 : ∀ q ∈ Q, K x < K q) : Sorted K (P ++ x :: Q) := by
  refine h.left.append ?_ ?_
  · exact List.pairwise_cons.2 ⟨h2, h.right⟩
  · intro p hp y hy
    rcases List.mem_cons.1 hy with rfl | hy
    · exact h1 p hp
    · exact h.cross p hp y hy
theorem perm_insert (P Q : List UInt8) (x : UInt8) : (P ++ x :: Q).Perm (P ++ Q ++ [x]) := by
  have h1 : (P ++ x :: Q).Perm (x :: (P ++ Q)) := List.perm_middle
  exact h1.trans (List.perm_append_singleton x (P ++ Q)).symm
/-- Two sorted stretches, parted so that what is ahead is below what is behind. -/
theorem parted {l : List UInt8} {a m b s e : Nat} (hL : Sorted K (seg l a m)) (hR : Sorted K (seg l m b)) (h1 : a ≤ s) (h2 : s ≤ m) (h3 : m ≤ e) (h4 : e ≤ b) (hb : b ≤ l.length)
    (q1 : s = a ∨ e = b ∨ K (l.getD (s - 1) 0) < K (l.getD e 0)) (q2 : e = m ∨ s = m ∨ K (l.getD (e - 1) 0) < K (l.getD s 0)) :
    ∀ x ∈ seg l a s ++ seg l m e, ∀ y ∈ seg l s m ++ seg l e b, K x < K y := by
  intro x hx y hy
  rcases List.mem_append.1 hx with hx | hx
  · obtain ⟨i, i1, i2, i3, rfl⟩ := mem_seg hx
    rcases List.mem_append.1 hy with hy | hy
    · obtain ⟨j, j1, j2, j3, rfl⟩ := mem_seg hy
      exact hL.seg_idx (by omega) (by omega) i1 (by omega) j2
    · obtain ⟨j, j1, j2, j3, rfl⟩ := mem_seg hy
      have c1 : K (l.getD i 0) ≤ K (l.getD (s - 1) 0) := by
        by_cases e1 : i = s - 1
        · subst e1; exact Nat.le_refl _
        · exact Nat.le_of_lt (hL.seg_idx (by omega) (by omega) i1 (by omega) (by omega))
      have c2 : K (l.getD e 0) ≤ K (l.getD j 0) := by
        by_cases e1 : e = j
        · subst e1; exact Nat.le_refl _
        · exact Nat.le_of_lt (hR.seg_idx (by omega) (by omega) h3 (by omega) j2)
      omega
  · obtain ⟨i, i1, i2, i3, rfl⟩ := mem_seg hx
    rcases List.mem_append.1 hy with hy | hy
    · obtain ⟨j, j1, j2, j3, rfl⟩ := mem_seg hy
      have c1 : K (l.getD i 0) ≤ K (l.getD (e - 1) 0) := by
        by_cases e1 : i = e - 1
        · subst e1; exact Nat.le_refl _
        · exact Nat.le_of_lt (hR.seg_idx (by omega) (by omega) i1 (by omega) (by omega))
      have c2 : K (l.getD s 0) ≤ K (l.getD j 0) := by
        by_cases e1 : s = j
        · subst e1; exact Nat.le_refl _
        · exact Nat.le_of_lt (hL.seg_idx (by omega) (by omega) h1 (by omega) j2)
      omega
    · obtain ⟨j, j1, j2, j3, rfl⟩ := mem_seg hy
      exact hR.seg_idx (by omega) (by omega) i1 (by omega) j2
/-- Two sorted lists of the same elements are one. -/
theorem sorted_unique : ∀ {l r : List UInt8}, Sorted K l → Sorted K r → l.Perm r → l = r
  | [], r, _, _, h => (h.nil_eq).symm ▸ rfl
  | x :: l, [], _, _, h => absurd h.length_eq (by simp)
  | x :: l, y :: r, hl, hr, h => by
    have hx := List.pairwise_cons.1 hl
    have hy := List.pairwise_cons.1 hr
    have e : x = y := by
      by_cases e : x = y
      · exact e
      · have m1 : x ∈ y :: r := h.mem_iff.1 (by simp)
        have m2 : y ∈ x :: l := h.mem_iff.2 (by simp)
        rcases List.mem_cons.1 m1 with m1 | m1
        · exact m1
        · rcases List.mem_cons.1 m2 with m2 | m2
          · exact m2.symm
          · have := hx.1 y m2
            have := hy.1 x m1
            omega
    subst e
    rw [sorted_unique hx.2 hy.2 (List.Perm.cons_inv h)]
end
end Srt
end Go.Proofs.Ytciogjnchpeaaaa
