/-
  What is guessed, plain: weights, keys, the order of all values, the chain.
-/
import Derived.Test.YtciogjnchpeaaaaSortP
namespace Go.Proofs.Ytciogjnchpeaaaa
open Go.RowKit
set_option maxRecDepth 10000
set_option linter.unusedVariables false
namespace Prd
/-- How is guessed. -/
structure By where
  kind : Int
  order : Int
  table : List UInt8
def By.row (b : By) (v : Value) : List Value := [.int .i64 b.kind, .int .i64 b.order, v]
@[reducible] def By.val (b : By) (v : Value) : Value := .agg #[.int .i64 b.kind, .int .i64 b.order, v]
def By.may (b : By) : Bool :=
  (decide (b.kind = 1) && decide (b.order = 0) && decide (b.table.length = 0)) || (decide (b.kind = 2) && decide (0 ≤ b.order) && decide (b.order ≤ 3) && decide (b.table.length = 0)) || (decide (b.kind = 3) && decide (b.order = 0) && decide (1 ≤ b.table.length) && decide (b.table.length ≤ 1000))
/-- What stands ahead of place j, is it the end? -/
def hit (o : Nat) (past : List UInt8) (j : Nat) : Bool := (past.drop (j - o)).take o == past.drop (past.length - o)
def cnt (o : Nat) (past : List UInt8) (n : Nat) (x : UInt8) : Nat := (List.range n).countP fun j => decide (o ≤ j) && hit o past j && (past.getD j 0 == x)
def By.wgt (b : By) (past : List UInt8) (x : UInt8) : Nat := if b.kind = 2 ∧ b.order.toNat ≤ past.length then cnt b.order.toNat past past.length x else 0
def endB (past : List UInt8) : UInt8 := past.getD (past.length - 1) 0
def By.tb (b : By) (past : List UInt8) : UInt8 := b.table.getD (past.length % b.table.length) 0
def By.hi (b : By) (past : List UInt8) (x : UInt8) : Nat := if b.kind = 3 then (if x = b.tb past then 0 else 1) else past.length - b.wgt past x
def By.key (b : By) (past : List UInt8) (x : UInt8) : Nat := b.hi past x * 1024 + (if x = endB past then 0 else 512) + x.toNat
theorem cnt_zero (o : Nat) (past : List UInt8) (x : UInt8) : cnt o past 0 x = 0 := rfl
theorem cnt_succ (o : Nat) (past : List UInt8) (n : Nat) (x : UInt8) : cnt o past (n + 1) x = cnt o past n x + if o ≤ n ∧ hit o past n = true ∧ past.getD n 0 = x then 1 else 0 := by
  unfold cnt
  rw [List.range_succ, List.countP_append, List.countP_cons, List.countP_nil]
  simp [and_assoc]
theorem cnt_le (o : Nat) (past : List UInt8) (n : Nat) (x : UInt8) : cnt o past n x ≤ n := by
  have := List.countP_le_length (p := fun j => decide (o ≤ j) && hit o past j && (past.getD j 0 == x)) (l := List.range n)
  rwa [List.length_range] at this
theorem cnt_early (o : Nat) (past : List UInt8) (n : Nat) (x : UInt8) (h : n ≤ o) : cnt o past n x = 0 := by
  induction n with
  | zero => rfl
  | succ n ih => rw [cnt_succ, ih (by omega), if_neg (by omega)]
theorem By.wgt_le (b : By) (past : List UInt8) (x : UInt8) : b.wgt past x ≤ past.length := by
  unfold By.wgt; split
  · exact cnt_le _ _ _ _
  · exact Nat.zero_le _
theorem By.key_inj (b : By) (past : List UInt8) : ∀ x y, b.key past x = b.key past y → x = y := by
  intro x y h
  have h1 := x.toNat_lt
  have h2 := y.toNat_lt
  unfold By.key at h
  apply UInt8.toNat_inj.1
  split at h <;> split at h <;> omega
theorem By.key_of_hi {b : By} {past : List UInt8} {x y : UInt8} (h : b.hi past x < b.hi past y) : b.key past x < b.key past y := by
  have h1 := x.toNat_lt
  have h2 := y.toNat_lt
  unfold By.key
  split <;> split <;> omega
/-- All values. -/
def asc : List UInt8 := (List.range 256).map UInt8.ofNat
theorem asc_len : asc.length = 256 := by simp [asc]
theorem asc_getD {i : Nat} (h : i < 256) : asc.getD i 0 = UInt8.ofNat i := by
  unfold asc
  rw [List.getD_eq_getElem?_getD, List.getElem?_map, List.getElem?_range h]; rfl
theorem asc_mem (x : UInt8) : x ∈ asc := by
  unfold asc
  exact List.mem_map.2 ⟨x.toNat, List.mem_range.2 x.toNat_lt, by simp⟩
theorem asc_asc : asc.Pairwise (· < ·) := by
  unfold asc
  rw [List.pairwise_map]
  refine (List.pairwise_lt_range (n := 256)).imp_of_mem ?_
  intro a b ha hb h
  have h1 := List.mem_range.1 ha
  have h2 := List.mem_range.1 hb
  rw [UInt8.lt_iff_toNat_lt, UInt8.toNat_ofNat_of_lt' h1, UInt8.toNat_ofNat_of_lt' h2]
  exact h
theorem asc_nodup : asc.Nodup := asc_asc.imp fun {a b} h e => by subst e; exact absurd h (by simp)
/-- The order of all values. -/
def By.rank (b : By) (past : List UInt8) : List UInt8 := asc.mergeSort fun x y => decide (b.key past x ≤ b.key past y)
theorem By.rank_perm (b : By) (past : List UInt8) : (b.rank past).Perm asc := List.mergeSort_perm _ _
theorem By.rank_sorted (b : By) (past : List UInt8) : Srt.Sorted (b.key past) (b.rank past) := by
  have h1 := List.pairwise_mergeSort (le := fun x y => decide (b.key past x ≤ b.key past y)) (fun a b c h1 h2 => by simp at *; omega) (fun a b => by simp; omega) asc
  have h2 : (b.rank past).Nodup := (b.rank_perm past).nodup_iff.2 asc_nodup
  refine (h1.and h2).imp ?_
  rintro x y ⟨h, hne⟩
  simp at h
  rcases Nat.lt_or_eq_of_le h with h | h
  · exact h
  · exact absurd (b.key_inj past _ _ h) hne
theorem By.rank_len (b : By) (past : List UInt8) : (b.rank past).length = 256 := by rw [(b.rank_perm past).length_eq, asc_len]
theorem By.rank_mem (b : By) (past : List UInt8) (x : UInt8) : x ∈ b.rank past := (b.rank_perm past).mem_iff.2 (asc_mem x)
theorem By.rank_unique {b : By} {past l : List UInt8} (h : l.Perm asc) (hs : Srt.Sorted (b.key past) l) : l = b.rank past :=
  Srt.sorted_unique hs (b.rank_sorted past) (h.trans (b.rank_perm past).symm)
/-- The first one. -/
def By.first (b : By) (past : List UInt8) : UInt8 := (b.rank past).getD 0 0
theorem By.first_min (b : By) (past : List UInt8) (x : UInt8) : b.key past (b.first past) ≤ b.key past x := by
  obtain ⟨k, hk, rfl⟩ := List.mem_iff_getElem.1 (b.rank_mem past x)
  rcases Nat.eq_zero_or_pos k with h | h
  · subst h
    unfold By.first
    rw [List.getD_eq_getElem?_getD, List.getElem?_eq_getElem hk]
    exact Nat.le_refl _
  · have := (b.rank_sorted past).idx h hk
    rw [show (b.rank past)[k] = (b.rank past).getD k 0 by rw [List.getD_eq_getElem?_getD, List.getElem?_eq_getElem hk]; rfl]
    exact Nat.le_of_lt this
theorem By.first_unique {b : By} {past : List UInt8} {z : UInt8} (h : ∀ x, b.key past z ≤ b.key past x) : z = b.first past :=
  b.key_inj past _ _ (Nat.le_antisymm (h _) (b.first_min past z))
/-- One press behind the other. -/
def By.chain (b : By) : Nat → List UInt8 → List UInt8
  | 0, _ => []
  | n + 1, past => b.first past :: By.chain b n (past ++ [b.first past])
theorem By.chain_len (b : By) : ∀ (n : Nat) (past : List UInt8), (b.chain n past).length = n
  | 0, _ => rfl
  | n + 1, past => by simp [By.chain, By.chain_len b n]
theorem By.chain_succ (b : By) : ∀ (n : Nat) (past : List UInt8), b.chain (n + 1) past = b.chain n past ++ [b.first (past ++ b.chain n past)]
  | 0, past => by simp [By.chain]
  | n + 1, past => by
    have h := By.chain_succ b n (past ++ [b.first past])
    rw [By.chain, h, By.chain]
    simp
theorem By.chain_add (b : By) : ∀ (m n : Nat) (past : List UInt8), b.chain (m + n) past = b.chain m past ++ b.chain n (past ++ b.chain m past)
  | 0, n, past => by simp [By.chain]
  | m + 1, n, past => by
    rw [show m + 1 + n = (m + n) + 1 by omega, By.chain, By.chain_add b m n, By.chain]
    simp
/-- What of one value stands ahead of a lesser one, by keys. -/
theorem By.key_lt_of_hi {b : By} {past : List UInt8} {x y : UInt8} (hyx : y < x) (he : b.hi past x = b.hi past y) : (b.key past x < b.key past y) ↔ x = endB past := by
  have h0 : y.toNat < x.toNat := UInt8.lt_iff_toNat_lt.1 hyx
  have h1 := x.toNat_lt
  have hne : x ≠ y := fun e => by rw [e] at h0; omega
  unfold By.key
  rw [he]
  by_cases hx : x = endB past
  · have hy : ¬ y = endB past := fun e => hne (hx.trans e.symm)
    rw [if_pos hx, if_neg hy]
    exact ⟨fun _ => hx, fun _ => by omega⟩
  · rw [if_neg hx]
    constructor
    · intro h
      split at h <;> omega
    · intro h; exact absurd h hx
/-- A prefix of the order, if each of the rest stands behind it. -/
theorem By.rank_prefix {b : By} {past p : List UInt8} (hs : Srt.Sorted (b.key past) p) (h : ∀ x, x ∉ p → ∀ y ∈ p, b.key past y < b.key past x) : (b.rank past).take p.length = p := by
  have hR := b.rank_sorted past
  have hp := b.rank_perm past
  have hnd : p.Nodup := hs.imp fun {a c} h e => by subst e; exact absurd h (Nat.lt_irrefl _)
  have hnr : (b.rank past).Nodup := hp.nodup_iff.2 asc_nodup
  have e : b.rank past = p ++ (b.rank past).filter (fun x => decide (x ∉ p)) := by
    refine (Srt.sorted_unique (K := b.key past) (hs.append (hR.filter _) ?_) hR ?_).symm
    · intro x hx y hy
      have := (List.mem_filter.1 hy).2
      exact h y (by simpa using this) x hx
    · rw [List.perm_ext_iff_of_nodup ?_ hnr]
      · intro x
        have := b.rank_mem past x
        simp [this]
        exact Classical.em _
      · refine List.nodup_append.2 ⟨hnd, hnr.filter _, ?_⟩
        intro x hx y hy e
        subst e
        have := (List.mem_filter.1 hy).2
        simp at this
        exact this hx
  rw [e, List.take_left]
end Prd
end Go.Proofs.Ytciogjnchpeaaaa
