/-
  Runs that are cut off, plain.
-/
import Derived.Test.YtobdafecgbcofaaRunsLaws
namespace Go.Proofs.Ytobdafecgbcofaa
open Go.RowKit
namespace Runs
def flat : List (UInt8 × Nat) → List UInt8
  | [] => []
  | (x, n) :: t => List.replicate n x ++ flat t
def encR (a : UInt8) : List (UInt8 × Nat) → List UInt8
  | [] => []
  | (x, n) :: t => UInt8.ofNat (2 * n) :: (x ^^^ a) :: encR x t
/-- Runs of one to sixty presses, none as the one ahead of it. -/
def Alt (p : Option UInt8) : List (UInt8 × Nat) → Prop
  | [] => True
  | (x, n) :: t => p ≠ some x ∧ 1 ≤ n ∧ n ≤ 60 ∧ Alt (some x) t
def lastv (p : Option UInt8) : List (UInt8 × Nat) → Option UInt8
  | [] => p
  | (x, _) :: t => lastv (some x) t
theorem flat_snoc (rs : List (UInt8 × Nat)) (x : UInt8) (n : Nat) : flat (rs ++ [(x, n)]) = flat rs ++ List.replicate n x := by
  induction rs with
  | nil => simp [flat]
  | cons r t ih => obtain ⟨y, m⟩ := r; simp only [List.cons_append, flat, ih, List.append_assoc]
theorem lastv_snoc (rs : List (UInt8 × Nat)) (p : Option UInt8) (x : UInt8) (n : Nat) : lastv p (rs ++ [(x, n)]) = some x := by
  induction rs generalizing p with
  | nil => rfl
  | cons r t ih => obtain ⟨y, m⟩ := r; exact ih (some y)
theorem alt_snoc (rs : List (UInt8 × Nat)) (p : Option UInt8) (x : UInt8) (n : Nat) (h : Alt p rs) (hl : lastv p rs ≠ some x) (h1 : 1 ≤ n) (h2 : n ≤ 60) : Alt p (rs ++ [(x, n)]) := by
  induction rs generalizing p with
  | nil => exact ⟨hl, h1, h2, trivial⟩
  | cons r t ih => obtain ⟨y, m⟩ := r; exact ⟨h.1, h.2.1, h.2.2.1, ih (some y) h.2.2.2 hl⟩
theorem alt_take (rs : List (UInt8 × Nat)) (p : Option UInt8) (h : Alt p rs) (j : Nat) : Alt p (rs.take j) := by
  induction rs generalizing p j with
  | nil => rw [List.take_nil]; trivial
  | cons r t ih =>
    obtain ⟨y, m⟩ := r
    cases j with
    | zero => trivial
    | succ j => exact ⟨h.1, h.2.1, h.2.2.1, ih (some y) h.2.2.2 j⟩
theorem alt_len (rs : List (UInt8 × Nat)) (p : Option UInt8) (h : Alt p rs) : (flat rs).length ≤ 60 * rs.length := by
  induction rs generalizing p with
  | nil => simp [flat]
  | cons r t ih =>
    obtain ⟨y, m⟩ := r
    have := ih (some y) h.2.2.2
    have := h.2.2.1
    simp only [flat, List.length_append, List.length_replicate, List.length_cons]
    omega
theorem alt_head (x : UInt8) (t : List (UInt8 × Nat)) (h : Alt (some x) t) : ∀ y r, flat t = y :: r → y ≠ x := by
  intro y r e
  cases t with
  | nil => simp [flat] at e
  | cons q t =>
    obtain ⟨z, m⟩ := q
    obtain ⟨h1, h2, _, _⟩ := h
    obtain ⟨k, rfl⟩ : ∃ k, m = k + 1 := ⟨m - 1, by omega⟩
    simp only [flat, List.replicate_succ, List.cons_append] at e
    injection e with e _
    subst e
    exact fun e => h1 (by rw [e])
theorem enc_flat (rs : List (UInt8 × Nat)) (p : Option UInt8) (a : UInt8) (h : Alt p rs) : enc a (flat rs) = encR a rs := by
  induction rs generalizing p a with
  | nil => simp only [flat, encR, enc_nil]
  | cons r t ih =>
    obtain ⟨x, n⟩ := r
    obtain ⟨_, h1, h2, h3⟩ := h
    obtain ⟨m, rfl⟩ : ∃ m, n = m + 1 := ⟨n - 1, by omega⟩
    simp only [flat, encR, List.replicate_succ, List.cons_append]
    rw [enc_cons, lead_rep _ _ _ (alt_head x t h3), Var.put_small (by omega), List.drop_append, List.drop_eq_nil_of_le (by simp)]
    simp only [List.length_replicate, Nat.sub_self, List.drop_zero, List.nil_append, List.cons_append, ih (some x) x h3]
theorem encR_len (rs : List (UInt8 × Nat)) (a : UInt8) : (encR a rs).length = 2 * rs.length := by
  induction rs generalizing a with
  | nil => rfl
  | cons r t ih => obtain ⟨x, n⟩ := r; simp only [encR, List.length_cons, ih x]; omega
theorem encR_take (rs : List (UInt8 × Nat)) (a : UInt8) (j : Nat) : (encR a rs).take (2 * j) = encR a (rs.take j) := by
  induction rs generalizing a j with
  | nil => simp [encR]
  | cons r t ih =>
    obtain ⟨x, n⟩ := r
    cases j with
    | zero => rfl
    | succ j => simp only [encR, List.take_succ_cons, show 2 * (j + 1) = 2 * j + 1 + 1 by omega, ih x j]
theorem get_one (n : Nat) (l : List UInt8) (h : n ≤ 60) : Var.get 0 0 (UInt8.ofNat (2 * n) :: l) = ((n : Int), 1, 0) := by
  have e : (UInt8.ofNat (2 * n)).toNat = 2 * n := by rw [UInt8.toNat_ofNat']; omega
  rw [Var.get_ok (by omega) (by rw [e]; omega) (by omega), e]
  congr 1
  unfold Var.unzig
  rw [if_neg (by omega)]
  omega
theorem dec_odd (M : Nat) (rs : List (UInt8 × Nat)) : ∀ (first : Bool) (a : UInt8) (out : List UInt8) (j : Nat), Alt (if first then none else some a) rs → j < rs.length → out.length + (flat rs).length ≤ M →
    dec M first a out ((encR a rs).take (2 * j + 1)) = ([], 1) := by
  induction rs with
  | nil => intro first a out j _ h; simp at h
  | cons r t ih =>
    intro first a out j h hj hM
    obtain ⟨x, n⟩ := r
    obtain ⟨h0, h1, h2, h3⟩ := h
    simp only [flat, List.length_append, List.length_replicate] at hM
    cases j with
    | zero =>
      show dec M first a out [UInt8.ofNat (2 * n)] = _
      exact dec_bad (get_one n [] h2) (by simp) (.inr (.inr (.inl (by simp))))
    | succ j =>
      rw [show 2 * (j + 1) + 1 = 2 * j + 1 + 1 + 1 by omega]
      show dec M first a out (UInt8.ofNat (2 * n) :: (x ^^^ a) :: (encR x t).take (2 * j + 1)) = _
      rw [dec_on (get_one n _ h2) (by simp) ?_ (by omega)]
      · show dec M false (a ^^^ (x ^^^ a)) (out ++ List.replicate ((n : Int)).toNat (a ^^^ (x ^^^ a))) ((encR x t).take (2 * j + 1)) = _
        rw [xor_back, Int.toNat_natCast]
        exact ih false x _ j h3 (by simpa using hj) (by rw [List.length_append, List.length_replicate]; omega)
      · rintro (q | q | q | ⟨q, q2⟩)
        · exact q rfl
        · omega
        · simp only [List.length_cons] at q; omega
        · subst q2
          exact h0 (by rw [xor_zero (show x ^^^ a = 0 from q)]; rfl)
/-- Where the runs end. -/
def ends (rs : List (UInt8 × Nat)) : List Int := (List.range rs.length).map fun j => ((flat (rs.take (j + 1))).length : Int)
theorem ends_len (rs : List (UInt8 × Nat)) : (ends rs).length = rs.length := by simp [ends]
theorem ends_snoc (rs : List (UInt8 × Nat)) (x : UInt8) (n : Nat) : ends (rs ++ [(x, n)]) = ends rs ++ [((flat (rs ++ [(x, n)])).length : Int)] := by
  unfold ends
  rw [List.length_append, List.length_singleton, List.range_succ, List.map_append]
  congr 1
  · refine List.map_congr_left fun j hj => ?_
    have := List.mem_range.1 hj
    rw [List.take_append_of_le_length (by omega)]
  · simp only [List.map_cons, List.map_nil]
    rw [List.take_of_length_le (by simp)]
theorem ends_at (rs : List (UInt8 × Nat)) (j : Nat) (h : j < (ends rs).length) : (ends rs)[j] = ((flat (rs.take (j + 1))).length : Int) := by
  simp [ends]
theorem flat_take (rs : List (UInt8 × Nat)) (j : Nat) : (flat rs).take (flat (rs.take j)).length = flat (rs.take j) := by
  induction rs generalizing j with
  | nil => simp [flat]
  | cons r t ih =>
    obtain ⟨x, n⟩ := r
    cases j with
    | zero => simp [flat]
    | succ j =>
      simp only [List.take_succ_cons, flat, List.length_append, List.length_replicate]
      rw [List.take_append, List.take_of_length_le (by simp), List.length_replicate, Nat.add_sub_cancel_left, ih j]
theorem flat_take_le (rs : List (UInt8 × Nat)) (j : Nat) : (flat (rs.take j)).length ≤ (flat rs).length := by
  have := congrArg List.length (flat_take rs j)
  rw [List.length_take] at this
  omega
end Runs
end Go.Proofs.Ytobdafecgbcofaa
