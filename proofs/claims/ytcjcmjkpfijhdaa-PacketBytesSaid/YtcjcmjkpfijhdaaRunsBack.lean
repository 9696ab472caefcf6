/-
  Runs there and back, plain.
-/
import Derived.Test.YtcjcmjkpfijhdaaRunsDec
namespace Go.Proofs.Ytcjcmjkpfijhdaa
open Go.RowKit
namespace Var
/-- What Put writes Get reads. -/
theorem get_put (k : Nat) : ∀ (i acc u : Nat) (t : List UInt8), i + k = 9 → u < 2 * 128 ^ k → (0 < i → 0 < u) →
    get i acc (put u ++ t) = (unzig (acc + u * 128 ^ i), i + (put u).length, 0) := by
  induction k with
  | zero =>
    intro i acc u t hi hu h0
    have hs : u < 128 := by omega
    have e : (UInt8.ofNat u).toNat = u := by rw [UInt8.toNat_ofNat']; omega
    rw [put_small hs]
    show get i acc (UInt8.ofNat u :: t) = _
    rw [get_ok (by rw [e]; omega) (by rw [e]; exact hs) (by rw [e]; omega), e]
    rfl
  | succ k ih =>
    intro i acc u t hi hu h0
    by_cases hs : u < 128
    · have e : (UInt8.ofNat u).toNat = u := by rw [UInt8.toNat_ofNat']; omega
      rw [put_small hs]
      show get i acc (UInt8.ofNat u :: t) = _
      rw [get_ok (by rw [e]; omega) (by rw [e]; exact hs) (by rw [e]; omega), e]
      rfl
    · have e : (UInt8.ofNat (u % 128 + 128)).toNat = u % 128 + 128 := by rw [UInt8.toNat_ofNat']; omega
      rw [put_big hs]
      show get i acc (UInt8.ofNat (u % 128 + 128) :: (put (u / 128) ++ t)) = _
      rw [get_on (by omega) (by rw [e]; omega), e, ih (i + 1) _ (u / 128) t (by omega) (by rw [Nat.pow_succ] at hu; omega) (fun _ => by omega)]
      have h1 : acc + (u % 128 + 128 - 128) * 128 ^ i + u / 128 * 128 ^ (i + 1) = acc + u * 128 ^ i := by
        have h3 : u % 128 + 128 - 128 = u % 128 := by omega
        rw [h3, Nat.pow_succ]
        generalize 128 ^ i = p
        have h4 : u / 128 * (p * 128) = 128 * (u / 128) * p := by rw [Nat.mul_comm p 128, ← Nat.mul_assoc, Nat.mul_comm (u / 128) 128]
        have h5 : u * p = u % 128 * p + 128 * (u / 128) * p := by rw [← Nat.add_mul, show u % 128 + 128 * (u / 128) = u by omega]
        rw [h4, h5, Nat.add_assoc]
      rw [h1, List.length_cons]
      congr 2
      omega
set_option maxRecDepth 100000 in
theorem get_put0 (u : Nat) (t : List UInt8) (hu : u < 18446744073709551616) : get 0 0 (put u ++ t) = (unzig u, (put u).length, 0) := by
  have := get_put 9 0 0 u t rfl (by omega) (fun h => by omega)
  simpa using this
end Var
namespace Runs
theorem lead_split (x : UInt8) (l : List UInt8) : l = List.replicate (lead x l) x ++ l.drop (lead x l) := by
  induction l with
  | nil => rfl
  | cons y t ih =>
    by_cases h : y = x
    · subst h
      simp only [lead, if_pos, List.replicate_succ, List.drop_succ_cons, List.cons_append]
      exact congrArg _ ih
    · simp [lead, h]
theorem lead_stop (x : UInt8) (l : List UInt8) : ∀ y r, l.drop (lead x l) = y :: r → y ≠ x := by
  induction l with
  | nil => intro y r h; simp at h
  | cons z t ih =>
    intro y r h
    by_cases hz : z = x
    · subst hz
      simp only [lead, if_pos, List.drop_succ_cons] at h
      exact ih y r h
    · simp only [lead, if_neg hz, List.drop_zero] at h
      injection h with h1 h2
      rw [← h1]
      exact hz
theorem xor_back (a x : UInt8) : a ^^^ (x ^^^ a) = x := by
  rw [UInt8.xor_comm x a, ← UInt8.xor_assoc, UInt8.xor_self, UInt8.zero_xor]
theorem xor_zero {a x : UInt8} (h : x ^^^ a = 0) : x = a := by
  have := xor_back a x
  rw [h, UInt8.xor_zero] at this
  exact this.symm
/-- What Encode writes Decode reads, if there is room. -/
theorem dec_enc (N : Nat) : ∀ (M : Nat) (first : Bool) (a : UInt8) (out l : List UInt8), l.length ≤ N → l.length ≤ 1000000 → out.length ≤ M → (first = false → ∀ y r, l = y :: r → y ≠ a) →
    dec M first a out (enc a l) = if out.length + l.length ≤ M then (out ++ l, 0) else ([], 4) := by
  induction N with
  | zero =>
    intro M first a out l h _ hout _
    have : l = [] := List.eq_nil_of_length_eq_zero (by omega)
    subst this
    rw [enc_nil, dec_nil, if_pos (by simpa using hout), List.append_nil]
  | succ N ih =>
    intro M first a out l h hm hout hfirst
    cases l with
    | nil => rw [enc_nil, dec_nil, if_pos (by simpa using hout), List.append_nil]
    | cons x t =>
      rw [enc_cons]
      have hle := lead_le x t
      simp only [List.length_cons] at h hm ⊢
      obtain ⟨n, hn⟩ : ∃ n, n = lead x t + 1 := ⟨_, rfl⟩
      rw [← hn]
      have hg := Var.get_put0 (2 * n) ((x ^^^ a) :: enc x (t.drop (lead x t))) (by omega)
      have hz : Var.unzig (2 * n) = (n : Int) := by unfold Var.unzig; rw [if_neg (by omega)]; omega
      rw [hz] at hg
      have hp := Var.put_ne (2 * n)
      have hne : Var.put (2 * n) ++ (x ^^^ a) :: enc x (t.drop (lead x t)) ≠ [] := by simp
      have hget : (Var.put (2 * n) ++ (x ^^^ a) :: enc x (t.drop (lead x t))).getD (Var.put (2 * n)).length 0 = x ^^^ a := by
        rw [List.getD_eq_getElem?_getD, List.getElem?_append_right (Nat.le_refl _)]; simp
      have hok : ¬ ((0 : Int) ≠ 0 ∨ (n : Int) < 1 ∨ (Var.put (2 * n) ++ (x ^^^ a) :: enc x (t.drop (lead x t))).length ≤ (Var.put (2 * n)).length ∨ ((Var.put (2 * n) ++ (x ^^^ a) :: enc x (t.drop (lead x t))).getD (Var.put (2 * n)).length 0 = 0 ∧ first = false)) := by
        rw [hget]
        rintro (q | q | q | ⟨q, q2⟩)
        · exact q rfl
        · omega
        · rw [List.length_append, List.length_cons] at q; omega
        · exact hfirst q2 x t rfl (xor_zero q)
      have hsplit : x :: t = List.replicate n x ++ t.drop (lead x t) := by
        rw [hn, List.replicate_succ, List.cons_append]
        exact congrArg _ (lead_split x t)
      by_cases hfull : (M : Int) - out.length < n
      · rw [dec_full hg hne hok hfull, if_neg (by omega)]
      · rw [dec_on hg hne hok hfull, hget, xor_back]
        have hd : (Var.put (2 * n) ++ (x ^^^ a) :: enc x (t.drop (lead x t))).drop ((Var.put (2 * n)).length + 1) = enc x (t.drop (lead x t)) := by
          rw [List.drop_append, List.drop_eq_nil_of_le (by omega)]
          simp
        have hi : ((n : Int)).toNat = n := by omega
        rw [hd, hi, ih M false x _ _ (by rw [List.length_drop]; omega) (by rw [List.length_drop]; omega) (by rw [List.length_append, List.length_replicate]; omega) (fun _ y r e => lead_stop x t y r e)]
        rw [List.length_append, List.length_replicate, List.length_drop, List.append_assoc, ← hsplit]
        by_cases hf : out.length + (t.length + 1) ≤ M
        · rw [if_pos (by omega), if_pos (by omega)]
        · rw [if_neg (by omega), if_neg (by omega)]
theorem dec_enc0 (M : Nat) (l : List UInt8) (hl : l.length ≤ 1000000) : dec M true 0 [] (enc 0 l) = if l.length ≤ M then (l, 0) else ([], 4) := by
  have := dec_enc l.length M true 0 [] l (Nat.le_refl _) hl (by simp) (fun h => by cases h)
  simpa using this
/-- Two lists of one text of runs are one. -/
theorem enc_inj {l l' : List UInt8} (hl : l.length ≤ 1000000) (hl' : l'.length ≤ 1000000) (h : enc 0 l = enc 0 l') : l = l' := by
  have h1 := dec_enc0 1000000 l hl
  have h2 := dec_enc0 1000000 l' hl'
  rw [if_pos hl] at h1
  rw [if_pos hl'] at h2
  rw [h, h2] at h1
  injection h1 with h1 _
  exact h1.symm
end Runs
end Go.Proofs.Ytcjcmjkpfijhdaa
