/-
  Runs, plain: what is read is what was written; its size.
-/
import Derived.Test.YtcjcmjkpfijhdaaRunsBack
namespace Go.Proofs.Ytcjcmjkpfijhdaa
open Go.RowKit
namespace Var
/-- What Get reads Put writes. -/
theorem get_back (l : List UInt8) : ∀ (i u : Nat) (v : Int) (k : Nat), i ≤ 9 → u < 128 ^ i → get i u l = (v, k, 0) →
    ∃ x, v = unzig (u + x * 128 ^ i) ∧ i < k ∧ k ≤ i + l.length ∧ l.take (k - i) = put x ∧ (0 < i → 0 < x) := by
  induction l with
  | nil => intro i u v k hi hu h; rw [get_nil] at h; simp at h
  | cons c t ih =>
    intro i u v k hi hu h
    have hc := c.toNat_lt
    by_cases h9 : i = 9 ∧ 1 < c.toNat
    · rw [get_form9 h9.1 h9.2] at h; simp at h
    · by_cases hb : 128 ≤ c.toNat
      · rw [get_on h9 hb] at h
        have hr := room (x := c.toNat - 128) hu (by omega) hi (by omega)
        obtain ⟨x, h1, h2, h3, h4, h5⟩ := ih (i + 1) _ v k (by omega) hr.2.2 h
        have hx := h5 (by omega)
        refine ⟨c.toNat - 128 + 128 * x, ?_, by omega, by simp only [List.length_cons]; omega, ?_, fun _ => by omega⟩
        · rw [h1]
          congr 1
          rw [Nat.pow_succ, Nat.add_mul, Nat.add_assoc]
          congr 2
          rw [Nat.mul_comm (128 ^ i) 128, ← Nat.mul_assoc, Nat.mul_comm x 128]
        · rw [show k - i = (k - (i + 1)) + 1 by omega, List.take_succ_cons, h4, put_big (u := c.toNat - 128 + 128 * x) (by omega)]
          congr 1
          · rw [← UInt8.toNat_inj, UInt8.toNat_ofNat']; omega
          · congr 1; omega
      · by_cases h0 : 0 < i ∧ c.toNat = 0
        · rw [get_form0 h0.2 h0.1] at h; simp at h
        · rw [get_ok h9 (by omega) h0] at h
          injection h with h1 h2; injection h2 with h2 h3
          refine ⟨c.toNat, h1.symm, by omega, by simp only [List.length_cons]; omega, ?_, fun _ => by omega⟩
          rw [show k - i = 0 + 1 by omega, List.take_succ_cons, List.take_zero, put_small (by omega)]
          congr 1
          rw [← UInt8.toNat_inj, UInt8.toNat_ofNat']; omega
theorem get_back0 {l : List UInt8} {v : Int} {k : Nat} (h : get 0 0 l = (v, k, 0)) : l.take k = put (zig v) ∧ k ≤ l.length := by
  obtain ⟨x, h1, h2, h3, h4, h5⟩ := get_back l 0 0 v k (by omega) (by simp) h
  rw [h1, zig_unzig]
  simp at h3 h4 ⊢
  exact ⟨h4, h3⟩
end Var
namespace Runs
theorem lead_rep (x : UInt8) (n : Nat) (l : List UInt8) (h : ∀ y r, l = y :: r → y ≠ x) : lead x (List.replicate n x ++ l) = n := by
  induction n with
  | zero =>
    cases l with
    | nil => rfl
    | cons y r => simp [lead, h y r rfl]
  | succ n ih => rw [List.replicate_succ, List.cons_append, lead, if_pos rfl, ih]
/-- What is read is what is written of it. -/
theorem dec_back (N : Nat) : ∀ (M : Nat) (first : Bool) (a : UInt8) (out l x : List UInt8), l.length ≤ N → dec M first a out l = (x, 0) → out.length ≤ M →
    ∃ y, x = out ++ y ∧ enc a y = l ∧ (first = false → ∀ z r, y = z :: r → z ≠ a) ∧ x.length ≤ M := by
  induction N with
  | zero =>
    intro M first a out l x hl h ho
    have : l = [] := List.eq_nil_of_length_eq_zero (by omega)
    subst this
    rw [dec_nil] at h
    injection h with h _
    exact ⟨[], by simp [h], enc_nil _, (fun _ _ _ h => by cases h), by rw [← h]; exact ho⟩
  | succ N ih =>
    intro M first a out l x hl h ho
    by_cases hne : l = []
    · subst hne
      rw [dec_nil] at h
      injection h with h _
      exact ⟨[], by simp [h], enc_nil _, (fun _ _ _ h => by cases h), by rw [← h]; exact ho⟩
    · obtain ⟨v, k, e, hg⟩ : ∃ v k e, Var.get 0 0 l = (v, k, e) := ⟨_, _, _, rfl⟩
      by_cases h3 : e ≠ 0 ∨ v < 1 ∨ l.length ≤ k ∨ (l.getD k 0 = 0 ∧ first = false)
      · rw [dec_bad hg hne h3] at h; simp at h
      · by_cases h4 : (M : Int) - out.length < v
        · rw [dec_full hg hne h3 h4] at h; simp at h
        · rw [dec_on hg hne h3 h4] at h
          have he : e = 0 := by
            rcases Decidable.em (e = 0) with q | q
            · exact q
            · exact absurd (.inl q) h3
          subst he
          obtain ⟨n, rfl⟩ : ∃ n : Nat, v = ((n + 1 : Nat) : Int) := ⟨v.toNat - 1, by omega⟩
          have hk : k < l.length := by omega
          have hpos : l.length ≠ 0 := by omega
          obtain ⟨c, hc⟩ : ∃ c, c = l.getD k 0 := ⟨_, rfl⟩
          rw [← hc] at h h3
          rw [Int.toNat_natCast] at h
          obtain ⟨y, y1, y2, y3, y4⟩ := ih M false (a ^^^ c) _ _ x (by rw [List.length_drop]; omega) h (by rw [List.length_append, List.length_replicate]; omega)
          refine ⟨List.replicate (n + 1) (a ^^^ c) ++ y, by rw [y1, List.append_assoc], ?_, ?_, y4⟩
          · rw [List.replicate_succ, List.cons_append, enc_cons, lead_rep _ _ _ (y3 rfl), List.drop_append, List.drop_eq_nil_of_le (by simp)]
            simp only [List.length_replicate, Nat.sub_self, List.drop_zero, List.nil_append, y2]
            have hp := (Var.get_back0 hg).1
            have hz : Var.zig ((n + 1 : Nat) : Int) = 2 * (n + 1) := by unfold Var.zig; rw [if_neg (by omega)]; omega
            rw [hz] at hp
            rw [← hp]
            have hx : a ^^^ c ^^^ a = c := by rw [UInt8.xor_comm a c, UInt8.xor_assoc, UInt8.xor_self, UInt8.xor_zero]
            rw [hx]
            have hd : l.drop k = c :: l.drop (k + 1) := by
              rw [List.drop_eq_getElem_cons hk, hc, List.getD_eq_getElem?_getD, List.getElem?_eq_getElem hk]; rfl
            rw [← hd, List.take_append_drop]
          · intro hf z r hz
            rw [List.replicate_succ, List.cons_append] at hz
            injection hz with hz _
            subst hz
            intro hza
            have hc0 : c = 0 := by
              have := xor_back a c
              rw [UInt8.xor_comm c a, hza, UInt8.xor_self] at this
              exact this.symm
            exact h3 (.inr (.inr (.inr ⟨hc0, hf⟩)))
theorem dec_back0 {M : Nat} {l x : List UInt8} {e : Int} (h : dec M true 0 [] l = (x, e)) (he : e = 0) : enc 0 x = l ∧ x.length ≤ M := by
  subst he
  obtain ⟨y, y1, y2, _, y4⟩ := dec_back l.length M true 0 [] l x (Nat.le_refl _) h (by simp)
  rw [List.nil_append] at y1
  subst y1
  exact ⟨y2, y4⟩
theorem enc_rep (n : Nat) (x : UInt8) (a : UInt8) : enc a (List.replicate (n + 1) x) = Var.put (2 * (n + 1)) ++ [x ^^^ a] := by
  have h := lead_rep x n [] (fun y r h => by cases h)
  rw [List.append_nil] at h
  rw [List.replicate_succ, enc_cons, h, List.drop_eq_nil_of_le (by simp), enc_nil]
theorem dec_full_nil {M : Nat} {first : Bool} {a : UInt8} {out l : List UInt8} {x : List UInt8} {e : Int} (N : Nat) (hN : l.length ≤ N) (h : dec M first a out l = (x, e)) (he : e ≠ 0) : x = [] := by
  induction N generalizing first a out l with
  | zero =>
    have : l = [] := List.eq_nil_of_length_eq_zero (by omega)
    subst this
    rw [dec_nil] at h
    injection h with _ h
    exact absurd h.symm he
  | succ N ih =>
    by_cases hne : l = []
    · subst hne
      rw [dec_nil] at h
      injection h with _ h
      exact absurd h.symm he
    · obtain ⟨v, k, e2, hg⟩ : ∃ v k e, Var.get 0 0 l = (v, k, e) := ⟨_, _, _, rfl⟩
      have hpos : l.length ≠ 0 := fun h => hne (List.eq_nil_of_length_eq_zero h)
      by_cases h3 : e2 ≠ 0 ∨ v < 1 ∨ l.length ≤ k ∨ (l.getD k 0 = 0 ∧ first = false)
      · rw [dec_bad hg hne h3] at h
        injection h with h _
        exact h.symm
      · by_cases h4 : (M : Int) - out.length < v
        · rw [dec_full hg hne h3 h4] at h
          injection h with h _
          exact h.symm
        · rw [dec_on hg hne h3 h4] at h
          exact ih (by rw [List.length_drop]; omega) h
theorem enc_557 : enc 0 [5, 5, 7] = [4, 5, 2, 2] := by
  rw [enc_cons, show lead 5 [5, 7] = 1 by decide, show ([5, 7] : List UInt8).drop 1 = [7] from rfl, enc_cons, show lead 7 [] = 0 from rfl, List.drop_zero, enc_nil, Var.put_small (by omega), Var.put_small (by omega)]
  decide
theorem dec_b3 : dec 3 true 0 [] [4, 5, 2, 2] = ([5, 5, 7], 0) := by
  have := dec_enc0 3 [5, 5, 7] (by decide)
  rw [enc_557] at this
  rw [this, if_pos (by decide)]
theorem dec_b2 : dec 2 true 0 [] [4, 5, 2, 2] = ([], 4) := by
  have := dec_enc0 2 [5, 5, 7] (by decide)
  rw [enc_557] at this
  rw [this, if_neg (by decide)]
theorem dec_b9 : dec 9 true 0 [] [2] = ([], 1) := dec_bad (v := 1) (k := 1) (e := 0) (by decide) (by simp) (by decide)
end Runs
end Go.Proofs.Ytcjcmjkpfijhdaa
