/-
  Runs read back, plain.
-/
import Derived.Test.YtcjcmjkpfijhdaaRunsPlain
import Derived.Test.YtcjcmjkpfijhdaaVarGet
namespace Go.Proofs.Ytcjcmjkpfijhdaa
open Go.RowKit
namespace Var
theorem get_facts (l : List UInt8) : ∀ (i u : Nat) (v : Int) (k : Nat) (e : Int), i ≤ 9 → u < 128 ^ i → get i u l = (v, k, e) →
    -9223372036854775808 ≤ v ∧ v ≤ 9223372036854775807 ∧ k ≤ i + l.length ∧ (e = 0 ∨ e = 1 ∨ e = 2) ∧ (e = 0 → i < k) := by
  induction l with
  | nil =>
    intro i u v k e hi hu h
    rw [get_nil] at h
    injection h with h1 h2; injection h2 with h2 h3
    subst h1 h2 h3
    simp
  | cons c t ih =>
    intro i u v k e hi hu h
    have hc := c.toNat_lt
    by_cases h9 : i = 9 ∧ 1 < c.toNat
    · rw [get_form9 h9.1 h9.2] at h
      injection h with h1 h2; injection h2 with h2 h3
      subst h1 h2 h3
      simp
    · by_cases hb : 128 ≤ c.toNat
      · rw [get_on h9 hb] at h
        have hr := room (x := c.toNat - 128) hu (by omega) hi (by omega)
        have := ih (i + 1) _ v k e (by omega) hr.2.2 h
        simp only [List.length_cons]
        refine ⟨this.1, this.2.1, by omega, this.2.2.2.1, fun h => by have := this.2.2.2.2 h; omega⟩
      · by_cases h0 : 0 < i ∧ c.toNat = 0
        · rw [get_form0 h0.2 h0.1] at h
          injection h with h1 h2; injection h2 with h2 h3
          subst h1 h2 h3
          simp
        · rw [get_ok h9 (by omega) h0] at h
          injection h with h1 h2; injection h2 with h2 h3
          subst h1 h2 h3
          have hr := room (x := c.toNat) hu (by omega) hi (by omega)
          refine ⟨unzig_lo _ hr.2.1, unzig_hi _ hr.2.1, by simp only [List.length_cons]; omega, .inl rfl, fun _ => by omega⟩
end Var
namespace Runs
/-- Is the next run one that may not be? -/
def bad (first : Bool) (l : List UInt8) : Prop := (Var.get 0 0 l).2.2 ≠ 0 ∨ (Var.get 0 0 l).1 < 1 ∨ l.length ≤ (Var.get 0 0 l).2.1 ∨ (l.getD (Var.get 0 0 l).2.1 0 = 0 ∧ first = false)
instance (first : Bool) (l : List UInt8) : Decidable (bad first l) := by unfold bad; infer_instance
def dec (most : Nat) (first : Bool) (a : UInt8) (out l : List UInt8) : List UInt8 × Int :=
  if h : l = [] then (out, 0)
  else if bad first l then ([], 1)
  else if (most : Int) - out.length < (Var.get 0 0 l).1 then ([], 4)
  else dec most false (a ^^^ l.getD (Var.get 0 0 l).2.1 0) (out ++ List.replicate (Var.get 0 0 l).1.toNat (a ^^^ l.getD (Var.get 0 0 l).2.1 0)) (l.drop ((Var.get 0 0 l).2.1 + 1))
termination_by l.length
decreasing_by
  have : l.length ≠ 0 := fun h' => h (List.eq_nil_of_length_eq_zero h')
  simp only [List.length_drop]; omega
section
variable {most : Nat} {first : Bool} {a : UInt8} {out l : List UInt8} {v : Int} {k : Nat} {e : Int}
theorem dec_nil : dec most first a out [] = (out, 0) := by rw [dec]; simp
theorem dec_bad (hg : Var.get 0 0 l = (v, k, e)) (hl : l ≠ []) (h : e ≠ 0 ∨ v < 1 ∨ l.length ≤ k ∨ (l.getD k 0 = 0 ∧ first = false)) : dec most first a out l = ([], 1) := by
  rw [dec, dif_neg hl, if_pos (by unfold bad; rw [hg]; exact h)]
theorem dec_full (hg : Var.get 0 0 l = (v, k, e)) (hl : l ≠ []) (h : ¬ (e ≠ 0 ∨ v < 1 ∨ l.length ≤ k ∨ (l.getD k 0 = 0 ∧ first = false))) (h2 : (most : Int) - out.length < v) : dec most first a out l = ([], 4) := by
  rw [dec, dif_neg hl, if_neg (by unfold bad; rw [hg]; exact h), if_pos (by rw [hg]; exact h2)]
theorem dec_on (hg : Var.get 0 0 l = (v, k, e)) (hl : l ≠ []) (h : ¬ (e ≠ 0 ∨ v < 1 ∨ l.length ≤ k ∨ (l.getD k 0 = 0 ∧ first = false))) (h2 : ¬ (most : Int) - out.length < v) :
    dec most first a out l = dec most false (a ^^^ l.getD k 0) (out ++ List.replicate v.toNat (a ^^^ l.getD k 0)) (l.drop (k + 1)) := by
  rw [dec, dif_neg hl, if_neg (by unfold bad; rw [hg]; exact h), if_neg (by rw [hg]; exact h2)]
  simp only [hg]
end
end Runs
end Go.Proofs.Ytcjcmjkpfijhdaa
