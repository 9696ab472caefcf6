/-
  Runs, plain.
-/
import Derived.Test.YtcjcmjkpfijhdaaVar
namespace Go.Proofs.Ytcjcmjkpfijhdaa
open Go.RowKit
namespace Runs
def lead (x : UInt8) : List UInt8 → Nat
  | [] => 0
  | y :: t => if y = x then lead x t + 1 else 0
theorem lead_le (x : UInt8) (l : List UInt8) : lead x l ≤ l.length := by
  induction l with
  | nil => simp [lead]
  | cons y t ih => simp only [lead]; split <;> simp; omega
def enc (last : UInt8) : List UInt8 → List UInt8
  | [] => []
  | x :: t => Var.put (2 * (lead x t + 1)) ++ (x ^^^ last) :: enc x (t.drop (lead x t))
termination_by l => l.length
decreasing_by simp; omega
theorem enc_nil (last : UInt8) : enc last [] = [] := by rw [enc]
theorem enc_cons (last x : UInt8) (t : List UInt8) : enc last (x :: t) = Var.put (2 * (lead x t + 1)) ++ (x ^^^ last) :: enc x (t.drop (lead x t)) := by rw [enc]
theorem lead_nil (x : UInt8) : lead x [] = 0 := rfl
theorem lead_eq {x : UInt8} {l : List UInt8} {k : Nat} (hk : k < l.length) (h : l[k] = x) : lead x (l.drop k) = lead x (l.drop (k + 1)) + 1 := by
  rw [List.drop_eq_getElem_cons hk, lead, if_pos h]
theorem lead_ne {x : UInt8} {l : List UInt8} {k : Nat} (hk : k < l.length) (h : ¬ l[k] = x) : lead x (l.drop k) = 0 := by
  rw [List.drop_eq_getElem_cons hk, lead, if_neg h]
theorem lead_end {x : UInt8} {l : List UInt8} {k : Nat} (hk : l.length ≤ k) : lead x (l.drop k) = 0 := by
  rw [List.drop_eq_nil_of_le hk]; rfl
/-- One run: from a place to where the next one begins. -/
theorem enc_step {l : List UInt8} {a k : Nat} (ha : a < l.length) (hk : lead l[a] (l.drop k) + (k - a) = lead l[a] (l.drop a)) (h0 : lead l[a] (l.drop k) = 0) (hak : a ≤ k) (last : UInt8) :
    enc last (l.drop a) = Var.put (Var.zig ((k : Int) - a)) ++ (l[a] ^^^ last) :: enc l[a] (l.drop k) := by
  have h1 := lead_eq (x := l[a]) ha rfl
  have hz : Var.zig ((k : Int) - a) = 2 * (lead l[a] (l.drop (a + 1)) + 1) := by unfold Var.zig; rw [if_neg (by omega)]; omega
  have hd : l.drop k = (l.drop (a + 1)).drop (lead l[a] (l.drop (a + 1))) := by rw [List.drop_drop]; congr 1; omega
  rw [hz, hd, List.drop_eq_getElem_cons ha, enc_cons]
theorem enc_len (n : Nat) : ∀ (last : UInt8) (l : List UInt8), l.length ≤ n → l.length ≤ 1000000 → (enc last l).length ≤ 11 * l.length := by
  induction n with
  | zero => intro last l h _; have : l = [] := List.eq_nil_of_length_eq_zero (by omega); subst this; rw [enc_nil]; simp
  | succ n ih =>
    intro last l h hm
    cases l with
    | nil => rw [enc_nil]; simp
    | cons x t =>
      rw [enc_cons]
      have h1 := lead_le x t
      simp only [List.length_cons] at h hm
      have h2 := Var.put_len10 (2 * (lead x t + 1)) (by omega)
      have h3 := ih x (t.drop (lead x t)) (by rw [List.length_drop]; omega) (by rw [List.length_drop]; omega)
      rw [List.length_drop] at h3
      simp only [List.length_append, List.length_cons]
      omega
end Runs
end Go.Proofs.Ytcjcmjkpfijhdaa
