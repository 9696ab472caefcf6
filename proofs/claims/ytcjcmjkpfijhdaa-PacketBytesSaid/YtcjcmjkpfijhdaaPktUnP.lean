/-
  Unpacket, plain: what is read of a packet's bytes, number by number.
-/
import Derived.Test.YtcjcmjkpfijhdaaPktPlain
namespace Go.Proofs.Ytcjcmjkpfijhdaa
open Go.RowKit
set_option linter.unusedVariables false
namespace Pkt
def fields (p : Pkt) : List Int := if p.kind = 1 then [p.id, p.first, p.ack, p.frame] else [p.id]
def last (p : Pkt) : List UInt8 := if p.kind = 1 then be32 p.sum ++ (Var.put (Var.zig (p.press.length : Int)) ++ Runs.enc 0 p.press) else []
def restN (p : Pkt) (i : Nat) : List UInt8 := (p.fields.drop i).flatMap (fun x => Var.put (Var.zig x)) ++ p.last
theorem rest_zero {b : List UInt8} {p : Pkt} (h : Is b p) : (b.take (b.length - 4)).drop 3 = restN p 0 := by
  obtain ⟨-, k, s, d, t, hb, -, -, -, e⟩ := is_head h
  rw [e]
  unfold restN fields last tail
  by_cases k1 : p.kind = 1
  · simp [k1]
  · simp [k1]
theorem rest_succ (p : Pkt) (i : Nat) (hi : i < p.fields.length) : restN p i = Var.put (Var.zig p.fields[i]) ++ restN p (i + 1) := by
  unfold restN
  rw [List.drop_eq_getElem_cons hi, List.flatMap_cons, List.append_assoc]
theorem fields_range {p : Pkt} (h : p.may = true) : ∀ v ∈ p.fields, 0 ≤ v ∧ v ≤ 1099511627776 := by
  have f := may_iff.1 h
  unfold fields
  intro v hv
  by_cases k1 : p.kind = 1
  · rw [if_pos k1] at hv
    have fi := f.id
    rcases f.kind with ⟨-, a1, a2, a3, -⟩ | ⟨k, -⟩
    · simp only [List.mem_cons, List.not_mem_nil, or_false] at hv
      rcases hv with rfl | rfl | rfl | rfl <;> omega
    · omega
  · rw [if_neg k1] at hv
    simp only [List.mem_cons, List.not_mem_nil, or_false] at hv
    subst hv
    exact f.id
/-- So many numbers were read: of a packet's bytes they are the packet's. -/
def Went (b x : List UInt8) (i at' : Nat) (vs : List Int) : Prop := ∀ p, Is b p → x.drop at' = restN p i ∧ p.fields.take i = vs
theorem went_zero (b : List UInt8) : Went b ((b.take (b.length - 4)).drop 3) 0 0 [] := fun p hp => ⟨by rw [List.drop_zero]; exact rest_zero hp, rfl⟩
theorem Went.bad {b x : List UInt8} {i at' k : Nat} {vs : List Int} {v e : Int} (h : Went b x i at' vs) (hg : Var.get 0 0 (x.drop at') = (v, k, e)) (hb : e ≠ 0 ∨ v < 0 ∨ 1099511627776 < v) (hN : ∀ p, Is b p → i < p.fields.length) : ∀ p, ¬ Is b p := by
  intro p hp
  have h1 := (h p hp).1
  rw [rest_succ p i (hN p hp)] at h1
  have hr := fields_range hp.1 _ (List.getElem_mem (hN p hp))
  rw [h1, Var.get_put0 _ _ (Var.zig_lt _ (by omega) (by omega)), Var.unzig_zig] at hg
  simp only [Prod.mk.injEq] at hg
  omega
theorem Went.next {b x : List UInt8} {i at' k : Nat} {vs : List Int} {v : Int} (h : Went b x i at' vs) (hg : Var.get 0 0 (x.drop at') = (v, k, 0)) (hN : ∀ p, Is b p → i < p.fields.length) : Went b x (i + 1) (at' + k) (vs ++ [v]) := by
  intro p hp
  obtain ⟨h1, h2⟩ := h p hp
  rw [rest_succ p i (hN p hp)] at h1
  have hr := fields_range hp.1 _ (List.getElem_mem (hN p hp))
  rw [h1, Var.get_put0 _ _ (Var.zig_lt _ (by omega) (by omega)), Var.unzig_zig] at hg
  simp only [Prod.mk.injEq] at hg
  obtain ⟨rfl, rfl, -⟩ := hg
  refine ⟨?_, ?_⟩
  · rw [← List.drop_drop, h1, List.drop_left]
  · rw [List.take_succ_eq_append_getElem (hN p hp), h2]
/-- Kind 1, all four numbers read. -/
theorem Went.four {b x : List UInt8} {at' : Nat} {vs : List Int} (h : Went b x 4 at' vs) {p : Pkt} (hp : Is b p) (hk : p.kind = 1) : x.drop at' = be32 p.sum ++ (Var.put (Var.zig (p.press.length : Int)) ++ Runs.enc 0 p.press) ∧ vs = [p.id, p.first, p.ack, p.frame] := by
  obtain ⟨h1, h2⟩ := h p hp
  unfold restN last fields at h1
  unfold fields at h2
  rw [if_pos hk] at h1 h2
  rw [if_pos hk] at h1
  exact ⟨by simpa using h1, by simpa using h2.symm⟩
theorem Went.one {b x : List UInt8} {at' : Nat} {v : Int} (h : Went b x 1 at' [v]) {p : Pkt} (hp : Is b p) : p.id = v := by
  obtain ⟨h1, h2⟩ := h p hp
  unfold fields at h2
  split at h2 <;> simpa using h2
end Pkt
end Go.Proofs.Ytcjcmjkpfijhdaa
