/-
  A packet's bytes of which one was changed are no packet's.
-/
import Derived.Test.YtcjcmjkpfijhdaaPktPlain
namespace Go.Proofs.Ytcjcmjkpfijhdaa
open Go.RowKit
set_option linter.unusedVariables false
theorem Crc.sum_set (b : List UInt8) (k : Nat) (hk : k < b.length) (d : UInt8) (hd : d ≠ 0) : Crc.sum b ≠ Crc.sum (b.set k (b[k] ^^^ d)) := by
  intro h
  have h1 := (Crc.patch_snoc b k [] d (by simpa using hk)).2
  rw [Crc.patch_nil] at h1
  simp only [List.nil_append, List.length_nil, Nat.add_zero] at h1
  rw [← h1] at h
  exact hd (Crc.sum_patch b k [d] (by simp; omega) (by simp) h d (by simp))
theorem be32_inj {a b : Int} (ha : 0 ≤ a) (ha' : a < 4294967296) (hb : 0 ≤ b) (hb' : b < 4294967296) (h : be32 a = be32 b) : a = b := by
  have h1 := Pkt.get4_be32 ha ha' []
  have h2 := Pkt.get4_be32 hb hb' []
  rw [h] at h1
  omega
theorem Pkt.spoilt {b : List UInt8} {p : Pkt} (h : Pkt.Is b p) (i : Nat) (hi : i < b.length) (d : UInt8) (hd : d ≠ 0) : ∀ q, ¬ Pkt.Is (b.set i (b[i] ^^^ d)) q := by
  intro q hq
  obtain ⟨-, -, rfl⟩ := h
  obtain ⟨-, -, e⟩ := hq
  have hl := congrArg List.length e
  rw [List.length_set, Pkt.sealB_len, Pkt.sealB_len] at hl
  have s1 := (Crc.sum p.body).isLt
  have s2 := (Crc.sum q.body).isLt
  by_cases hm : i < p.body.length
  · have hb : (Pkt.sealB p.body)[i] = p.body[i] := by simp only [Pkt.sealB]; rw [List.getElem_append_left hm]
    rw [hb] at e
    simp only [Pkt.sealB] at e
    rw [List.set_append_left _ _ hm] at e
    have e2 := List.append_inj e (by rw [List.length_set]; omega)
    have e3 := be32_inj (by omega) (by omega) (by omega) (by omega) e2.2
    refine Crc.sum_set p.body i hm d hd ?_
    rw [e2.1]
    exact BitVec.eq_of_toNat_eq (by omega)
  · have hi2 : i < p.body.length + 4 := by rw [Pkt.sealB_len] at hi; exact hi
    have hb : (Pkt.sealB p.body)[i] = (be32 ((Crc.sum p.body).toNat : Int))[i - p.body.length]'(by rw [be32_length]; omega) := by simp only [Pkt.sealB]; rw [List.getElem_append_right (by omega)]
    rw [hb] at e
    simp only [Pkt.sealB] at e
    rw [List.set_append_right _ _ (by omega)] at e
    have e2 := List.append_inj e (by omega)
    have e3 := e2.2
    rw [← e2.1] at e3
    have e4 := congrArg (fun l => l[i - p.body.length]?) e3
    have hlt : i - p.body.length < (be32 ((Crc.sum p.body).toNat : Int)).length := by rw [be32_length]; omega
    simp only [List.getElem?_set_self', List.getElem?_eq_getElem hlt] at e4
    generalize (be32 ((Crc.sum p.body).toNat : Int))[i - p.body.length] = z at e4
    have e5 : z ^^^ d = z := by simpa using e4
    have e6 : z ^^^ (z ^^^ d) = d := by rw [← UInt8.xor_assoc, UInt8.xor_self, UInt8.zero_xor]
    rw [e5, UInt8.xor_self] at e6
    exact hd e6.symm
end Go.Proofs.Ytcjcmjkpfijhdaa
