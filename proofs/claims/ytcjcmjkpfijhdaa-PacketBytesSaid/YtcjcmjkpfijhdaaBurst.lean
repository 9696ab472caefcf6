/-
  Plain sums: bytes behind one another that were changed (at most four) change the sum.
-/
import Derived.Test.YtcjcmjkpfijhdaaCrc
namespace Go.Proofs.Ytcjcmjkpfijhdaa
open Go.RowKit
namespace Crc
theorem bits8_inj2 {x y : BitVec 32} (h : bits8 x = bits8 y) : x = y := by
  have e : bits8 (x ^^^ y) = 0#32 := by rw [bits8_xor, h, BitVec.xor_self]
  have := bits8_inj e
  exact BitVec.xor_eq_zero_iff.1 this
theorem run_inj (t : List UInt8) {a b : BitVec 32} (h : run a t = run b t) : a = b := by
  induction t generalizing a b with
  | nil => exact h
  | cons c t ih =>
    have := ih (a := byte a (wide c)) (b := byte b (wide c)) h
    rw [byte_eq, byte_eq] at this
    have := bits8_inj2 this
    have h2 := congrArg (· ^^^ wide c) this
    simpa [BitVec.xor_assoc] using h2
/-- Two texts' exclusive or, byte by byte. -/
def xor2 : List UInt8 → List UInt8 → List UInt8
  | a :: r, b :: s => (a ^^^ b) :: xor2 r s
  | _, _ => []
theorem xor2_length (a b : List UInt8) : (xor2 a b).length = min a.length b.length := by
  induction a generalizing b with
  | nil => simp [xor2]
  | cons x a ih =>
    cases b with
    | nil => simp [xor2]
    | cons y b => simp only [xor2, List.length_cons, ih]; omega
theorem run_xor2 (u v : BitVec 32) (m x : List UInt8) (h : m.length = x.length) : run u m ^^^ run v (xor2 m x) = run (u ^^^ v) x := by
  induction m generalizing u v x with
  | nil =>
    cases x with
    | nil => simp [run, xor2]
    | cons _ _ => simp at h
  | cons p m ih =>
    cases x with
    | nil => simp at h
    | cons q x =>
      have e : byte u (wide p) ^^^ byte v (wide (p ^^^ q)) = byte (u ^^^ v) (wide q) := by
        rw [byte_xor]
        congr 1
        apply BitVec.eq_of_toNat_eq
        simp only [wide_toNat, BitVec.toNat_xor, UInt8.toNat_xor]
        rw [← Nat.xor_assoc, Nat.xor_self, Nat.zero_xor]
      simp only [xor2, run, List.foldl_cons] at *
      rw [← e]
      exact ih _ _ _ (by simpa using h)
/-- The number of the bytes, the lowest first. -/
def num : List UInt8 → Nat
  | [] => 0
  | c :: x => c.toNat + 256 * num x
theorem num_lt (x : List UInt8) : num x < 256 ^ x.length := by
  induction x with
  | nil => simp [num]
  | cons c x ih =>
    have := c.toNat_lt
    simp only [num, List.length_cons, Nat.pow_succ]
    omega
theorem num_zero {x : List UInt8} (h : num x = 0) : ∀ c ∈ x, c = 0 := by
  induction x with
  | nil => simp
  | cons c x ih =>
    simp only [num] at h
    intro d hd
    rcases List.mem_cons.1 hd with rfl | hd
    · apply UInt8.toNat_inj.1; simp; omega
    · exact ih (by omega) d hd
theorem bit_even (z : BitVec 32) (k : Nat) (h : z.toNat * 2 ^ (k + 1) < 2 ^ 32) : bit (z <<< (k + 1)) = z <<< k := by
  have h0 : (z <<< (k + 1)).getLsbD 0 = false := by simp
  have hp : 2 ^ (k + 1) = 2 * 2 ^ k := by rw [Nat.pow_succ]; omega
  rw [bit, h0]
  simp only [Bool.false_eq_true, if_false, BitVec.xor_zero]
  apply BitVec.eq_of_toNat_eq
  rw [BitVec.toNat_ushiftRight, BitVec.toNat_shiftLeft, BitVec.toNat_shiftLeft, Nat.shiftLeft_eq, Nat.shiftLeft_eq, Nat.shiftRight_eq_div_pow, Nat.mod_eq_of_lt h]
  have e : z.toNat * 2 ^ (k + 1) = z.toNat * 2 ^ k * 2 := by rw [hp, Nat.mul_comm 2, Nat.mul_assoc]
  rw [e] at h ⊢
  rw [Nat.mod_eq_of_lt (by omega)]
  omega
theorem bits8_shl (z : BitVec 32) (h : z.toNat < 2 ^ 24) : bits8 (z <<< 8) = z := by
  unfold bits8
  rw [bit_even z 7 (by omega), bit_even z 6 (by omega), bit_even z 5 (by omega), bit_even z 4 (by omega), bit_even z 3 (by omega), bit_even z 2 (by omega), bit_even z 1 (by omega), bit_even z 0 (by omega)]
  simp
def bitsN : Nat → BitVec 32 → BitVec 32
  | 0, z => z
  | n + 1, z => bitsN n (bits8 z)
theorem bitsN_inj (n : Nat) {z : BitVec 32} (h : bitsN n z = 0#32) : z = 0#32 := by
  induction n generalizing z with
  | zero => exact h
  | succ n ih => exact bits8_inj (ih h)
theorem num_cons (c : UInt8) (x : List UInt8) : BitVec.ofNat 32 (num (c :: x)) = wide c ^^^ (BitVec.ofNat 32 (num x) <<< 8) := by
  apply BitVec.eq_of_getLsbD_eq
  intro i hi
  have hc := c.toNat_lt
  have e : num (c :: x) = 2 ^ 8 * num x + c.toNat := by simp only [num]; omega
  rw [BitVec.getLsbD_ofNat, e, Nat.testBit_two_pow_mul_add _ (by omega), BitVec.getLsbD_xor, BitVec.getLsbD_shiftLeft, BitVec.getLsbD_ofNat, wide, BitVec.getLsbD_ofNat]
  by_cases h8 : i < 8
  · simp [hi, h8]
  · have : c.toNat.testBit i = false := Nat.testBit_lt_two_pow (Nat.lt_of_lt_of_le hc (by show 2 ^ 8 ≤ 2 ^ i; exact Nat.pow_le_pow_right (by omega) (by omega)))
    simp [hi, h8, this]
    omega
theorem run_num (x : List UInt8) (hx : x.length ≤ 4) (s : BitVec 32) : run s x = bitsN x.length (s ^^^ BitVec.ofNat 32 (num x)) := by
  induction x generalizing s with
  | nil => simp [run, bitsN, num]
  | cons c x ih =>
    have hl : x.length ≤ 3 := by simpa using hx
    have hlt : num x < 2 ^ 24 := Nat.lt_of_lt_of_le (num_lt x) (by
      have : 256 ^ x.length ≤ 256 ^ 3 := Nat.pow_le_pow_right (by omega) hl
      simpa using this)
    have h := ih (by omega) (byte s (wide c))
    have e : byte s (wide c) ^^^ BitVec.ofNat 32 (num x) = bits8 (s ^^^ BitVec.ofNat 32 (num (c :: x))) := by
      rw [num_cons c x, ← BitVec.xor_assoc, bits8_xor, bits8_shl _ (by rw [BitVec.toNat_ofNat]; omega), byte_eq]
    rw [e] at h
    exact h
theorem burst (x : List UInt8) (hx : x.length ≤ 4) (h : run 0#32 x = 0#32) : ∀ c ∈ x, c = 0 := by
  rw [run_num x hx, BitVec.zero_xor] at h
  have h1 := congrArg BitVec.toNat (bitsN_inj _ h)
  have hlt : num x < 2 ^ 32 := Nat.lt_of_lt_of_le (num_lt x) (by
    have : 256 ^ x.length ≤ 256 ^ 4 := Nat.pow_le_pow_right (by omega) hx
    simpa using this)
  rw [BitVec.toNat_ofNat, Nat.mod_eq_of_lt hlt] at h1
  exact num_zero h1
/-- Bytes x laid over b from place k on, by exclusive or. -/
def patch (b : List UInt8) (k : Nat) (x : List UInt8) : List UInt8 := b.take k ++ xor2 (b.drop k) x ++ b.drop (k + x.length)
theorem sum_patch (b : List UInt8) (k : Nat) (x : List UInt8) (hk : k + x.length ≤ b.length) (hx : x.length ≤ 4) (h : sum b = sum (patch b k x)) : ∀ c ∈ x, c = 0 := by
  have hm : ((b.drop k).take x.length).length = x.length := by rw [List.length_take, List.length_drop]; omega
  have e1 : b = b.take k ++ (b.drop k).take x.length ++ b.drop (k + x.length) := by
    rw [List.append_assoc, ← List.drop_drop, List.take_append_drop, List.take_append_drop]
  have e2 : xor2 (b.drop k) x = xor2 ((b.drop k).take x.length) x := by
    have gen : ∀ (x m : List UInt8), xor2 m x = xor2 (m.take x.length) x := by
      intro x
      induction x with
      | nil => intro m; cases m <;> simp [xor2]
      | cons c x ih =>
        intro m
        cases m with
        | nil => simp [xor2]
        | cons d m => simp [xor2, ← ih]
    exact gen _ _
  unfold patch at h
  rw [e2] at h
  rw [show sum b = sum (b.take k ++ (b.drop k).take x.length ++ b.drop (k + x.length)) from congrArg sum e1] at h
  simp only [sum, more, run_append] at h
  have h0 := congrArg (fun v => ~~~ v) h
  simp only [BitVec.not_not] at h0
  have h1 := run_inj _ h0
  have h2 := run_xor2 (run (~~~0#32) (b.take k)) (run (~~~0#32) (b.take k)) ((b.drop k).take x.length) x hm
  rw [h1, BitVec.xor_self, BitVec.xor_self] at h2
  exact burst x hx h2.symm
theorem patch_nil (b : List UInt8) (k : Nat) : patch b k [] = b := by
  have : xor2 (b.drop k) [] = [] := by cases b.drop k <;> rfl
  simp [patch, this]
theorem patch_length (b : List UInt8) (k : Nat) (x : List UInt8) (hk : k + x.length ≤ b.length) : (patch b k x).length = b.length := by
  simp only [patch, List.length_append, List.length_take, List.length_drop, xor2_length]; omega
theorem xor2_snoc (m x : List UInt8) (d : UInt8) (h : x.length < m.length) : xor2 m (x ++ [d]) = xor2 m x ++ [m[x.length] ^^^ d] := by
  induction x generalizing m with
  | nil =>
    cases m with
    | nil => simp at h
    | cons p m => cases m <;> simp [xor2]
  | cons c x ih =>
    cases m with
    | nil => simp at h
    | cons p m =>
      simp only [List.cons_append, xor2, List.length_cons, List.getElem_cons_succ]
      rw [ih m (by simpa using h)]
theorem patch_snoc (b : List UInt8) (k : Nat) (x : List UInt8) (d : UInt8) (hk : k + x.length < b.length) :
    (patch b k x)[k + x.length]? = some b[k + x.length] ∧ patch b k (x ++ [d]) = (patch b k x).set (k + x.length) (b[k + x.length] ^^^ d) := by
  have hl1 : (b.take k).length = k := by rw [List.length_take]; omega
  have hl2 : (xor2 (b.drop k) x).length = x.length := by rw [xor2_length, List.length_drop]; omega
  have hl : (b.take k ++ xor2 (b.drop k) x).length = k + x.length := by rw [List.length_append, hl1, hl2]
  have hd : b.drop (k + x.length) = b[k + x.length] :: b.drop (k + x.length + 1) := List.drop_eq_getElem_cons hk
  constructor
  · rw [patch, List.getElem?_append_right (by omega), hl, Nat.sub_self, hd]; rfl
  · rw [patch, patch, xor2_snoc _ _ _ (by rw [List.length_drop]; omega), List.set_append_right _ _ (by omega), hl, Nat.sub_self, hd, List.set_cons_zero, List.length_append, List.length_singleton]
    simp [List.getElem_drop, Nat.add_assoc]
end Crc
end Go.Proofs.Ytcjcmjkpfijhdaa
