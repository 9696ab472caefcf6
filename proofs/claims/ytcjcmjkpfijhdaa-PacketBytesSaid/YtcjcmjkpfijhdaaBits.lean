/-
  Bits of numbers of 8 and 32 bits, as vectors of bits; the plain sums (CRC-32) and their laws.
-/
import Derived.Test.YtcjcmjkpfijhdaaBase
namespace Go.Proofs.Ytcjcmjkpfijhdaa
open Go.RowKit

theorem bits_xor32 (a b : BitVec 32) : bits BinOp.xor IntKind.u32 (a.toNat : Int) (b.toNat : Int) = ((a ^^^ b).toNat : Int) := by
  rw [u32_xor_nat _ _ a.isLt b.isLt, BitVec.toNat_xor]
theorem bits_and32 (a b : BitVec 32) : bits BinOp.and IntKind.u32 (a.toNat : Int) (b.toNat : Int) = ((a &&& b).toNat : Int) := by
  rw [u32_and_nat _ _ a.isLt b.isLt, BitVec.toNat_and]
theorem bits_not32 (a : BitVec 32) : bits BinOp.xor IntKind.u32 IntKind.u32.max (a.toNat : Int) = ((~~~ a).toNat : Int) := by
  have h : IntKind.u32.max = ((BitVec.allOnes 32).toNat : Int) := by decide
  rw [h, bits_xor32, BitVec.allOnes_xor]

namespace Crc
def poly : BitVec 32 := 0xedb88320#32
def bit (x : BitVec 32) : BitVec 32 := (x >>> 1) ^^^ (if x.getLsbD 0 then poly else 0#32)
def byte (x : BitVec 32) (c : BitVec 32) : BitVec 32 := bit (bit (bit (bit (bit (bit (bit (bit (x ^^^ c))))))))
def wide (c : UInt8) : BitVec 32 := BitVec.ofNat 32 c.toNat
def run (x : BitVec 32) (l : List UInt8) : BitVec 32 := l.foldl (fun x c => byte x (wide c)) x
def more (s : BitVec 32) (l : List UInt8) : BitVec 32 := ~~~ (run (~~~ s) l)
def sum (l : List UInt8) : BitVec 32 := more 0#32 l

theorem run_append (x : BitVec 32) (a b : List UInt8) : run x (a ++ b) = run (run x a) b := by simp [run]
theorem more_append (s : BitVec 32) (a b : List UInt8) : more s (a ++ b) = more (more s a) b := by simp [more, run_append]
theorem sum_append (a b : List UInt8) : sum (a ++ b) = more (sum a) b := more_append _ _ _

theorem bit_xor (x y : BitVec 32) : bit (x ^^^ y) = bit x ^^^ bit y := by
  unfold bit
  rw [BitVec.getLsbD_xor]
  have h : (x ^^^ y) >>> 1 = (x >>> 1) ^^^ (y >>> 1) := by ext i; simp
  rw [h]
  cases x.getLsbD 0 <;> cases y.getLsbD 0 <;> simp
  · ac_rfl
  · ac_rfl
  · have e : ∀ a b p : BitVec 32, a ^^^ b = a ^^^ p ^^^ (b ^^^ p) := fun a b p => by
      have : a ^^^ p ^^^ (b ^^^ p) = a ^^^ b ^^^ (p ^^^ p) := by ac_rfl
      rw [this]; simp
    exact e _ _ _
theorem bit_zero : bit 0#32 = 0#32 := by decide
theorem bit_inj {x : BitVec 32} (h : bit x = 0#32) : x = 0#32 := by
  have hp : poly.getLsbD 31 = true := by decide
  have h31 : (bit x).getLsbD 31 = false := by rw [h]; simp
  have h0 : x.getLsbD 0 = false := by
    unfold bit at h31
    cases hx : x.getLsbD 0 with
    | false => rfl
    | true =>
      rw [hx] at h31
      simp only [if_true, BitVec.getLsbD_xor, hp, BitVec.getLsbD_ushiftRight] at h31
      simp at h31
  have hs : x >>> 1 = 0#32 := by
    unfold bit at h
    rw [h0] at h
    simpa using h
  apply BitVec.eq_of_getLsbD_eq
  intro i hi
  cases i with
  | zero => simpa using h0
  | succ i =>
    have := congrArg (fun v => v.getLsbD i) hs
    simp only [BitVec.getLsbD_ushiftRight] at this
    rw [Nat.add_comm] at this
    simpa using this

def bits8 (x : BitVec 32) : BitVec 32 := bit (bit (bit (bit (bit (bit (bit (bit x)))))))
theorem byte_eq (x c : BitVec 32) : byte x c = bits8 (x ^^^ c) := rfl
theorem bits8_xor (x y : BitVec 32) : bits8 (x ^^^ y) = bits8 x ^^^ bits8 y := by simp only [bits8, bit_xor]
theorem bits8_zero : bits8 0#32 = 0#32 := by decide
theorem bits8_inj {x : BitVec 32} (h : bits8 x = 0#32) : x = 0#32 := bit_inj (bit_inj (bit_inj (bit_inj (bit_inj (bit_inj (bit_inj (bit_inj h)))))))
/-- The difference of two runs. -/
def diff (d : BitVec 32) (l : List (BitVec 32)) : BitVec 32 := l.foldl byte d
theorem xor_swap (a b c d : BitVec 32) : (a ^^^ b) ^^^ (c ^^^ d) = (a ^^^ c) ^^^ (b ^^^ d) := by ac_rfl
theorem byte_xor (x y c d : BitVec 32) : byte x c ^^^ byte y d = byte (x ^^^ y) (c ^^^ d) := by
  rw [byte_eq, byte_eq, byte_eq, ← bits8_xor, xor_swap]
theorem diff_zero_inj {x : BitVec 32} (l : List UInt8) (h : diff x (l.map fun _ => 0#32) = 0#32) : x = 0#32 := by
  induction l generalizing x with
  | nil => exact h
  | cons c l ih =>
    have := ih (x := byte x 0#32) h
    rw [byte_eq] at this
    simpa using bits8_inj this
end Crc
end Go.Proofs.Ytcjcmjkpfijhdaa
