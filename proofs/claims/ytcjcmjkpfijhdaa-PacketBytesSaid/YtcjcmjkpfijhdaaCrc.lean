/-
  The sums' walks: crc.More, crc.Sum, quintainref1.Sum give Crc.more, Crc.sum.
-/
import Derived.Test.YtcjcmjkpfijhdaaBits
namespace Go.Proofs.Ytcjcmjkpfijhdaa
open Go.RowKit

namespace Crc
def bitN : Nat → BitVec 32 → BitVec 32
  | 0, x => x
  | n + 1, x => bit (bitN n x)
theorem bitN_8 (x c : BitVec 32) : bitN 8 (x ^^^ c) = byte x c := rfl
theorem wide_toNat (c : UInt8) : (wide c).toNat = c.toNat := by
  have := c.toNat_lt
  simp [wide, BitVec.toNat_ofNat]
theorem wide_int (c : UInt8) : ((c.toNat : Int) % 4294967296) = ((wide c).toNat : Int) := by
  rw [wide_toNat]; have := c.toNat_lt; omega
theorem run_take (x : BitVec 32) (l : List UInt8) (k : Nat) (hk : k < l.length) : run x (l.take (k + 1)) = byte (run x (l.take k)) (wide l[k]) := by
  rw [List.take_succ_eq_append_getElem hk, run_append]; rfl
theorem bit_int (y : BitVec 32) : bits BinOp.xor IntKind.u32 ((y.toNat : Int) / 2) (bits BinOp.and IntKind.u32 3988292384 (-bits BinOp.and IntKind.u32 (y.toNat : Int) 1 % 4294967296)) = ((bit y).toNat : Int) := by
  have h2 : ((y.toNat : Int) / (2 : Int)) = ((y >>> 1).toNat : Int) := by
    rw [BitVec.toNat_ushiftRight, Nat.shiftRight_eq_div_pow]; simp
  have h1 : bits BinOp.and IntKind.u32 (y.toNat : Int) 1 = ((y &&& 1#32).toNat : Int) := bits_and32 y 1#32
  have hb : y &&& 1#32 = if y.getLsbD 0 then 1#32 else 0#32 := by
    apply BitVec.eq_of_getLsbD_eq
    intro i hi
    cases i with
    | zero => cases h : y.getLsbD 0 <;> simpa using h
    | succ i => cases y.getLsbD 0 <;> simp
  rw [h1, h2, hb, bit]
  cases y.getLsbD 0 with
  | false =>
    have e : bits BinOp.and IntKind.u32 3988292384 (-((if (false : Bool) = true then 1#32 else 0#32 : BitVec 32).toNat : Int) % 4294967296) = ((0#32).toNat : Int) := bits_and32 poly 0#32
    rw [e, bits_xor32]; rfl
  | true =>
    have e : bits BinOp.and IntKind.u32 3988292384 (-((if (true : Bool) = true then 1#32 else 0#32 : BitVec 32).toNat : Int) % 4294967296) = (poly.toNat : Int) := by
      have := bits_and32 poly (BitVec.allOnes 32)
      rw [BitVec.and_allOnes] at this
      exact this
    rw [e, bits_xor32]; rfl
end Crc

set_option maxHeartbeats 400000 in
theorem crc_More (s : BitVec 32) (A : Option Addr) (n c B : Nat) (l : List UInt8) (w : World) (hA : LiesB w B A n l) (hm : n ≤ 9223372036854775807) :
    Calls Try.prog 36 #[.int .u32 (s.toNat : Int), .slice A n c] w fun e w' => e = .returned (.int .u32 ((Crc.more s l).toNat : Int)) ∧ w = w' := by
  have HA := hide hA
  clear hA
  go_enter Try.func36, Try.ntmps36
  go_wp2
  rw [bits_not32]
  go_loop [5, 12] (fun x i => ∃ k : Nat, k ≤ n ∧ i = .int .i64 k ∧ x = .int .u32 ((Crc.run (~~~ s) (l.take k)).toNat : Int)) (fun _ i => n - (intOf i).toNat)
  case atStart => exact ⟨0, Nat.zero_le _, rfl, rfl⟩
  case round =>
    obtain ⟨k, hk, rfl, rfl⟩ := hrel
    by_cases hlt : k < n
    · obtain ⟨b, off, hlk, rfl, -, hc⟩ := HA.out.at_ hlt
      obtain ⟨y, hy⟩ : ∃ y, y = Crc.run (~~~ s) (l.take k) := ⟨_, rfl⟩
      rw [← hy]
      have Hy := hide hy
      clear hy
      obtain ⟨z, hz⟩ : ∃ z, z = l[k] := ⟨_, rfl⟩
      rw [← hz] at hc
      have Hz := hide hz
      clear hz
      go_wp2
      rw [Crc.wide_int, bits_xor32]
      go_loop [5, 20] (fun x i => ∃ j : Nat, j ≤ 8 ∧ i = .int .i64 j ∧ x = .int .u32 ((Crc.bitN j (y ^^^ Crc.wide z)).toNat : Int)) (fun _ i => 8 - (intOf i).toNat)
      case atStart => exact ⟨0, Nat.zero_le _, rfl, rfl⟩
      case round =>
        obtain ⟨j, hj, rfl, rfl⟩ := hrel
        by_cases hlt8 : j < 8
        · go_wp2
          rw [Crc.bit_int]
          go_round
          case rel => exact ⟨j + 1, by omega, by go_num, rfl⟩
          case measure => simp [intOf]; omega
        · have hj8 : j = 8 := by omega
          have Hj := hide hj8
          clear hj8
          go_wp2
          refine ⟨⟨_, _, _, ⟨k + 1, by omega, rfl, rfl⟩, ?_, rfl, by go_num⟩, by simp [intOf]; omega⟩
          rw [Crc.run_take _ _ _ hlk, Hj.out, Crc.bitN_8, Hy.out, Hz.out]
    · obtain rfl : k = n := by omega
      go_wp2
      go_ret
      refine ⟨?_, rfl⟩
      rw [bits_not32, List.take_of_length_le (by rw [HA.out.len]; exact Nat.le_refl _)]
      rfl

set_option maxHeartbeats 400000 in
theorem crc_Sum (A : Option Addr) (n c B : Nat) (l : List UInt8) (w : World) (hA : LiesB w B A n l) (hm : n ≤ 9223372036854775807) :
    Calls Try.prog 24 #[.slice A n c] w fun e w' => e = .returned (.int .u32 ((Crc.sum l).toNat : Int)) ∧ w = w' := by
  have HA := hide hA
  clear hA
  go_enter Try.func24, Try.ntmps24
  go_wp2_with (go_at_call 36; refine (crc_More 0#32 A n c B l _ HA.out hm).mono ?_; rintro e w' ⟨rfl, rfl⟩)
  go_ret
  exact ⟨rfl, rfl⟩

namespace Crc
theorem refbit_1 (y : BitVec 32) (h : (y.toNat : Int) % 2 = 1) : bits BinOp.xor IntKind.u32 ((y.toNat : Int) / 2) 3988292384 = ((bit y).toNat : Int) := by
  have h2 : ((y.toNat : Int) / (2 : Int)) = ((y >>> 1).toNat : Int) := by
    rw [BitVec.toNat_ushiftRight, Nat.shiftRight_eq_div_pow]; simp
  have hb : y.getLsbD 0 = true := by
    rw [BitVec.getLsbD, Nat.testBit_zero]; simp; omega
  have e : bits BinOp.xor IntKind.u32 ((y >>> 1).toNat : Int) 3988292384 = ((y >>> 1 ^^^ poly).toNat : Int) := bits_xor32 _ poly
  rw [h2, e, bit, hb]; rfl
theorem refbit_0 (y : BitVec 32) (h : ¬ (y.toNat : Int) % 2 = 1) : ((y.toNat : Int) / 2) = ((bit y).toNat : Int) := by
  have h2 : ((y.toNat : Int) / (2 : Int)) = ((y >>> 1).toNat : Int) := by
    rw [BitVec.toNat_ushiftRight, Nat.shiftRight_eq_div_pow]; simp
  have hb : y.getLsbD 0 = false := by
    rw [BitVec.getLsbD, Nat.testBit_zero]; simp; omega
  rw [h2, bit, hb]; simp
end Crc

set_option maxHeartbeats 400000 in
theorem ref_Sum (A : Option Addr) (n c B : Nat) (l : List UInt8) (w : World) (hA : LiesB w B A n l) (hm : n ≤ 9223372036854775807) :
    Calls Try.prog 30 #[.slice A n c] w fun e w' => e = .returned (.int .u32 ((Crc.sum l).toNat : Int)) ∧ w = w' := by
  have HA := hide hA
  clear hA
  go_enter Try.func30, Try.ntmps30
  go_wp2
  go_loop [3, 4] (fun x i => ∃ k : Nat, k ≤ n ∧ i = .int .i64 k ∧ x = .int .u32 ((Crc.run (~~~ 0#32) (l.take k)).toNat : Int)) (fun _ i => n - (intOf i).toNat)
  case atStart => exact ⟨0, Nat.zero_le _, rfl, rfl⟩
  case round =>
    obtain ⟨k, hk, rfl, rfl⟩ := hrel
    by_cases hlt : k < n
    · obtain ⟨b, off, hlk, rfl, -, hc⟩ := HA.out.at_ hlt
      obtain ⟨y, hy⟩ : ∃ y, y = Crc.run (~~~ 0#32) (l.take k) := ⟨_, rfl⟩
      rw [← hy]
      have Hy := hide hy
      clear hy
      obtain ⟨z, hz⟩ : ∃ z, z = l[k] := ⟨_, rfl⟩
      rw [← hz] at hc
      have Hz := hide hz
      clear hz
      go_wp2
      rw [Crc.wide_int, bits_xor32]
      go_loop [3, 5] (fun x i => ∃ j : Nat, j ≤ 8 ∧ i = .int .i64 j ∧ x = .int .u32 ((Crc.bitN j (y ^^^ Crc.wide z)).toNat : Int)) (fun _ i => 8 - (intOf i).toNat)
      case atStart => exact ⟨0, Nat.zero_le _, rfl, rfl⟩
      case round =>
        obtain ⟨j, hj, rfl, rfl⟩ := hrel
        by_cases hlt8 : j < 8
        · by_cases hp : ((Crc.bitN j (y ^^^ Crc.wide z)).toNat : Int) % 2 = 1
          · have hb := Crc.refbit_1 _ hp
            have Hb := hide hb
            clear hb
            go_wp2
            rw [Hb.out]
            exact ⟨⟨j + 1, by omega, by go_num, rfl⟩, by simp [intOf]; omega⟩
          · have hb := Crc.refbit_0 _ hp
            have Hb := hide hb
            clear hb
            go_wp2
            rw [Hb.out]
            exact ⟨⟨j + 1, by omega, by go_num, rfl⟩, by simp [intOf]; omega⟩
        · have hj8 : j = 8 := by omega
          have Hj := hide hj8
          clear hj8
          go_wp2
          refine ⟨⟨k + 1, by omega, by go_num, ?_⟩, by simp [intOf]; omega⟩
          rw [Crc.run_take _ _ _ hlk, Hj.out, Crc.bitN_8, Hy.out, Hz.out]
    · obtain rfl : k = n := by omega
      go_wp2
      go_ret
      refine ⟨?_, rfl⟩
      rw [bits_not32, List.take_of_length_le (by rw [HA.out.len]; exact Nat.le_refl _)]
      rfl
end Go.Proofs.Ytcjcmjkpfijhdaa
