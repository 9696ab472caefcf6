/-
  The sums' walks: crc.More, crc.Sum, quintainref1.Sum give Crc.more, Crc.sum.
  Plain sums: bytes behind one another that were changed (at most four) change the sum.
  Packets, plain: what may be, its bytes, and that these are no other packet's.
  The walks of packet.in and packet.May, of the document's frames and MayPacket.
  The walks of the document's frames, MayPacket, EqPacket; of bytes.Equal and num.Four. (printed by wip/mkpkt.py)
  runs.Encode.
  quintainref1.Put.
  quintainref12.Runs.
  The walk of the document's Four.
-/
import Derived.Test.YtbcgffgiifminaaStand4
import Derived.Deep.RegionLaw
namespace Go.Proofs.Ytbcgffgiifminaa
open Go.RowKit
set_option maxRecDepth 10000

namespace Crc
def bitN : Nat → BitVec 32 → BitVec 32
  | 0, x => x
  | n + 1, x => bit (bitN n x)
theorem bitN_8 (x c : BitVec 32) : bitN 8 (x ^^^ c) = byte x c := rfl
theorem wide_toNat (c : UInt8) : (wide c).toNat = c.toNat := by
  have := c.toNat_lt
  simp [wide, BitVec.toNat_ofNat]
theorem wide_int (c : UInt8) : ((c.toNat : Int) % 4294967296) = ((wide c).toNat : Int) := by
  rw [wide_toNat]; have := c.toNat_lt; omega
theorem run_take (x : BitVec 32) (l : List UInt8) (k : Nat) (hk : k < l.length) : run x (l.take (k + 1)) = byte (run x (l.take k)) (wide l[k]) := by
  rw [List.take_succ_eq_append_getElem hk, run_append]; rfl
theorem bit_int (y : BitVec 32) : bits BinOp.xor IntKind.u32 ((y.toNat : Int) / 2) (bits BinOp.and IntKind.u32 3988292384 (-bits BinOp.and IntKind.u32 (y.toNat : Int) 1 % 4294967296)) = ((bit y).toNat : Int) := by
  have h2 : ((y.toNat : Int) / (2 : Int)) = ((y >>> 1).toNat : Int) := by
    rw [BitVec.toNat_ushiftRight, Nat.shiftRight_eq_div_pow]; simp
  have h1 : bits BinOp.and IntKind.u32 (y.toNat : Int) 1 = ((y &&& 1#32).toNat : Int) := bits_and32 y 1#32
  have hb : y &&& 1#32 = if y.getLsbD 0 then 1#32 else 0#32 := by
    apply BitVec.eq_of_getLsbD_eq
    intro i hi
    cases i with
    | zero => cases h : y.getLsbD 0 <;> simpa using h
    | succ i => cases y.getLsbD 0 <;> simp
  rw [h1, h2, hb, bit]
  cases y.getLsbD 0 with
  | false =>
    have e : bits BinOp.and IntKind.u32 3988292384 (-((if (false : Bool) = true then 1#32 else 0#32 : BitVec 32).toNat : Int) % 4294967296) = ((0#32).toNat : Int) := bits_and32 poly 0#32
    rw [e, bits_xor32]; rfl
  | true =>
    have e : bits BinOp.and IntKind.u32 3988292384 (-((if (true : Bool) = true then 1#32 else 0#32 : BitVec 32).toNat : Int) % 4294967296) = (poly.toNat : Int) := by
      have := bits_and32 poly (BitVec.allOnes 32)
      rw [BitVec.and_allOnes] at this
      exact this
    rw [e, bits_xor32]; rfl
end Crc

set_option maxHeartbeats 400000 in
theorem crc_More (s : BitVec 32) (A : Option Addr) (n c B : Nat) (l : List UInt8) (w : World) (hA : LiesB w B A n l) (hm : n ≤ 9223372036854775807) :
    Calls Try.prog 94 #[.int .u32 (s.toNat : Int), .slice A n c] w fun e w' => e = .returned (.int .u32 ((Crc.more s l).toNat : Int)) ∧ w = w' := by
  have HA := hide hA
  clear hA
  go_enter Try.func94, Try.ntmps94
  go_wp2
  rw [bits_not32]
  go_loop [5, 12] (fun x i => ∃ k : Nat, k ≤ n ∧ i = .int .i64 k ∧ x = .int .u32 ((Crc.run (~~~ s) (l.take k)).toNat : Int)) (fun _ i => n - (intOf i).toNat)
  case atStart => exact ⟨0, Nat.zero_le _, rfl, rfl⟩
  case round =>
    obtain ⟨k, hk, rfl, rfl⟩ := hrel
    by_cases hlt : k < n
    · obtain ⟨b, off, hlk, rfl, -, hc⟩ := HA.out.at_ hlt
      obtain ⟨y, hy⟩ : ∃ y, y = Crc.run (~~~ s) (l.take k) := ⟨_, rfl⟩
      rw [← hy]
      have Hy := hide hy
      clear hy
      obtain ⟨z, hz⟩ : ∃ z, z = l[k] := ⟨_, rfl⟩
      rw [← hz] at hc
      have Hz := hide hz
      clear hz
      go_wp2
      rw [Crc.wide_int, bits_xor32]
      go_loop [5, 20] (fun x i => ∃ j : Nat, j ≤ 8 ∧ i = .int .i64 j ∧ x = .int .u32 ((Crc.bitN j (y ^^^ Crc.wide z)).toNat : Int)) (fun _ i => 8 - (intOf i).toNat)
      case atStart => exact ⟨0, Nat.zero_le _, rfl, rfl⟩
      case round =>
        obtain ⟨j, hj, rfl, rfl⟩ := hrel
        by_cases hlt8 : j < 8
        · go_wp2
          rw [Crc.bit_int]
          go_round
          case rel => exact ⟨j + 1, by omega, by go_num, rfl⟩
          case measure => simp [intOf]; omega
        · have hj8 : j = 8 := by omega
          have Hj := hide hj8
          clear hj8
          go_wp2
          refine ⟨⟨_, _, _, ⟨k + 1, by omega, rfl, rfl⟩, ?_, rfl, by go_num⟩, by simp [intOf]; omega⟩
          rw [Crc.run_take _ _ _ hlk, Hj.out, Crc.bitN_8, Hy.out, Hz.out]
    · obtain rfl : k = n := by omega
      go_wp2
      go_ret
      refine ⟨?_, rfl⟩
      rw [bits_not32, List.take_of_length_le (by rw [HA.out.len]; exact Nat.le_refl _)]
      rfl

set_option maxHeartbeats 400000 in
theorem crc_Sum (A : Option Addr) (n c B : Nat) (l : List UInt8) (w : World) (hA : LiesB w B A n l) (hm : n ≤ 9223372036854775807) :
    Calls Try.prog 91 #[.slice A n c] w fun e w' => e = .returned (.int .u32 ((Crc.sum l).toNat : Int)) ∧ w = w' := by
  have HA := hide hA
  clear hA
  go_enter Try.func91, Try.ntmps91
  go_wp2_with (go_at_call 94; refine (crc_More 0#32 A n c B l _ HA.out hm).mono ?_; rintro e w' ⟨rfl, rfl⟩)
  go_ret
  exact ⟨rfl, rfl⟩

namespace Crc
theorem refbit_1 (y : BitVec 32) (h : (y.toNat : Int) % 2 = 1) : bits BinOp.xor IntKind.u32 ((y.toNat : Int) / 2) 3988292384 = ((bit y).toNat : Int) := by
  have h2 : ((y.toNat : Int) / (2 : Int)) = ((y >>> 1).toNat : Int) := by
    rw [BitVec.toNat_ushiftRight, Nat.shiftRight_eq_div_pow]; simp
  have hb : y.getLsbD 0 = true := by
    rw [BitVec.getLsbD, Nat.testBit_zero]; simp; omega
  have e : bits BinOp.xor IntKind.u32 ((y >>> 1).toNat : Int) 3988292384 = ((y >>> 1 ^^^ poly).toNat : Int) := bits_xor32 _ poly
  rw [h2, e, bit, hb]; rfl
theorem refbit_0 (y : BitVec 32) (h : ¬ (y.toNat : Int) % 2 = 1) : ((y.toNat : Int) / 2) = ((bit y).toNat : Int) := by
  have h2 : ((y.toNat : Int) / (2 : Int)) = ((y >>> 1).toNat : Int) := by
    rw [BitVec.toNat_ushiftRight, Nat.shiftRight_eq_div_pow]; simp
  have hb : y.getLsbD 0 = false := by
    rw [BitVec.getLsbD, Nat.testBit_zero]; simp; omega
  rw [h2, bit, hb]; simp
end Crc

set_option maxHeartbeats 400000 in
theorem ref_Sum (A : Option Addr) (n c B : Nat) (l : List UInt8) (w : World) (hA : LiesB w B A n l) (hm : n ≤ 9223372036854775807) :
    Calls Try.prog 59 #[.slice A n c] w fun e w' => e = .returned (.int .u32 ((Crc.sum l).toNat : Int)) ∧ w = w' := by
  have HA := hide hA
  clear hA
  go_enter Try.func59, Try.ntmps59
  go_wp2
  go_loop [3, 4] (fun x i => ∃ k : Nat, k ≤ n ∧ i = .int .i64 k ∧ x = .int .u32 ((Crc.run (~~~ 0#32) (l.take k)).toNat : Int)) (fun _ i => n - (intOf i).toNat)
  case atStart => exact ⟨0, Nat.zero_le _, rfl, rfl⟩
  case round =>
    obtain ⟨k, hk, rfl, rfl⟩ := hrel
    by_cases hlt : k < n
    · obtain ⟨b, off, hlk, rfl, -, hc⟩ := HA.out.at_ hlt
      obtain ⟨y, hy⟩ : ∃ y, y = Crc.run (~~~ 0#32) (l.take k) := ⟨_, rfl⟩
      rw [← hy]
      have Hy := hide hy
      clear hy
      obtain ⟨z, hz⟩ : ∃ z, z = l[k] := ⟨_, rfl⟩
      rw [← hz] at hc
      have Hz := hide hz
      clear hz
      go_wp2
      rw [Crc.wide_int, bits_xor32]
      go_loop [3, 5] (fun x i => ∃ j : Nat, j ≤ 8 ∧ i = .int .i64 j ∧ x = .int .u32 ((Crc.bitN j (y ^^^ Crc.wide z)).toNat : Int)) (fun _ i => 8 - (intOf i).toNat)
      case atStart => exact ⟨0, Nat.zero_le _, rfl, rfl⟩
      case round =>
        obtain ⟨j, hj, rfl, rfl⟩ := hrel
        by_cases hlt8 : j < 8
        · by_cases hp : ((Crc.bitN j (y ^^^ Crc.wide z)).toNat : Int) % 2 = 1
          · have hb := Crc.refbit_1 _ hp
            have Hb := hide hb
            clear hb
            go_wp2
            rw [Hb.out]
            exact ⟨⟨j + 1, by omega, by go_num, rfl⟩, by simp [intOf]; omega⟩
          · have hb := Crc.refbit_0 _ hp
            have Hb := hide hb
            clear hb
            go_wp2
            rw [Hb.out]
            exact ⟨⟨j + 1, by omega, by go_num, rfl⟩, by simp [intOf]; omega⟩
        · have hj8 : j = 8 := by omega
          have Hj := hide hj8
          clear hj8
          go_wp2
          refine ⟨⟨k + 1, by omega, by go_num, ?_⟩, by simp [intOf]; omega⟩
          rw [Crc.run_take _ _ _ hlk, Hj.out, Crc.bitN_8, Hy.out, Hz.out]
    · obtain rfl : k = n := by omega
      go_wp2
      go_ret
      refine ⟨?_, rfl⟩
      rw [bits_not32, List.take_of_length_le (by rw [HA.out.len]; exact Nat.le_refl _)]
      rfl
end Go.Proofs.Ytbcgffgiifminaa
namespace Go.Proofs.Ytbcgffgiifminaa
open Go.RowKit
set_option maxRecDepth 10000
namespace Crc
theorem bits8_inj2 {x y : BitVec 32} (h : bits8 x = bits8 y) : x = y := by
  have e : bits8 (x ^^^ y) = 0#32 := by rw [bits8_xor, h, BitVec.xor_self]
  have := bits8_inj e
  exact BitVec.xor_eq_zero_iff.1 this
theorem run_inj (t : List UInt8) {a b : BitVec 32} (h : run a t = run b t) : a = b := by
  induction t generalizing a b with
  | nil => exact h
  | cons c t ih =>
    have := ih (a := byte a (wide c)) (b := byte b (wide c)) h
    rw [byte_eq, byte_eq] at this
    have := bits8_inj2 this
    have h2 := congrArg (· ^^^ wide c) this
    simpa [BitVec.xor_assoc] using h2
/-- Two texts' exclusive or, byte by byte. -/
def xor2 : List UInt8 → List UInt8 → List UInt8
  | a :: r, b :: s => (a ^^^ b) :: xor2 r s
  | _, _ => []
theorem xor2_length (a b : List UInt8) : (xor2 a b).length = min a.length b.length := by
  induction a generalizing b with
  | nil => simp [xor2]
  | cons x a ih =>
    cases b with
    | nil => simp [xor2]
    | cons y b => simp only [xor2, List.length_cons, ih]; omega
theorem run_xor2 (u v : BitVec 32) (m x : List UInt8) (h : m.length = x.length) : run u m ^^^ run v (xor2 m x) = run (u ^^^ v) x := by
  induction m generalizing u v x with
  | nil =>
    cases x with
    | nil => simp [run, xor2]
    | cons _ _ => simp at h
  | cons p m ih =>
    cases x with
    | nil => simp at h
    | cons q x =>
      have e : byte u (wide p) ^^^ byte v (wide (p ^^^ q)) = byte (u ^^^ v) (wide q) := by
        rw [byte_xor]
        congr 1
        apply BitVec.eq_of_toNat_eq
        simp only [wide_toNat, BitVec.toNat_xor, UInt8.toNat_xor]
        rw [← Nat.xor_assoc, Nat.xor_self, Nat.zero_xor]
      simp only [xor2, run, List.foldl_cons] at *
      rw [← e]
      exact ih _ _ _ (by simpa using h)
/-- The number of the bytes, the lowest first. -/
def num : List UInt8 → Nat
  | [] => 0
  | c :: x => c.toNat + 256 * num x
theorem num_lt (x : List UInt8) : num x < 256 ^ x.length := by
  induction x with
  | nil => simp [num]
  | cons c x ih =>
    have := c.toNat_lt
    simp only [num, List.length_cons, Nat.pow_succ]
    omega
theorem num_zero {x : List UInt8} (h : num x = 0) : ∀ c ∈ x, c = 0 := by
  induction x with
  | nil => simp
  | cons c x ih =>
    simp only [num] at h
    intro d hd
    rcases List.mem_cons.1 hd with rfl | hd
    · apply UInt8.toNat_inj.1; simp; omega
    · exact ih (by omega) d hd
theorem bit_even (z : BitVec 32) (k : Nat) (h : z.toNat * 2 ^ (k + 1) < 2 ^ 32) : bit (z <<< (k + 1)) = z <<< k := by
  have h0 : (z <<< (k + 1)).getLsbD 0 = false := by simp
  have hp : 2 ^ (k + 1) = 2 * 2 ^ k := by rw [Nat.pow_succ]; omega
  rw [bit, h0]
  simp only [Bool.false_eq_true, if_false, BitVec.xor_zero]
  apply BitVec.eq_of_toNat_eq
  rw [BitVec.toNat_ushiftRight, BitVec.toNat_shiftLeft, BitVec.toNat_shiftLeft, Nat.shiftLeft_eq, Nat.shiftLeft_eq, Nat.shiftRight_eq_div_pow, Nat.mod_eq_of_lt h]
  have e : z.toNat * 2 ^ (k + 1) = z.toNat * 2 ^ k * 2 := by rw [hp, Nat.mul_comm 2, Nat.mul_assoc]
  rw [e] at h ⊢
  rw [Nat.mod_eq_of_lt (by omega)]
  omega
theorem bits8_shl (z : BitVec 32) (h : z.toNat < 2 ^ 24) : bits8 (z <<< 8) = z := by
  unfold bits8
  rw [bit_even z 7 (by omega), bit_even z 6 (by omega), bit_even z 5 (by omega), bit_even z 4 (by omega), bit_even z 3 (by omega), bit_even z 2 (by omega), bit_even z 1 (by omega), bit_even z 0 (by omega)]
  simp
def bitsN : Nat → BitVec 32 → BitVec 32
  | 0, z => z
  | n + 1, z => bitsN n (bits8 z)
theorem bitsN_inj (n : Nat) {z : BitVec 32} (h : bitsN n z = 0#32) : z = 0#32 := by
  induction n generalizing z with
  | zero => exact h
  | succ n ih => exact bits8_inj (ih h)
theorem num_cons (c : UInt8) (x : List UInt8) : BitVec.ofNat 32 (num (c :: x)) = wide c ^^^ (BitVec.ofNat 32 (num x) <<< 8) := by
  apply BitVec.eq_of_getLsbD_eq
  intro i hi
  have hc := c.toNat_lt
  have e : num (c :: x) = 2 ^ 8 * num x + c.toNat := by simp only [num]; omega
  rw [BitVec.getLsbD_ofNat, e, Nat.testBit_two_pow_mul_add _ (by omega), BitVec.getLsbD_xor, BitVec.getLsbD_shiftLeft, BitVec.getLsbD_ofNat, wide, BitVec.getLsbD_ofNat]
  by_cases h8 : i < 8
  · simp [hi, h8]
  · have : c.toNat.testBit i = false := Nat.testBit_lt_two_pow (Nat.lt_of_lt_of_le hc (by show 2 ^ 8 ≤ 2 ^ i; exact Nat.pow_le_pow_right (by omega) (by omega)))
    simp [hi, h8, this]
    omega
theorem run_num (x : List UInt8) (hx : x.length ≤ 4) (s : BitVec 32) : run s x = bitsN x.length (s ^^^ BitVec.ofNat 32 (num x)) := by
  induction x generalizing s with
  | nil => simp [run, bitsN, num]
  | cons c x ih =>
    have hl : x.length ≤ 3 := by simpa using hx
    have hlt : num x < 2 ^ 24 := Nat.lt_of_lt_of_le (num_lt x) (by
      have : 256 ^ x.length ≤ 256 ^ 3 := Nat.pow_le_pow_right (by omega) hl
      simpa using this)
    have h := ih (by omega) (byte s (wide c))
    have e : byte s (wide c) ^^^ BitVec.ofNat 32 (num x) = bits8 (s ^^^ BitVec.ofNat 32 (num (c :: x))) := by
      rw [num_cons c x, ← BitVec.xor_assoc, bits8_xor, bits8_shl _ (by rw [BitVec.toNat_ofNat]; omega), byte_eq]
    rw [e] at h
    exact h
theorem burst (x : List UInt8) (hx : x.length ≤ 4) (h : run 0#32 x = 0#32) : ∀ c ∈ x, c = 0 := by
  rw [run_num x hx, BitVec.zero_xor] at h
  have h1 := congrArg BitVec.toNat (bitsN_inj _ h)
  have hlt : num x < 2 ^ 32 := Nat.lt_of_lt_of_le (num_lt x) (by
    have : 256 ^ x.length ≤ 256 ^ 4 := Nat.pow_le_pow_right (by omega) hx
    simpa using this)
  rw [BitVec.toNat_ofNat, Nat.mod_eq_of_lt hlt] at h1
  exact num_zero h1
/-- Bytes x laid over b from place k on, by exclusive or. -/
def patch (b : List UInt8) (k : Nat) (x : List UInt8) : List UInt8 := b.take k ++ xor2 (b.drop k) x ++ b.drop (k + x.length)
theorem sum_patch (b : List UInt8) (k : Nat) (x : List UInt8) (hk : k + x.length ≤ b.length) (hx : x.length ≤ 4) (h : sum b = sum (patch b k x)) : ∀ c ∈ x, c = 0 := by
  have hm : ((b.drop k).take x.length).length = x.length := by rw [List.length_take, List.length_drop]; omega
  have e1 : b = b.take k ++ (b.drop k).take x.length ++ b.drop (k + x.length) := by
    rw [List.append_assoc, ← List.drop_drop, List.take_append_drop, List.take_append_drop]
  have e2 : xor2 (b.drop k) x = xor2 ((b.drop k).take x.length) x := by
    have gen : ∀ (x m : List UInt8), xor2 m x = xor2 (m.take x.length) x := by
      intro x
      induction x with
      | nil => intro m; cases m <;> simp [xor2]
      | cons c x ih =>
        intro m
        cases m with
        | nil => simp [xor2]
        | cons d m => simp [xor2, ← ih]
    exact gen _ _
  unfold patch at h
  rw [e2] at h
  rw [show sum b = sum (b.take k ++ (b.drop k).take x.length ++ b.drop (k + x.length)) from congrArg sum e1] at h
  simp only [sum, more, run_append] at h
  have h0 := congrArg (fun v => ~~~ v) h
  simp only [BitVec.not_not] at h0
  have h1 := run_inj _ h0
  have h2 := run_xor2 (run (~~~0#32) (b.take k)) (run (~~~0#32) (b.take k)) ((b.drop k).take x.length) x hm
  rw [h1, BitVec.xor_self, BitVec.xor_self] at h2
  exact burst x hx h2.symm
theorem patch_nil (b : List UInt8) (k : Nat) : patch b k [] = b := by
  have : xor2 (b.drop k) [] = [] := by cases b.drop k <;> rfl
  simp [patch, this]
theorem patch_length (b : List UInt8) (k : Nat) (x : List UInt8) (hk : k + x.length ≤ b.length) : (patch b k x).length = b.length := by
  simp only [patch, List.length_append, List.length_take, List.length_drop, xor2_length]; omega
theorem xor2_snoc (m x : List UInt8) (d : UInt8) (h : x.length < m.length) : xor2 m (x ++ [d]) = xor2 m x ++ [m[x.length] ^^^ d] := by
  induction x generalizing m with
  | nil =>
    cases m with
    | nil => simp at h
    | cons p m => cases m <;> simp [xor2]
  | cons c x ih =>
    cases m with
    | nil => simp at h
    | cons p m =>
      simp only [List.cons_append, xor2, List.length_cons, List.getElem_cons_succ]
      rw [ih m (by simpa using h)]
theorem patch_snoc (b : List UInt8) (k : Nat) (x : List UInt8) (d : UInt8) (hk : k + x.length < b.length) :
    (patch b k x)[k + x.length]? = some b[k + x.length] ∧ patch b k (x ++ [d]) = (patch b k x).set (k + x.length) (b[k + x.length] ^^^ d) := by
  have hl1 : (b.take k).length = k := by rw [List.length_take]; omega
  have hl2 : (xor2 (b.drop k) x).length = x.length := by rw [xor2_length, List.length_drop]; omega
  have hl : (b.take k ++ xor2 (b.drop k) x).length = k + x.length := by rw [List.length_append, hl1, hl2]
  have hd : b.drop (k + x.length) = b[k + x.length] :: b.drop (k + x.length + 1) := List.drop_eq_getElem_cons hk
  constructor
  · rw [patch, List.getElem?_append_right (by omega), hl, Nat.sub_self, hd]; rfl
  · rw [patch, patch, xor2_snoc _ _ _ (by rw [List.length_drop]; omega), List.set_append_right _ _ (by omega), hl, Nat.sub_self, hd, List.set_cons_zero, List.length_append, List.length_singleton]
    simp [List.getElem_drop, Nat.add_assoc]
end Crc
end Go.Proofs.Ytbcgffgiifminaa
namespace Go.Proofs.Ytbcgffgiifminaa
open Go.RowKit
set_option maxRecDepth 10000
set_option linter.unusedVariables false
structure Pkt where
  kind : Int
  src : Int
  dst : Int
  id : Int
  first : Int
  press : List UInt8
  ack : Int
  frame : Int
  sum : Int
namespace Pkt
/-- Numbers from 0 to most. -/
def inB (most : Int) (l : List Int) : Bool := l.all fun x => decide (0 ≤ x) && decide (x ≤ most)
def may (p : Pkt) : Bool :=
  inB 7 [p.src, p.dst] && !(p.src == p.dst) && decide (0 ≤ p.id) && decide (p.id ≤ 1099511627776) &&
    (if p.kind = 1 then inB 1000 [p.first, p.ack, p.frame] && decide (p.press.length ≤ 32)
     else if p.kind = 2 then inB 0 [p.first, p.ack, p.frame, (p.press.length : Int)] && (p.sum == 0) else false)
/-- What types hold. -/
def WF (p : Pkt) : Prop := 0 ≤ p.sum ∧ p.sum < 4294967296
def byte (x : Int) : UInt8 := UInt8.ofNat (x % 256).toNat
/-- What comes behind the first number. -/
def tail (p : Pkt) : List UInt8 :=
  if p.kind = 1 then Var.put (Var.zig p.first) ++ (Var.put (Var.zig p.ack) ++ (Var.put (Var.zig p.frame) ++ (be32 p.sum ++ (Var.put (Var.zig (p.press.length : Int)) ++ Runs.enc 0 p.press)))) else []
def body (p : Pkt) : List UInt8 := byte p.kind :: byte p.src :: byte p.dst :: (Var.put (Var.zig p.id) ++ tail p)
def sealB (b : List UInt8) : List UInt8 := b ++ be32 ((Crc.sum b).toNat : Int)
def enc (p : Pkt) : List UInt8 := if p.may then sealB p.body else []
/-- These bytes are p's. -/
def Is (b : List UInt8) (p : Pkt) : Prop := p.may = true ∧ p.WF ∧ b = sealB p.body
theorem inB_two {m a b : Int} : inB m [a, b] = true ↔ (0 ≤ a ∧ a ≤ m) ∧ (0 ≤ b ∧ b ≤ m) := by simp [inB]
theorem inB_three {m a b c : Int} : inB m [a, b, c] = true ↔ (0 ≤ a ∧ a ≤ m) ∧ (0 ≤ b ∧ b ≤ m) ∧ (0 ≤ c ∧ c ≤ m) := by simp [inB]
theorem inB_four {m a b c d : Int} : inB m [a, b, c, d] = true ↔ (0 ≤ a ∧ a ≤ m) ∧ (0 ≤ b ∧ b ≤ m) ∧ (0 ≤ c ∧ c ≤ m) ∧ (0 ≤ d ∧ d ≤ m) := by simp [inB]
structure Fine (p : Pkt) : Prop where
  src : 0 ≤ p.src ∧ p.src ≤ 7
  dst : 0 ≤ p.dst ∧ p.dst ≤ 7
  ne : p.src ≠ p.dst
  id : 0 ≤ p.id ∧ p.id ≤ 1099511627776
  kind : (p.kind = 1 ∧ (0 ≤ p.first ∧ p.first ≤ 1000) ∧ (0 ≤ p.ack ∧ p.ack ≤ 1000) ∧ (0 ≤ p.frame ∧ p.frame ≤ 1000) ∧ p.press.length ≤ 32) ∨
    (p.kind = 2 ∧ p.first = 0 ∧ p.ack = 0 ∧ p.frame = 0 ∧ p.press = [] ∧ p.sum = 0)
theorem may_iff {p : Pkt} : p.may = true ↔ Fine p := by
  unfold may
  constructor
  · intro h
    simp only [Bool.and_eq_true, Bool.not_eq_true', beq_eq_false_iff_ne, decide_eq_true_eq, inB_two] at h
    obtain ⟨⟨⟨⟨⟨h1, h2⟩, h3⟩, h4⟩, h5⟩, h6⟩ := h
    refine ⟨h1, h2, h3, ⟨h4, h5⟩, ?_⟩
    by_cases k1 : p.kind = 1
    · rw [if_pos k1] at h6
      simp only [Bool.and_eq_true, decide_eq_true_eq, inB_three] at h6
      exact .inl ⟨k1, h6.1.1, h6.1.2.1, h6.1.2.2, h6.2⟩
    · rw [if_neg k1] at h6
      by_cases k2 : p.kind = 2
      · rw [if_pos k2] at h6
        simp only [Bool.and_eq_true, beq_iff_eq, inB_four] at h6
        refine .inr ⟨k2, by omega, by omega, by omega, ?_, h6.2⟩
        apply List.eq_nil_of_length_eq_zero; omega
      · rw [if_neg k2] at h6; cases h6
  · rintro ⟨h1, h2, h3, h4, h5⟩
    simp only [Bool.and_eq_true, Bool.not_eq_true', beq_eq_false_iff_ne, decide_eq_true_eq, inB_two]
    refine ⟨⟨⟨⟨⟨h1, h2⟩, h3⟩, h4.1⟩, h4.2⟩, ?_⟩
    rcases h5 with ⟨k, a, b, c, d⟩ | ⟨k, a, b, c, d, e⟩
    · rw [if_pos k]
      simp only [Bool.and_eq_true, decide_eq_true_eq, inB_three]
      exact ⟨⟨a, b, c⟩, d⟩
    · rw [if_neg (by omega), if_pos k]
      simp only [Bool.and_eq_true, beq_iff_eq, inB_four, d, List.length_nil]
      exact ⟨⟨by omega, by omega, by omega, by omega⟩, e⟩

/-- A number is read off; bad: it did not go, now or earlier. -/
def num (bad : Bool) (b : List UInt8) : Int × Bool × List UInt8 :=
  if (bad || !((Var.get 0 0 b).2.2 == 0)) = true then ((Var.get 0 0 b).1, true, b) else ((Var.get 0 0 b).1, false, b.drop (Var.get 0 0 b).2.1)
def get4 : List UInt8 → Int
  | a :: b :: c :: d :: _ => num4 a b c d
  | _ => 0
def four (bad : Bool) (b : List UInt8) : Int × Bool × List UInt8 :=
  if bad = true ∨ b.length < 4 then (0, true, b) else (get4 b, false, b.drop 4)
theorem num_put {v : Int} (h : -9223372036854775808 ≤ v) (h' : v ≤ 9223372036854775807) (t : List UInt8) : num false (Var.put (Var.zig v) ++ t) = (v, false, t) := by
  have := Var.get_put0 (Var.zig v) t (Var.zig_lt v h h')
  unfold num
  rw [this]
  simp [Var.unzig_zig]
theorem get4_be32 {v : Int} (h : 0 ≤ v) (h' : v < 4294967296) (t : List UInt8) : get4 (be32 v ++ t) = v := by
  simp only [be32, List.cons_append, List.nil_append, get4, num4, UInt8.toNat_ofNat']
  omega
theorem four_be32 {v : Int} (h : 0 ≤ v) (h' : v < 4294967296) (t : List UInt8) : four false (be32 v ++ t) = (v, false, t) := by
  unfold four
  rw [if_neg (by simp [be32]), get4_be32 h h', List.drop_append, List.drop_eq_nil_of_le (by simp [be32]), be32_length]
  simp
theorem get4_range (b : List UInt8) : 0 ≤ get4 b ∧ get4 b < 4294967296 := by
  unfold get4
  split
  · rename_i a b c d _
    have := a.toNat_lt; have := b.toNat_lt; have := c.toNat_lt; have := d.toNat_lt
    unfold num4; omega
  · omega
theorem sealB_len (b : List UInt8) : (sealB b).length = b.length + 4 := by simp [sealB, be32_length]
theorem byte_nat {x : Int} (h : 0 ≤ x) (h' : x < 256) : ((byte x).toNat : Int) = x := by
  unfold byte
  rw [UInt8.toNat_ofNat']; omega
/-- What the reader finds in a packet's bytes. -/
theorem is_head {b : List UInt8} {p : Pkt} (h : Is b p) : 8 ≤ b.length ∧ ∃ k s d t, b = k :: s :: d :: t ∧ (k.toNat : Int) = p.kind ∧ (s.toNat : Int) = p.src ∧ (d.toNat : Int) = p.dst ∧
    (b.take (b.length - 4)).drop 3 = Var.put (Var.zig p.id) ++ tail p := by
  obtain ⟨hm, hw, rfl⟩ := h
  have f := may_iff.1 hm
  have hl := sealB_len p.body
  have hp : (Var.put (Var.zig p.id)).length ≥ 1 := by
    cases e : Var.put (Var.zig p.id) with
    | nil => exact absurd e (Var.put_ne _)
    | cons => simp
  refine ⟨?_, byte p.kind, byte p.src, byte p.dst, _, rfl, byte_nat (by rcases f.kind with h | h <;> omega) (by rcases f.kind with h | h <;> omega), byte_nat (by have := f.src; omega) (by have := f.src; omega), byte_nat (by have := f.dst; omega) (by have := f.dst; omega), ?_⟩
  · rw [hl]; simp only [body, List.length_cons, List.length_append]; omega
  · rw [hl, show p.body.length + 4 - 4 = p.body.length by omega]
    unfold sealB
    rw [List.take_left]
    rfl
theorem is_inj {b : List UInt8} {p q : Pkt} (h : Is b p) (h' : Is b q) : p = q := by
  obtain ⟨-, k, s, d, t, rfl, k1, s1, d1, e1⟩ := is_head h
  obtain ⟨-, k', s', d', t', e, k2, s2, d2, e2⟩ := is_head h'
  simp only [List.cons.injEq] at e
  obtain ⟨rfl, rfl, rfl, rfl⟩ := e
  rw [e1] at e2
  have f := may_iff.1 h.1
  have f' := may_iff.1 h'.1
  have n1 := num_put (v := p.id) (by have := f.id; omega) (by have := f.id; omega) (tail p)
  rw [e2, num_put (v := q.id) (by have := f'.id; omega) (by have := f'.id; omega)] at n1
  simp only [Prod.mk.injEq, true_and] at n1
  obtain ⟨hid, ht⟩ := n1
  have hk : p.kind = q.kind := by omega
  cases p with | mk kind src dst id first press ack frame sum => ?_
  cases q with | mk kind' src' dst' id' first' press' ack' frame' sum' => ?_
  simp only at hk hid k1 s1 d1 k2 s2 d2
  subst hk hid
  obtain rfl : src = src' := by omega
  obtain rfl : dst = dst' := by omega
  have fk := f.kind
  have fk' := f'.kind
  have w1 := h.2.1
  have w2 := h'.2.1
  simp only [WF] at fk fk' w1 w2
  by_cases hk1 : kind = 1
  · subst hk1
    obtain ⟨-, a1, a2, a3, a4⟩ | ⟨c, -⟩ := fk
    · obtain ⟨-, b1, b2, b3, b4⟩ | ⟨c, -⟩ := fk'
      · simp only [tail, if_true] at ht
        have m1 := num_put (v := first) (by omega) (by omega) (Var.put (Var.zig ack) ++ (Var.put (Var.zig frame) ++ (be32 sum ++ (Var.put (Var.zig (press.length : Int)) ++ Runs.enc 0 press))))
        rw [← ht, num_put (by omega) (by omega)] at m1
        simp only [Prod.mk.injEq, true_and] at m1
        obtain ⟨rfl, m1⟩ := m1
        have m2 := num_put (v := ack) (by omega) (by omega) (Var.put (Var.zig frame) ++ (be32 sum ++ (Var.put (Var.zig (press.length : Int)) ++ Runs.enc 0 press)))
        rw [← m1, num_put (by omega) (by omega)] at m2
        simp only [Prod.mk.injEq, true_and] at m2
        obtain ⟨rfl, m2⟩ := m2
        have m3 := num_put (v := frame) (by omega) (by omega) (be32 sum ++ (Var.put (Var.zig (press.length : Int)) ++ Runs.enc 0 press))
        rw [← m2, num_put (by omega) (by omega)] at m3
        simp only [Prod.mk.injEq, true_and] at m3
        obtain ⟨rfl, m3⟩ := m3
        have m4 := four_be32 (v := sum) (by omega) (by omega) (Var.put (Var.zig (press.length : Int)) ++ Runs.enc 0 press)
        rw [← m3, four_be32 (by omega) (by omega)] at m4
        simp only [Prod.mk.injEq, true_and] at m4
        obtain ⟨rfl, m4⟩ := m4
        have m5 := num_put (v := (press.length : Int)) (by omega) (by omega) (Runs.enc 0 press)
        rw [← m4, num_put (by omega) (by omega)] at m5
        simp only [Prod.mk.injEq, true_and] at m5
        obtain ⟨-, m5⟩ := m5
        rw [Runs.enc_inj (by omega) (by omega) m5]
      · omega
    · omega
  · obtain ⟨c, -⟩ | ⟨k, a1, a2, a3, a4, a5⟩ := fk
    · omega
    · obtain ⟨c, -⟩ | ⟨k', b1, b2, b3, b4, b5⟩ := fk'
      · omega
      · rw [a1, a2, a3, a4, a5, b1, b2, b3, b4, b5]
theorem enc_is {p : Pkt} (h : p.may = true) (hw : p.WF) : Is p.enc p := ⟨h, hw, by rw [enc, if_pos h]⟩
theorem is_enc {b : List UInt8} {p : Pkt} (h : Is b p) : b = p.enc := by rw [enc, if_pos h.1, h.2.2]
theorem enc_nil_iff {p : Pkt} : p.enc = [] ↔ p.may = false := by
  rw [enc]
  split
  · rename_i h
    constructor
    · intro e; have := congrArg List.length e; rw [sealB_len] at this; simp at this
    · intro e; rw [h] at e; cases e
  · rename_i h
    simp at h
    simp [h]
/-- The rest of what is read, of kind 1. -/
theorem is_one {b : List UInt8} {p : Pkt} (h : Is b p) (hk : p.kind = 1) : tail p = Var.put (Var.zig p.first) ++ (Var.put (Var.zig p.ack) ++ (Var.put (Var.zig p.frame) ++ (be32 p.sum ++ (Var.put (Var.zig (p.press.length : Int)) ++ Runs.enc 0 p.press)))) := by
  rw [tail, if_pos hk]
/-- No packet is long. -/
theorem zig_len {v : Int} (h : 0 ≤ v) (h' : v ≤ 1000) : (Var.put (Var.zig v)).length ≤ 2 := Var.put_len 1 _ (by unfold Var.zig; rw [if_neg (by omega)]; omega)
theorem runs_len (n : Nat) : ∀ (a : UInt8) (l : List UInt8), l.length ≤ n → l.length ≤ 60 → (Runs.enc a l).length ≤ 2 * l.length := by
  induction n with
  | zero => intro a l h _; have : l = [] := List.eq_nil_of_length_eq_zero (by omega); subst this; rw [Runs.enc_nil]; simp
  | succ n ih =>
    intro a l h hm
    cases l with
    | nil => rw [Runs.enc_nil]; simp
    | cons x t =>
      have h1 := Runs.lead_le x t
      simp only [List.length_cons] at h hm
      have h2 := ih x (t.drop (Runs.lead x t)) (by rw [List.length_drop]; omega) (by rw [List.length_drop]; omega)
      rw [Runs.enc_cons, Var.put_small (by omega)]
      simp only [List.length_append, List.length_cons, List.length_nil]
      rw [List.length_drop] at h2
      omega
theorem enc_short (p : Pkt) : p.enc.length ≤ 100 := by
  rw [enc]
  split
  · rename_i h
    have f := may_iff.1 h
    rw [sealB_len]
    have hid : (Var.put (Var.zig p.id)).length ≤ 6 := Var.put_len 5 _ (by have := f.id; unfold Var.zig; rw [if_neg (by omega)]; omega)
    simp only [body, List.length_cons, List.length_append]
    rw [tail]
    split
    · rcases f.kind with ⟨-, a1, a2, a3, a4⟩ | ⟨c, -⟩
      · have l1 := zig_len a1.1 a1.2
        have l2 := zig_len a2.1 a2.2
        have l3 := zig_len a3.1 a3.2
        have l4 := zig_len (v := (p.press.length : Int)) (by omega) (by omega)
        have l5 := runs_len _ 0 p.press (Nat.le_refl _) (by omega)
        simp only [List.length_append, be32_length]
        omega
      · omega
    · simp; omega
  · simp
end Pkt
end Go.Proofs.Ytbcgffgiifminaa
namespace Go.Proofs.Ytbcgffgiifminaa
open Go.RowKit
set_option maxRecDepth 10000
set_option linter.unusedVariables false
/-- Whole numbers lie behind one another. -/
def LiesN (w : World) (B : Nat) (A : Option Addr) (n : Nat) (l : List Int) : Prop := l.length = n ∧ Lies w B A (l.map (Value.int .i64))
theorem LiesN.new (w : World) (T : TypeId) (m : Nat × Nat) (cs : Array Value) (l : List Int) (n : Nat) (hn : l.length = n) (h : cs.toList = l.map (Value.int .i64)) :
    LiesN (w.alloc (.cells cs T m)) (w.heap.size + 1) (some ⟨w.heap.size, 0, none⟩) n l := ⟨hn, by rw [← h]; exact Lies.new w cs T m⟩
theorem LiesN.at_ {w : World} {B n : Nat} {A : Option Addr} {l : List Int} (h : LiesN w B A n l) {j : Nat} (hj : j < n) :
    ∃ (b off : Nat) (hl : j < l.length), A = some ⟨b, off, none⟩ ∧ b < B ∧ w.cell? ⟨b, off + j, none⟩ = some (.int .i64 l[j]) := by
  have hl : j < l.length := by rw [h.1]; exact hj
  obtain ⟨b, off, e, hb, hc⟩ := h.2 (by intro h0; have := congrArg List.length h0; simp at this; subst this; simp at hl)
  exact ⟨b, off, hl, e, hb, hc j _ (by simp [List.getElem?_map, List.getElem?_eq_getElem hl])⟩
namespace Pkt
theorem inB_take (m : Int) (l : List Int) (k : Nat) (hk : k < l.length) : inB m (l.take (k + 1)) = (inB m (l.take k) && (decide (0 ≤ l[k]) && decide (l[k] ≤ m))) := by
  unfold inB
  rw [List.take_succ_eq_append_getElem hk, List.all_append]
  simp
theorem inB_false (m : Int) (l : List Int) (k : Nat) (hk : k < l.length) (h : l[k] < 0 ∨ m < l[k]) : inB m l = false := by
  unfold inB
  rw [List.all_eq_false]
  refine ⟨l[k], List.getElem_mem _, ?_⟩
  simp; omega
/-- A packet's value; v: its presses'. -/
@[reducible] def row (p : Pkt) (v : Value) : List Value := [.int .i64 p.kind, .int .i64 p.src, .int .i64 p.dst, .int .i64 p.id, .int .i64 p.first, v, .int .i64 p.ack, .int .i64 p.frame, .int .u32 p.sum]
@[reducible] def val (p : Pkt) (v : Value) : Value := .agg (row p v).toArray
end Pkt
set_option maxHeartbeats 400000 in
theorem packet_in {most : Int} {A : Option Addr} {n c B : Nat} {l : List Int} {w : World} {r : Bool} (hA : LiesN w B A n l) (hn : n ≤ 1000) (hr : r = Pkt.inB most l) :
    Calls Try.prog 93 #[.int .i64 most, .slice A n c] w fun e w' => e = .returned (.bool r) ∧ w = w' := by
  have HA := hide hA
  have HR := hide hr
  have HL := hide hA.1
  clear hA hr
  go_enter Try.func93, Try.ntmps93
  go_wp2
  go_loop [9] (fun i => ∃ k : Nat, k ≤ n ∧ i = .int .i64 k ∧ Hid (Pkt.inB most (l.take k) = true)) (fun i => n - (intOf i).toNat)
  case atStart => exact ⟨0, Nat.zero_le _, rfl, rfl⟩
  case round =>
    obtain ⟨k, hk, rfl, ht⟩ := hrel
    by_cases hlt : k < n
    · obtain ⟨b, off, hlk, rfl, -, hc⟩ := HA.out.at_ hlt
      obtain ⟨x, hx⟩ : ∃ x, x = l[k] := ⟨_, rfl⟩
      rw [← hx] at hc
      have HX := hide hx
      clear hx
      by_cases h0 : x < 0
      · have d0 : decide (x < 0) = true := decide_eq_true h0
        go_wp2
        go_ret
        refine ⟨?_, rfl⟩
        rw [HR.out, Pkt.inB_false most l k hlk (.inl (HX.out ▸ h0))]
        rfl
      · have d0 : decide (x < 0) = false := decide_eq_false h0
        by_cases h1 : most < x
        · have d1 : decide (most < x) = true := decide_eq_true h1
          go_wp2
          go_ret
          refine ⟨?_, rfl⟩
          rw [HR.out, Pkt.inB_false most l k hlk (.inr (HX.out ▸ h1))]
          rfl
        · have d1 : decide (most < x) = false := decide_eq_false h1
          go_wp2
          go_round
          case rel =>
            refine ⟨k + 1, by omega, by go_num, ?_⟩
            show _ = true
            rw [Pkt.inB_take most l k hlk, show Pkt.inB most (l.take k) = true from ht, ← HX.out]
            simp; omega
          case measure => simp [intOf]; omega
    · obtain rfl : k = n := by omega
      go_wp2
      go_ret
      refine ⟨?_, rfl⟩
      have := ht.out
      rw [List.take_of_length_le (by rw [HL.out]; exact Nat.le_refl _)] at this
      rw [HR.out, this]
      rfl

set_option maxHeartbeats 1000000 in
set_option maxRecDepth 10000 in
theorem packet_May (p : Pkt) {A : Option Addr} {n c : Nat} {w : World} {r : Bool} (hn : p.press.length = n) (hm : n ≤ 9223372036854775807) (hr : r = p.may) :
    Calls Try.prog 87 #[p.val (.slice A n c)] w fun e w' => e = .returned (.bool r) ∧ Below w.heap.size w w' := by
  obtain ⟨kind, src, dst, id, first, press, ack, frame, sum⟩ := p
  simp only at hn
  have HR : Hid (r = (Pkt.inB 7 [src, dst] && !(src == dst) && decide (0 ≤ id) && decide (id ≤ 1099511627776) &&
    (if kind = 1 then Pkt.inB 1000 [first, ack, frame] && decide (n ≤ 32)
     else if kind = 2 then Pkt.inB 0 [first, ack, frame, (n : Int)] && (sum == 0) else false))) := by rw [← hn]; exact hr
  clear hr hn
  go_enter Try.func87, Try.ntmps87
  go_upto_region 1 with fail
  have HP : Hid (Arr 41 (w.alloc (.cells (Pkt.row ⟨kind, src, dst, id, first, press, ack, frame, sum⟩ (.slice A n c)).toArray 41)) w.heap.size (Pkt.row ⟨kind, src, dst, id, first, press, ack, frame, sum⟩ (.slice A n c))) := Arr.new 41 w _ _ rfl
  have HB : Hid (Below w.heap.size w (w.alloc (.cells (Pkt.row ⟨kind, src, dst, id, first, press, ack, frame, sum⟩ (.slice A n c)).toArray 41))) := Below_new _ _
  simp only [Pkt.row] at HP HB
  generalize World.alloc w _ = wx at HP HB ⊢
  generalize hgg : w.heap.size = g1 at HP HB ⊢
  · have hgg0 := hide hgg
    subst hgg
    have c0 := HP.out.cell (j := 0) (by simp)
    have c1 := HP.out.cell (j := 1) (by simp)
    have c2 := HP.out.cell (j := 2) (by simp)
    have c3 := HP.out.cell (j := 3) (by simp)
    have c4 := HP.out.cell (j := 4) (by simp)
    have c5 := HP.out.cell (j := 5) (by simp)
    have c6 := HP.out.cell (j := 6) (by simp)
    have c7 := HP.out.cell (j := 7) (by simp)
    have c8 := HP.out.cell (j := 8) (by simp)
    simp only [List.getElem_cons_zero, List.getElem_cons_succ] at c0 c1 c2 c3 c4 c5 c6 c7 c8
    have hg := HP.out.lt
    obtain ⟨x1, hx1⟩ : ∃ x, x = Pkt.inB 7 [src, dst] := ⟨_, rfl⟩
    have HX1 := hide hx1
    rw [← hx1] at HR
    clear hx1
    go_cut [26] (fun s wy => ∃ b, s = .bool b ∧ Hid (b = !(x1 && !(src == dst) && decide (0 ≤ id) && decide (id ≤ 1099511627776))) ∧ Hid (Below wx.heap.size wx wy))
    case first =>
      cases x1
      · go_wp2_with (go_at_call 93; (with_reducible refine Calls.mono (packet_in (LiesN.new _ _ _ _ [src, dst] _ rfl rfl) (by omega) HX1.out) ?_); rintro e w1 ⟨rfl, rfl⟩)
        go_meet
        exact ⟨_, rfl, rfl, Below_new _ _⟩
      · by_cases e1 : src = dst
        · have d1 : (src == dst) = true := by simp [e1]
          have HF : Hid (true = !(true && !(src == dst) && decide (0 ≤ id) && decide (id ≤ 1099511627776))) := by show _ = _; rw [d1]; rfl
          clear e1
          go_wp2_with (go_at_call 93; (with_reducible refine Calls.mono (packet_in (LiesN.new _ _ _ _ [src, dst] _ rfl rfl) (by omega) HX1.out) ?_); rintro e w1 ⟨rfl, rfl⟩)
          go_meet
          exact ⟨_, rfl, HF, Below_new _ _⟩
        · have d1 : (src == dst) = false := by simp [e1]
          clear e1
          by_cases e2 : id < 0
          · have d2 : decide (id < 0) = true := decide_eq_true e2
            have HF : Hid (true = !(true && !(src == dst) && decide (0 ≤ id) && decide (id ≤ 1099511627776))) := by show _ = _; simp; omega
            clear e2
            go_wp2_with (go_at_call 93; (with_reducible refine Calls.mono (packet_in (LiesN.new _ _ _ _ [src, dst] _ rfl rfl) (by omega) HX1.out) ?_); rintro e w1 ⟨rfl, rfl⟩)
            go_meet
            exact ⟨_, rfl, HF, Below_new _ _⟩
          · have d2 : decide (id < 0) = false := decide_eq_false e2
            obtain ⟨z, hz⟩ : ∃ z, z = decide (1099511627776 < id) := ⟨_, rfl⟩
            have HF : Hid (z = !(true && !(src == dst) && decide (0 ≤ id) && decide (id ≤ 1099511627776))) := by
              show _ = _
              rw [hz, d1]
              rw [show decide (0 ≤ id) = true from decide_eq_true (by omega)]
              by_cases h : 1099511627776 < id
              · rw [decide_eq_true h, decide_eq_false (by omega)]; rfl
              · rw [decide_eq_false h, decide_eq_true (by omega)]; rfl
            have dz : decide (1099511627776 < id) = z := hz.symm
            clear hz e2
            cases z
            all_goals
              go_wp2_with (go_at_call 93; (with_reducible refine Calls.mono (packet_in (LiesN.new _ _ _ _ [src, dst] _ rfl rfl) (by omega) HX1.out) ?_); rintro e w1 ⟨rfl, rfl⟩)
              go_meet
              exact ⟨_, rfl, HF, Below_new _ _⟩
    case rest =>
      obtain ⟨b, rfl, HBB, HB1⟩ := hcut
      have HP := hide (HP.out.belowN HB1.out)
      have HB2 := hide (Below_step HB.out HB1.out)
      have c0 := HP.out.cell (j := 0) (by simp)
      have c4 := HP.out.cell (j := 4) (by simp)
      have c5 := HP.out.cell (j := 5) (by simp)
      have c6 := HP.out.cell (j := 6) (by simp)
      have c7 := HP.out.cell (j := 7) (by simp)
      have c8 := HP.out.cell (j := 8) (by simp)
      simp only [List.getElem_cons_zero, List.getElem_cons_succ] at c0 c4 c5 c6 c7 c8
      have hg := HP.out.lt
      cases b
      · have HR1 : Hid (r = (if kind = 1 then Pkt.inB 1000 [first, ack, frame] && decide (n ≤ 32)
          else if kind = 2 then Pkt.inB 0 [first, ack, frame, (n : Int)] && (sum == 0) else false)) := by
          show r = _
          rw [HR.out]
          have := HBB.out
          revert this
          cases (x1 && !(src == dst) && decide (0 ≤ id) && decide (id ≤ 1099511627776))
          · intro h; cases h
          · intro; rfl
        clear HR HBB
        by_cases k1 : kind = 1
        · rw [if_pos k1] at HR1
          subst k1
          obtain ⟨x2, hx2⟩ : ∃ x, x = Pkt.inB 1000 [first, ack, frame] := ⟨_, rfl⟩
          have HX2 := hide hx2
          rw [← hx2] at HR1
          clear hx2
          obtain ⟨x3, hx3⟩ : ∃ x, decide (n ≤ 32) = x := ⟨_, rfl⟩
          rw [hx3] at HR1
          have dn : decide ((n : Int) ≤ 32) = x3 := by rw [← hx3]; congr 1; apply propext; omega
          cases x2
          · obtain rfl : r = false := HR1.out
            go_wp2_with (go_at_call 93; (with_reducible refine Calls.mono (packet_in (LiesN.new _ _ _ _ [first, ack, frame] _ rfl rfl) (by omega) HX2.out) ?_); rintro e w1 ⟨rfl, rfl⟩)
            go_ret
            exact ⟨rfl, Below_step HB2.out (Below_new _ _)⟩
          · obtain rfl : r = x3 := HR1.out
            go_wp2_with (go_at_call 93; (with_reducible refine Calls.mono (packet_in (LiesN.new _ _ _ _ [first, ack, frame] _ rfl rfl) (by omega) HX2.out) ?_); rintro e w1 ⟨rfl, rfl⟩)
            go_ret
            exact ⟨rfl, Below_step HB2.out (Below_new _ _)⟩
        · have dk : (kind == 1) = false := by simp [k1]
          rw [if_neg k1] at HR1
          by_cases k2 : kind = 2
          · rw [if_pos k2] at HR1
            subst k2
            obtain ⟨x2, hx2⟩ : ∃ x, x = Pkt.inB 0 [first, ack, frame, (n : Int)] := ⟨_, rfl⟩
            have HX2 := hide hx2
            rw [← hx2] at HR1
            clear hx2 dk k1
            cases x2
            · obtain rfl : r = false := HR1.out
              go_wp2_with (go_at_call 93; (with_reducible refine Calls.mono (packet_in (LiesN.new _ _ _ _ [first, ack, frame, (n : Int)] _ rfl rfl) (by omega) HX2.out) ?_); rintro e w1 ⟨rfl, rfl⟩)
              go_ret
              exact ⟨rfl, Below_step HB2.out (Below_new _ _)⟩
            · obtain ⟨x3, hx3⟩ : ∃ x, (sum == 0) = x := ⟨_, rfl⟩
              rw [hx3] at HR1
              obtain rfl : r = x3 := HR1.out
              go_wp2_with (go_at_call 93; (with_reducible refine Calls.mono (packet_in (LiesN.new _ _ _ _ [first, ack, frame, (n : Int)] _ rfl rfl) (by omega) HX2.out) ?_); rintro e w1 ⟨rfl, rfl⟩)
              go_ret
              exact ⟨rfl, Below_step HB2.out (Below_new _ _)⟩
          · have dk2 : (kind == 2) = false := by simp [k2]
            rw [if_neg k2] at HR1
            obtain rfl : r = false := HR1.out
            clear k1 k2
            go_wp2
            go_ret
            exact ⟨rfl, HB2.out⟩
      · obtain rfl : r = false := by
          rw [HR.out]
          have := HBB.out
          revert this
          cases (x1 && !(src == dst) && decide (0 ≤ id) && decide (id ≤ 1099511627776))
          · intro; rfl
          · intro h; cases h
        go_wp2
        go_ret
        exact ⟨rfl, HB2.out⟩
end Go.Proofs.Ytbcgffgiifminaa
namespace Go.Proofs.Ytbcgffgiifminaa
open Go.RowKit
set_option maxRecDepth 10000
set_option linter.unusedVariables false
namespace Pkt
def bad (kind src dst id : Int) : Bool := decide (kind < 1) || (decide (2 < kind) || (decide (src < 0) || (decide (7 < src) || (decide (dst < 0) || (decide (7 < dst) || ((src == dst) || (decide (id < 0) || decide (1099511627776 < id))))))))
def quit (first n ack frame sum : Int) : Bool := (first == 0) && ((n == 0) && ((ack == 0) && ((frame == 0) && (sum == 0))))
def fr (n : Int) : Bool := decide (0 ≤ n) && decide (n ≤ 1000)
theorem may_ref (p : Pkt) : p.may = (!(bad p.kind p.src p.dst p.id) && (if p.kind = 2 then quit p.first (p.press.length : Int) p.ack p.frame p.sum else fr p.first && (fr p.ack && (fr p.frame && decide ((p.press.length : Int) ≤ 32))))) := by
  rw [Bool.eq_iff_iff, may_iff]
  constructor
  · intro f
    have h1 := f.src
    have h2 := f.dst
    have h3 := f.ne
    have h4 := f.id
    rw [Bool.and_eq_true]
    constructor
    · have := f.kind
      unfold bad
      simp only [Bool.not_eq_true', Bool.or_eq_false_iff, decide_eq_false_iff_not, beq_eq_false_iff_ne]
      refine ⟨by omega, by omega, by omega, by omega, by omega, by omega, h3, by omega, by omega⟩
    · rcases f.kind with ⟨k, a, b, c, d⟩ | ⟨k, a, b, c, d, e⟩
      · rw [if_neg (by omega)]
        unfold fr
        simp only [Bool.and_eq_true, decide_eq_true_eq]
        omega
      · rw [if_pos k]
        unfold quit
        simp [a, b, c, d, e]
  · intro h
    rw [Bool.and_eq_true] at h
    obtain ⟨h1, h2⟩ := h
    unfold bad at h1
    simp only [Bool.not_eq_true', Bool.or_eq_false_iff, decide_eq_false_iff_not, beq_eq_false_iff_ne] at h1
    obtain ⟨h11, h12, h13, h14, h15, h16, h17, h18, h19⟩ := h1
    refine ⟨by omega, by omega, h17, by omega, ?_⟩
    by_cases k : p.kind = 2
    · rw [if_pos k] at h2
      unfold quit at h2
      simp only [Bool.and_eq_true, beq_iff_eq] at h2
      obtain ⟨a, b, c, d, e⟩ := h2
      exact .inr ⟨k, a, c, d, List.eq_nil_of_length_eq_zero (by omega), e⟩
    · rw [if_neg k] at h2
      unfold fr at h2
      simp only [Bool.and_eq_true, decide_eq_true_eq] at h2
      exact .inl ⟨by omega, by omega, by omega, by omega, by omega⟩
/-- The same? -/
def eqb (p q : Pkt) : Bool := (p.kind == q.kind) && ((p.src == q.src) && ((p.dst == q.dst) && ((p.id == q.id) && ((p.first == q.first) && ((p.press == q.press) && ((p.ack == q.ack) && ((p.frame == q.frame) && (p.sum == q.sum))))))))
theorem eqb_iff (p q : Pkt) : eqb p q = true ↔ p = q := by
  cases p; cases q
  unfold eqb
  simp only [Bool.and_eq_true, beq_iff_eq, Pkt.mk.injEq]
theorem eqb_self (p : Pkt) : eqb p p = true := (eqb_iff p p).2 rfl
theorem eqb_not {p q : Pkt} (h : p ≠ q) : eqb p q = false := by
  cases e : eqb p q with
  | false => rfl
  | true => exact absurd ((eqb_iff p q).1 e) h
end Pkt
set_option maxHeartbeats 400000 in
theorem ref_frames (x : Int) (w : World) {r : Bool} (hr : Pkt.fr x = r) : Calls Try.prog 83 #[.int .i64 x] w fun e w' => e = .returned (.bool r) ∧ w = w' := by
  obtain ⟨z1, d1⟩ : ∃ z, (decide (0 ≤ x)) = z := ⟨_, rfl⟩
  obtain ⟨z2, d2⟩ : ∃ z, (decide (x ≤ 1000)) = z := ⟨_, rfl⟩
  have HR : Hid (r = (z1 && z2)) := by show _ = _; rw [← hr, Pkt.fr, d1, d2]
  clear hr
  cases z1
  · obtain rfl : r = false := HR.out
    go_enter Try.func83, Try.ntmps83
    go_wp2
    go_ret
    exact ⟨rfl, rfl⟩
  · obtain rfl : r = z2 := HR.out
    go_enter Try.func83, Try.ntmps83
    go_wp2
    go_ret
    exact ⟨rfl, rfl⟩
set_option maxHeartbeats 400000 in
theorem bytes_Equal {A A' : Option Addr} {n n' c c' B B' : Nat} {l l' : List UInt8} {w : World} {r : Bool} (h : LiesB w B A n l) (h' : LiesB w B' A' n' l') (hr : (l == l') = r) :
    Calls Try.prog 81 #[.slice A n c, .slice A' n' c'] w fun e w' => e = .returned (.bool r) ∧ w = w' := by
  have H := hide h
  have H' := hide h'
  subst hr
  clear h h'
  go_enter Try.func81, Try.ntmps81
  go_wp2_with fail
  rw [run_stringB H.out]
  go_wp2_with fail
  rw [run_stringB H'.out]
  go_wp2_with fail
  go_ret
  exact ⟨rfl, rfl⟩
set_option maxHeartbeats 400000 in
theorem num_Four (a : Int) (w : World) (h1 : 0 ≤ a) (h2 : a < 4294967296) : Calls Try.prog 89 #[.int .u32 a] w fun e w' =>
    ∃ A c, e = .returned (.slice A 4 c) ∧ OwnB w' w.heap.size A 4 c (be32 a) ∧ Below w.heap.size w w' := by
  have HE := hide (Int.emod_eq_of_lt h1 h2)
  go_enter Try.func89, Try.ntmps89
  go_wp2
  go_ret
  refine ⟨_, _, rfl, OwnB.new _ _ 4 _ rfl (by simp [maxLen]) ?_, Below_new _ _⟩
  have := be32_cells a
  rw [HE.out] at this
  exact this
set_option maxHeartbeats 2000000 in
set_option maxRecDepth 10000 in
theorem ref_MayPacket (p : Pkt) {A : Option Addr} {n c : Nat} {w : World} {r : Bool} (hn : p.press.length = n) (hm : n ≤ 9223372036854775807) (hr : r = p.may) :
    Calls Try.prog 55 #[p.val (.slice A n c)] w fun e w' => e = .returned (.bool r) ∧ Below w.heap.size w w' := by
  have HR0 := p.may_ref
  obtain ⟨kind, src, dst, id, first, press, ack, frame, sum⟩ := p
  simp only at hn HR0
  rw [hn] at HR0
  have HR := hide (hr.trans HR0)
  clear hr hn HR0
  go_enter Try.func55, Try.ntmps55
  go_upto_region 1 with fail
  have HP : Hid (Arr 41 (w.alloc (.cells (Pkt.row ⟨kind, src, dst, id, first, press, ack, frame, sum⟩ (.slice A n c)).toArray 41)) w.heap.size (Pkt.row ⟨kind, src, dst, id, first, press, ack, frame, sum⟩ (.slice A n c))) := Arr.new 41 w _ _ rfl
  have HB : Hid (Below w.heap.size w (w.alloc (.cells (Pkt.row ⟨kind, src, dst, id, first, press, ack, frame, sum⟩ (.slice A n c)).toArray 41))) := Below_new _ _
  simp only [Pkt.row] at HP HB
  generalize World.alloc w _ = wx at HP HB ⊢
  obtain ⟨bb, hbb⟩ : ∃ b, b = Pkt.bad kind src dst id := ⟨_, rfl⟩
  rw [← hbb] at HR
  obtain ⟨z1, d1⟩ : ∃ z, (decide (kind < 1)) = z := ⟨_, rfl⟩
  obtain ⟨z2, d2⟩ : ∃ z, (decide (2 < kind)) = z := ⟨_, rfl⟩
  obtain ⟨z3, d3⟩ : ∃ z, (decide (src < 0)) = z := ⟨_, rfl⟩
  obtain ⟨z4, d4⟩ : ∃ z, (decide (7 < src)) = z := ⟨_, rfl⟩
  obtain ⟨z5, d5⟩ : ∃ z, (decide (dst < 0)) = z := ⟨_, rfl⟩
  obtain ⟨z6, d6⟩ : ∃ z, (decide (7 < dst)) = z := ⟨_, rfl⟩
  obtain ⟨z7, d7⟩ : ∃ z, (src == dst) = z := ⟨_, rfl⟩
  obtain ⟨z8, d8⟩ : ∃ z, (decide (id < 0)) = z := ⟨_, rfl⟩
  obtain ⟨z9, d9⟩ : ∃ z, (decide (1099511627776 < id)) = z := ⟨_, rfl⟩
  have HBB : Hid (bb = (z1 || (z2 || (z3 || (z4 || (z5 || (z6 || (z7 || (z8 || z9))))))))) := by show _ = _; rw [hbb, Pkt.bad, d1, d2, d3, d4, d5, d6, d7, d8, d9]
  clear hbb
  have c0 := HP.out.cell (j := 0) (by simp)
  have c1 := HP.out.cell (j := 1) (by simp)
  have c2 := HP.out.cell (j := 2) (by simp)
  have c3 := HP.out.cell (j := 3) (by simp)
  simp only [List.getElem_cons_zero, List.getElem_cons_succ] at c0 c1 c2 c3
  have hgc := HP.out.lt
  go_cut [47] (fun s wy => s = .bool bb ∧ wx = wy)
  case first =>
    cases z1
    case true =>
      go_wp2
      go_meet
      exact ⟨congrArg Value.bool HBB.out.symm, rfl⟩
    cases z2
    case true =>
      go_wp2
      go_meet
      exact ⟨congrArg Value.bool HBB.out.symm, rfl⟩
    cases z3
    case true =>
      go_wp2
      go_meet
      exact ⟨congrArg Value.bool HBB.out.symm, rfl⟩
    cases z4
    case true =>
      go_wp2
      go_meet
      exact ⟨congrArg Value.bool HBB.out.symm, rfl⟩
    cases z5
    case true =>
      go_wp2
      go_meet
      exact ⟨congrArg Value.bool HBB.out.symm, rfl⟩
    cases z6
    case true =>
      go_wp2
      go_meet
      exact ⟨congrArg Value.bool HBB.out.symm, rfl⟩
    cases z7
    case true =>
      go_wp2
      go_meet
      exact ⟨congrArg Value.bool HBB.out.symm, rfl⟩
    cases z8
    case true =>
      go_wp2
      go_meet
      exact ⟨congrArg Value.bool HBB.out.symm, rfl⟩
    cases z9
    case true =>
      go_wp2
      go_meet
      exact ⟨congrArg Value.bool HBB.out.symm, rfl⟩
    go_wp2
    go_meet
    exact ⟨congrArg Value.bool HBB.out.symm, rfl⟩
  case rest =>
    obtain ⟨rfl, rfl⟩ := hcut
    clear d1 d2 d3 d4 d5 d6 d7 d8 d9 HBB c1 c2 c3
    cases bb
    · have HR1 : Hid (r = (if kind = 2 then Pkt.quit first n ack frame sum else Pkt.fr first && (Pkt.fr ack && (Pkt.fr frame && decide ((n : Int) ≤ 32))))) := by
        show r = _
        rw [HR.out]; rfl
      clear HR
      have c0 := HP.out.cell (j := 0) (by simp)
      have c4 := HP.out.cell (j := 4) (by simp)
      have c5 := HP.out.cell (j := 5) (by simp)
      have c6 := HP.out.cell (j := 6) (by simp)
      have c7 := HP.out.cell (j := 7) (by simp)
      have c8 := HP.out.cell (j := 8) (by simp)
      simp only [List.getElem_cons_zero, List.getElem_cons_succ] at c0 c4 c5 c6 c7 c8
      have hgc := HP.out.lt
      by_cases k2 : kind = 2
      · rw [if_pos k2] at HR1
        subst k2
        obtain ⟨z1, d1⟩ : ∃ z, (first == 0) = z := ⟨_, rfl⟩
        obtain ⟨z2, d2⟩ : ∃ z, ((n : Int) == 0) = z := ⟨_, rfl⟩
        obtain ⟨z3, d3⟩ : ∃ z, (ack == 0) = z := ⟨_, rfl⟩
        obtain ⟨z4, d4⟩ : ∃ z, (frame == 0) = z := ⟨_, rfl⟩
        obtain ⟨z5, d5⟩ : ∃ z, (sum == 0) = z := ⟨_, rfl⟩
        have HQ : Hid ((z1 && (z2 && (z3 && (z4 && z5)))) = r) := by show _ = _; rw [HR1.out, Pkt.quit, d1, d2, d3, d4, d5]
        cases z1
        case false =>
          obtain rfl := HQ.out
          go_wp2
          go_ret
          exact ⟨rfl, HB.out⟩
        cases z2
        case false =>
          obtain rfl := HQ.out
          go_wp2
          go_ret
          exact ⟨rfl, HB.out⟩
        cases z3
        case false =>
          obtain rfl := HQ.out
          go_wp2
          go_ret
          exact ⟨rfl, HB.out⟩
        cases z4
        case false =>
          obtain rfl := HQ.out
          go_wp2
          go_ret
          exact ⟨rfl, HB.out⟩
        cases z5
        case false =>
          obtain rfl := HQ.out
          go_wp2
          go_ret
          exact ⟨rfl, HB.out⟩
        obtain rfl := HQ.out
        go_wp2
        go_ret
        exact ⟨rfl, HB.out⟩
      · have dk : (kind == 2) = false := by simp [k2]
        rw [if_neg k2] at HR1
        clear k2
        obtain ⟨z1, d1⟩ : ∃ z, (Pkt.fr first) = z := ⟨_, rfl⟩
        obtain ⟨z2, d2⟩ : ∃ z, (Pkt.fr ack) = z := ⟨_, rfl⟩
        obtain ⟨z3, d3⟩ : ∃ z, (Pkt.fr frame) = z := ⟨_, rfl⟩
        obtain ⟨z4, d4⟩ : ∃ z, (decide ((n : Int) ≤ 32)) = z := ⟨_, rfl⟩
        have HQ : Hid ((z1 && (z2 && (z3 && z4))) = r) := by show _ = _; rw [HR1.out, d1, d2, d3, d4]
        have D1 := hide d1
        have D2 := hide d2
        have D3 := hide d3
        clear d1 d2 d3
        cases z1
        case false =>
          obtain rfl := HQ.out
          go_wp2_with (go_at_call 83; (with_reducible first | refine Calls.mono (ref_frames first _ D1.out) ?_ | refine Calls.mono (ref_frames ack _ D2.out) ?_ | refine Calls.mono (ref_frames frame _ D3.out) ?_); rintro e w1 ⟨rfl, rfl⟩)
          go_ret
          exact ⟨rfl, HB.out⟩
        cases z2
        case false =>
          obtain rfl := HQ.out
          go_wp2_with (go_at_call 83; (with_reducible first | refine Calls.mono (ref_frames first _ D1.out) ?_ | refine Calls.mono (ref_frames ack _ D2.out) ?_ | refine Calls.mono (ref_frames frame _ D3.out) ?_); rintro e w1 ⟨rfl, rfl⟩)
          go_ret
          exact ⟨rfl, HB.out⟩
        cases z3
        case false =>
          obtain rfl := HQ.out
          go_wp2_with (go_at_call 83; (with_reducible first | refine Calls.mono (ref_frames first _ D1.out) ?_ | refine Calls.mono (ref_frames ack _ D2.out) ?_ | refine Calls.mono (ref_frames frame _ D3.out) ?_); rintro e w1 ⟨rfl, rfl⟩)
          go_ret
          exact ⟨rfl, HB.out⟩
        cases z4
        case false =>
          obtain rfl := HQ.out
          go_wp2_with (go_at_call 83; (with_reducible first | refine Calls.mono (ref_frames first _ D1.out) ?_ | refine Calls.mono (ref_frames ack _ D2.out) ?_ | refine Calls.mono (ref_frames frame _ D3.out) ?_); rintro e w1 ⟨rfl, rfl⟩)
          go_ret
          exact ⟨rfl, HB.out⟩
        obtain rfl := HQ.out
        go_wp2_with (go_at_call 83; (with_reducible first | refine Calls.mono (ref_frames first _ D1.out) ?_ | refine Calls.mono (ref_frames ack _ D2.out) ?_ | refine Calls.mono (ref_frames frame _ D3.out) ?_); rintro e w1 ⟨rfl, rfl⟩)
        go_ret
        exact ⟨rfl, HB.out⟩
    · obtain rfl : r = false := HR.out
      go_wp2
      go_ret
      exact ⟨rfl, HB.out⟩
end Go.Proofs.Ytbcgffgiifminaa
namespace Go.Proofs.Ytbcgffgiifminaa
open Go.RowKit
set_option maxRecDepth 10000
set_option linter.unusedVariables false
set_option maxRecDepth 10000 in
set_option maxHeartbeats 2000000 in
theorem runs_Encode (A : Option Addr) (n c B : Nat) (l : List UInt8) (w : World) (hA : LiesB w B A n l) (hB : B ≤ w.heap.size) (hn : n ≤ 10000) :
    Calls Try.prog 90 #[.slice A n c] w fun e w' => ∃ A' n' c', e = .returned (.slice A' n' c') ∧ OwnB w' w.heap.size A' n' c' (Runs.enc 0 l) ∧ Below w.heap.size w w' := by
  have hlen := Runs.enc_len n 0 l (by rw [hA.len]; omega) (by rw [hA.len]; omega)
  rw [hA.len] at hlen
  obtain ⟨R, hR⟩ : ∃ R, R = Runs.enc 0 l := ⟨_, rfl⟩
  rw [← hR] at hlen ⊢
  have HR := hide hR
  have HA := hide hA
  clear hR hA
  go_enter Try.func90, Try.ntmps90
  go_wp2
  go_loopw [3, 4, 5] (fun s x i wr => ∃ (k : Nat) (A' : Option Addr) (n' c' : Nat) (l' : List UInt8) (ah : UInt8), k ≤ n ∧ i = .int .i64 k ∧ x = .int .u8 (ah.toNat : Int) ∧ s = .slice A' n' c' ∧ OwnB wr w.heap.size A' n' c' l' ∧ l' ++ Runs.enc ah (l.drop k) = R ∧ Below w.heap.size w wr) (fun _ _ i _ => n - (intOf i).toNat)
  case atStart => exact ⟨0, _, _, _, [], 0, by omega, rfl, rfl, rfl, OwnB.nil _ _, by simp [HR.out], Below.refl _ _⟩
  case round =>
    obtain ⟨W1, hW1⟩ : ∃ W1, W1 = wr := ⟨_, rfl⟩
    subst hW1
    obtain ⟨k, A', n', c', l', ah, hk, rfl, rfl, rfl, hown, heq, hbel⟩ := hrel
    have HL := hide (HA.out.below (hbel.mono hB))
    have HO := hide hown
    have HB := hide hbel
    have hsz : w.heap.size ≤ W1.heap.size := hbel.size
    have hl' : n' ≤ 110000 := by
      have e2 := congrArg List.length heq
      have e3 := hown.len
      rw [List.length_append] at e2
      omega
    have HE := hide heq
    clear hown hbel heq
    by_cases hlt : k < n
    · obtain ⟨b, off, hlk, rfl, hbB, hc⟩ := HL.out.at_ hlt
      have hbw : b < w.heap.size := by omega
      obtain ⟨x, hx⟩ : ∃ x, x = l[k] := ⟨_, rfl⟩
      rw [← hx] at hc
      have hc0 : w.cell? ⟨b, off + k, none⟩ = some (.int .u8 (x.toNat : Int)) := (HB.out.cell (p := ⟨b, off + k, none⟩) hbw).symm.trans hc
      have HX := hide hx
      clear hx
      go_wp2
      go_loopw [6] (fun j wx => ∃ m q : Nat, k ≤ m ∧ m ≤ n ∧ j = .int .i64 m ∧ Runs.lead x (l.drop m) + (m - k) = Runs.lead x (l.drop k) ∧ wx = W1.drewN q) (fun j _ => n - (intOf j).toNat)
      case atStart => exact ⟨k, 0, by omega, hk, rfl, by omega, rfl⟩
      case round =>
        obtain ⟨m, q, hkm, hm, rfl, hlead, hwx⟩ := hrel
        have HLD := hide hlead
        have h1 := HL.out.drewN q
        have h2 : (W1.drewN q).cell? ⟨b, off + k, none⟩ = some (.int .u8 (x.toNat : Int)) := hc
        rw [← hwx] at h1 h2
        have HL1 := hide h1
        have HWX := hide hwx
        clear hlead hwx h1 hc
        have HGO := hide (show ∀ m, Runs.lead x (l.drop m) = 0 → Runs.lead x (l.drop m) + (m - k) = Runs.lead x (l.drop k) → k ≤ m → m ≤ n → l' ++ (Var.put (Var.zig ((m : Int) - k)) ++ [x ^^^ ah]) ++ Runs.enc x (l.drop m) = R from fun m h0 hm1 hm2 hm3 => by
          rw [← HE.out, Runs.enc_step (last := ah) hlk (by rw [← HX.out]; exact hm1) (by rw [← HX.out]; exact h0) hm2, ← HX.out]
          simp [List.append_assoc])
        by_cases hmn : m < n
        · obtain ⟨b2, off2, hlm, e2, -, hc2⟩ := HL1.out.at_ hmn
          injection e2 with e2
          injection e2 with e21 e22
          subst e21 e22
          by_cases hq : l[m] = x
          · rw [hq] at hc2
            have HQ := hide hq
            clear hq
            go_wp2
            go_quiet (fail)
            go_wp2
            exact ⟨⟨m + 1, q + nq, by omega, by omega, by go_num, by have := Runs.lead_eq hlm HQ.out; have := HLD.out; omega, by rw [HWX.out, World.drewN_drewN]⟩, by simp [intOf]; omega⟩
          · have hq2 : ¬ (l[m].toNat = x.toNat) := fun h => hq (UInt8.toNat_inj.1 h)
            have hlead0 : Runs.lead x (l.drop m) = 0 := Runs.lead_ne hlm hq
            generalize l[m] = y at hc2 hq2
            clear hq
            have hdec : ((y.toNat : Int) == (x.toNat : Int)) = false := by simp; omega
            go_wp2
            go_quiet (fail)
            go_wp2
            have hst := HGO.out m hlead0 HLD.out hkm hm
            have hmk : k < m := by have h1 := Runs.lead_eq (x := x) hlk HX.out.symm; have := HLD.out; omega
            have HST := hide hst
            have HO2 : OwnB (wr.drewN nq) w.heap.size A' n' c' l' := by rw [HWX.out]; exact (HO.out.drewN _).drewN _
            have HB2 : Below w.heap.size w (wr.drewN nq) := by rw [HWX.out]; exact Below_drewN (Below_drewN HB.out q) nq
            have hcw : (wr.drewN nq).cell? ⟨b, off + k, none⟩ = some (.int .u8 (x.toNat : Int)) := h2
            clear hst h2 hlead0
            generalize wr.drewN nq = W2 at HO2 HB2 hcw ⊢
            have HO3 := hide HO2
            have HB3 := hide HB2
            have hs3 : w.heap.size ≤ W2.heap.size := HB2.size
            have hs2 : w.heap.size ≤ W2.drew.heap.size := hs3
            have HO2 := hide HO3.out.drew
            have HB2 := hide HB3.out.drew
            have hp10 := Var.put_len10 (Var.zig ((m : Int) - k)) (Var.zig_lt _ (by omega) (by omega))
            have hxor := bits_xor8 x ah
            obtain ⟨z, hz⟩ : ∃ z, z = x ^^^ ah := ⟨_, rfl⟩
            rw [← hz] at hxor HST
            have HZ := hide hz
            clear hz
            have hwrap : IntKind.i64.wrap ((m : Int) - (k : Int)) = (m : Int) - (k : Int) := by rw [IntKind.wrap_i64]; omega
            go_wp2_with fail
            go_region_law (first
              | (go_simp; go_at_call 88; (refine Calls.mono (num_Put A' n' c' w.heap.size l' _ _ HO2.out hs2 (by omega) (by omega) (by omega)) ?_); rintro e w4 ⟨A4, n4, c4, rfl, own4, k4⟩; have HB4 : Below w.heap.size w w4 := HB2.out.trans (k4.belowOwn HO2.out hs2); have hc4 : w4.cell? ⟨b, off + k, none⟩ = some (.int .u8 (x.toNat : Int)) := (HB4.cell (p := ⟨b, off + k, none⟩) hbw).trans hc0; have hs4 := HB4.size; have hn4 := own4.len)
              | (go_simp; go_at_call 88; (refine Calls.mono (num_Put A' n' c' w.heap.size l' _ _ (HO3.out.below (Below_new _ _)).drew (by simp [World.drew]; omega) (by omega) (by omega) (by omega)) ?_); rintro e w4 ⟨A4, n4, c4, rfl, own4, k4⟩; have HB4 : Below w.heap.size w w4 := (HB3.out.trans ((Below_new _ _).mono hs3)).drew.trans (k4.belowOwn HO2.out (by simp [World.drew]; omega)); have L4 := (LiesB.new W2 _ _ _ [z] 1 rfl rfl).drew.keeps k4 (by intro b' off' e _ hs; injection e with e; injection e with e1 e2; have := (HO3.out.blk b' hs).2; omega); have hc4 : w4.cell? ⟨b, off + k, none⟩ = some (.int .u8 (x.toNat : Int)) := (HB4.cell (p := ⟨b, off + k, none⟩) hbw).trans hc0; have hs4 := HB4.size; have hn4 := own4.len)
              | (refine step_appendB rfl (.tmp 33) (.tmp 40) rfl w.heap.size A4 n4 c4 _ rfl own4 _ _ 1 1 [z] rfl L4 (n4 + 1) _ rfl rfl (by rw [List.length_append] at hn4; have := HO2.out.len; omega) hs4 ?_; intro A5 c5 w5 own5 k5 hk5; have HB5 : Below w.heap.size w w5 := HB4.trans (k5.belowOwn own4 hs4))
              | (refine step_appendB rfl (.tmp 33) (.tmp 40) rfl w.heap.size A4 n4 c4 _ rfl (own4.below (Below_new _ _)) _ _ 1 1 [z] rfl (LiesB.new _ _ _ _ _ _ rfl rfl) (n4 + 1) _ rfl rfl (by rw [List.length_append] at hn4; have := HO2.out.len; omega) (by simp; omega) ?_; intro A5 c5 w5 own5 k5 hk5; have HB5 : Below w.heap.size w w5 := (HB4.trans ((Below_new _ _).mono hs4)).trans (k5.belowOwn own4 (by simp; omega))))
            all_goals
              have hc5 : w5.cell? ⟨b, off + k, none⟩ = some (.int .u8 (x.toNat : Int)) := (HB5.cell (p := ⟨b, off + k, none⟩) hbw).trans hc0
              have HB6 := hide HB5
              have HO6 := hide own5
              clear HB5 own5 hk5 k5
              go_wp2
              exact ⟨⟨m, A5, n4 + 1, c5, _, x, hm, rfl, rfl, rfl, HO6.out, by rw [← HST.out]; simp [List.append_assoc], HB6.out⟩, by simp [intOf]; omega⟩
        · have hlead0 : Runs.lead x (l.drop m) = 0 := Runs.lead_end (by rw [HL1.out.len]; omega)
          go_wp2
          go_quiet (fail)
          go_wp2
          have hst := HGO.out m hlead0 HLD.out hkm hm
          have hmk : k < m := by have h1 := Runs.lead_eq (x := x) hlk HX.out.symm; have := HLD.out; omega
          have HST := hide hst
          have HO2 : OwnB (wr.drewN nq) w.heap.size A' n' c' l' := by rw [HWX.out]; exact (HO.out.drewN _).drewN _
          have HB2 : Below w.heap.size w (wr.drewN nq) := by rw [HWX.out]; exact Below_drewN (Below_drewN HB.out q) nq
          have hcw : (wr.drewN nq).cell? ⟨b, off + k, none⟩ = some (.int .u8 (x.toNat : Int)) := h2
          clear hst h2 hlead0
          generalize wr.drewN nq = W2 at HO2 HB2 hcw ⊢
          have HO3 := hide HO2
          have HB3 := hide HB2
          have hs3 : w.heap.size ≤ W2.heap.size := HB2.size
          have hs2 : w.heap.size ≤ W2.drew.heap.size := hs3
          have HO2 := hide HO3.out.drew
          have HB2 := hide HB3.out.drew
          have hp10 := Var.put_len10 (Var.zig ((m : Int) - k)) (Var.zig_lt _ (by omega) (by omega))
          have hxor := bits_xor8 x ah
          obtain ⟨z, hz⟩ : ∃ z, z = x ^^^ ah := ⟨_, rfl⟩
          rw [← hz] at hxor HST
          have HZ := hide hz
          clear hz
          have hwrap : IntKind.i64.wrap ((m : Int) - (k : Int)) = (m : Int) - (k : Int) := by rw [IntKind.wrap_i64]; omega
          go_wp2_with fail
          go_region_law (first
            | (go_simp; go_at_call 88; (refine Calls.mono (num_Put A' n' c' w.heap.size l' _ _ HO2.out hs2 (by omega) (by omega) (by omega)) ?_); rintro e w4 ⟨A4, n4, c4, rfl, own4, k4⟩; have HB4 : Below w.heap.size w w4 := HB2.out.trans (k4.belowOwn HO2.out hs2); have hc4 : w4.cell? ⟨b, off + k, none⟩ = some (.int .u8 (x.toNat : Int)) := (HB4.cell (p := ⟨b, off + k, none⟩) hbw).trans hc0; have hs4 := HB4.size; have hn4 := own4.len)
            | (go_simp; go_at_call 88; (refine Calls.mono (num_Put A' n' c' w.heap.size l' _ _ (HO3.out.below (Below_new _ _)).drew (by simp [World.drew]; omega) (by omega) (by omega) (by omega)) ?_); rintro e w4 ⟨A4, n4, c4, rfl, own4, k4⟩; have HB4 : Below w.heap.size w w4 := (HB3.out.trans ((Below_new _ _).mono hs3)).drew.trans (k4.belowOwn HO2.out (by simp [World.drew]; omega)); have L4 := (LiesB.new W2 _ _ _ [z] 1 rfl rfl).drew.keeps k4 (by intro b' off' e _ hs; injection e with e; injection e with e1 e2; have := (HO3.out.blk b' hs).2; omega); have hc4 : w4.cell? ⟨b, off + k, none⟩ = some (.int .u8 (x.toNat : Int)) := (HB4.cell (p := ⟨b, off + k, none⟩) hbw).trans hc0; have hs4 := HB4.size; have hn4 := own4.len)
            | (refine step_appendB rfl (.tmp 33) (.tmp 40) rfl w.heap.size A4 n4 c4 _ rfl own4 _ _ 1 1 [z] rfl L4 (n4 + 1) _ rfl rfl (by rw [List.length_append] at hn4; have := HO2.out.len; omega) hs4 ?_; intro A5 c5 w5 own5 k5 hk5; have HB5 : Below w.heap.size w w5 := HB4.trans (k5.belowOwn own4 hs4))
            | (refine step_appendB rfl (.tmp 33) (.tmp 40) rfl w.heap.size A4 n4 c4 _ rfl (own4.below (Below_new _ _)) _ _ 1 1 [z] rfl (LiesB.new _ _ _ _ _ _ rfl rfl) (n4 + 1) _ rfl rfl (by rw [List.length_append] at hn4; have := HO2.out.len; omega) (by simp; omega) ?_; intro A5 c5 w5 own5 k5 hk5; have HB5 : Below w.heap.size w w5 := (HB4.trans ((Below_new _ _).mono hs4)).trans (k5.belowOwn own4 (by simp; omega))))
          all_goals
            have hc5 : w5.cell? ⟨b, off + k, none⟩ = some (.int .u8 (x.toNat : Int)) := (HB5.cell (p := ⟨b, off + k, none⟩) hbw).trans hc0
            have HB6 := hide HB5
            have HO6 := hide own5
            clear HB5 own5 hk5 k5
            go_wp2
            exact ⟨⟨m, A5, n4 + 1, c5, _, x, hm, rfl, rfl, rfl, HO6.out, by rw [← HST.out]; simp [List.append_assoc], HB6.out⟩, by simp [intOf]; omega⟩
    · obtain rfl : k = n := by omega
      go_wp2
      go_ret
      refine ⟨A', n', c', rfl, ?_, HB.out⟩
      have := HE.out
      rw [List.drop_eq_nil_of_le (by rw [HL.out.len]; omega), Runs.enc_nil, List.append_nil] at this
      rw [← this]
      exact HO.out
end Go.Proofs.Ytbcgffgiifminaa
namespace Go.Proofs.Ytbcgffgiifminaa
open Go.RowKit
set_option maxRecDepth 10000
set_option linter.unusedVariables false
namespace Var
theorem zig_neg2 {v : Int} (h : v < 0) (lo : -9223372036854775808 ≤ v) : bits BinOp.xor IntKind.u64 IntKind.u64.max (IntKind.u64.wrap (IntKind.u64.wrap v * 2)) = (zig v : Int) := zig_neg h lo
theorem wrap128 (u : Nat) : ((u : Int) % 128 + 128) = ((UInt8.ofNat (u % 128 + 128)).toNat : Int) := by
  rw [UInt8.toNat_ofNat']; omega
end Var
set_option maxRecDepth 10000 in
set_option maxHeartbeats 1000000 in
theorem ref_Put (v : Int) (w : World) (lo : -9223372036854775808 ≤ v) (hi : v ≤ 9223372036854775807) :
    Calls Try.prog 56 #[.int .i64 v] w fun e w' => ∃ A' n' c', e = .returned (.slice A' n' c') ∧ OwnB w' w.heap.size A' n' c' (Var.put (Var.zig v)) ∧ Below w.heap.size w w' := by
  have hz := Var.zig_lt v lo hi
  have h10 := Var.put_len10 _ hz
  obtain ⟨u0, hu0⟩ : ∃ u0, u0 = Var.zig v := ⟨_, rfl⟩
  rw [← hu0] at hz h10 ⊢
  have Hz := hide hz
  have Hu := hide hu0
  clear hz hu0
  by_cases hv : v < 0
  · have e1 := Var.zig_neg hv lo
    rw [← Hu.out] at e1
    have sg : IntKind.u64.signed = false := rfl
    go_enter Try.func56, Try.ntmps56
    go_wp2
    all_goals clear e1
    go_loopw [3, 4] (fun x s wr => ∃ A' n' c' l' u, s = .slice A' n' c' ∧ x = .int .u64 (u : Nat) ∧ u < 18446744073709551616 ∧ OwnB wr w.heap.size A' n' c' l' ∧ l' ++ Var.put u = Var.put u0 ∧ Below w.heap.size w wr) (fun x _ _ => (intOf x).toNat)
    case atStart => exact ⟨_, _, _, [], u0, rfl, rfl, Hz.out, OwnB.nil _ _, rfl, Below.refl _ _⟩
    case round =>
      obtain ⟨A', n', c', l', u, rfl, rfl, hu, hown, heq, hbel⟩ := hrel
      have hlen : n' ≤ 10 := by
        have e2 := congrArg List.length heq
        have e3 := hown.len
        rw [List.length_append] at e2
        omega
      have hb2 : w.heap.size ≤ wr.heap.size := by have := hbel.size; omega
      have HO := hide hown
      have HB := hide hbel
      have HE := hide heq
      have HU := hide hu
      clear hown hbel heq hu
      by_cases hbig : 127 < u
      · go_wp2_with (at_builtin; refine wpB_append rfl (.tmp 14) (.tmp 19) rfl w.heap.size A' n' c' l' rfl (HO.out.below (Below_new _ _)) _ _ 1 1 [UInt8.ofNat (u % 128 + 128)] rfl (LiesB.new _ _ _ _ _ _ rfl (congrArg (fun z => [Value.int .u8 z]) (Var.wrap128 u))) (n' + 1) _ rfl rfl (by omega) (by simp; omega) ?_; intro A2 c2 w2 own2 hb3 hg2)
        rw [show IntKind.u64.wrap ((u : Int) / 128) = ((u / 128 : Nat) : Int) from by have := HU.out; rw [IntKind.wrap_u64]; omega]
        refine ⟨⟨A2, n' + 1, c2, _, u / 128, rfl, rfl, by have := HU.out; omega, own2, ?_, HB.out.trans ((Below_new _ _).mono hb2 |>.trans hb3)⟩, by simp [intOf]; omega⟩
        rw [← HE.out, List.append_assoc, Var.put_big (u := u) (by omega)]; rfl
      · go_wp2_with (at_builtin; refine wpB_append rfl (.tmp 23) (.tmp 26) rfl w.heap.size A' n' c' l' rfl (HO.out.below (Below_new _ _)) _ _ 1 1 [UInt8.ofNat u] rfl (LiesB.new _ _ _ _ _ _ rfl (by simp [bv]; omega)) (n' + 1) _ rfl rfl (by omega) (by simp; omega) ?_; intro A2 c2 w2 own2 hb3 hg2)
        go_ret
        refine ⟨A2, n' + 1, c2, rfl, ?_, HB.out.trans ((Below_new _ _).mono hb2 |>.trans hb3)⟩
        rw [← HE.out, Var.put_small (u := u) (by omega)]
        exact own2
  · have sg : IntKind.u64.signed = false := rfl
    have e1 : v * 2 = (u0 : Int) := by rw [Hu.out, Var.zig, if_neg hv]; omega
    go_enter Try.func56, Try.ntmps56
    go_wp2
    try rw [e1]
    clear e1
    go_loopw [3, 4] (fun x s wr => ∃ A' n' c' l' u, s = .slice A' n' c' ∧ x = .int .u64 (u : Nat) ∧ u < 18446744073709551616 ∧ OwnB wr w.heap.size A' n' c' l' ∧ l' ++ Var.put u = Var.put u0 ∧ Below w.heap.size w wr) (fun x _ _ => (intOf x).toNat)
    case atStart => exact ⟨_, _, _, [], u0, rfl, rfl, Hz.out, OwnB.nil _ _, rfl, Below.refl _ _⟩
    case round =>
      obtain ⟨A', n', c', l', u, rfl, rfl, hu, hown, heq, hbel⟩ := hrel
      have hlen : n' ≤ 10 := by
        have e2 := congrArg List.length heq
        have e3 := hown.len
        rw [List.length_append] at e2
        omega
      have hb2 : w.heap.size ≤ wr.heap.size := by have := hbel.size; omega
      have HO := hide hown
      have HB := hide hbel
      have HE := hide heq
      have HU := hide hu
      clear hown hbel heq hu
      by_cases hbig : 127 < u
      · go_wp2_with (at_builtin; refine wpB_append rfl (.tmp 14) (.tmp 19) rfl w.heap.size A' n' c' l' rfl (HO.out.below (Below_new _ _)) _ _ 1 1 [UInt8.ofNat (u % 128 + 128)] rfl (LiesB.new _ _ _ _ _ _ rfl (congrArg (fun z => [Value.int .u8 z]) (Var.wrap128 u))) (n' + 1) _ rfl rfl (by omega) (by simp; omega) ?_; intro A2 c2 w2 own2 hb3 hg2)
        rw [show IntKind.u64.wrap ((u : Int) / 128) = ((u / 128 : Nat) : Int) from by have := HU.out; rw [IntKind.wrap_u64]; omega]
        refine ⟨⟨A2, n' + 1, c2, _, u / 128, rfl, rfl, by have := HU.out; omega, own2, ?_, HB.out.trans ((Below_new _ _).mono hb2 |>.trans hb3)⟩, by simp [intOf]; omega⟩
        rw [← HE.out, List.append_assoc, Var.put_big (u := u) (by omega)]; rfl
      · go_wp2_with (at_builtin; refine wpB_append rfl (.tmp 23) (.tmp 26) rfl w.heap.size A' n' c' l' rfl (HO.out.below (Below_new _ _)) _ _ 1 1 [UInt8.ofNat u] rfl (LiesB.new _ _ _ _ _ _ rfl (by simp [bv]; omega)) (n' + 1) _ rfl rfl (by omega) (by simp; omega) ?_; intro A2 c2 w2 own2 hb3 hg2)
        go_ret
        refine ⟨A2, n' + 1, c2, rfl, ?_, HB.out.trans ((Below_new _ _).mono hb2 |>.trans hb3)⟩
        rw [← HE.out, Var.put_small (u := u) (by omega)]
        exact own2
end Go.Proofs.Ytbcgffgiifminaa
namespace Go.Proofs.Ytbcgffgiifminaa
open Go.RowKit
set_option maxRecDepth 10000
set_option linter.unusedVariables false
set_option maxRecDepth 10000 in
set_option maxHeartbeats 2000000 in
theorem ref_Runs (A : Option Addr) (n c B : Nat) (l : List UInt8) (w : World) (hA : LiesB w B A n l) (hB : B ≤ w.heap.size) (hn : n ≤ 10000) :
    Calls Try.prog 58 #[.slice A n c] w fun e w' => ∃ A' n' c', e = .returned (.slice A' n' c') ∧ OwnB w' w.heap.size A' n' c' (Runs.enc 0 l) ∧ Below w.heap.size w w' := by
  have hlen := Runs.enc_len n 0 l (by rw [hA.len]; omega) (by rw [hA.len]; omega)
  rw [hA.len] at hlen
  obtain ⟨R, hR⟩ : ∃ R, R = Runs.enc 0 l := ⟨_, rfl⟩
  rw [← hR] at hlen ⊢
  have HR := hide hR
  have HA := hide hA
  clear hR hA
  go_enter Try.func58, Try.ntmps58
  go_wp2
  go_loopw [3, 4, 5] (fun s x i wr => ∃ (k : Nat) (A' : Option Addr) (n' c' : Nat) (l' : List UInt8) (ah : UInt8), k ≤ n ∧ i = .int .i64 k ∧ x = .int .u8 (ah.toNat : Int) ∧ s = .slice A' n' c' ∧ OwnB wr w.heap.size A' n' c' l' ∧ l' ++ Runs.enc ah (l.drop k) = R ∧ Below w.heap.size w wr) (fun _ _ i _ => n - (intOf i).toNat)
  case atStart => exact ⟨0, _, _, _, [], 0, by omega, rfl, rfl, rfl, OwnB.nil _ _, by simp [HR.out], Below.refl _ _⟩
  case round =>
    obtain ⟨W1, hW1⟩ : ∃ W1, W1 = wr := ⟨_, rfl⟩
    subst hW1
    obtain ⟨k, A', n', c', l', ah, hk, rfl, rfl, rfl, hown, heq, hbel⟩ := hrel
    have HL := hide (HA.out.below (hbel.mono hB))
    have HO := hide hown
    have HB := hide hbel
    have hsz : w.heap.size ≤ W1.heap.size := hbel.size
    have hl' : n' ≤ 110000 := by
      have e2 := congrArg List.length heq
      have e3 := hown.len
      rw [List.length_append] at e2
      omega
    have HE := hide heq
    clear hown hbel heq
    by_cases hlt : k < n
    · obtain ⟨b, off, hlk, rfl, hbB, hc⟩ := HL.out.at_ hlt
      have hbw : b < w.heap.size := by omega
      obtain ⟨x, hx⟩ : ∃ x, x = l[k] := ⟨_, rfl⟩
      rw [← hx] at hc
      have hc0 : w.cell? ⟨b, off + k, none⟩ = some (.int .u8 (x.toNat : Int)) := (HB.out.cell (p := ⟨b, off + k, none⟩) hbw).symm.trans hc
      have HX := hide hx
      clear hx
      go_wp2
      go_loopw [6] (fun j wx => ∃ c1 q : Nat, 1 ≤ c1 ∧ k + c1 ≤ n ∧ j = .int .i64 c1 ∧ Runs.lead x (l.drop (k + c1)) + c1 = Runs.lead x (l.drop k) ∧ wx = W1.drewN q) (fun j _ => n - (intOf j).toNat)
      case atStart => exact ⟨1, 0, by omega, hlt, rfl, (Runs.lead_eq hlk HX.out.symm).symm, rfl⟩
      case round =>
        obtain ⟨c1, q, hc1, hm, rfl, hlead, hwx⟩ := hrel
        obtain ⟨m, hmm⟩ : ∃ m, m = k + c1 := ⟨_, rfl⟩
        rw [← hmm] at hm hlead
        have hmi : (k : Int) + (c1 : Int) = (m : Int) := by omega
        clear hmm
        have HLD := hide hlead
        have h1 := HL.out.drewN q
        have h2 : (W1.drewN q).cell? ⟨b, off + k, none⟩ = some (.int .u8 (x.toNat : Int)) := hc
        rw [← hwx] at h1 h2
        have HL1 := hide h1
        have HWX := hide hwx
        clear hlead hwx h1 hc
        have HGO := hide (show Runs.lead x (l.drop m) = 0 → l' ++ (Var.put (Var.zig (c1 : Int)) ++ [x ^^^ ah]) ++ Runs.enc x (l.drop m) = R from fun h0 => by
          rw [← HE.out, Runs.enc_step (last := ah) (k := m) hlk (by rw [← HX.out]; have := HLD.out; omega) (by rw [← HX.out]; exact h0) (by omega), ← HX.out, show ((m : Int) - (k : Int)) = (c1 : Int) by omega]
          simp [List.append_assoc])
        by_cases hmn : m < n
        · obtain ⟨b2, off2, hlm, e2, -, hc2⟩ := HL1.out.at_ hmn
          injection e2 with e2
          injection e2 with e21 e22
          subst e21 e22
          by_cases hq : l[m] = x
          · rw [hq] at hc2
            have HQ := hide hq
            clear hq
            go_wp2
            go_quiet (fail)
            go_wp2
            exact ⟨⟨c1 + 1, q + nq, by omega, by omega, by go_num, by have := Runs.lead_eq hlm HQ.out; have := HLD.out; rw [show k + (c1 + 1) = m + 1 by omega]; omega, by rw [HWX.out, World.drewN_drewN]⟩, by simp [intOf]; omega⟩
          · have hq2 : ¬ (l[m].toNat = x.toNat) := fun h => hq (UInt8.toNat_inj.1 h)
            have hlead0 : Runs.lead x (l.drop m) = 0 := Runs.lead_ne hlm hq
            generalize l[m] = y at hc2 hq2
            clear hq
            have hdec : ((y.toNat : Int) == (x.toNat : Int)) = false := by simp; omega
            go_wp2
            go_quiet (fail)
            go_wp2
            have hst := HGO.out hlead0
            have HST := hide hst
            have HO2 : OwnB (wr.drewN nq) w.heap.size A' n' c' l' := by rw [HWX.out]; exact (HO.out.drewN _).drewN _
            have HB2 : Below w.heap.size w (wr.drewN nq) := by rw [HWX.out]; exact Below_drewN (Below_drewN HB.out q) nq
            have hcw : (wr.drewN nq).cell? ⟨b, off + k, none⟩ = some (.int .u8 (x.toNat : Int)) := h2
            clear hst h2 hlead0
            generalize wr.drewN nq = W2 at HO2 HB2 hcw ⊢
            have HO3 := hide HO2
            have HB3 := hide HB2
            have hs3 : w.heap.size ≤ W2.heap.size := HB2.size
            have hs2 : w.heap.size ≤ W2.drew.heap.size := hs3
            have HO2 := hide HO3.out.drew
            have HB2 := hide HB3.out.drew
            have hp10 := Var.put_len10 (Var.zig (c1 : Int)) (Var.zig_lt _ (by omega) (by omega))
            have hxor := bits_xor8 x ah
            obtain ⟨z, hz⟩ : ∃ z, z = x ^^^ ah := ⟨_, rfl⟩
            rw [← hz] at hxor HST
            have HZ := hide hz
            clear hz
            obtain ⟨P, hP⟩ : ∃ P, P = Var.put (Var.zig (c1 : Int)) := ⟨_, rfl⟩
            rw [← hP] at hp10 HST
            have HP := hide hP
            clear hP
            go_wp2_with fail
            go_region_law (first
              | (go_simp; go_at_call 56; (refine Calls.mono (ref_Put (c1 : Int) _ (by omega) (by omega)) ?_); rintro e w4 ⟨A4, n4, c4, rfl, own4, hb4⟩; rw [← HP.out] at own4; have HO4 := HO2.out.below (w' := w4) hb4; have HB4 : Below w.heap.size w w4 := HB2.out.trans (hb4.mono hs2); have hs4 := HB4.size; have hn4 := own4.len; have hc4 : w4.cell? ⟨b, off + k, none⟩ = some (.int .u8 (x.toNat : Int)) := (HB4.cell (p := ⟨b, off + k, none⟩) hbw).trans hc0)
              | (go_simp; go_at_call 56; (refine Calls.mono (ref_Put (c1 : Int) _ (by omega) (by omega)) ?_); rintro e w4 ⟨A4, n4, c4, rfl, own4, hb4⟩; rw [← HP.out] at own4; have HO4 := (HO3.out.below (Below_new _ _)).drew.below (w' := w4) hb4; have HB4 : Below w.heap.size w w4 := (HB3.out.trans ((Below_new _ _).mono hs3)).drew.trans (hb4.mono (by simp [World.drew]; omega)); have L4 := (LiesB.new W2 _ _ _ [z] 1 rfl rfl).drew.below (w' := w4) (hb4.mono (by simp [World.drew])); have hs4 := HB4.size; have hn4 := own4.len; have hc4 : w4.cell? ⟨b, off + k, none⟩ = some (.int .u8 (x.toNat : Int)) := (HB4.cell (p := ⟨b, off + k, none⟩) hbw).trans hc0)
              | (refine step_appendB rfl (.tmp 32) (.tmp 34) rfl w.heap.size A' n' c' l' rfl HO4 _ A4 n4 c4 _ rfl own4.lies (n' + n4) _ rfl rfl (by omega) hs4 ?_; intro A5 c5 w5 own5 k5 hk5; have HB5 : Below w.heap.size w w5 := HB4.trans (k5.belowOwn HO4 hs4); have L5 := L4.keeps k5 (by intro b' off' e _ hs; injection e with e; injection e with e1 e2; have := (HO3.out.blk b' hs).2; omega); have hs5 := HB5.size; have hc5 : w5.cell? ⟨b, off + k, none⟩ = some (.int .u8 (x.toNat : Int)) := (HB5.cell (p := ⟨b, off + k, none⟩) hbw).trans hc0)
              | (refine step_appendB rfl (.tmp 32) (.tmp 34) rfl w.heap.size A' n' c' l' rfl HO4 _ A4 n4 c4 _ rfl own4.lies (n' + n4) _ rfl rfl (by omega) hs4 ?_; intro A5 c5 w5 own5 k5 hk5; have HB5 : Below w.heap.size w w5 := HB4.trans (k5.belowOwn HO4 hs4); have hs5 := HB5.size; have hc5 : w5.cell? ⟨b, off + k, none⟩ = some (.int .u8 (x.toNat : Int)) := (HB5.cell (p := ⟨b, off + k, none⟩) hbw).trans hc0)
              | (refine step_appendB rfl (.tmp 32) (.tmp 34) rfl w.heap.size A' n' c' l' rfl (HO4.below (Below_new _ _)) _ A4 n4 c4 _ rfl (own4.lies.below (Below_new _ _)) (n' + n4) _ rfl rfl (by omega) (by simp; omega) ?_; intro A5 c5 w5 own5 k5 hk5; have HB5 : Below w.heap.size w w5 := (HB4.trans ((Below_new _ _).mono hs4)).trans (k5.belowOwn HO4 (by simp; omega)); have L5 := (LiesB.new w4 _ _ _ [z] 1 rfl rfl).keeps k5 (by intro b' off' e _ hs; injection e with e; injection e with e1 e2; have := (HO4.blk b' hs).2; omega); have hs5 := HB5.size; have hc5 : w5.cell? ⟨b, off + k, none⟩ = some (.int .u8 (x.toNat : Int)) := (HB5.cell (p := ⟨b, off + k, none⟩) hbw).trans hc0)
              | (refine step_appendB rfl (.tmp 35) (.tmp 42) rfl w.heap.size A5 (n' + n4) c5 _ rfl own5 _ _ 1 1 [z] rfl L5 (n' + n4 + 1) _ rfl rfl (by omega) hs5 ?_; intro A6 c6 w6 own6 k6 hk6; have HB6 : Below w.heap.size w w6 := HB5.trans (k6.belowOwn own5 hs5))
              | (refine step_appendB rfl (.tmp 35) (.tmp 42) rfl w.heap.size A5 (n' + n4) c5 _ rfl (own5.below (Below_new _ _)) _ _ 1 1 [z] rfl (LiesB.new _ _ _ _ _ _ rfl rfl) (n' + n4 + 1) _ rfl rfl (by omega) (by simp; omega) ?_; intro A6 c6 w6 own6 k6 hk6; have HB6 : Below w.heap.size w w6 := (HB5.trans ((Below_new _ _).mono hs5)).trans (k6.belowOwn own5 (by simp; omega))))
            all_goals
              have hc6 : w6.cell? ⟨b, off + k, none⟩ = some (.int .u8 (x.toNat : Int)) := (HB6.cell (p := ⟨b, off + k, none⟩) hbw).trans hc0
              have HB7 := hide HB6
              have HO7 := hide own6
              clear HB6 own6 hk6 k6
              go_wp2
              exact ⟨⟨m, A6, n' + n4 + 1, c6, _, x, hm, by go_num, rfl, rfl, HO7.out, by rw [← HST.out]; simp [List.append_assoc], HB7.out⟩, by simp [intOf]; omega⟩
        · have hlead0 : Runs.lead x (l.drop m) = 0 := Runs.lead_end (by rw [HL1.out.len]; omega)
          go_wp2
          go_quiet (fail)
          go_wp2
          have hst := HGO.out hlead0
          have HST := hide hst
          have HO2 : OwnB (wr.drewN nq) w.heap.size A' n' c' l' := by rw [HWX.out]; exact (HO.out.drewN _).drewN _
          have HB2 : Below w.heap.size w (wr.drewN nq) := by rw [HWX.out]; exact Below_drewN (Below_drewN HB.out q) nq
          have hcw : (wr.drewN nq).cell? ⟨b, off + k, none⟩ = some (.int .u8 (x.toNat : Int)) := h2
          clear hst h2 hlead0
          generalize wr.drewN nq = W2 at HO2 HB2 hcw ⊢
          have HO3 := hide HO2
          have HB3 := hide HB2
          have hs3 : w.heap.size ≤ W2.heap.size := HB2.size
          have hs2 : w.heap.size ≤ W2.drew.heap.size := hs3
          have HO2 := hide HO3.out.drew
          have HB2 := hide HB3.out.drew
          have hp10 := Var.put_len10 (Var.zig (c1 : Int)) (Var.zig_lt _ (by omega) (by omega))
          have hxor := bits_xor8 x ah
          obtain ⟨z, hz⟩ : ∃ z, z = x ^^^ ah := ⟨_, rfl⟩
          rw [← hz] at hxor HST
          have HZ := hide hz
          clear hz
          obtain ⟨P, hP⟩ : ∃ P, P = Var.put (Var.zig (c1 : Int)) := ⟨_, rfl⟩
          rw [← hP] at hp10 HST
          have HP := hide hP
          clear hP
          go_wp2_with fail
          go_region_law (first
            | (go_simp; go_at_call 56; (refine Calls.mono (ref_Put (c1 : Int) _ (by omega) (by omega)) ?_); rintro e w4 ⟨A4, n4, c4, rfl, own4, hb4⟩; rw [← HP.out] at own4; have HO4 := HO2.out.below (w' := w4) hb4; have HB4 : Below w.heap.size w w4 := HB2.out.trans (hb4.mono hs2); have hs4 := HB4.size; have hn4 := own4.len; have hc4 : w4.cell? ⟨b, off + k, none⟩ = some (.int .u8 (x.toNat : Int)) := (HB4.cell (p := ⟨b, off + k, none⟩) hbw).trans hc0)
            | (go_simp; go_at_call 56; (refine Calls.mono (ref_Put (c1 : Int) _ (by omega) (by omega)) ?_); rintro e w4 ⟨A4, n4, c4, rfl, own4, hb4⟩; rw [← HP.out] at own4; have HO4 := (HO3.out.below (Below_new _ _)).drew.below (w' := w4) hb4; have HB4 : Below w.heap.size w w4 := (HB3.out.trans ((Below_new _ _).mono hs3)).drew.trans (hb4.mono (by simp [World.drew]; omega)); have L4 := (LiesB.new W2 _ _ _ [z] 1 rfl rfl).drew.below (w' := w4) (hb4.mono (by simp [World.drew])); have hs4 := HB4.size; have hn4 := own4.len; have hc4 : w4.cell? ⟨b, off + k, none⟩ = some (.int .u8 (x.toNat : Int)) := (HB4.cell (p := ⟨b, off + k, none⟩) hbw).trans hc0)
            | (refine step_appendB rfl (.tmp 32) (.tmp 34) rfl w.heap.size A' n' c' l' rfl HO4 _ A4 n4 c4 _ rfl own4.lies (n' + n4) _ rfl rfl (by omega) hs4 ?_; intro A5 c5 w5 own5 k5 hk5; have HB5 : Below w.heap.size w w5 := HB4.trans (k5.belowOwn HO4 hs4); have L5 := L4.keeps k5 (by intro b' off' e _ hs; injection e with e; injection e with e1 e2; have := (HO3.out.blk b' hs).2; omega); have hs5 := HB5.size; have hc5 : w5.cell? ⟨b, off + k, none⟩ = some (.int .u8 (x.toNat : Int)) := (HB5.cell (p := ⟨b, off + k, none⟩) hbw).trans hc0)
            | (refine step_appendB rfl (.tmp 32) (.tmp 34) rfl w.heap.size A' n' c' l' rfl HO4 _ A4 n4 c4 _ rfl own4.lies (n' + n4) _ rfl rfl (by omega) hs4 ?_; intro A5 c5 w5 own5 k5 hk5; have HB5 : Below w.heap.size w w5 := HB4.trans (k5.belowOwn HO4 hs4); have hs5 := HB5.size; have hc5 : w5.cell? ⟨b, off + k, none⟩ = some (.int .u8 (x.toNat : Int)) := (HB5.cell (p := ⟨b, off + k, none⟩) hbw).trans hc0)
            | (refine step_appendB rfl (.tmp 32) (.tmp 34) rfl w.heap.size A' n' c' l' rfl (HO4.below (Below_new _ _)) _ A4 n4 c4 _ rfl (own4.lies.below (Below_new _ _)) (n' + n4) _ rfl rfl (by omega) (by simp; omega) ?_; intro A5 c5 w5 own5 k5 hk5; have HB5 : Below w.heap.size w w5 := (HB4.trans ((Below_new _ _).mono hs4)).trans (k5.belowOwn HO4 (by simp; omega)); have L5 := (LiesB.new w4 _ _ _ [z] 1 rfl rfl).keeps k5 (by intro b' off' e _ hs; injection e with e; injection e with e1 e2; have := (HO4.blk b' hs).2; omega); have hs5 := HB5.size; have hc5 : w5.cell? ⟨b, off + k, none⟩ = some (.int .u8 (x.toNat : Int)) := (HB5.cell (p := ⟨b, off + k, none⟩) hbw).trans hc0)
            | (refine step_appendB rfl (.tmp 35) (.tmp 42) rfl w.heap.size A5 (n' + n4) c5 _ rfl own5 _ _ 1 1 [z] rfl L5 (n' + n4 + 1) _ rfl rfl (by omega) hs5 ?_; intro A6 c6 w6 own6 k6 hk6; have HB6 : Below w.heap.size w w6 := HB5.trans (k6.belowOwn own5 hs5))
            | (refine step_appendB rfl (.tmp 35) (.tmp 42) rfl w.heap.size A5 (n' + n4) c5 _ rfl (own5.below (Below_new _ _)) _ _ 1 1 [z] rfl (LiesB.new _ _ _ _ _ _ rfl rfl) (n' + n4 + 1) _ rfl rfl (by omega) (by simp; omega) ?_; intro A6 c6 w6 own6 k6 hk6; have HB6 : Below w.heap.size w w6 := (HB5.trans ((Below_new _ _).mono hs5)).trans (k6.belowOwn own5 (by simp; omega))))
          all_goals
            have hc6 : w6.cell? ⟨b, off + k, none⟩ = some (.int .u8 (x.toNat : Int)) := (HB6.cell (p := ⟨b, off + k, none⟩) hbw).trans hc0
            have HB7 := hide HB6
            have HO7 := hide own6
            clear HB6 own6 hk6 k6
            go_wp2
            exact ⟨⟨m, A6, n' + n4 + 1, c6, _, x, hm, by go_num, rfl, rfl, HO7.out, by rw [← HST.out]; simp [List.append_assoc], HB7.out⟩, by simp [intOf]; omega⟩
    · obtain rfl : k = n := by omega
      go_wp2
      go_ret
      refine ⟨A', n', c', rfl, ?_, HB.out⟩
      have := HE.out
      rw [List.drop_eq_nil_of_le (by rw [HL.out.len]; omega), Runs.enc_nil, List.append_nil] at this
      rw [← this]
      exact HO.out
end Go.Proofs.Ytbcgffgiifminaa
namespace Go.Proofs.Ytbcgffgiifminaa
open Go.RowKit
set_option maxRecDepth 10000
set_option maxHeartbeats 400000 in
theorem ref_Four (a : Int) (w : World) (h1 : 0 ≤ a) (h2 : a < 4294967296) : Calls Try.prog 57 #[.int .u32 a] w fun e w' =>
    ∃ A c, e = .returned (.slice A 4 c) ∧ OwnB w' w.heap.size A 4 c (be32 a) ∧ Below w.heap.size w w' := by
  have HE := hide (Int.emod_eq_of_lt h1 h2)
  go_enter Try.func57, Try.ntmps57
  go_wp2
  go_ret
  refine ⟨_, _, rfl, OwnB.new _ _ 4 _ rfl (by simp [maxLen]) ?_, Below_new _ _⟩
  have := be32_cells a
  rw [HE.out] at this
  exact this
end Go.Proofs.Ytbcgffgiifminaa
