/-
  Numbers: remainders, wraps, four bytes of a number.
-/
import Derived.Test.YtciogjnchpeaaaaMem
namespace Go.Proofs.Ytciogjnchpeaaaa
open Go.RowKit
set_option maxRecDepth 10000
theorem tmod_lt (x k : Int) (hk : 0 < k) : -k < x.tmod k ∧ x.tmod k < k :=
  ⟨by have := Int.lt_tmod_of_pos x hk; omega, Int.tmod_lt_of_pos x hk⟩
theorem tmod_neg {a n : Int} (h : 1 ≤ n) (h0 : a.tmod n < 0) : a.tmod n + n = a % n := by
  have e := Int.mul_tdiv_add_tmod a n
  have h1 := (tmod_lt a n (by omega)).1
  have : (a.tmod n + n + n * (a.tdiv n - 1)) % n = a.tmod n + n := by
    rw [Int.add_mul_emod_self_left]; exact Int.emod_eq_of_lt (by omega) (by omega)
  rw [← this]
  congr 1
  rw [Int.mul_sub]; omega
theorem tmod_pos {a n : Int} (h : 1 ≤ n) (h0 : 0 ≤ a.tmod n) : a.tmod n = a % n := by
  have e := Int.mul_tdiv_add_tmod a n
  have h1 := (tmod_lt a n (by omega)).2
  have : (a.tmod n + n * a.tdiv n) % n = a.tmod n := by
    rw [Int.add_mul_emod_self_left]; exact Int.emod_eq_of_lt h0 h1
  rw [← this]
  congr 1
  omega

theorem wrap32_in {n : Int} (h1 : -2147483648 ≤ n) (h2 : n ≤ 2147483647) : wrap32 n = n := IntWalk.wrap32_in n ⟨h1, h2⟩
theorem wrap32_eq (n : Int) : wrap32 n = (n + 2147483648) % 4294967296 - 2147483648 := by unfold wrap32; rfl


/-- The four bytes of a number of 32 bits, the highest first. -/
def be32 (a : Int) : List UInt8 := [UInt8.ofNat (a % 4294967296 / 16777216).toNat, UInt8.ofNat (a % 4294967296 / 65536 % 256).toNat, UInt8.ofNat (a % 4294967296 / 256 % 256).toNat, UInt8.ofNat (a % 256).toNat]
theorem bv_ofInt {n : Int} (h0 : 0 ≤ n) (h1 : n < 256) : bv (UInt8.ofNat n.toNat) = .int .u8 n := by
  unfold bv
  rw [UInt8.toNat_ofNat_of_lt' (by show n.toNat < 256; omega)]
  congr 1
  omega
theorem be32_cells (a : Int) : [Value.int .u8 (a % 4294967296 / 16777216), .int .u8 (a % 4294967296 / 65536 % 256), .int .u8 (a % 4294967296 / 256 % 256), .int .u8 (a % 256)] = (be32 a).map bv := by
  simp only [be32, List.map_cons, List.map_nil]
  rw [bv_ofInt (by omega) (by omega), bv_ofInt (by omega) (by omega), bv_ofInt (by omega) (by omega), bv_ofInt (by omega) (by omega)]
theorem be32_mod (a : Int) : be32 (a % 4294967296) = be32 a := by
  unfold be32
  have e : a % 4294967296 % 4294967296 = a % 4294967296 := by omega
  have e2 : a % 4294967296 % 256 = a % 256 := by omega
  rw [e, e2]
theorem be32_length (a : Int) : (be32 a).length = 4 := rfl
/-- The number that four bytes are, without a sign. -/
def num4 (a b c d : UInt8) : Int := (a.toNat : Int) * 16777216 + b.toNat * 65536 + c.toNat * 256 + d.toNat
/-- The number of 32 bits that the first four bytes are; 0, if there are fewer. -/
def get32 : List UInt8 → Int
  | a :: b :: c :: d :: _ => wrap32 (num4 a b c d)
  | _ => 0
theorem get32_short {l : List UInt8} (h : l.length < 4) : get32 l = 0 := by
  match l, h with
  | [], _ => rfl
  | [_], _ => rfl
  | [_, _], _ => rfl
  | [_, _, _], _ => rfl
theorem get32_be32 {a : Int} (h1 : -2147483648 ≤ a) (h2 : a ≤ 2147483647) (r : List UInt8) : get32 (be32 a ++ r) = a := by
  simp only [be32, List.cons_append, List.nil_append, get32, num4]
  rw [UInt8.toNat_ofNat_of_lt' (by show _ < 256; omega), UInt8.toNat_ofNat_of_lt' (by show _ < 256; omega), UInt8.toNat_ofNat_of_lt' (by show _ < 256; omega), UInt8.toNat_ofNat_of_lt' (by show _ < 256; omega), wrap32_eq]
  omega
theorem be32_get32 (a b c d : UInt8) (r : List UInt8) : be32 (get32 (a :: b :: c :: d :: r)) = [a, b, c, d] := by
  have ha := a.toNat_lt
  have hb := b.toNat_lt
  have hc := c.toNat_lt
  have hd := d.toNat_lt
  have key : ∀ (x : UInt8) (n : Nat), n = x.toNat → UInt8.ofNat n = x := fun x n h => by rw [h]; exact UInt8.ofNat_toNat
  simp only [be32, get32, num4, wrap32_eq]
  rw [key a _ (by omega), key b _ (by omega), key c _ (by omega), key d _ (by omega)]
theorem or4 (a b c d : UInt8) : bits BinOp.or IntKind.u32 (bits BinOp.or IntKind.u32 (bits BinOp.or IntKind.u32 ((a.toNat : Int) * 16777216) ((b.toNat : Int) * 65536)) ((c.toNat : Int) * 256)) (d.toNat : Int) = num4 a b c d := by
  have ha := a.toNat_lt
  have hb := b.toNat_lt
  have hc := c.toNat_lt
  have hd := d.toNat_lt
  have e1 : bits BinOp.or IntKind.u32 ((a.toNat : Int) * 16777216) ((b.toNat : Int) * 65536) = ((a.toNat * 16777216 + b.toNat * 65536 : Nat) : Int) := by
    rw [show (a.toNat : Int) * 16777216 = ((a.toNat * 16777216 : Nat) : Int) from by omega, show (b.toNat : Int) * 65536 = ((b.toNat * 65536 : Nat) : Int) from by omega,
      u32_or_nat _ _ (by omega) (by omega), nat_join 24 _ _ (by omega) (by omega)]
  have e2 : bits BinOp.or IntKind.u32 ((a.toNat * 16777216 + b.toNat * 65536 : Nat) : Int) ((c.toNat : Int) * 256) = ((a.toNat * 16777216 + b.toNat * 65536 + c.toNat * 256 : Nat) : Int) := by
    rw [show (c.toNat : Int) * 256 = ((c.toNat * 256 : Nat) : Int) from by omega, u32_or_nat _ _ (by omega) (by omega), nat_join 16 _ _ (by omega) (by omega)]
  rw [e1, e2, u32_or_nat _ _ (by omega) (by omega), nat_join 8 _ _ (by omega) (by omega), num4]
  omega

theorem OwnB.new (w : World) (cs : Array Value) (n : Nat) (l : List UInt8) (hn : cs.size = n) (hm : n ≤ maxLen) (h : cs.toList = l.map bv) :
    OwnB (w.alloc (.cells cs 5)) w.heap.size (some ⟨w.heap.size, 0, none⟩) n n l := by
  unfold OwnB
  rw [← h]
  exact World.ownsRow_lit w cs n (Nat.le_refl _) hm (by omega)
theorem Below_new (w : World) (o : Obj) : Below w.heap.size w (w.alloc o) := (Below.refl _ _).alloc (Nat.le_refl _) _
end Go.Proofs.Ytciogjnchpeaaaa
