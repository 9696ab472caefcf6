/-
  Numbers of any length: the plain text of a number, and what is read back.
-/
import Derived.Test.YtcjcmjkpfijhdaaKeepB
namespace Go.Proofs.Ytcjcmjkpfijhdaa
open Go.RowKit
set_option linter.unusedVariables false

namespace Var
def put (u : Nat) : List UInt8 := if u < 128 then [UInt8.ofNat u] else UInt8.ofNat (u % 128 + 128) :: put (u / 128)
termination_by u
decreasing_by omega
def zig (n : Int) : Nat := if n < 0 then (-n).toNat * 2 - 1 else n.toNat * 2
def unzig (u : Nat) : Int := if u % 2 = 1 then -((u / 2 : Nat) : Int) - 1 else ((u / 2 : Nat) : Int)
def get (i u : Nat) : List UInt8 → Int × Nat × Int
  | [] => (0, 0, 2)
  | c :: t => if i = 9 ∧ 1 < c.toNat then (0, 0, 1) else if 128 ≤ c.toNat then get (i + 1) (u + (c.toNat - 128) * 128 ^ i) t
      else if 0 < i ∧ c.toNat = 0 then (0, 0, 1) else (unzig (u + c.toNat * 128 ^ i), i + 1, 0)

theorem put_small {u : Nat} (h : u < 128) : put u = [UInt8.ofNat u] := by rw [put, if_pos h]
theorem put_big {u : Nat} (h : ¬ u < 128) : put u = UInt8.ofNat (u % 128 + 128) :: put (u / 128) := by rw [put, if_neg h]
theorem put_ne (u : Nat) : put u ≠ [] := by
  by_cases h : u < 128
  · rw [put_small h]; simp
  · rw [put_big h]; simp
theorem put_len (k : Nat) (u : Nat) (h : u < 128 ^ (k + 1)) : (put u).length ≤ k + 1 := by
  induction k generalizing u with
  | zero => rw [put_small (by simpa using h)]; simp
  | succ k ih =>
    by_cases h' : u < 128
    · rw [put_small h']; simp
    · rw [put_big h']
      have := ih (u / 128) (by rw [Nat.pow_succ] at h; omega)
      simp; omega
theorem put_len10 (u : Nat) (h : u < 18446744073709551616) : (put u).length ≤ 10 := put_len 9 u (by omega)
theorem unzig_zig (n : Int) : unzig (zig n) = n := by
  unfold unzig zig
  by_cases h : n < 0
  · rw [if_pos h]; rw [if_pos (by omega)]; omega
  · rw [if_neg h]; rw [if_neg (by omega)]; omega
theorem zig_unzig (u : Nat) : zig (unzig u) = u := by
  unfold unzig zig
  by_cases h : u % 2 = 1
  · rw [if_pos h]; rw [if_pos (by omega)]; omega
  · rw [if_neg h]; rw [if_neg (by omega)]; omega
theorem unzig_lo (u : Nat) (h : u < 18446744073709551616) : -9223372036854775808 ≤ unzig u := by unfold unzig; split <;> omega
theorem unzig_hi (u : Nat) (h : u < 18446744073709551616) : unzig u ≤ 9223372036854775807 := by unfold unzig; split <;> omega
theorem zig_lt (n : Int) (h : -9223372036854775808 ≤ n) (h' : n ≤ 9223372036854775807) : zig n < 18446744073709551616 := by unfold zig; split <;> omega

set_option maxRecDepth 100000 in
theorem or128 (u : Nat) (x : Int) (hx : x = ((u % 256 : Nat) : Int)) : bits BinOp.or IntKind.u8 x 128 = ((UInt8.ofNat (u % 128 + 128)).toNat : Int) := by
  subst hx
  have e : ((u % 256 : Nat) : Int) = ((u % 256 : Nat) : Int) := rfl
  rw [show (128 : Int) = ((128 : Nat) : Int) from rfl, u8_or_nat _ _ (by omega) (by omega)]
  have : u % 256 ||| 128 = u % 128 + 128 := by
    have h1 : u % 256 < 256 := by omega
    have h2 : u % 128 = u % 256 % 128 := by omega
    rw [h2]
    clear h2 e
    revert h1
    generalize u % 256 = v
    revert v
    decide
  rw [this, UInt8.toNat_ofNat']
  congr 1
  omega
theorem small8 (u : Nat) (h : u < 128) (x : Int) (hx : x = (u : Int)) : x = ((UInt8.ofNat u).toNat : Int) := by
  rw [hx, UInt8.toNat_ofNat']; congr 1; omega
end Var

namespace Var
theorem zig_pos {v : Int} (h : ¬ v < 0) (hi : v ≤ 9223372036854775807) : IntKind.u64.wrap (IntKind.u64.wrap v * 2) = (zig v : Int) := by
  rw [IntKind.wrap_u64, IntKind.wrap_u64, zig, if_neg h]; omega
theorem zig_neg {v : Int} (h : v < 0) (lo : -9223372036854775808 ≤ v) : bits BinOp.xor IntKind.u64 IntKind.u64.max (IntKind.u64.wrap (IntKind.u64.wrap v * 2)) = (zig v : Int) := by
  have e : IntKind.u64.wrap (IntKind.u64.wrap v * 2) = ((18446744073709551616 - (-v).toNat * 2 : Nat) : Int) := by
    rw [IntKind.wrap_u64, IntKind.wrap_u64]; omega
  have hm : IntKind.u64.max = ((18446744073709551615 : Nat) : Int) := by decide
  rw [e, hm, u64_xor_nat _ _ (by omega) (by omega), zig, if_pos h]
  congr 1
  obtain ⟨x, hx⟩ : ∃ x, x = 18446744073709551616 - (-v).toNat * 2 := ⟨_, rfl⟩
  rw [← hx]
  have hx' : x < 2 ^ 64 := by omega
  have h1 := BitVec.toNat_not (x := BitVec.ofNat 64 x)
  have h2 : ~~~ (BitVec.ofNat 64 x) = BitVec.allOnes 64 ^^^ BitVec.ofNat 64 x := by rw [BitVec.allOnes_xor]
  rw [h2, BitVec.toNat_xor, BitVec.toNat_allOnes, BitVec.toNat_ofNat, Nat.mod_eq_of_lt hx'] at h1
  have h3 : (2 ^ 64 - 1 : Nat) = 18446744073709551615 := by decide
  rw [h3] at h1
  rw [h1]
  omega
end Var

set_option maxRecDepth 10000 in
set_option maxHeartbeats 1000000 in
theorem num_Put (A : Option Addr) (n c base : Nat) (l : List UInt8) (v : Int) (w : World) (hA : OwnB w base A n c l) (hbase : base ≤ w.heap.size) (hn : n ≤ 1000000) (lo : -9223372036854775808 ≤ v) (hi : v ≤ 9223372036854775807) :
    Calls Try.prog 21 #[.slice A n c, .int .i64 v] w fun e w' => ∃ A' n' c', e = .returned (.slice A' n' c') ∧ OwnB w' base A' n' c' (l ++ Var.put (Var.zig v)) ∧ Keeps (Mine A n c) w w' := by
  have HA := hide hA
  clear hA
  have hz := Var.zig_lt v lo hi
  have h10 := Var.put_len10 _ hz
  obtain ⟨u0, hu0⟩ : ∃ u0, u0 = Var.zig v := ⟨_, rfl⟩
  rw [← hu0] at hz h10 ⊢
  have Hz := hide hz
  have Hu := hide hu0
  clear hz hu0
  by_cases hv : v < 0
  · have e1 := Var.zig_neg hv lo
    rw [← Hu.out] at e1
    have sg : IntKind.u64.signed = false := rfl
    go_enter Try.func21, Try.ntmps21
    go_wp2
    all_goals clear e1
    go_loopw [0, 5] (fun s x wr => ∃ A' n' c' l' u, s = .slice A' n' c' ∧ x = .int .u64 (u : Nat) ∧ u < 18446744073709551616 ∧ OwnB wr base A' n' c' l' ∧ l' ++ Var.put u = l ++ Var.put u0 ∧ Keeps (Mine A n c) w wr ∧ ((Value.slice A' n' c').ownBlock = (Value.slice A n c).ownBlock ∨ ∃ g, (Value.slice A' n' c').ownBlock = some g ∧ w.heap.size ≤ g)) (fun _ x _ => (intOf x).toNat)
    case atStart => exact ⟨_, _, _, l, u0, rfl, rfl, Hz.out, HA.out, rfl, Keeps.refl _ _, .inl rfl⟩
    case round =>
      obtain ⟨A', n', c', l', u, rfl, rfl, hu, hown, heq, hbel, hblk⟩ := hrel
      have hlen : n' ≤ 1000010 := by
        have e2 := congrArg List.length heq
        have e3 := hown.len
        have e4 := HA.out.len
        rw [List.length_append, List.length_append] at e2
        omega
      have hb2 : base ≤ wr.heap.size := by have := hbel.size; omega
      have HO := hide hown
      have HB := hide hbel
      have HK := hide hblk
      have hsz := hbel.size
      have HE := hide heq
      have HU := hide hu
      clear hown hbel heq hu hblk
      by_cases hbig : 127 < u
      · go_wp2_with (at_builtin; refine wpB_append3 rfl (.tmp 15) (.tmp 19) rfl base A' n' c' l' rfl (HO.out.below (Below_new _ _)) _ _ 1 1 [UInt8.ofNat (u % 128 + 128)] rfl (LiesB.new _ _ _ _ _ _ rfl (by simp [bv]; exact Var.or128 u _ (by first | (go_num; done) | (simp [IntKind.wrap]; done) | omega | (rw [IntKind.wrap_u8']; omega)))) (n' + 1) _ rfl rfl (by omega) (by simp; omega) ?_; intro A2 c2 w2 own2 hb3 hg2; have HK2 := hide hg2; clear hg2)
        refine ⟨⟨A2, n' + 1, c2, _, u / 128, rfl, by go_num, by have := HU.out; omega, own2, ?_, HB.out.step HK.out (Keeps.of_below (Below_new _ _)) hb3, ?_⟩, by simp [intOf]; omega⟩
        · rw [← HE.out, List.append_assoc, Var.put_big (u := u) (by omega)]; rfl
        · rcases HK2.out with q | q
          · rw [q]; exact HK.out
          · exact .inr ⟨_, q, by simp; omega⟩
      · go_wp2_with (at_builtin; refine wpB_append3 rfl (.tmp 23) (.tmp 26) rfl base A' n' c' l' rfl (HO.out.below (Below_new _ _)) _ _ 1 1 [UInt8.ofNat u] rfl (LiesB.new _ _ _ _ _ _ rfl (by simp [bv]; omega)) (n' + 1) _ rfl rfl (by omega) (by simp; omega) ?_; intro A2 c2 w2 own2 hb3 hg2; have HK2 := hide hg2; clear hg2)
        go_ret
        refine ⟨A2, n' + 1, c2, rfl, ?_, HB.out.step HK.out (Keeps.of_below (Below_new _ _)) hb3⟩
        rw [← HE.out, Var.put_small (u := u) (by omega)]
        exact own2
  · have sg : IntKind.u64.signed = false := rfl
    have e1 : v * 2 = (u0 : Int) := by rw [Hu.out, Var.zig, if_neg hv]; omega
    go_enter Try.func21, Try.ntmps21
    go_wp2
    all_goals clear e1
    go_loopw [0, 5] (fun s x wr => ∃ A' n' c' l' u, s = .slice A' n' c' ∧ x = .int .u64 (u : Nat) ∧ u < 18446744073709551616 ∧ OwnB wr base A' n' c' l' ∧ l' ++ Var.put u = l ++ Var.put u0 ∧ Keeps (Mine A n c) w wr ∧ ((Value.slice A' n' c').ownBlock = (Value.slice A n c).ownBlock ∨ ∃ g, (Value.slice A' n' c').ownBlock = some g ∧ w.heap.size ≤ g)) (fun _ x _ => (intOf x).toNat)
    case atStart => exact ⟨_, _, _, l, u0, rfl, rfl, Hz.out, HA.out, rfl, Keeps.refl _ _, .inl rfl⟩
    case round =>
      obtain ⟨A', n', c', l', u, rfl, rfl, hu, hown, heq, hbel, hblk⟩ := hrel
      have hlen : n' ≤ 1000010 := by
        have e2 := congrArg List.length heq
        have e3 := hown.len
        have e4 := HA.out.len
        rw [List.length_append, List.length_append] at e2
        omega
      have hb2 : base ≤ wr.heap.size := by have := hbel.size; omega
      have HO := hide hown
      have HB := hide hbel
      have HK := hide hblk
      have hsz := hbel.size
      have HE := hide heq
      have HU := hide hu
      clear hown hbel heq hu hblk
      by_cases hbig : 127 < u
      · go_wp2_with (at_builtin; refine wpB_append3 rfl (.tmp 15) (.tmp 19) rfl base A' n' c' l' rfl (HO.out.below (Below_new _ _)) _ _ 1 1 [UInt8.ofNat (u % 128 + 128)] rfl (LiesB.new _ _ _ _ _ _ rfl (by simp [bv]; exact Var.or128 u _ (by first | (go_num; done) | (simp [IntKind.wrap]; done) | omega | (rw [IntKind.wrap_u8']; omega)))) (n' + 1) _ rfl rfl (by omega) (by simp; omega) ?_; intro A2 c2 w2 own2 hb3 hg2; have HK2 := hide hg2; clear hg2)
        refine ⟨⟨A2, n' + 1, c2, _, u / 128, rfl, by go_num, by have := HU.out; omega, own2, ?_, HB.out.step HK.out (Keeps.of_below (Below_new _ _)) hb3, ?_⟩, by simp [intOf]; omega⟩
        · rw [← HE.out, List.append_assoc, Var.put_big (u := u) (by omega)]; rfl
        · rcases HK2.out with q | q
          · rw [q]; exact HK.out
          · exact .inr ⟨_, q, by simp; omega⟩
      · go_wp2_with (at_builtin; refine wpB_append3 rfl (.tmp 23) (.tmp 26) rfl base A' n' c' l' rfl (HO.out.below (Below_new _ _)) _ _ 1 1 [UInt8.ofNat u] rfl (LiesB.new _ _ _ _ _ _ rfl (by simp [bv]; omega)) (n' + 1) _ rfl rfl (by omega) (by simp; omega) ?_; intro A2 c2 w2 own2 hb3 hg2; have HK2 := hide hg2; clear hg2)
        go_ret
        refine ⟨A2, n' + 1, c2, rfl, ?_, HB.out.step HK.out (Keeps.of_below (Below_new _ _)) hb3⟩
        rw [← HE.out, Var.put_small (u := u) (by omega)]
        exact own2
end Go.Proofs.Ytcjcmjkpfijhdaa
