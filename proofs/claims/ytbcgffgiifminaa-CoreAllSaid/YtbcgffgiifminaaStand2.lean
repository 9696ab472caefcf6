/-
  Numbers of any length: the plain text of a number, and what is read back.
  Runs, plain.
  num.Get, quintainref1.Get.
  Runs read back, plain.
  Runs there and back, plain.
  Runs, plain: what is read is what was written; its size.
  Bits of numbers of 8 and 32 bits, as vectors of bits; the plain sums (CRC-32) and their laws.
  The sums' walks: crc.More, crc.Sum, quintainref1.Sum give Crc.more, Crc.sum.
  Plain sums: bytes behind one another that were changed (at most four) change the sum.
  Packets, plain: what may be, its bytes, and that these are no other packet's.
  The walks of packet.in and packet.May, of the document's frames and MayPacket.
  The walks of the document's frames, MayPacket, EqPacket; of bytes.Equal and num.Four. (printed by wip/mkpkt.py)
  runs.Encode.
  quintainref1.Put.
  quintainref12.Runs.
  The walk of the document's Four.
  A packet in memory: its block read whole, and bytes that grow beside it.
  The walk of packet.Encode.
  The walk of the document's Packet. (printed by wip/mkpkt2.py)
  The walks of packet's reader: num and four.
  runs.Decode.
  runs.Decode, its answer handed over.
  The walk of packet.Decode.
  quintainlaw1.Short cuts a slice of bytes.
-/
import Derived.Test.YtbcgffgiifminaaStand1
import Derived.Deep.RegionLaw
import Derived.Deep.LoopGhost
import Derived.Deep.CutRange
import Derived.Lib.BufferMore
namespace Go.Proofs.Ytbcgffgiifminaa
open Go.RowKit
set_option maxRecDepth 10000
set_option linter.unusedVariables false

namespace Var
def put (u : Nat) : List UInt8 := if u < 128 then [UInt8.ofNat u] else UInt8.ofNat (u % 128 + 128) :: put (u / 128)
termination_by u
decreasing_by omega
def zig (n : Int) : Nat := if n < 0 then (-n).toNat * 2 - 1 else n.toNat * 2
def unzig (u : Nat) : Int := if u % 2 = 1 then -((u / 2 : Nat) : Int) - 1 else ((u / 2 : Nat) : Int)
def get (i u : Nat) : List UInt8 → Int × Nat × Int
  | [] => (0, 0, 2)
  | c :: t => if i = 9 ∧ 1 < c.toNat then (0, 0, 1) else if 128 ≤ c.toNat then get (i + 1) (u + (c.toNat - 128) * 128 ^ i) t
      else if 0 < i ∧ c.toNat = 0 then (0, 0, 1) else (unzig (u + c.toNat * 128 ^ i), i + 1, 0)

theorem put_small {u : Nat} (h : u < 128) : put u = [UInt8.ofNat u] := by rw [put, if_pos h]
theorem put_big {u : Nat} (h : ¬ u < 128) : put u = UInt8.ofNat (u % 128 + 128) :: put (u / 128) := by rw [put, if_neg h]
theorem put_ne (u : Nat) : put u ≠ [] := by
  by_cases h : u < 128
  · rw [put_small h]; simp
  · rw [put_big h]; simp
theorem put_len (k : Nat) (u : Nat) (h : u < 128 ^ (k + 1)) : (put u).length ≤ k + 1 := by
  induction k generalizing u with
  | zero => rw [put_small (by simpa using h)]; simp
  | succ k ih =>
    by_cases h' : u < 128
    · rw [put_small h']; simp
    · rw [put_big h']
      have := ih (u / 128) (by rw [Nat.pow_succ] at h; omega)
      simp; omega
theorem put_len10 (u : Nat) (h : u < 18446744073709551616) : (put u).length ≤ 10 := put_len 9 u (by omega)
theorem unzig_zig (n : Int) : unzig (zig n) = n := by
  unfold unzig zig
  by_cases h : n < 0
  · rw [if_pos h]; rw [if_pos (by omega)]; omega
  · rw [if_neg h]; rw [if_neg (by omega)]; omega
theorem zig_unzig (u : Nat) : zig (unzig u) = u := by
  unfold unzig zig
  by_cases h : u % 2 = 1
  · rw [if_pos h]; rw [if_pos (by omega)]; omega
  · rw [if_neg h]; rw [if_neg (by omega)]; omega
theorem unzig_lo (u : Nat) (h : u < 18446744073709551616) : -9223372036854775808 ≤ unzig u := by unfold unzig; split <;> omega
theorem unzig_hi (u : Nat) (h : u < 18446744073709551616) : unzig u ≤ 9223372036854775807 := by unfold unzig; split <;> omega
theorem zig_lt (n : Int) (h : -9223372036854775808 ≤ n) (h' : n ≤ 9223372036854775807) : zig n < 18446744073709551616 := by unfold zig; split <;> omega

set_option maxRecDepth 100000 in
theorem or128 (u : Nat) (x : Int) (hx : x = ((u % 256 : Nat) : Int)) : bits BinOp.or IntKind.u8 x 128 = ((UInt8.ofNat (u % 128 + 128)).toNat : Int) := by
  subst hx
  have e : ((u % 256 : Nat) : Int) = ((u % 256 : Nat) : Int) := rfl
  rw [show (128 : Int) = ((128 : Nat) : Int) from rfl, u8_or_nat _ _ (by omega) (by omega)]
  have : u % 256 ||| 128 = u % 128 + 128 := by
    have h1 : u % 256 < 256 := by omega
    have h2 : u % 128 = u % 256 % 128 := by omega
    rw [h2]
    clear h2 e
    revert h1
    generalize u % 256 = v
    revert v
    decide
  rw [this, UInt8.toNat_ofNat']
  congr 1
  omega
theorem small8 (u : Nat) (h : u < 128) (x : Int) (hx : x = (u : Int)) : x = ((UInt8.ofNat u).toNat : Int) := by
  rw [hx, UInt8.toNat_ofNat']; congr 1; omega
end Var

namespace Var
theorem zig_pos {v : Int} (h : ¬ v < 0) (hi : v ≤ 9223372036854775807) : IntKind.u64.wrap (IntKind.u64.wrap v * 2) = (zig v : Int) := by
  rw [IntKind.wrap_u64, IntKind.wrap_u64, zig, if_neg h]; omega
theorem zig_neg {v : Int} (h : v < 0) (lo : -9223372036854775808 ≤ v) : bits BinOp.xor IntKind.u64 IntKind.u64.max (IntKind.u64.wrap (IntKind.u64.wrap v * 2)) = (zig v : Int) := by
  have e : IntKind.u64.wrap (IntKind.u64.wrap v * 2) = ((18446744073709551616 - (-v).toNat * 2 : Nat) : Int) := by
    rw [IntKind.wrap_u64, IntKind.wrap_u64]; omega
  have hm : IntKind.u64.max = ((18446744073709551615 : Nat) : Int) := by decide
  rw [e, hm, u64_xor_nat _ _ (by omega) (by omega), zig, if_pos h]
  congr 1
  obtain ⟨x, hx⟩ : ∃ x, x = 18446744073709551616 - (-v).toNat * 2 := ⟨_, rfl⟩
  rw [← hx]
  have hx' : x < 2 ^ 64 := by omega
  have h1 := BitVec.toNat_not (x := BitVec.ofNat 64 x)
  have h2 : ~~~ (BitVec.ofNat 64 x) = BitVec.allOnes 64 ^^^ BitVec.ofNat 64 x := by rw [BitVec.allOnes_xor]
  rw [h2, BitVec.toNat_xor, BitVec.toNat_allOnes, BitVec.toNat_ofNat, Nat.mod_eq_of_lt hx'] at h1
  have h3 : (2 ^ 64 - 1 : Nat) = 18446744073709551615 := by decide
  rw [h3] at h1
  rw [h1]
  omega
end Var

set_option maxRecDepth 10000 in
set_option maxHeartbeats 1000000 in
theorem num_Put (A : Option Addr) (n c base : Nat) (l : List UInt8) (v : Int) (w : World) (hA : OwnB w base A n c l) (hbase : base ≤ w.heap.size) (hn : n ≤ 1000000) (lo : -9223372036854775808 ≤ v) (hi : v ≤ 9223372036854775807) :
    Calls Try.prog 88 #[.slice A n c, .int .i64 v] w fun e w' => ∃ A' n' c', e = .returned (.slice A' n' c') ∧ OwnB w' base A' n' c' (l ++ Var.put (Var.zig v)) ∧ Keeps (Mine A n c) w w' := by
  have HA := hide hA
  clear hA
  have hz := Var.zig_lt v lo hi
  have h10 := Var.put_len10 _ hz
  obtain ⟨u0, hu0⟩ : ∃ u0, u0 = Var.zig v := ⟨_, rfl⟩
  rw [← hu0] at hz h10 ⊢
  have Hz := hide hz
  have Hu := hide hu0
  clear hz hu0
  by_cases hv : v < 0
  · have e1 := Var.zig_neg hv lo
    rw [← Hu.out] at e1
    have sg : IntKind.u64.signed = false := rfl
    go_enter Try.func88, Try.ntmps88
    go_wp2
    all_goals clear e1
    go_loopw [0, 5] (fun s x wr => ∃ A' n' c' l' u, s = .slice A' n' c' ∧ x = .int .u64 (u : Nat) ∧ u < 18446744073709551616 ∧ OwnB wr base A' n' c' l' ∧ l' ++ Var.put u = l ++ Var.put u0 ∧ Keeps (Mine A n c) w wr ∧ ((Value.slice A' n' c').ownBlock = (Value.slice A n c).ownBlock ∨ ∃ g, (Value.slice A' n' c').ownBlock = some g ∧ w.heap.size ≤ g)) (fun _ x _ => (intOf x).toNat)
    case atStart => exact ⟨_, _, _, l, u0, rfl, rfl, Hz.out, HA.out, rfl, Keeps.refl _ _, .inl rfl⟩
    case round =>
      obtain ⟨A', n', c', l', u, rfl, rfl, hu, hown, heq, hbel, hblk⟩ := hrel
      have hlen : n' ≤ 1000010 := by
        have e2 := congrArg List.length heq
        have e3 := hown.len
        have e4 := HA.out.len
        rw [List.length_append, List.length_append] at e2
        omega
      have hb2 : base ≤ wr.heap.size := by have := hbel.size; omega
      have HO := hide hown
      have HB := hide hbel
      have HK := hide hblk
      have hsz := hbel.size
      have HE := hide heq
      have HU := hide hu
      clear hown hbel heq hu hblk
      by_cases hbig : 127 < u
      · go_wp2_with (at_builtin; refine wpB_append3 rfl (.tmp 15) (.tmp 19) rfl base A' n' c' l' rfl (HO.out.below (Below_new _ _)) _ _ 1 1 [UInt8.ofNat (u % 128 + 128)] rfl (LiesB.new _ _ _ _ _ _ rfl (by simp [bv]; exact Var.or128 u _ (by first | (go_num; done) | (simp [IntKind.wrap]; done) | omega | (rw [IntKind.wrap_u8']; omega)))) (n' + 1) _ rfl rfl (by omega) (by simp; omega) ?_; intro A2 c2 w2 own2 hb3 hg2; have HK2 := hide hg2; clear hg2)
        refine ⟨⟨A2, n' + 1, c2, _, u / 128, rfl, by go_num, by have := HU.out; omega, own2, ?_, HB.out.step HK.out (Keeps.of_below (Below_new _ _)) hb3, ?_⟩, by simp [intOf]; omega⟩
        · rw [← HE.out, List.append_assoc, Var.put_big (u := u) (by omega)]; rfl
        · rcases HK2.out with q | q
          · rw [q]; exact HK.out
          · exact .inr ⟨_, q, by simp; omega⟩
      · go_wp2_with (at_builtin; refine wpB_append3 rfl (.tmp 23) (.tmp 26) rfl base A' n' c' l' rfl (HO.out.below (Below_new _ _)) _ _ 1 1 [UInt8.ofNat u] rfl (LiesB.new _ _ _ _ _ _ rfl (by simp [bv]; omega)) (n' + 1) _ rfl rfl (by omega) (by simp; omega) ?_; intro A2 c2 w2 own2 hb3 hg2; have HK2 := hide hg2; clear hg2)
        go_ret
        refine ⟨A2, n' + 1, c2, rfl, ?_, HB.out.step HK.out (Keeps.of_below (Below_new _ _)) hb3⟩
        rw [← HE.out, Var.put_small (u := u) (by omega)]
        exact own2
  · have sg : IntKind.u64.signed = false := rfl
    have e1 : v * 2 = (u0 : Int) := by rw [Hu.out, Var.zig, if_neg hv]; omega
    go_enter Try.func88, Try.ntmps88
    go_wp2
    all_goals clear e1
    go_loopw [0, 5] (fun s x wr => ∃ A' n' c' l' u, s = .slice A' n' c' ∧ x = .int .u64 (u : Nat) ∧ u < 18446744073709551616 ∧ OwnB wr base A' n' c' l' ∧ l' ++ Var.put u = l ++ Var.put u0 ∧ Keeps (Mine A n c) w wr ∧ ((Value.slice A' n' c').ownBlock = (Value.slice A n c).ownBlock ∨ ∃ g, (Value.slice A' n' c').ownBlock = some g ∧ w.heap.size ≤ g)) (fun _ x _ => (intOf x).toNat)
    case atStart => exact ⟨_, _, _, l, u0, rfl, rfl, Hz.out, HA.out, rfl, Keeps.refl _ _, .inl rfl⟩
    case round =>
      obtain ⟨A', n', c', l', u, rfl, rfl, hu, hown, heq, hbel, hblk⟩ := hrel
      have hlen : n' ≤ 1000010 := by
        have e2 := congrArg List.length heq
        have e3 := hown.len
        have e4 := HA.out.len
        rw [List.length_append, List.length_append] at e2
        omega
      have hb2 : base ≤ wr.heap.size := by have := hbel.size; omega
      have HO := hide hown
      have HB := hide hbel
      have HK := hide hblk
      have hsz := hbel.size
      have HE := hide heq
      have HU := hide hu
      clear hown hbel heq hu hblk
      by_cases hbig : 127 < u
      · go_wp2_with (at_builtin; refine wpB_append3 rfl (.tmp 15) (.tmp 19) rfl base A' n' c' l' rfl (HO.out.below (Below_new _ _)) _ _ 1 1 [UInt8.ofNat (u % 128 + 128)] rfl (LiesB.new _ _ _ _ _ _ rfl (by simp [bv]; exact Var.or128 u _ (by first | (go_num; done) | (simp [IntKind.wrap]; done) | omega | (rw [IntKind.wrap_u8']; omega)))) (n' + 1) _ rfl rfl (by omega) (by simp; omega) ?_; intro A2 c2 w2 own2 hb3 hg2; have HK2 := hide hg2; clear hg2)
        refine ⟨⟨A2, n' + 1, c2, _, u / 128, rfl, by go_num, by have := HU.out; omega, own2, ?_, HB.out.step HK.out (Keeps.of_below (Below_new _ _)) hb3, ?_⟩, by simp [intOf]; omega⟩
        · rw [← HE.out, List.append_assoc, Var.put_big (u := u) (by omega)]; rfl
        · rcases HK2.out with q | q
          · rw [q]; exact HK.out
          · exact .inr ⟨_, q, by simp; omega⟩
      · go_wp2_with (at_builtin; refine wpB_append3 rfl (.tmp 23) (.tmp 26) rfl base A' n' c' l' rfl (HO.out.below (Below_new _ _)) _ _ 1 1 [UInt8.ofNat u] rfl (LiesB.new _ _ _ _ _ _ rfl (by simp [bv]; omega)) (n' + 1) _ rfl rfl (by omega) (by simp; omega) ?_; intro A2 c2 w2 own2 hb3 hg2; have HK2 := hide hg2; clear hg2)
        go_ret
        refine ⟨A2, n' + 1, c2, rfl, ?_, HB.out.step HK.out (Keeps.of_below (Below_new _ _)) hb3⟩
        rw [← HE.out, Var.put_small (u := u) (by omega)]
        exact own2
end Go.Proofs.Ytbcgffgiifminaa
namespace Go.Proofs.Ytbcgffgiifminaa
open Go.RowKit
set_option maxRecDepth 10000
namespace Runs
def lead (x : UInt8) : List UInt8 → Nat
  | [] => 0
  | y :: t => if y = x then lead x t + 1 else 0
theorem lead_le (x : UInt8) (l : List UInt8) : lead x l ≤ l.length := by
  induction l with
  | nil => simp [lead]
  | cons y t ih => simp only [lead]; split <;> simp; omega
def enc (last : UInt8) : List UInt8 → List UInt8
  | [] => []
  | x :: t => Var.put (2 * (lead x t + 1)) ++ (x ^^^ last) :: enc x (t.drop (lead x t))
termination_by l => l.length
decreasing_by simp; omega
theorem enc_nil (last : UInt8) : enc last [] = [] := by rw [enc]
theorem enc_cons (last x : UInt8) (t : List UInt8) : enc last (x :: t) = Var.put (2 * (lead x t + 1)) ++ (x ^^^ last) :: enc x (t.drop (lead x t)) := by rw [enc]
theorem lead_nil (x : UInt8) : lead x [] = 0 := rfl
theorem lead_eq {x : UInt8} {l : List UInt8} {k : Nat} (hk : k < l.length) (h : l[k] = x) : lead x (l.drop k) = lead x (l.drop (k + 1)) + 1 := by
  rw [List.drop_eq_getElem_cons hk, lead, if_pos h]
theorem lead_ne {x : UInt8} {l : List UInt8} {k : Nat} (hk : k < l.length) (h : ¬ l[k] = x) : lead x (l.drop k) = 0 := by
  rw [List.drop_eq_getElem_cons hk, lead, if_neg h]
theorem lead_end {x : UInt8} {l : List UInt8} {k : Nat} (hk : l.length ≤ k) : lead x (l.drop k) = 0 := by
  rw [List.drop_eq_nil_of_le hk]; rfl
/-- One run: from a place to where the next one begins. -/
theorem enc_step {l : List UInt8} {a k : Nat} (ha : a < l.length) (hk : lead l[a] (l.drop k) + (k - a) = lead l[a] (l.drop a)) (h0 : lead l[a] (l.drop k) = 0) (hak : a ≤ k) (last : UInt8) :
    enc last (l.drop a) = Var.put (Var.zig ((k : Int) - a)) ++ (l[a] ^^^ last) :: enc l[a] (l.drop k) := by
  have h1 := lead_eq (x := l[a]) ha rfl
  have hz : Var.zig ((k : Int) - a) = 2 * (lead l[a] (l.drop (a + 1)) + 1) := by unfold Var.zig; rw [if_neg (by omega)]; omega
  have hd : l.drop k = (l.drop (a + 1)).drop (lead l[a] (l.drop (a + 1))) := by rw [List.drop_drop]; congr 1; omega
  rw [hz, hd, List.drop_eq_getElem_cons ha, enc_cons]
theorem enc_len (n : Nat) : ∀ (last : UInt8) (l : List UInt8), l.length ≤ n → l.length ≤ 1000000 → (enc last l).length ≤ 11 * l.length := by
  induction n with
  | zero => intro last l h _; have : l = [] := List.eq_nil_of_length_eq_zero (by omega); subst this; rw [enc_nil]; simp
  | succ n ih =>
    intro last l h hm
    cases l with
    | nil => rw [enc_nil]; simp
    | cons x t =>
      rw [enc_cons]
      have h1 := lead_le x t
      simp only [List.length_cons] at h hm
      have h2 := Var.put_len10 (2 * (lead x t + 1)) (by omega)
      have h3 := ih x (t.drop (lead x t)) (by rw [List.length_drop]; omega) (by rw [List.length_drop]; omega)
      rw [List.length_drop] at h3
      simp only [List.length_append, List.length_cons]
      omega
end Runs
end Go.Proofs.Ytbcgffgiifminaa
namespace Go.Proofs.Ytbcgffgiifminaa
open Go.RowKit
set_option maxRecDepth 10000
set_option linter.unusedVariables false
namespace Var
theorem get_nil (i u : Nat) : get i u [] = (0, 0, 2) := rfl
theorem get_form9 {i u : Nat} {c : UInt8} {t : List UInt8} (h : i = 9) (h2 : 1 < c.toNat) : get i u (c :: t) = (0, 0, 1) := by rw [get, if_pos ⟨h, h2⟩]
theorem get_on {i u : Nat} {c : UInt8} {t : List UInt8} (h : ¬ (i = 9 ∧ 1 < c.toNat)) (h2 : 128 ≤ c.toNat) : get i u (c :: t) = get (i + 1) (u + (c.toNat - 128) * 128 ^ i) t := by rw [get, if_neg h, if_pos h2]
theorem get_form0 {i u : Nat} {c : UInt8} {t : List UInt8} (h2 : c.toNat = 0) (h3 : 0 < i) : get i u (c :: t) = (0, 0, 1) := by
  rw [get, if_neg (by omega), if_neg (by omega), if_pos ⟨h3, h2⟩]
theorem get_ok {i u : Nat} {c : UInt8} {t : List UInt8} (h : ¬ (i = 9 ∧ 1 < c.toNat)) (h2 : c.toNat < 128) (h3 : ¬ (0 < i ∧ c.toNat = 0)) : get i u (c :: t) = (unzig (u + c.toNat * 128 ^ i), i + 1, 0) := by
  rw [get, if_neg h, if_neg (by omega), if_neg h3]
/-- What is behind a place: the byte there, and the rest. -/
theorem drop_at {l : List UInt8} {k : Nat} (h : k < l.length) : l.drop k = l[k] :: l.drop (k + 1) := List.drop_eq_getElem_cons h
theorem and127 (c : UInt8) : bits BinOp.and IntKind.u8 (c.toNat : Int) 127 = ((c.toNat % 128 : Nat) : Int) := by
  rw [show (127 : Int) = ((127 : Nat) : Int) from rfl, u8_and_nat _ _ c.toNat_lt (by omega)]
  congr 1
  exact Nat.and_two_pow_sub_one_eq_mod c.toNat 7
theorem room {u x k : Nat} (hu : u < 128 ^ k) (hx : x < 128) (hk : k ≤ 9) (h9 : k = 9 → x ≤ 1) : x * 128 ^ k < 18446744073709551616 ∧ u + x * 128 ^ k < 18446744073709551616 ∧ u + x * 128 ^ k < 128 ^ (k + 1) := by
  have h1 : k = 0 ∨ k = 1 ∨ k = 2 ∨ k = 3 ∨ k = 4 ∨ k = 5 ∨ k = 6 ∨ k = 7 ∨ k = 8 ∨ k = 9 := by omega
  rcases h1 with rfl | rfl | rfl | rfl | rfl | rfl | rfl | rfl | rfl | rfl <;> simp at h9 hu ⊢ <;> omega
theorem wrap_small (x : Nat) (h : x < 18446744073709551616) : IntKind.u64.wrap (x : Int) = (x : Int) := by rw [IntKind.wrap_u64]; omega
theorem half (s : Nat) (h : s < 18446744073709551616) : wrap64 ((s : Int) / 2) = (s : Int) / 2 := by
  unfold wrap64; omega
theorem or_up {u x k : Nat} (hu : u < 128 ^ k) (hx : x < 128) (hk : k ≤ 9) (h9 : k = 9 → x ≤ 1) : bits BinOp.or IntKind.u64 (u : Int) ((x * 128 ^ k : Nat) : Int) = ((u + x * 128 ^ k : Nat) : Int) := by
  have e : (128 : Nat) ^ k = 2 ^ (7 * k) := by rw [Nat.pow_mul]
  have hp := room hu hx hk h9
  rw [u64_or_nat _ _ (by omega) (by omega)]
  congr 1
  rw [e] at hu ⊢
  have := Nat.shiftLeft_add_eq_or_of_lt hu x
  rw [Nat.shiftLeft_eq] at this
  rw [Nat.or_comm, ← this, Nat.add_comm]
theorem par (s : Nat) (h : s < 18446744073709551616) : bits BinOp.and IntKind.u64 (s : Int) 1 = ((s % 2 : Nat) : Int) := by
  rw [show (1 : Int) = ((1 : Nat) : Int) from rfl, u64_and_nat _ _ h (by omega)]
  congr 1
  exact Nat.and_two_pow_sub_one_eq_mod s 1
theorem not64 (t : Nat) (h : t < 9223372036854775808) : bits BinOp.xor IntKind.i64 (-1) (t : Int) = -(t : Int) - 1 := by
  show IntKind.i64.wrap ((BitVec.ofInt 64 (-1) ^^^ BitVec.ofInt 64 (t : Int)).toNat : Int) = _
  have e1 : BitVec.ofInt 64 (-1) = BitVec.allOnes 64 := by decide
  have e2 : BitVec.ofInt 64 (t : Int) = BitVec.ofNat 64 t := by rw [BitVec.ofInt_natCast]
  have e3 : (~~~ (BitVec.ofNat 64 t)).toNat = 2 ^ 64 - 1 - t := by rw [BitVec.toNat_not, BitVec.toNat_ofNat, Nat.mod_eq_of_lt (by omega)]
  rw [e1, e2, BitVec.allOnes_xor, e3, IntKind.wrap_i64]
  omega
theorem shl_up (x k : Nat) (h : x * 128 ^ k < 18446744073709551616) : IntKind.u64.wrap ((x : Int) * 2 ^ (7 * k)) = ((x * 128 ^ k : Nat) : Int) := by
  have e : ((x : Int) * 2 ^ (7 * k)) = ((x * 128 ^ k : Nat) : Int) := by
    rw [Int.natCast_mul, Int.natCast_pow]
    congr 1
    rw [Int.pow_mul]; rfl
  rw [e, IntKind.wrap_u64]
  omega
end Var

set_option maxRecDepth 10000 in
set_option maxHeartbeats 1000000 in
theorem num_Get (A : Option Addr) (n c B : Nat) (l : List UInt8) (w : World) (hA : LiesB w B A n l) (hn : n ≤ 140737488355328) (v : Int) (m : Nat) (er : Int) (hv : Var.get 0 0 l = (v, m, er)) :
    Calls Try.prog 86 #[.slice A n c] w fun e w' => e = .returned (.tuple #[.int .i64 v, .int .i64 m, .int .i64 er]) ∧ w = w' := by
  have HA := hide hA
  have HV := hide hv
  clear hA hv
  go_enter Try.func86, Try.ntmps86
  go_wp2
  go_loop [5, 11] (fun x i => ∃ k u : Nat, k ≤ n ∧ k ≤ 9 ∧ i = .int .i64 k ∧ x = .int .u64 (u : Nat) ∧ u < 128 ^ k ∧ Var.get k u (l.drop k) = (v, m, er)) (fun _ i => n - (intOf i).toNat)
  case atStart => exact ⟨0, 0, Nat.zero_le _, by omega, rfl, rfl, by simp, HV.out⟩
  case round =>
    obtain ⟨k, u, hk, hk9, rfl, rfl, hu, hg⟩ := hrel
    by_cases hlt : k < n
    · obtain ⟨b, off, hlk, rfl, -, hc⟩ := HA.out.at_ hlt
      rw [Var.drop_at hlk] at hg
      obtain ⟨z, hz⟩ : ∃ z, z = l[k] := ⟨_, rfl⟩
      rw [← hz] at hc hg
      have Hu := hide hu
      clear hz hu
      have hz2 := z.toNat_lt
      by_cases h9 : k = 9 ∧ 1 < z.toNat
      · rw [Var.get_form9 h9.1 h9.2] at hg
        injection hg with e1 e2; injection e2 with e2 e3
        subst e1 e2 e3
        obtain ⟨rfl, h92⟩ := h9
        go_wp2
        go_ret3
        exact ⟨rfl, rfl⟩
      · have hx9 : k = 9 → z.toNat % 128 ≤ 1 := by omega
        have hr := Var.room Hu.out (Nat.mod_lt z.toNat (by omega : 0 < 128)) hk9 hx9
        have hAnd := Var.and127 z
        have hOr := Var.or_up Hu.out (Nat.mod_lt z.toNat (by omega : 0 < 128)) hk9 hx9
        have hShl := Var.shl_up (z.toNat % 128) k hr.1
        have hxz : z.toNat < 128 → z.toNat % 128 = z.toNat := fun h => Nat.mod_eq_of_lt h
        have hxz2 : 128 ≤ z.toNat → z.toNat % 128 = z.toNat - 128 := fun h => by omega
        have hw := Var.wrap_small (z.toNat % 128) (by omega)
        have Hx9 := hide hx9
        clear hx9
        obtain ⟨x, hx⟩ : ∃ x, x = z.toNat % 128 := ⟨_, rfl⟩
        rw [← hx] at hr hAnd hOr hShl hxz hxz2 hw
        have HX := hide hx
        clear hx
        obtain ⟨y, hy⟩ : ∃ y, y = x * 128 ^ k := ⟨_, rfl⟩
        rw [← hy] at hr hOr hShl
        have HY := hide hy
        clear hy
        obtain ⟨s, hs⟩ : ∃ s, s = u + y := ⟨_, rfl⟩
        rw [← hs] at hr hOr
        have HS := hide hs
        clear hs
        have HR := hide hr
        have HXZ := hide hxz
        have HXZ2 := hide hxz2
        have HN := hide h9
        clear hr hxz hxz2
        by_cases hbig : 128 ≤ z.toNat
        · rw [Var.get_on h9 hbig, ← HXZ2.out hbig, ← HY.out, ← HS.out] at hg
          have HG := hide hg
          have d9 : ((k : Int) == 9) = false := by simp; omega
          have hk8 : k < 9 := by omega
          clear hg h9
          go_wp2
          exact ⟨⟨k + 1, s, by omega, by omega, by go_num, rfl, by rw [HS.out, HY.out]; exact (Var.room Hu.out (by have := HX.out; omega) hk9 (fun h => absurd h (by omega))).2.2, HG.out⟩, by simp [intOf]; omega⟩
        · have hsm : z.toNat < 128 := by omega
          by_cases h0 : 0 < k ∧ z.toNat = 0
          · rw [Var.get_form0 h0.2 h0.1] at hg
            injection hg with e1 e2; injection e2 with e2 e3
            subst e1 e2 e3
            obtain ⟨h01, h02⟩ := h0
            clear h9
            rw [h02] at hc
            by_cases hk9' : k = 9
            · subst hk9'
              go_wp2
              all_goals (go_ret3; exact ⟨rfl, rfl⟩)
            · have d9 : ((k : Int) == 9) = false := by simp; omega
              go_wp2
              all_goals (go_ret3; exact ⟨rfl, rfl⟩)
          · rw [Var.get_ok h9 hsm h0, ← HXZ.out hsm, ← HY.out, ← HS.out] at hg
            injection hg with e1 e2; injection e2 with e2 e3
            subst e2 e3
            have hpar := Var.par s HR.out.2.1
            have hnot : bits BinOp.xor IntKind.i64 (-1) ((s : Int) / 2) = -((s : Int) / 2) - 1 := Var.not64 (s / 2) (by have := HR.out.2.1; omega)
            have hW := Var.half s HR.out.2.1
            have H0 := hide h0
            have s64 : IntKind.i64.signed = true := rfl
            have hcase : v = if s % 2 = 1 then -((s : Int) / 2) - 1 else (s : Int) / 2 := by rw [← e1]; unfold Var.unzig; split <;> omega
            clear h9 h0 e1
            by_cases hk9' : k = 9
            · subst hk9'
              have hz1 : z.toNat ≤ 1 := by have := HN.out; omega
              have hz0 : ((z.toNat : Int) == 0) = false := by have := H0.out; simp; omega
              have hShl' : IntKind.u64.wrap ((x : Int) * 9223372036854775808) = (y : Int) := hShl
              clear hShl
              by_cases hs2 : s % 2 = 1
              · rw [hs2] at hpar
                rw [if_pos hs2] at hcase
                subst hcase
                go_wp2
                go_ret3
                exact ⟨rfl, rfl⟩
              · rw [show s % 2 = 0 by omega] at hpar
                rw [if_neg hs2] at hcase
                subst hcase
                go_wp2
                go_ret3
                exact ⟨rfl, rfl⟩
            · have d9 : ((k : Int) == 9) = false := by simp; omega
              by_cases hk0 : k = 0
              · subst hk0
                have hc' := hc
                rw [Nat.add_zero] at hc'
                have hShl' : IntKind.u64.wrap ((x : Int) * 1) = (y : Int) := hShl
                have hxy : x = y := by rw [HY.out]; simp
                by_cases hs2 : s % 2 = 1
                · rw [hs2] at hpar
                  rw [if_pos hs2] at hcase
                  subst hcase hxy
                  go_wp2
                  go_ret3
                  exact ⟨rfl, rfl⟩
                · rw [show s % 2 = 0 by omega] at hpar
                  rw [if_neg hs2] at hcase
                  subst hcase hxy
                  go_wp2
                  go_ret3
                  exact ⟨rfl, rfl⟩
              · have hz0 : ((z.toNat : Int) == 0) = false := by have := H0.out; simp; omega
                have hkp : 0 < k := by omega
                by_cases hs2 : s % 2 = 1
                · rw [hs2] at hpar
                  rw [if_pos hs2] at hcase
                  subst hcase
                  go_wp2
                  go_ret3
                  exact ⟨rfl, rfl⟩
                · rw [show s % 2 = 0 by omega] at hpar
                  rw [if_neg hs2] at hcase
                  subst hcase
                  go_wp2
                  go_ret3
                  exact ⟨rfl, rfl⟩
    · rw [List.drop_eq_nil_of_le (by rw [HA.out.len]; omega), Var.get_nil] at hg
      injection hg with e1 e2; injection e2 with e2 e3
      subst e1 e2 e3
      go_wp2
      go_ret3
      exact ⟨rfl, rfl⟩
end Go.Proofs.Ytbcgffgiifminaa
namespace Go.Proofs.Ytbcgffgiifminaa
open Go.RowKit
set_option maxRecDepth 10000
namespace Var
theorem get_facts (l : List UInt8) : ∀ (i u : Nat) (v : Int) (k : Nat) (e : Int), i ≤ 9 → u < 128 ^ i → get i u l = (v, k, e) →
    -9223372036854775808 ≤ v ∧ v ≤ 9223372036854775807 ∧ k ≤ i + l.length ∧ (e = 0 ∨ e = 1 ∨ e = 2) ∧ (e = 0 → i < k) := by
  induction l with
  | nil =>
    intro i u v k e hi hu h
    rw [get_nil] at h
    injection h with h1 h2; injection h2 with h2 h3
    subst h1 h2 h3
    simp
  | cons c t ih =>
    intro i u v k e hi hu h
    have hc := c.toNat_lt
    by_cases h9 : i = 9 ∧ 1 < c.toNat
    · rw [get_form9 h9.1 h9.2] at h
      injection h with h1 h2; injection h2 with h2 h3
      subst h1 h2 h3
      simp
    · by_cases hb : 128 ≤ c.toNat
      · rw [get_on h9 hb] at h
        have hr := room (x := c.toNat - 128) hu (by omega) hi (by omega)
        have := ih (i + 1) _ v k e (by omega) hr.2.2 h
        simp only [List.length_cons]
        refine ⟨this.1, this.2.1, by omega, this.2.2.2.1, fun h => by have := this.2.2.2.2 h; omega⟩
      · by_cases h0 : 0 < i ∧ c.toNat = 0
        · rw [get_form0 h0.2 h0.1] at h
          injection h with h1 h2; injection h2 with h2 h3
          subst h1 h2 h3
          simp
        · rw [get_ok h9 (by omega) h0] at h
          injection h with h1 h2; injection h2 with h2 h3
          subst h1 h2 h3
          have hr := room (x := c.toNat) hu (by omega) hi (by omega)
          refine ⟨unzig_lo _ hr.2.1, unzig_hi _ hr.2.1, by simp only [List.length_cons]; omega, .inl rfl, fun _ => by omega⟩
end Var
namespace Runs
/-- Is the next run one that may not be? -/
def bad (first : Bool) (l : List UInt8) : Prop := (Var.get 0 0 l).2.2 ≠ 0 ∨ (Var.get 0 0 l).1 < 1 ∨ l.length ≤ (Var.get 0 0 l).2.1 ∨ (l.getD (Var.get 0 0 l).2.1 0 = 0 ∧ first = false)
instance (first : Bool) (l : List UInt8) : Decidable (bad first l) := by unfold bad; infer_instance
def dec (most : Nat) (first : Bool) (a : UInt8) (out l : List UInt8) : List UInt8 × Int :=
  if h : l = [] then (out, 0)
  else if bad first l then ([], 1)
  else if (most : Int) - out.length < (Var.get 0 0 l).1 then ([], 4)
  else dec most false (a ^^^ l.getD (Var.get 0 0 l).2.1 0) (out ++ List.replicate (Var.get 0 0 l).1.toNat (a ^^^ l.getD (Var.get 0 0 l).2.1 0)) (l.drop ((Var.get 0 0 l).2.1 + 1))
termination_by l.length
decreasing_by
  have : l.length ≠ 0 := fun h' => h (List.eq_nil_of_length_eq_zero h')
  simp only [List.length_drop]; omega
section
variable {most : Nat} {first : Bool} {a : UInt8} {out l : List UInt8} {v : Int} {k : Nat} {e : Int}
theorem dec_nil : dec most first a out [] = (out, 0) := by rw [dec]; simp
theorem dec_bad (hg : Var.get 0 0 l = (v, k, e)) (hl : l ≠ []) (h : e ≠ 0 ∨ v < 1 ∨ l.length ≤ k ∨ (l.getD k 0 = 0 ∧ first = false)) : dec most first a out l = ([], 1) := by
  rw [dec, dif_neg hl, if_pos (by unfold bad; rw [hg]; exact h)]
theorem dec_full (hg : Var.get 0 0 l = (v, k, e)) (hl : l ≠ []) (h : ¬ (e ≠ 0 ∨ v < 1 ∨ l.length ≤ k ∨ (l.getD k 0 = 0 ∧ first = false))) (h2 : (most : Int) - out.length < v) : dec most first a out l = ([], 4) := by
  rw [dec, dif_neg hl, if_neg (by unfold bad; rw [hg]; exact h), if_pos (by rw [hg]; exact h2)]
theorem dec_on (hg : Var.get 0 0 l = (v, k, e)) (hl : l ≠ []) (h : ¬ (e ≠ 0 ∨ v < 1 ∨ l.length ≤ k ∨ (l.getD k 0 = 0 ∧ first = false))) (h2 : ¬ (most : Int) - out.length < v) :
    dec most first a out l = dec most false (a ^^^ l.getD k 0) (out ++ List.replicate v.toNat (a ^^^ l.getD k 0)) (l.drop (k + 1)) := by
  rw [dec, dif_neg hl, if_neg (by unfold bad; rw [hg]; exact h), if_neg (by rw [hg]; exact h2)]
  simp only [hg]
end
end Runs
end Go.Proofs.Ytbcgffgiifminaa
namespace Go.Proofs.Ytbcgffgiifminaa
open Go.RowKit
set_option maxRecDepth 10000
namespace Var
/-- What Put writes Get reads. -/
theorem get_put (k : Nat) : ∀ (i acc u : Nat) (t : List UInt8), i + k = 9 → u < 2 * 128 ^ k → (0 < i → 0 < u) →
    get i acc (put u ++ t) = (unzig (acc + u * 128 ^ i), i + (put u).length, 0) := by
  induction k with
  | zero =>
    intro i acc u t hi hu h0
    have hs : u < 128 := by omega
    have e : (UInt8.ofNat u).toNat = u := by rw [UInt8.toNat_ofNat']; omega
    rw [put_small hs]
    show get i acc (UInt8.ofNat u :: t) = _
    rw [get_ok (by rw [e]; omega) (by rw [e]; exact hs) (by rw [e]; omega), e]
    rfl
  | succ k ih =>
    intro i acc u t hi hu h0
    by_cases hs : u < 128
    · have e : (UInt8.ofNat u).toNat = u := by rw [UInt8.toNat_ofNat']; omega
      rw [put_small hs]
      show get i acc (UInt8.ofNat u :: t) = _
      rw [get_ok (by rw [e]; omega) (by rw [e]; exact hs) (by rw [e]; omega), e]
      rfl
    · have e : (UInt8.ofNat (u % 128 + 128)).toNat = u % 128 + 128 := by rw [UInt8.toNat_ofNat']; omega
      rw [put_big hs]
      show get i acc (UInt8.ofNat (u % 128 + 128) :: (put (u / 128) ++ t)) = _
      rw [get_on (by omega) (by rw [e]; omega), e, ih (i + 1) _ (u / 128) t (by omega) (by rw [Nat.pow_succ] at hu; omega) (fun _ => by omega)]
      have h1 : acc + (u % 128 + 128 - 128) * 128 ^ i + u / 128 * 128 ^ (i + 1) = acc + u * 128 ^ i := by
        have h3 : u % 128 + 128 - 128 = u % 128 := by omega
        rw [h3, Nat.pow_succ]
        generalize 128 ^ i = p
        have h4 : u / 128 * (p * 128) = 128 * (u / 128) * p := by rw [Nat.mul_comm p 128, ← Nat.mul_assoc, Nat.mul_comm (u / 128) 128]
        have h5 : u * p = u % 128 * p + 128 * (u / 128) * p := by rw [← Nat.add_mul, show u % 128 + 128 * (u / 128) = u by omega]
        rw [h4, h5, Nat.add_assoc]
      rw [h1, List.length_cons]
      congr 2
      omega
set_option maxRecDepth 100000 in
theorem get_put0 (u : Nat) (t : List UInt8) (hu : u < 18446744073709551616) : get 0 0 (put u ++ t) = (unzig u, (put u).length, 0) := by
  have := get_put 9 0 0 u t rfl (by omega) (fun h => by omega)
  simpa using this
end Var
namespace Runs
theorem lead_split (x : UInt8) (l : List UInt8) : l = List.replicate (lead x l) x ++ l.drop (lead x l) := by
  induction l with
  | nil => rfl
  | cons y t ih =>
    by_cases h : y = x
    · subst h
      simp only [lead, if_pos, List.replicate_succ, List.drop_succ_cons, List.cons_append]
      exact congrArg _ ih
    · simp [lead, h]
theorem lead_stop (x : UInt8) (l : List UInt8) : ∀ y r, l.drop (lead x l) = y :: r → y ≠ x := by
  induction l with
  | nil => intro y r h; simp at h
  | cons z t ih =>
    intro y r h
    by_cases hz : z = x
    · subst hz
      simp only [lead, if_pos, List.drop_succ_cons] at h
      exact ih y r h
    · simp only [lead, if_neg hz, List.drop_zero] at h
      injection h with h1 h2
      rw [← h1]
      exact hz
theorem xor_back (a x : UInt8) : a ^^^ (x ^^^ a) = x := by
  rw [UInt8.xor_comm x a, ← UInt8.xor_assoc, UInt8.xor_self, UInt8.zero_xor]
theorem xor_zero {a x : UInt8} (h : x ^^^ a = 0) : x = a := by
  have := xor_back a x
  rw [h, UInt8.xor_zero] at this
  exact this.symm
/-- What Encode writes Decode reads, if there is room. -/
theorem dec_enc (N : Nat) : ∀ (M : Nat) (first : Bool) (a : UInt8) (out l : List UInt8), l.length ≤ N → l.length ≤ 1000000 → out.length ≤ M → (first = false → ∀ y r, l = y :: r → y ≠ a) →
    dec M first a out (enc a l) = if out.length + l.length ≤ M then (out ++ l, 0) else ([], 4) := by
  induction N with
  | zero =>
    intro M first a out l h _ hout _
    have : l = [] := List.eq_nil_of_length_eq_zero (by omega)
    subst this
    rw [enc_nil, dec_nil, if_pos (by simpa using hout), List.append_nil]
  | succ N ih =>
    intro M first a out l h hm hout hfirst
    cases l with
    | nil => rw [enc_nil, dec_nil, if_pos (by simpa using hout), List.append_nil]
    | cons x t =>
      rw [enc_cons]
      have hle := lead_le x t
      simp only [List.length_cons] at h hm ⊢
      obtain ⟨n, hn⟩ : ∃ n, n = lead x t + 1 := ⟨_, rfl⟩
      rw [← hn]
      have hg := Var.get_put0 (2 * n) ((x ^^^ a) :: enc x (t.drop (lead x t))) (by omega)
      have hz : Var.unzig (2 * n) = (n : Int) := by unfold Var.unzig; rw [if_neg (by omega)]; omega
      rw [hz] at hg
      have hp := Var.put_ne (2 * n)
      have hne : Var.put (2 * n) ++ (x ^^^ a) :: enc x (t.drop (lead x t)) ≠ [] := by simp
      have hget : (Var.put (2 * n) ++ (x ^^^ a) :: enc x (t.drop (lead x t))).getD (Var.put (2 * n)).length 0 = x ^^^ a := by
        rw [List.getD_eq_getElem?_getD, List.getElem?_append_right (Nat.le_refl _)]; simp
      have hok : ¬ ((0 : Int) ≠ 0 ∨ (n : Int) < 1 ∨ (Var.put (2 * n) ++ (x ^^^ a) :: enc x (t.drop (lead x t))).length ≤ (Var.put (2 * n)).length ∨ ((Var.put (2 * n) ++ (x ^^^ a) :: enc x (t.drop (lead x t))).getD (Var.put (2 * n)).length 0 = 0 ∧ first = false)) := by
        rw [hget]
        rintro (q | q | q | ⟨q, q2⟩)
        · exact q rfl
        · omega
        · rw [List.length_append, List.length_cons] at q; omega
        · exact hfirst q2 x t rfl (xor_zero q)
      have hsplit : x :: t = List.replicate n x ++ t.drop (lead x t) := by
        rw [hn, List.replicate_succ, List.cons_append]
        exact congrArg _ (lead_split x t)
      by_cases hfull : (M : Int) - out.length < n
      · rw [dec_full hg hne hok hfull, if_neg (by omega)]
      · rw [dec_on hg hne hok hfull, hget, xor_back]
        have hd : (Var.put (2 * n) ++ (x ^^^ a) :: enc x (t.drop (lead x t))).drop ((Var.put (2 * n)).length + 1) = enc x (t.drop (lead x t)) := by
          rw [List.drop_append, List.drop_eq_nil_of_le (by omega)]
          simp
        have hi : ((n : Int)).toNat = n := by omega
        rw [hd, hi, ih M false x _ _ (by rw [List.length_drop]; omega) (by rw [List.length_drop]; omega) (by rw [List.length_append, List.length_replicate]; omega) (fun _ y r e => lead_stop x t y r e)]
        rw [List.length_append, List.length_replicate, List.length_drop, List.append_assoc, ← hsplit]
        by_cases hf : out.length + (t.length + 1) ≤ M
        · rw [if_pos (by omega), if_pos (by omega)]
        · rw [if_neg (by omega), if_neg (by omega)]
theorem dec_enc0 (M : Nat) (l : List UInt8) (hl : l.length ≤ 1000000) : dec M true 0 [] (enc 0 l) = if l.length ≤ M then (l, 0) else ([], 4) := by
  have := dec_enc l.length M true 0 [] l (Nat.le_refl _) hl (by simp) (fun h => by cases h)
  simpa using this
/-- Two lists of one text of runs are one. -/
theorem enc_inj {l l' : List UInt8} (hl : l.length ≤ 1000000) (hl' : l'.length ≤ 1000000) (h : enc 0 l = enc 0 l') : l = l' := by
  have h1 := dec_enc0 1000000 l hl
  have h2 := dec_enc0 1000000 l' hl'
  rw [if_pos hl] at h1
  rw [if_pos hl'] at h2
  rw [h, h2] at h1
  injection h1 with h1 _
  exact h1.symm
end Runs
end Go.Proofs.Ytbcgffgiifminaa
namespace Go.Proofs.Ytbcgffgiifminaa
open Go.RowKit
set_option maxRecDepth 10000
namespace Var
/-- What Get reads Put writes. -/
theorem get_back (l : List UInt8) : ∀ (i u : Nat) (v : Int) (k : Nat), i ≤ 9 → u < 128 ^ i → get i u l = (v, k, 0) →
    ∃ x, v = unzig (u + x * 128 ^ i) ∧ i < k ∧ k ≤ i + l.length ∧ l.take (k - i) = put x ∧ (0 < i → 0 < x) := by
  induction l with
  | nil => intro i u v k hi hu h; rw [get_nil] at h; simp at h
  | cons c t ih =>
    intro i u v k hi hu h
    have hc := c.toNat_lt
    by_cases h9 : i = 9 ∧ 1 < c.toNat
    · rw [get_form9 h9.1 h9.2] at h; simp at h
    · by_cases hb : 128 ≤ c.toNat
      · rw [get_on h9 hb] at h
        have hr := room (x := c.toNat - 128) hu (by omega) hi (by omega)
        obtain ⟨x, h1, h2, h3, h4, h5⟩ := ih (i + 1) _ v k (by omega) hr.2.2 h
        have hx := h5 (by omega)
        refine ⟨c.toNat - 128 + 128 * x, ?_, by omega, by simp only [List.length_cons]; omega, ?_, fun _ => by omega⟩
        · rw [h1]
          congr 1
          rw [Nat.pow_succ, Nat.add_mul, Nat.add_assoc]
          congr 2
          rw [Nat.mul_comm (128 ^ i) 128, ← Nat.mul_assoc, Nat.mul_comm x 128]
        · rw [show k - i = (k - (i + 1)) + 1 by omega, List.take_succ_cons, h4, put_big (u := c.toNat - 128 + 128 * x) (by omega)]
          congr 1
          · rw [← UInt8.toNat_inj, UInt8.toNat_ofNat']; omega
          · congr 1; omega
      · by_cases h0 : 0 < i ∧ c.toNat = 0
        · rw [get_form0 h0.2 h0.1] at h; simp at h
        · rw [get_ok h9 (by omega) h0] at h
          injection h with h1 h2; injection h2 with h2 h3
          refine ⟨c.toNat, h1.symm, by omega, by simp only [List.length_cons]; omega, ?_, fun _ => by omega⟩
          rw [show k - i = 0 + 1 by omega, List.take_succ_cons, List.take_zero, put_small (by omega)]
          congr 1
          rw [← UInt8.toNat_inj, UInt8.toNat_ofNat']; omega
theorem get_back0 {l : List UInt8} {v : Int} {k : Nat} (h : get 0 0 l = (v, k, 0)) : l.take k = put (zig v) ∧ k ≤ l.length := by
  obtain ⟨x, h1, h2, h3, h4, h5⟩ := get_back l 0 0 v k (by omega) (by simp) h
  rw [h1, zig_unzig]
  simp at h3 h4 ⊢
  exact ⟨h4, h3⟩
end Var
namespace Runs
theorem lead_rep (x : UInt8) (n : Nat) (l : List UInt8) (h : ∀ y r, l = y :: r → y ≠ x) : lead x (List.replicate n x ++ l) = n := by
  induction n with
  | zero =>
    cases l with
    | nil => rfl
    | cons y r => simp [lead, h y r rfl]
  | succ n ih => rw [List.replicate_succ, List.cons_append, lead, if_pos rfl, ih]
/-- What is read is what is written of it. -/
theorem dec_back (N : Nat) : ∀ (M : Nat) (first : Bool) (a : UInt8) (out l x : List UInt8), l.length ≤ N → dec M first a out l = (x, 0) → out.length ≤ M →
    ∃ y, x = out ++ y ∧ enc a y = l ∧ (first = false → ∀ z r, y = z :: r → z ≠ a) ∧ x.length ≤ M := by
  induction N with
  | zero =>
    intro M first a out l x hl h ho
    have : l = [] := List.eq_nil_of_length_eq_zero (by omega)
    subst this
    rw [dec_nil] at h
    injection h with h _
    exact ⟨[], by simp [h], enc_nil _, (fun _ _ _ h => by cases h), by rw [← h]; exact ho⟩
  | succ N ih =>
    intro M first a out l x hl h ho
    by_cases hne : l = []
    · subst hne
      rw [dec_nil] at h
      injection h with h _
      exact ⟨[], by simp [h], enc_nil _, (fun _ _ _ h => by cases h), by rw [← h]; exact ho⟩
    · obtain ⟨v, k, e, hg⟩ : ∃ v k e, Var.get 0 0 l = (v, k, e) := ⟨_, _, _, rfl⟩
      by_cases h3 : e ≠ 0 ∨ v < 1 ∨ l.length ≤ k ∨ (l.getD k 0 = 0 ∧ first = false)
      · rw [dec_bad hg hne h3] at h; simp at h
      · by_cases h4 : (M : Int) - out.length < v
        · rw [dec_full hg hne h3 h4] at h; simp at h
        · rw [dec_on hg hne h3 h4] at h
          have he : e = 0 := by
            rcases Decidable.em (e = 0) with q | q
            · exact q
            · exact absurd (.inl q) h3
          subst he
          obtain ⟨n, rfl⟩ : ∃ n : Nat, v = ((n + 1 : Nat) : Int) := ⟨v.toNat - 1, by omega⟩
          have hk : k < l.length := by omega
          have hpos : l.length ≠ 0 := by omega
          obtain ⟨c, hc⟩ : ∃ c, c = l.getD k 0 := ⟨_, rfl⟩
          rw [← hc] at h h3
          rw [Int.toNat_natCast] at h
          obtain ⟨y, y1, y2, y3, y4⟩ := ih M false (a ^^^ c) _ _ x (by rw [List.length_drop]; omega) h (by rw [List.length_append, List.length_replicate]; omega)
          refine ⟨List.replicate (n + 1) (a ^^^ c) ++ y, by rw [y1, List.append_assoc], ?_, ?_, y4⟩
          · rw [List.replicate_succ, List.cons_append, enc_cons, lead_rep _ _ _ (y3 rfl), List.drop_append, List.drop_eq_nil_of_le (by simp)]
            simp only [List.length_replicate, Nat.sub_self, List.drop_zero, List.nil_append, y2]
            have hp := (Var.get_back0 hg).1
            have hz : Var.zig ((n + 1 : Nat) : Int) = 2 * (n + 1) := by unfold Var.zig; rw [if_neg (by omega)]; omega
            rw [hz] at hp
            rw [← hp]
            have hx : a ^^^ c ^^^ a = c := by rw [UInt8.xor_comm a c, UInt8.xor_assoc, UInt8.xor_self, UInt8.xor_zero]
            rw [hx]
            have hd : l.drop k = c :: l.drop (k + 1) := by
              rw [List.drop_eq_getElem_cons hk, hc, List.getD_eq_getElem?_getD, List.getElem?_eq_getElem hk]; rfl
            rw [← hd, List.take_append_drop]
          · intro hf z r hz
            rw [List.replicate_succ, List.cons_append] at hz
            injection hz with hz _
            subst hz
            intro hza
            have hc0 : c = 0 := by
              have := xor_back a c
              rw [UInt8.xor_comm c a, hza, UInt8.xor_self] at this
              exact this.symm
            exact h3 (.inr (.inr (.inr ⟨hc0, hf⟩)))
theorem dec_back0 {M : Nat} {l x : List UInt8} {e : Int} (h : dec M true 0 [] l = (x, e)) (he : e = 0) : enc 0 x = l ∧ x.length ≤ M := by
  subst he
  obtain ⟨y, y1, y2, _, y4⟩ := dec_back l.length M true 0 [] l x (Nat.le_refl _) h (by simp)
  rw [List.nil_append] at y1
  subst y1
  exact ⟨y2, y4⟩
theorem enc_rep (n : Nat) (x : UInt8) (a : UInt8) : enc a (List.replicate (n + 1) x) = Var.put (2 * (n + 1)) ++ [x ^^^ a] := by
  have h := lead_rep x n [] (fun y r h => by cases h)
  rw [List.append_nil] at h
  rw [List.replicate_succ, enc_cons, h, List.drop_eq_nil_of_le (by simp), enc_nil]
theorem dec_full_nil {M : Nat} {first : Bool} {a : UInt8} {out l : List UInt8} {x : List UInt8} {e : Int} (N : Nat) (hN : l.length ≤ N) (h : dec M first a out l = (x, e)) (he : e ≠ 0) : x = [] := by
  induction N generalizing first a out l with
  | zero =>
    have : l = [] := List.eq_nil_of_length_eq_zero (by omega)
    subst this
    rw [dec_nil] at h
    injection h with _ h
    exact absurd h.symm he
  | succ N ih =>
    by_cases hne : l = []
    · subst hne
      rw [dec_nil] at h
      injection h with _ h
      exact absurd h.symm he
    · obtain ⟨v, k, e2, hg⟩ : ∃ v k e, Var.get 0 0 l = (v, k, e) := ⟨_, _, _, rfl⟩
      have hpos : l.length ≠ 0 := fun h => hne (List.eq_nil_of_length_eq_zero h)
      by_cases h3 : e2 ≠ 0 ∨ v < 1 ∨ l.length ≤ k ∨ (l.getD k 0 = 0 ∧ first = false)
      · rw [dec_bad hg hne h3] at h
        injection h with h _
        exact h.symm
      · by_cases h4 : (M : Int) - out.length < v
        · rw [dec_full hg hne h3 h4] at h
          injection h with h _
          exact h.symm
        · rw [dec_on hg hne h3 h4] at h
          exact ih (by rw [List.length_drop]; omega) h
theorem enc_557 : enc 0 [5, 5, 7] = [4, 5, 2, 2] := by
  rw [enc_cons, show lead 5 [5, 7] = 1 by decide, show ([5, 7] : List UInt8).drop 1 = [7] from rfl, enc_cons, show lead 7 [] = 0 from rfl, List.drop_zero, enc_nil, Var.put_small (by omega), Var.put_small (by omega)]
  decide
theorem dec_b3 : dec 3 true 0 [] [4, 5, 2, 2] = ([5, 5, 7], 0) := by
  have := dec_enc0 3 [5, 5, 7] (by decide)
  rw [enc_557] at this
  rw [this, if_pos (by decide)]
theorem dec_b2 : dec 2 true 0 [] [4, 5, 2, 2] = ([], 4) := by
  have := dec_enc0 2 [5, 5, 7] (by decide)
  rw [enc_557] at this
  rw [this, if_neg (by decide)]
theorem dec_b9 : dec 9 true 0 [] [2] = ([], 1) := dec_bad (v := 1) (k := 1) (e := 0) (by decide) (by simp) (by decide)
end Runs
end Go.Proofs.Ytbcgffgiifminaa
namespace Go.Proofs.Ytbcgffgiifminaa
open Go.RowKit
set_option maxRecDepth 10000

theorem bits_xor32 (a b : BitVec 32) : bits BinOp.xor IntKind.u32 (a.toNat : Int) (b.toNat : Int) = ((a ^^^ b).toNat : Int) := by
  rw [u32_xor_nat _ _ a.isLt b.isLt, BitVec.toNat_xor]
theorem bits_and32 (a b : BitVec 32) : bits BinOp.and IntKind.u32 (a.toNat : Int) (b.toNat : Int) = ((a &&& b).toNat : Int) := by
  rw [u32_and_nat _ _ a.isLt b.isLt, BitVec.toNat_and]
theorem bits_not32 (a : BitVec 32) : bits BinOp.xor IntKind.u32 IntKind.u32.max (a.toNat : Int) = ((~~~ a).toNat : Int) := by
  have h : IntKind.u32.max = ((BitVec.allOnes 32).toNat : Int) := by decide
  rw [h, bits_xor32, BitVec.allOnes_xor]

namespace Crc
def poly : BitVec 32 := 0xedb88320#32
def bit (x : BitVec 32) : BitVec 32 := (x >>> 1) ^^^ (if x.getLsbD 0 then poly else 0#32)
def byte (x : BitVec 32) (c : BitVec 32) : BitVec 32 := bit (bit (bit (bit (bit (bit (bit (bit (x ^^^ c))))))))
def wide (c : UInt8) : BitVec 32 := BitVec.ofNat 32 c.toNat
def run (x : BitVec 32) (l : List UInt8) : BitVec 32 := l.foldl (fun x c => byte x (wide c)) x
def more (s : BitVec 32) (l : List UInt8) : BitVec 32 := ~~~ (run (~~~ s) l)
def sum (l : List UInt8) : BitVec 32 := more 0#32 l

theorem run_append (x : BitVec 32) (a b : List UInt8) : run x (a ++ b) = run (run x a) b := by simp [run]
theorem more_append (s : BitVec 32) (a b : List UInt8) : more s (a ++ b) = more (more s a) b := by simp [more, run_append]
theorem sum_append (a b : List UInt8) : sum (a ++ b) = more (sum a) b := more_append _ _ _

theorem bit_xor (x y : BitVec 32) : bit (x ^^^ y) = bit x ^^^ bit y := by
  unfold bit
  rw [BitVec.getLsbD_xor]
  have h : (x ^^^ y) >>> 1 = (x >>> 1) ^^^ (y >>> 1) := by ext i; simp
  rw [h]
  cases x.getLsbD 0 <;> cases y.getLsbD 0 <;> simp
  · ac_rfl
  · ac_rfl
  · have e : ∀ a b p : BitVec 32, a ^^^ b = a ^^^ p ^^^ (b ^^^ p) := fun a b p => by
      have : a ^^^ p ^^^ (b ^^^ p) = a ^^^ b ^^^ (p ^^^ p) := by ac_rfl
      rw [this]; simp
    exact e _ _ _
theorem bit_zero : bit 0#32 = 0#32 := by decide
theorem bit_inj {x : BitVec 32} (h : bit x = 0#32) : x = 0#32 := by
  have hp : poly.getLsbD 31 = true := by decide
  have h31 : (bit x).getLsbD 31 = false := by rw [h]; simp
  have h0 : x.getLsbD 0 = false := by
    unfold bit at h31
    cases hx : x.getLsbD 0 with
    | false => rfl
    | true =>
      rw [hx] at h31
      simp only [if_true, BitVec.getLsbD_xor, hp, BitVec.getLsbD_ushiftRight] at h31
      simp at h31
  have hs : x >>> 1 = 0#32 := by
    unfold bit at h
    rw [h0] at h
    simpa using h
  apply BitVec.eq_of_getLsbD_eq
  intro i hi
  cases i with
  | zero => simpa using h0
  | succ i =>
    have := congrArg (fun v => v.getLsbD i) hs
    simp only [BitVec.getLsbD_ushiftRight] at this
    rw [Nat.add_comm] at this
    simpa using this

def bits8 (x : BitVec 32) : BitVec 32 := bit (bit (bit (bit (bit (bit (bit (bit x)))))))
theorem byte_eq (x c : BitVec 32) : byte x c = bits8 (x ^^^ c) := rfl
theorem bits8_xor (x y : BitVec 32) : bits8 (x ^^^ y) = bits8 x ^^^ bits8 y := by simp only [bits8, bit_xor]
theorem bits8_zero : bits8 0#32 = 0#32 := by decide
theorem bits8_inj {x : BitVec 32} (h : bits8 x = 0#32) : x = 0#32 := bit_inj (bit_inj (bit_inj (bit_inj (bit_inj (bit_inj (bit_inj (bit_inj h)))))))
/-- The difference of two runs. -/
def diff (d : BitVec 32) (l : List (BitVec 32)) : BitVec 32 := l.foldl byte d
theorem xor_swap (a b c d : BitVec 32) : (a ^^^ b) ^^^ (c ^^^ d) = (a ^^^ c) ^^^ (b ^^^ d) := by ac_rfl
theorem byte_xor (x y c d : BitVec 32) : byte x c ^^^ byte y d = byte (x ^^^ y) (c ^^^ d) := by
  rw [byte_eq, byte_eq, byte_eq, ← bits8_xor, xor_swap]
theorem diff_zero_inj {x : BitVec 32} (l : List UInt8) (h : diff x (l.map fun _ => 0#32) = 0#32) : x = 0#32 := by
  induction l generalizing x with
  | nil => exact h
  | cons c l ih =>
    have := ih (x := byte x 0#32) h
    rw [byte_eq] at this
    simpa using bits8_inj this
end Crc
end Go.Proofs.Ytbcgffgiifminaa
namespace Go.Proofs.Ytbcgffgiifminaa
open Go.RowKit
set_option maxRecDepth 10000

namespace Crc
def bitN : Nat → BitVec 32 → BitVec 32
  | 0, x => x
  | n + 1, x => bit (bitN n x)
theorem bitN_8 (x c : BitVec 32) : bitN 8 (x ^^^ c) = byte x c := rfl
theorem wide_toNat (c : UInt8) : (wide c).toNat = c.toNat := by
  have := c.toNat_lt
  simp [wide, BitVec.toNat_ofNat]
theorem wide_int (c : UInt8) : ((c.toNat : Int) % 4294967296) = ((wide c).toNat : Int) := by
  rw [wide_toNat]; have := c.toNat_lt; omega
theorem run_take (x : BitVec 32) (l : List UInt8) (k : Nat) (hk : k < l.length) : run x (l.take (k + 1)) = byte (run x (l.take k)) (wide l[k]) := by
  rw [List.take_succ_eq_append_getElem hk, run_append]; rfl
theorem bit_int (y : BitVec 32) : bits BinOp.xor IntKind.u32 ((y.toNat : Int) / 2) (bits BinOp.and IntKind.u32 3988292384 (-bits BinOp.and IntKind.u32 (y.toNat : Int) 1 % 4294967296)) = ((bit y).toNat : Int) := by
  have h2 : ((y.toNat : Int) / (2 : Int)) = ((y >>> 1).toNat : Int) := by
    rw [BitVec.toNat_ushiftRight, Nat.shiftRight_eq_div_pow]; simp
  have h1 : bits BinOp.and IntKind.u32 (y.toNat : Int) 1 = ((y &&& 1#32).toNat : Int) := bits_and32 y 1#32
  have hb : y &&& 1#32 = if y.getLsbD 0 then 1#32 else 0#32 := by
    apply BitVec.eq_of_getLsbD_eq
    intro i hi
    cases i with
    | zero => cases h : y.getLsbD 0 <;> simpa using h
    | succ i => cases y.getLsbD 0 <;> simp
  rw [h1, h2, hb, bit]
  cases y.getLsbD 0 with
  | false =>
    have e : bits BinOp.and IntKind.u32 3988292384 (-((if (false : Bool) = true then 1#32 else 0#32 : BitVec 32).toNat : Int) % 4294967296) = ((0#32).toNat : Int) := bits_and32 poly 0#32
    rw [e, bits_xor32]; rfl
  | true =>
    have e : bits BinOp.and IntKind.u32 3988292384 (-((if (true : Bool) = true then 1#32 else 0#32 : BitVec 32).toNat : Int) % 4294967296) = (poly.toNat : Int) := by
      have := bits_and32 poly (BitVec.allOnes 32)
      rw [BitVec.and_allOnes] at this
      exact this
    rw [e, bits_xor32]; rfl
end Crc

set_option maxHeartbeats 400000 in
theorem crc_More (s : BitVec 32) (A : Option Addr) (n c B : Nat) (l : List UInt8) (w : World) (hA : LiesB w B A n l) (hm : n ≤ 9223372036854775807) :
    Calls Try.prog 94 #[.int .u32 (s.toNat : Int), .slice A n c] w fun e w' => e = .returned (.int .u32 ((Crc.more s l).toNat : Int)) ∧ w = w' := by
  have HA := hide hA
  clear hA
  go_enter Try.func94, Try.ntmps94
  go_wp2
  rw [bits_not32]
  go_loop [5, 12] (fun x i => ∃ k : Nat, k ≤ n ∧ i = .int .i64 k ∧ x = .int .u32 ((Crc.run (~~~ s) (l.take k)).toNat : Int)) (fun _ i => n - (intOf i).toNat)
  case atStart => exact ⟨0, Nat.zero_le _, rfl, rfl⟩
  case round =>
    obtain ⟨k, hk, rfl, rfl⟩ := hrel
    by_cases hlt : k < n
    · obtain ⟨b, off, hlk, rfl, -, hc⟩ := HA.out.at_ hlt
      obtain ⟨y, hy⟩ : ∃ y, y = Crc.run (~~~ s) (l.take k) := ⟨_, rfl⟩
      rw [← hy]
      have Hy := hide hy
      clear hy
      obtain ⟨z, hz⟩ : ∃ z, z = l[k] := ⟨_, rfl⟩
      rw [← hz] at hc
      have Hz := hide hz
      clear hz
      go_wp2
      rw [Crc.wide_int, bits_xor32]
      go_loop [5, 20] (fun x i => ∃ j : Nat, j ≤ 8 ∧ i = .int .i64 j ∧ x = .int .u32 ((Crc.bitN j (y ^^^ Crc.wide z)).toNat : Int)) (fun _ i => 8 - (intOf i).toNat)
      case atStart => exact ⟨0, Nat.zero_le _, rfl, rfl⟩
      case round =>
        obtain ⟨j, hj, rfl, rfl⟩ := hrel
        by_cases hlt8 : j < 8
        · go_wp2
          rw [Crc.bit_int]
          go_round
          case rel => exact ⟨j + 1, by omega, by go_num, rfl⟩
          case measure => simp [intOf]; omega
        · have hj8 : j = 8 := by omega
          have Hj := hide hj8
          clear hj8
          go_wp2
          refine ⟨⟨_, _, _, ⟨k + 1, by omega, rfl, rfl⟩, ?_, rfl, by go_num⟩, by simp [intOf]; omega⟩
          rw [Crc.run_take _ _ _ hlk, Hj.out, Crc.bitN_8, Hy.out, Hz.out]
    · obtain rfl : k = n := by omega
      go_wp2
      go_ret
      refine ⟨?_, rfl⟩
      rw [bits_not32, List.take_of_length_le (by rw [HA.out.len]; exact Nat.le_refl _)]
      rfl

set_option maxHeartbeats 400000 in
theorem crc_Sum (A : Option Addr) (n c B : Nat) (l : List UInt8) (w : World) (hA : LiesB w B A n l) (hm : n ≤ 9223372036854775807) :
    Calls Try.prog 91 #[.slice A n c] w fun e w' => e = .returned (.int .u32 ((Crc.sum l).toNat : Int)) ∧ w = w' := by
  have HA := hide hA
  clear hA
  go_enter Try.func91, Try.ntmps91
  go_wp2_with (go_at_call 94; refine (crc_More 0#32 A n c B l _ HA.out hm).mono ?_; rintro e w' ⟨rfl, rfl⟩)
  go_ret
  exact ⟨rfl, rfl⟩

namespace Crc
theorem refbit_1 (y : BitVec 32) (h : (y.toNat : Int) % 2 = 1) : bits BinOp.xor IntKind.u32 ((y.toNat : Int) / 2) 3988292384 = ((bit y).toNat : Int) := by
  have h2 : ((y.toNat : Int) / (2 : Int)) = ((y >>> 1).toNat : Int) := by
    rw [BitVec.toNat_ushiftRight, Nat.shiftRight_eq_div_pow]; simp
  have hb : y.getLsbD 0 = true := by
    rw [BitVec.getLsbD, Nat.testBit_zero]; simp; omega
  have e : bits BinOp.xor IntKind.u32 ((y >>> 1).toNat : Int) 3988292384 = ((y >>> 1 ^^^ poly).toNat : Int) := bits_xor32 _ poly
  rw [h2, e, bit, hb]; rfl
theorem refbit_0 (y : BitVec 32) (h : ¬ (y.toNat : Int) % 2 = 1) : ((y.toNat : Int) / 2) = ((bit y).toNat : Int) := by
  have h2 : ((y.toNat : Int) / (2 : Int)) = ((y >>> 1).toNat : Int) := by
    rw [BitVec.toNat_ushiftRight, Nat.shiftRight_eq_div_pow]; simp
  have hb : y.getLsbD 0 = false := by
    rw [BitVec.getLsbD, Nat.testBit_zero]; simp; omega
  rw [h2, bit, hb]; simp
end Crc

set_option maxHeartbeats 400000 in
theorem ref_Sum (A : Option Addr) (n c B : Nat) (l : List UInt8) (w : World) (hA : LiesB w B A n l) (hm : n ≤ 9223372036854775807) :
    Calls Try.prog 59 #[.slice A n c] w fun e w' => e = .returned (.int .u32 ((Crc.sum l).toNat : Int)) ∧ w = w' := by
  have HA := hide hA
  clear hA
  go_enter Try.func59, Try.ntmps59
  go_wp2
  go_loop [3, 4] (fun x i => ∃ k : Nat, k ≤ n ∧ i = .int .i64 k ∧ x = .int .u32 ((Crc.run (~~~ 0#32) (l.take k)).toNat : Int)) (fun _ i => n - (intOf i).toNat)
  case atStart => exact ⟨0, Nat.zero_le _, rfl, rfl⟩
  case round =>
    obtain ⟨k, hk, rfl, rfl⟩ := hrel
    by_cases hlt : k < n
    · obtain ⟨b, off, hlk, rfl, -, hc⟩ := HA.out.at_ hlt
      obtain ⟨y, hy⟩ : ∃ y, y = Crc.run (~~~ 0#32) (l.take k) := ⟨_, rfl⟩
      rw [← hy]
      have Hy := hide hy
      clear hy
      obtain ⟨z, hz⟩ : ∃ z, z = l[k] := ⟨_, rfl⟩
      rw [← hz] at hc
      have Hz := hide hz
      clear hz
      go_wp2
      rw [Crc.wide_int, bits_xor32]
      go_loop [3, 5] (fun x i => ∃ j : Nat, j ≤ 8 ∧ i = .int .i64 j ∧ x = .int .u32 ((Crc.bitN j (y ^^^ Crc.wide z)).toNat : Int)) (fun _ i => 8 - (intOf i).toNat)
      case atStart => exact ⟨0, Nat.zero_le _, rfl, rfl⟩
      case round =>
        obtain ⟨j, hj, rfl, rfl⟩ := hrel
        by_cases hlt8 : j < 8
        · by_cases hp : ((Crc.bitN j (y ^^^ Crc.wide z)).toNat : Int) % 2 = 1
          · have hb := Crc.refbit_1 _ hp
            have Hb := hide hb
            clear hb
            go_wp2
            rw [Hb.out]
            exact ⟨⟨j + 1, by omega, by go_num, rfl⟩, by simp [intOf]; omega⟩
          · have hb := Crc.refbit_0 _ hp
            have Hb := hide hb
            clear hb
            go_wp2
            rw [Hb.out]
            exact ⟨⟨j + 1, by omega, by go_num, rfl⟩, by simp [intOf]; omega⟩
        · have hj8 : j = 8 := by omega
          have Hj := hide hj8
          clear hj8
          go_wp2
          refine ⟨⟨k + 1, by omega, by go_num, ?_⟩, by simp [intOf]; omega⟩
          rw [Crc.run_take _ _ _ hlk, Hj.out, Crc.bitN_8, Hy.out, Hz.out]
    · obtain rfl : k = n := by omega
      go_wp2
      go_ret
      refine ⟨?_, rfl⟩
      rw [bits_not32, List.take_of_length_le (by rw [HA.out.len]; exact Nat.le_refl _)]
      rfl
end Go.Proofs.Ytbcgffgiifminaa
namespace Go.Proofs.Ytbcgffgiifminaa
open Go.RowKit
set_option maxRecDepth 10000
namespace Crc
theorem bits8_inj2 {x y : BitVec 32} (h : bits8 x = bits8 y) : x = y := by
  have e : bits8 (x ^^^ y) = 0#32 := by rw [bits8_xor, h, BitVec.xor_self]
  have := bits8_inj e
  exact BitVec.xor_eq_zero_iff.1 this
theorem run_inj (t : List UInt8) {a b : BitVec 32} (h : run a t = run b t) : a = b := by
  induction t generalizing a b with
  | nil => exact h
  | cons c t ih =>
    have := ih (a := byte a (wide c)) (b := byte b (wide c)) h
    rw [byte_eq, byte_eq] at this
    have := bits8_inj2 this
    have h2 := congrArg (· ^^^ wide c) this
    simpa [BitVec.xor_assoc] using h2
/-- Two texts' exclusive or, byte by byte. -/
def xor2 : List UInt8 → List UInt8 → List UInt8
  | a :: r, b :: s => (a ^^^ b) :: xor2 r s
  | _, _ => []
theorem xor2_length (a b : List UInt8) : (xor2 a b).length = min a.length b.length := by
  induction a generalizing b with
  | nil => simp [xor2]
  | cons x a ih =>
    cases b with
    | nil => simp [xor2]
    | cons y b => simp only [xor2, List.length_cons, ih]; omega
theorem run_xor2 (u v : BitVec 32) (m x : List UInt8) (h : m.length = x.length) : run u m ^^^ run v (xor2 m x) = run (u ^^^ v) x := by
  induction m generalizing u v x with
  | nil =>
    cases x with
    | nil => simp [run, xor2]
    | cons _ _ => simp at h
  | cons p m ih =>
    cases x with
    | nil => simp at h
    | cons q x =>
      have e : byte u (wide p) ^^^ byte v (wide (p ^^^ q)) = byte (u ^^^ v) (wide q) := by
        rw [byte_xor]
        congr 1
        apply BitVec.eq_of_toNat_eq
        simp only [wide_toNat, BitVec.toNat_xor, UInt8.toNat_xor]
        rw [← Nat.xor_assoc, Nat.xor_self, Nat.zero_xor]
      simp only [xor2, run, List.foldl_cons] at *
      rw [← e]
      exact ih _ _ _ (by simpa using h)
/-- The number of the bytes, the lowest first. -/
def num : List UInt8 → Nat
  | [] => 0
  | c :: x => c.toNat + 256 * num x
theorem num_lt (x : List UInt8) : num x < 256 ^ x.length := by
  induction x with
  | nil => simp [num]
  | cons c x ih =>
    have := c.toNat_lt
    simp only [num, List.length_cons, Nat.pow_succ]
    omega
theorem num_zero {x : List UInt8} (h : num x = 0) : ∀ c ∈ x, c = 0 := by
  induction x with
  | nil => simp
  | cons c x ih =>
    simp only [num] at h
    intro d hd
    rcases List.mem_cons.1 hd with rfl | hd
    · apply UInt8.toNat_inj.1; simp; omega
    · exact ih (by omega) d hd
theorem bit_even (z : BitVec 32) (k : Nat) (h : z.toNat * 2 ^ (k + 1) < 2 ^ 32) : bit (z <<< (k + 1)) = z <<< k := by
  have h0 : (z <<< (k + 1)).getLsbD 0 = false := by simp
  have hp : 2 ^ (k + 1) = 2 * 2 ^ k := by rw [Nat.pow_succ]; omega
  rw [bit, h0]
  simp only [Bool.false_eq_true, if_false, BitVec.xor_zero]
  apply BitVec.eq_of_toNat_eq
  rw [BitVec.toNat_ushiftRight, BitVec.toNat_shiftLeft, BitVec.toNat_shiftLeft, Nat.shiftLeft_eq, Nat.shiftLeft_eq, Nat.shiftRight_eq_div_pow, Nat.mod_eq_of_lt h]
  have e : z.toNat * 2 ^ (k + 1) = z.toNat * 2 ^ k * 2 := by rw [hp, Nat.mul_comm 2, Nat.mul_assoc]
  rw [e] at h ⊢
  rw [Nat.mod_eq_of_lt (by omega)]
  omega
theorem bits8_shl (z : BitVec 32) (h : z.toNat < 2 ^ 24) : bits8 (z <<< 8) = z := by
  unfold bits8
  rw [bit_even z 7 (by omega), bit_even z 6 (by omega), bit_even z 5 (by omega), bit_even z 4 (by omega), bit_even z 3 (by omega), bit_even z 2 (by omega), bit_even z 1 (by omega), bit_even z 0 (by omega)]
  simp
def bitsN : Nat → BitVec 32 → BitVec 32
  | 0, z => z
  | n + 1, z => bitsN n (bits8 z)
theorem bitsN_inj (n : Nat) {z : BitVec 32} (h : bitsN n z = 0#32) : z = 0#32 := by
  induction n generalizing z with
  | zero => exact h
  | succ n ih => exact bits8_inj (ih h)
theorem num_cons (c : UInt8) (x : List UInt8) : BitVec.ofNat 32 (num (c :: x)) = wide c ^^^ (BitVec.ofNat 32 (num x) <<< 8) := by
  apply BitVec.eq_of_getLsbD_eq
  intro i hi
  have hc := c.toNat_lt
  have e : num (c :: x) = 2 ^ 8 * num x + c.toNat := by simp only [num]; omega
  rw [BitVec.getLsbD_ofNat, e, Nat.testBit_two_pow_mul_add _ (by omega), BitVec.getLsbD_xor, BitVec.getLsbD_shiftLeft, BitVec.getLsbD_ofNat, wide, BitVec.getLsbD_ofNat]
  by_cases h8 : i < 8
  · simp [hi, h8]
  · have : c.toNat.testBit i = false := Nat.testBit_lt_two_pow (Nat.lt_of_lt_of_le hc (by show 2 ^ 8 ≤ 2 ^ i; exact Nat.pow_le_pow_right (by omega) (by omega)))
    simp [hi, h8, this]
    omega
theorem run_num (x : List UInt8) (hx : x.length ≤ 4) (s : BitVec 32) : run s x = bitsN x.length (s ^^^ BitVec.ofNat 32 (num x)) := by
  induction x generalizing s with
  | nil => simp [run, bitsN, num]
  | cons c x ih =>
    have hl : x.length ≤ 3 := by simpa using hx
    have hlt : num x < 2 ^ 24 := Nat.lt_of_lt_of_le (num_lt x) (by
      have : 256 ^ x.length ≤ 256 ^ 3 := Nat.pow_le_pow_right (by omega) hl
      simpa using this)
    have h := ih (by omega) (byte s (wide c))
    have e : byte s (wide c) ^^^ BitVec.ofNat 32 (num x) = bits8 (s ^^^ BitVec.ofNat 32 (num (c :: x))) := by
      rw [num_cons c x, ← BitVec.xor_assoc, bits8_xor, bits8_shl _ (by rw [BitVec.toNat_ofNat]; omega), byte_eq]
    rw [e] at h
    exact h
theorem burst (x : List UInt8) (hx : x.length ≤ 4) (h : run 0#32 x = 0#32) : ∀ c ∈ x, c = 0 := by
  rw [run_num x hx, BitVec.zero_xor] at h
  have h1 := congrArg BitVec.toNat (bitsN_inj _ h)
  have hlt : num x < 2 ^ 32 := Nat.lt_of_lt_of_le (num_lt x) (by
    have : 256 ^ x.length ≤ 256 ^ 4 := Nat.pow_le_pow_right (by omega) hx
    simpa using this)
  rw [BitVec.toNat_ofNat, Nat.mod_eq_of_lt hlt] at h1
  exact num_zero h1
/-- Bytes x laid over b from place k on, by exclusive or. -/
def patch (b : List UInt8) (k : Nat) (x : List UInt8) : List UInt8 := b.take k ++ xor2 (b.drop k) x ++ b.drop (k + x.length)
theorem sum_patch (b : List UInt8) (k : Nat) (x : List UInt8) (hk : k + x.length ≤ b.length) (hx : x.length ≤ 4) (h : sum b = sum (patch b k x)) : ∀ c ∈ x, c = 0 := by
  have hm : ((b.drop k).take x.length).length = x.length := by rw [List.length_take, List.length_drop]; omega
  have e1 : b = b.take k ++ (b.drop k).take x.length ++ b.drop (k + x.length) := by
    rw [List.append_assoc, ← List.drop_drop, List.take_append_drop, List.take_append_drop]
  have e2 : xor2 (b.drop k) x = xor2 ((b.drop k).take x.length) x := by
    have gen : ∀ (x m : List UInt8), xor2 m x = xor2 (m.take x.length) x := by
      intro x
      induction x with
      | nil => intro m; cases m <;> simp [xor2]
      | cons c x ih =>
        intro m
        cases m with
        | nil => simp [xor2]
        | cons d m => simp [xor2, ← ih]
    exact gen _ _
  unfold patch at h
  rw [e2] at h
  rw [show sum b = sum (b.take k ++ (b.drop k).take x.length ++ b.drop (k + x.length)) from congrArg sum e1] at h
  simp only [sum, more, run_append] at h
  have h0 := congrArg (fun v => ~~~ v) h
  simp only [BitVec.not_not] at h0
  have h1 := run_inj _ h0
  have h2 := run_xor2 (run (~~~0#32) (b.take k)) (run (~~~0#32) (b.take k)) ((b.drop k).take x.length) x hm
  rw [h1, BitVec.xor_self, BitVec.xor_self] at h2
  exact burst x hx h2.symm
theorem patch_nil (b : List UInt8) (k : Nat) : patch b k [] = b := by
  have : xor2 (b.drop k) [] = [] := by cases b.drop k <;> rfl
  simp [patch, this]
theorem patch_length (b : List UInt8) (k : Nat) (x : List UInt8) (hk : k + x.length ≤ b.length) : (patch b k x).length = b.length := by
  simp only [patch, List.length_append, List.length_take, List.length_drop, xor2_length]; omega
theorem xor2_snoc (m x : List UInt8) (d : UInt8) (h : x.length < m.length) : xor2 m (x ++ [d]) = xor2 m x ++ [m[x.length] ^^^ d] := by
  induction x generalizing m with
  | nil =>
    cases m with
    | nil => simp at h
    | cons p m => cases m <;> simp [xor2]
  | cons c x ih =>
    cases m with
    | nil => simp at h
    | cons p m =>
      simp only [List.cons_append, xor2, List.length_cons, List.getElem_cons_succ]
      rw [ih m (by simpa using h)]
theorem patch_snoc (b : List UInt8) (k : Nat) (x : List UInt8) (d : UInt8) (hk : k + x.length < b.length) :
    (patch b k x)[k + x.length]? = some b[k + x.length] ∧ patch b k (x ++ [d]) = (patch b k x).set (k + x.length) (b[k + x.length] ^^^ d) := by
  have hl1 : (b.take k).length = k := by rw [List.length_take]; omega
  have hl2 : (xor2 (b.drop k) x).length = x.length := by rw [xor2_length, List.length_drop]; omega
  have hl : (b.take k ++ xor2 (b.drop k) x).length = k + x.length := by rw [List.length_append, hl1, hl2]
  have hd : b.drop (k + x.length) = b[k + x.length] :: b.drop (k + x.length + 1) := List.drop_eq_getElem_cons hk
  constructor
  · rw [patch, List.getElem?_append_right (by omega), hl, Nat.sub_self, hd]; rfl
  · rw [patch, patch, xor2_snoc _ _ _ (by rw [List.length_drop]; omega), List.set_append_right _ _ (by omega), hl, Nat.sub_self, hd, List.set_cons_zero, List.length_append, List.length_singleton]
    simp [List.getElem_drop, Nat.add_assoc]
end Crc
end Go.Proofs.Ytbcgffgiifminaa
namespace Go.Proofs.Ytbcgffgiifminaa
open Go.RowKit
set_option maxRecDepth 10000
set_option linter.unusedVariables false
structure Pkt where
  kind : Int
  src : Int
  dst : Int
  id : Int
  first : Int
  press : List UInt8
  ack : Int
  frame : Int
  sum : Int
namespace Pkt
/-- Numbers from 0 to most. -/
def inB (most : Int) (l : List Int) : Bool := l.all fun x => decide (0 ≤ x) && decide (x ≤ most)
def may (p : Pkt) : Bool :=
  inB 7 [p.src, p.dst] && !(p.src == p.dst) && decide (0 ≤ p.id) && decide (p.id ≤ 1099511627776) &&
    (if p.kind = 1 then inB 1000 [p.first, p.ack, p.frame] && decide (p.press.length ≤ 32)
     else if p.kind = 2 then inB 0 [p.first, p.ack, p.frame, (p.press.length : Int)] && (p.sum == 0) else false)
/-- What types hold. -/
def WF (p : Pkt) : Prop := 0 ≤ p.sum ∧ p.sum < 4294967296
def byte (x : Int) : UInt8 := UInt8.ofNat (x % 256).toNat
/-- What comes behind the first number. -/
def tail (p : Pkt) : List UInt8 :=
  if p.kind = 1 then Var.put (Var.zig p.first) ++ (Var.put (Var.zig p.ack) ++ (Var.put (Var.zig p.frame) ++ (be32 p.sum ++ (Var.put (Var.zig (p.press.length : Int)) ++ Runs.enc 0 p.press)))) else []
def body (p : Pkt) : List UInt8 := byte p.kind :: byte p.src :: byte p.dst :: (Var.put (Var.zig p.id) ++ tail p)
def sealB (b : List UInt8) : List UInt8 := b ++ be32 ((Crc.sum b).toNat : Int)
def enc (p : Pkt) : List UInt8 := if p.may then sealB p.body else []
/-- These bytes are p's. -/
def Is (b : List UInt8) (p : Pkt) : Prop := p.may = true ∧ p.WF ∧ b = sealB p.body
theorem inB_two {m a b : Int} : inB m [a, b] = true ↔ (0 ≤ a ∧ a ≤ m) ∧ (0 ≤ b ∧ b ≤ m) := by simp [inB]
theorem inB_three {m a b c : Int} : inB m [a, b, c] = true ↔ (0 ≤ a ∧ a ≤ m) ∧ (0 ≤ b ∧ b ≤ m) ∧ (0 ≤ c ∧ c ≤ m) := by simp [inB]
theorem inB_four {m a b c d : Int} : inB m [a, b, c, d] = true ↔ (0 ≤ a ∧ a ≤ m) ∧ (0 ≤ b ∧ b ≤ m) ∧ (0 ≤ c ∧ c ≤ m) ∧ (0 ≤ d ∧ d ≤ m) := by simp [inB]
structure Fine (p : Pkt) : Prop where
  src : 0 ≤ p.src ∧ p.src ≤ 7
  dst : 0 ≤ p.dst ∧ p.dst ≤ 7
  ne : p.src ≠ p.dst
  id : 0 ≤ p.id ∧ p.id ≤ 1099511627776
  kind : (p.kind = 1 ∧ (0 ≤ p.first ∧ p.first ≤ 1000) ∧ (0 ≤ p.ack ∧ p.ack ≤ 1000) ∧ (0 ≤ p.frame ∧ p.frame ≤ 1000) ∧ p.press.length ≤ 32) ∨
    (p.kind = 2 ∧ p.first = 0 ∧ p.ack = 0 ∧ p.frame = 0 ∧ p.press = [] ∧ p.sum = 0)
theorem may_iff {p : Pkt} : p.may = true ↔ Fine p := by
  unfold may
  constructor
  · intro h
    simp only [Bool.and_eq_true, Bool.not_eq_true', beq_eq_false_iff_ne, decide_eq_true_eq, inB_two] at h
    obtain ⟨⟨⟨⟨⟨h1, h2⟩, h3⟩, h4⟩, h5⟩, h6⟩ := h
    refine ⟨h1, h2, h3, ⟨h4, h5⟩, ?_⟩
    by_cases k1 : p.kind = 1
    · rw [if_pos k1] at h6
      simp only [Bool.and_eq_true, decide_eq_true_eq, inB_three] at h6
      exact .inl ⟨k1, h6.1.1, h6.1.2.1, h6.1.2.2, h6.2⟩
    · rw [if_neg k1] at h6
      by_cases k2 : p.kind = 2
      · rw [if_pos k2] at h6
        simp only [Bool.and_eq_true, beq_iff_eq, inB_four] at h6
        refine .inr ⟨k2, by omega, by omega, by omega, ?_, h6.2⟩
        apply List.eq_nil_of_length_eq_zero; omega
      · rw [if_neg k2] at h6; cases h6
  · rintro ⟨h1, h2, h3, h4, h5⟩
    simp only [Bool.and_eq_true, Bool.not_eq_true', beq_eq_false_iff_ne, decide_eq_true_eq, inB_two]
    refine ⟨⟨⟨⟨⟨h1, h2⟩, h3⟩, h4.1⟩, h4.2⟩, ?_⟩
    rcases h5 with ⟨k, a, b, c, d⟩ | ⟨k, a, b, c, d, e⟩
    · rw [if_pos k]
      simp only [Bool.and_eq_true, decide_eq_true_eq, inB_three]
      exact ⟨⟨a, b, c⟩, d⟩
    · rw [if_neg (by omega), if_pos k]
      simp only [Bool.and_eq_true, beq_iff_eq, inB_four, d, List.length_nil]
      exact ⟨⟨by omega, by omega, by omega, by omega⟩, e⟩

/-- A number is read off; bad: it did not go, now or earlier. -/
def num (bad : Bool) (b : List UInt8) : Int × Bool × List UInt8 :=
  if (bad || !((Var.get 0 0 b).2.2 == 0)) = true then ((Var.get 0 0 b).1, true, b) else ((Var.get 0 0 b).1, false, b.drop (Var.get 0 0 b).2.1)
def get4 : List UInt8 → Int
  | a :: b :: c :: d :: _ => num4 a b c d
  | _ => 0
def four (bad : Bool) (b : List UInt8) : Int × Bool × List UInt8 :=
  if bad = true ∨ b.length < 4 then (0, true, b) else (get4 b, false, b.drop 4)
theorem num_put {v : Int} (h : -9223372036854775808 ≤ v) (h' : v ≤ 9223372036854775807) (t : List UInt8) : num false (Var.put (Var.zig v) ++ t) = (v, false, t) := by
  have := Var.get_put0 (Var.zig v) t (Var.zig_lt v h h')
  unfold num
  rw [this]
  simp [Var.unzig_zig]
theorem get4_be32 {v : Int} (h : 0 ≤ v) (h' : v < 4294967296) (t : List UInt8) : get4 (be32 v ++ t) = v := by
  simp only [be32, List.cons_append, List.nil_append, get4, num4, UInt8.toNat_ofNat']
  omega
theorem four_be32 {v : Int} (h : 0 ≤ v) (h' : v < 4294967296) (t : List UInt8) : four false (be32 v ++ t) = (v, false, t) := by
  unfold four
  rw [if_neg (by simp [be32]), get4_be32 h h', List.drop_append, List.drop_eq_nil_of_le (by simp [be32]), be32_length]
  simp
theorem get4_range (b : List UInt8) : 0 ≤ get4 b ∧ get4 b < 4294967296 := by
  unfold get4
  split
  · rename_i a b c d _
    have := a.toNat_lt; have := b.toNat_lt; have := c.toNat_lt; have := d.toNat_lt
    unfold num4; omega
  · omega
theorem sealB_len (b : List UInt8) : (sealB b).length = b.length + 4 := by simp [sealB, be32_length]
theorem byte_nat {x : Int} (h : 0 ≤ x) (h' : x < 256) : ((byte x).toNat : Int) = x := by
  unfold byte
  rw [UInt8.toNat_ofNat']; omega
/-- What the reader finds in a packet's bytes. -/
theorem is_head {b : List UInt8} {p : Pkt} (h : Is b p) : 8 ≤ b.length ∧ ∃ k s d t, b = k :: s :: d :: t ∧ (k.toNat : Int) = p.kind ∧ (s.toNat : Int) = p.src ∧ (d.toNat : Int) = p.dst ∧
    (b.take (b.length - 4)).drop 3 = Var.put (Var.zig p.id) ++ tail p := by
  obtain ⟨hm, hw, rfl⟩ := h
  have f := may_iff.1 hm
  have hl := sealB_len p.body
  have hp : (Var.put (Var.zig p.id)).length ≥ 1 := by
    cases e : Var.put (Var.zig p.id) with
    | nil => exact absurd e (Var.put_ne _)
    | cons => simp
  refine ⟨?_, byte p.kind, byte p.src, byte p.dst, _, rfl, byte_nat (by rcases f.kind with h | h <;> omega) (by rcases f.kind with h | h <;> omega), byte_nat (by have := f.src; omega) (by have := f.src; omega), byte_nat (by have := f.dst; omega) (by have := f.dst; omega), ?_⟩
  · rw [hl]; simp only [body, List.length_cons, List.length_append]; omega
  · rw [hl, show p.body.length + 4 - 4 = p.body.length by omega]
    unfold sealB
    rw [List.take_left]
    rfl
theorem is_inj {b : List UInt8} {p q : Pkt} (h : Is b p) (h' : Is b q) : p = q := by
  obtain ⟨-, k, s, d, t, rfl, k1, s1, d1, e1⟩ := is_head h
  obtain ⟨-, k', s', d', t', e, k2, s2, d2, e2⟩ := is_head h'
  simp only [List.cons.injEq] at e
  obtain ⟨rfl, rfl, rfl, rfl⟩ := e
  rw [e1] at e2
  have f := may_iff.1 h.1
  have f' := may_iff.1 h'.1
  have n1 := num_put (v := p.id) (by have := f.id; omega) (by have := f.id; omega) (tail p)
  rw [e2, num_put (v := q.id) (by have := f'.id; omega) (by have := f'.id; omega)] at n1
  simp only [Prod.mk.injEq, true_and] at n1
  obtain ⟨hid, ht⟩ := n1
  have hk : p.kind = q.kind := by omega
  cases p with | mk kind src dst id first press ack frame sum => ?_
  cases q with | mk kind' src' dst' id' first' press' ack' frame' sum' => ?_
  simp only at hk hid k1 s1 d1 k2 s2 d2
  subst hk hid
  obtain rfl : src = src' := by omega
  obtain rfl : dst = dst' := by omega
  have fk := f.kind
  have fk' := f'.kind
  have w1 := h.2.1
  have w2 := h'.2.1
  simp only [WF] at fk fk' w1 w2
  by_cases hk1 : kind = 1
  · subst hk1
    obtain ⟨-, a1, a2, a3, a4⟩ | ⟨c, -⟩ := fk
    · obtain ⟨-, b1, b2, b3, b4⟩ | ⟨c, -⟩ := fk'
      · simp only [tail, if_true] at ht
        have m1 := num_put (v := first) (by omega) (by omega) (Var.put (Var.zig ack) ++ (Var.put (Var.zig frame) ++ (be32 sum ++ (Var.put (Var.zig (press.length : Int)) ++ Runs.enc 0 press))))
        rw [← ht, num_put (by omega) (by omega)] at m1
        simp only [Prod.mk.injEq, true_and] at m1
        obtain ⟨rfl, m1⟩ := m1
        have m2 := num_put (v := ack) (by omega) (by omega) (Var.put (Var.zig frame) ++ (be32 sum ++ (Var.put (Var.zig (press.length : Int)) ++ Runs.enc 0 press)))
        rw [← m1, num_put (by omega) (by omega)] at m2
        simp only [Prod.mk.injEq, true_and] at m2
        obtain ⟨rfl, m2⟩ := m2
        have m3 := num_put (v := frame) (by omega) (by omega) (be32 sum ++ (Var.put (Var.zig (press.length : Int)) ++ Runs.enc 0 press))
        rw [← m2, num_put (by omega) (by omega)] at m3
        simp only [Prod.mk.injEq, true_and] at m3
        obtain ⟨rfl, m3⟩ := m3
        have m4 := four_be32 (v := sum) (by omega) (by omega) (Var.put (Var.zig (press.length : Int)) ++ Runs.enc 0 press)
        rw [← m3, four_be32 (by omega) (by omega)] at m4
        simp only [Prod.mk.injEq, true_and] at m4
        obtain ⟨rfl, m4⟩ := m4
        have m5 := num_put (v := (press.length : Int)) (by omega) (by omega) (Runs.enc 0 press)
        rw [← m4, num_put (by omega) (by omega)] at m5
        simp only [Prod.mk.injEq, true_and] at m5
        obtain ⟨-, m5⟩ := m5
        rw [Runs.enc_inj (by omega) (by omega) m5]
      · omega
    · omega
  · obtain ⟨c, -⟩ | ⟨k, a1, a2, a3, a4, a5⟩ := fk
    · omega
    · obtain ⟨c, -⟩ | ⟨k', b1, b2, b3, b4, b5⟩ := fk'
      · omega
      · rw [a1, a2, a3, a4, a5, b1, b2, b3, b4, b5]
theorem enc_is {p : Pkt} (h : p.may = true) (hw : p.WF) : Is p.enc p := ⟨h, hw, by rw [enc, if_pos h]⟩
theorem is_enc {b : List UInt8} {p : Pkt} (h : Is b p) : b = p.enc := by rw [enc, if_pos h.1, h.2.2]
theorem enc_nil_iff {p : Pkt} : p.enc = [] ↔ p.may = false := by
  rw [enc]
  split
  · rename_i h
    constructor
    · intro e; have := congrArg List.length e; rw [sealB_len] at this; simp at this
    · intro e; rw [h] at e; cases e
  · rename_i h
    simp at h
    simp [h]
/-- The rest of what is read, of kind 1. -/
theorem is_one {b : List UInt8} {p : Pkt} (h : Is b p) (hk : p.kind = 1) : tail p = Var.put (Var.zig p.first) ++ (Var.put (Var.zig p.ack) ++ (Var.put (Var.zig p.frame) ++ (be32 p.sum ++ (Var.put (Var.zig (p.press.length : Int)) ++ Runs.enc 0 p.press)))) := by
  rw [tail, if_pos hk]
/-- No packet is long. -/
theorem zig_len {v : Int} (h : 0 ≤ v) (h' : v ≤ 1000) : (Var.put (Var.zig v)).length ≤ 2 := Var.put_len 1 _ (by unfold Var.zig; rw [if_neg (by omega)]; omega)
theorem runs_len (n : Nat) : ∀ (a : UInt8) (l : List UInt8), l.length ≤ n → l.length ≤ 60 → (Runs.enc a l).length ≤ 2 * l.length := by
  induction n with
  | zero => intro a l h _; have : l = [] := List.eq_nil_of_length_eq_zero (by omega); subst this; rw [Runs.enc_nil]; simp
  | succ n ih =>
    intro a l h hm
    cases l with
    | nil => rw [Runs.enc_nil]; simp
    | cons x t =>
      have h1 := Runs.lead_le x t
      simp only [List.length_cons] at h hm
      have h2 := ih x (t.drop (Runs.lead x t)) (by rw [List.length_drop]; omega) (by rw [List.length_drop]; omega)
      rw [Runs.enc_cons, Var.put_small (by omega)]
      simp only [List.length_append, List.length_cons, List.length_nil]
      rw [List.length_drop] at h2
      omega
theorem enc_short (p : Pkt) : p.enc.length ≤ 100 := by
  rw [enc]
  split
  · rename_i h
    have f := may_iff.1 h
    rw [sealB_len]
    have hid : (Var.put (Var.zig p.id)).length ≤ 6 := Var.put_len 5 _ (by have := f.id; unfold Var.zig; rw [if_neg (by omega)]; omega)
    simp only [body, List.length_cons, List.length_append]
    rw [tail]
    split
    · rcases f.kind with ⟨-, a1, a2, a3, a4⟩ | ⟨c, -⟩
      · have l1 := zig_len a1.1 a1.2
        have l2 := zig_len a2.1 a2.2
        have l3 := zig_len a3.1 a3.2
        have l4 := zig_len (v := (p.press.length : Int)) (by omega) (by omega)
        have l5 := runs_len _ 0 p.press (Nat.le_refl _) (by omega)
        simp only [List.length_append, be32_length]
        omega
      · omega
    · simp; omega
  · simp
end Pkt
end Go.Proofs.Ytbcgffgiifminaa
namespace Go.Proofs.Ytbcgffgiifminaa
open Go.RowKit
set_option maxRecDepth 10000
set_option linter.unusedVariables false
/-- Whole numbers lie behind one another. -/
def LiesN (w : World) (B : Nat) (A : Option Addr) (n : Nat) (l : List Int) : Prop := l.length = n ∧ Lies w B A (l.map (Value.int .i64))
theorem LiesN.new (w : World) (T : TypeId) (m : Nat × Nat) (cs : Array Value) (l : List Int) (n : Nat) (hn : l.length = n) (h : cs.toList = l.map (Value.int .i64)) :
    LiesN (w.alloc (.cells cs T m)) (w.heap.size + 1) (some ⟨w.heap.size, 0, none⟩) n l := ⟨hn, by rw [← h]; exact Lies.new w cs T m⟩
theorem LiesN.at_ {w : World} {B n : Nat} {A : Option Addr} {l : List Int} (h : LiesN w B A n l) {j : Nat} (hj : j < n) :
    ∃ (b off : Nat) (hl : j < l.length), A = some ⟨b, off, none⟩ ∧ b < B ∧ w.cell? ⟨b, off + j, none⟩ = some (.int .i64 l[j]) := by
  have hl : j < l.length := by rw [h.1]; exact hj
  obtain ⟨b, off, e, hb, hc⟩ := h.2 (by intro h0; have := congrArg List.length h0; simp at this; subst this; simp at hl)
  exact ⟨b, off, hl, e, hb, hc j _ (by simp [List.getElem?_map, List.getElem?_eq_getElem hl])⟩
namespace Pkt
theorem inB_take (m : Int) (l : List Int) (k : Nat) (hk : k < l.length) : inB m (l.take (k + 1)) = (inB m (l.take k) && (decide (0 ≤ l[k]) && decide (l[k] ≤ m))) := by
  unfold inB
  rw [List.take_succ_eq_append_getElem hk, List.all_append]
  simp
theorem inB_false (m : Int) (l : List Int) (k : Nat) (hk : k < l.length) (h : l[k] < 0 ∨ m < l[k]) : inB m l = false := by
  unfold inB
  rw [List.all_eq_false]
  refine ⟨l[k], List.getElem_mem _, ?_⟩
  simp; omega
/-- A packet's value; v: its presses'. -/
@[reducible] def row (p : Pkt) (v : Value) : List Value := [.int .i64 p.kind, .int .i64 p.src, .int .i64 p.dst, .int .i64 p.id, .int .i64 p.first, v, .int .i64 p.ack, .int .i64 p.frame, .int .u32 p.sum]
@[reducible] def val (p : Pkt) (v : Value) : Value := .agg (row p v).toArray
end Pkt
set_option maxHeartbeats 400000 in
theorem packet_in {most : Int} {A : Option Addr} {n c B : Nat} {l : List Int} {w : World} {r : Bool} (hA : LiesN w B A n l) (hn : n ≤ 1000) (hr : r = Pkt.inB most l) :
    Calls Try.prog 93 #[.int .i64 most, .slice A n c] w fun e w' => e = .returned (.bool r) ∧ w = w' := by
  have HA := hide hA
  have HR := hide hr
  have HL := hide hA.1
  clear hA hr
  go_enter Try.func93, Try.ntmps93
  go_wp2
  go_loop [9] (fun i => ∃ k : Nat, k ≤ n ∧ i = .int .i64 k ∧ Hid (Pkt.inB most (l.take k) = true)) (fun i => n - (intOf i).toNat)
  case atStart => exact ⟨0, Nat.zero_le _, rfl, rfl⟩
  case round =>
    obtain ⟨k, hk, rfl, ht⟩ := hrel
    by_cases hlt : k < n
    · obtain ⟨b, off, hlk, rfl, -, hc⟩ := HA.out.at_ hlt
      obtain ⟨x, hx⟩ : ∃ x, x = l[k] := ⟨_, rfl⟩
      rw [← hx] at hc
      have HX := hide hx
      clear hx
      by_cases h0 : x < 0
      · have d0 : decide (x < 0) = true := decide_eq_true h0
        go_wp2
        go_ret
        refine ⟨?_, rfl⟩
        rw [HR.out, Pkt.inB_false most l k hlk (.inl (HX.out ▸ h0))]
        rfl
      · have d0 : decide (x < 0) = false := decide_eq_false h0
        by_cases h1 : most < x
        · have d1 : decide (most < x) = true := decide_eq_true h1
          go_wp2
          go_ret
          refine ⟨?_, rfl⟩
          rw [HR.out, Pkt.inB_false most l k hlk (.inr (HX.out ▸ h1))]
          rfl
        · have d1 : decide (most < x) = false := decide_eq_false h1
          go_wp2
          go_round
          case rel =>
            refine ⟨k + 1, by omega, by go_num, ?_⟩
            show _ = true
            rw [Pkt.inB_take most l k hlk, show Pkt.inB most (l.take k) = true from ht, ← HX.out]
            simp; omega
          case measure => simp [intOf]; omega
    · obtain rfl : k = n := by omega
      go_wp2
      go_ret
      refine ⟨?_, rfl⟩
      have := ht.out
      rw [List.take_of_length_le (by rw [HL.out]; exact Nat.le_refl _)] at this
      rw [HR.out, this]
      rfl

set_option maxHeartbeats 1000000 in
set_option maxRecDepth 10000 in
theorem packet_May (p : Pkt) {A : Option Addr} {n c : Nat} {w : World} {r : Bool} (hn : p.press.length = n) (hm : n ≤ 9223372036854775807) (hr : r = p.may) :
    Calls Try.prog 87 #[p.val (.slice A n c)] w fun e w' => e = .returned (.bool r) ∧ Below w.heap.size w w' := by
  obtain ⟨kind, src, dst, id, first, press, ack, frame, sum⟩ := p
  simp only at hn
  have HR : Hid (r = (Pkt.inB 7 [src, dst] && !(src == dst) && decide (0 ≤ id) && decide (id ≤ 1099511627776) &&
    (if kind = 1 then Pkt.inB 1000 [first, ack, frame] && decide (n ≤ 32)
     else if kind = 2 then Pkt.inB 0 [first, ack, frame, (n : Int)] && (sum == 0) else false))) := by rw [← hn]; exact hr
  clear hr hn
  go_enter Try.func87, Try.ntmps87
  go_upto_region 1 with fail
  have HP : Hid (Arr 41 (w.alloc (.cells (Pkt.row ⟨kind, src, dst, id, first, press, ack, frame, sum⟩ (.slice A n c)).toArray 41)) w.heap.size (Pkt.row ⟨kind, src, dst, id, first, press, ack, frame, sum⟩ (.slice A n c))) := Arr.new 41 w _ _ rfl
  have HB : Hid (Below w.heap.size w (w.alloc (.cells (Pkt.row ⟨kind, src, dst, id, first, press, ack, frame, sum⟩ (.slice A n c)).toArray 41))) := Below_new _ _
  simp only [Pkt.row] at HP HB
  generalize World.alloc w _ = wx at HP HB ⊢
  generalize hgg : w.heap.size = g1 at HP HB ⊢
  · have hgg0 := hide hgg
    subst hgg
    have c0 := HP.out.cell (j := 0) (by simp)
    have c1 := HP.out.cell (j := 1) (by simp)
    have c2 := HP.out.cell (j := 2) (by simp)
    have c3 := HP.out.cell (j := 3) (by simp)
    have c4 := HP.out.cell (j := 4) (by simp)
    have c5 := HP.out.cell (j := 5) (by simp)
    have c6 := HP.out.cell (j := 6) (by simp)
    have c7 := HP.out.cell (j := 7) (by simp)
    have c8 := HP.out.cell (j := 8) (by simp)
    simp only [List.getElem_cons_zero, List.getElem_cons_succ] at c0 c1 c2 c3 c4 c5 c6 c7 c8
    have hg := HP.out.lt
    obtain ⟨x1, hx1⟩ : ∃ x, x = Pkt.inB 7 [src, dst] := ⟨_, rfl⟩
    have HX1 := hide hx1
    rw [← hx1] at HR
    clear hx1
    go_cut [26] (fun s wy => ∃ b, s = .bool b ∧ Hid (b = !(x1 && !(src == dst) && decide (0 ≤ id) && decide (id ≤ 1099511627776))) ∧ Hid (Below wx.heap.size wx wy))
    case first =>
      cases x1
      · go_wp2_with (go_at_call 93; (with_reducible refine Calls.mono (packet_in (LiesN.new _ _ _ _ [src, dst] _ rfl rfl) (by omega) HX1.out) ?_); rintro e w1 ⟨rfl, rfl⟩)
        go_meet
        exact ⟨_, rfl, rfl, Below_new _ _⟩
      · by_cases e1 : src = dst
        · have d1 : (src == dst) = true := by simp [e1]
          have HF : Hid (true = !(true && !(src == dst) && decide (0 ≤ id) && decide (id ≤ 1099511627776))) := by show _ = _; rw [d1]; rfl
          clear e1
          go_wp2_with (go_at_call 93; (with_reducible refine Calls.mono (packet_in (LiesN.new _ _ _ _ [src, dst] _ rfl rfl) (by omega) HX1.out) ?_); rintro e w1 ⟨rfl, rfl⟩)
          go_meet
          exact ⟨_, rfl, HF, Below_new _ _⟩
        · have d1 : (src == dst) = false := by simp [e1]
          clear e1
          by_cases e2 : id < 0
          · have d2 : decide (id < 0) = true := decide_eq_true e2
            have HF : Hid (true = !(true && !(src == dst) && decide (0 ≤ id) && decide (id ≤ 1099511627776))) := by show _ = _; simp; omega
            clear e2
            go_wp2_with (go_at_call 93; (with_reducible refine Calls.mono (packet_in (LiesN.new _ _ _ _ [src, dst] _ rfl rfl) (by omega) HX1.out) ?_); rintro e w1 ⟨rfl, rfl⟩)
            go_meet
            exact ⟨_, rfl, HF, Below_new _ _⟩
          · have d2 : decide (id < 0) = false := decide_eq_false e2
            obtain ⟨z, hz⟩ : ∃ z, z = decide (1099511627776 < id) := ⟨_, rfl⟩
            have HF : Hid (z = !(true && !(src == dst) && decide (0 ≤ id) && decide (id ≤ 1099511627776))) := by
              show _ = _
              rw [hz, d1]
              rw [show decide (0 ≤ id) = true from decide_eq_true (by omega)]
              by_cases h : 1099511627776 < id
              · rw [decide_eq_true h, decide_eq_false (by omega)]; rfl
              · rw [decide_eq_false h, decide_eq_true (by omega)]; rfl
            have dz : decide (1099511627776 < id) = z := hz.symm
            clear hz e2
            cases z
            all_goals
              go_wp2_with (go_at_call 93; (with_reducible refine Calls.mono (packet_in (LiesN.new _ _ _ _ [src, dst] _ rfl rfl) (by omega) HX1.out) ?_); rintro e w1 ⟨rfl, rfl⟩)
              go_meet
              exact ⟨_, rfl, HF, Below_new _ _⟩
    case rest =>
      obtain ⟨b, rfl, HBB, HB1⟩ := hcut
      have HP := hide (HP.out.belowN HB1.out)
      have HB2 := hide (Below_step HB.out HB1.out)
      have c0 := HP.out.cell (j := 0) (by simp)
      have c4 := HP.out.cell (j := 4) (by simp)
      have c5 := HP.out.cell (j := 5) (by simp)
      have c6 := HP.out.cell (j := 6) (by simp)
      have c7 := HP.out.cell (j := 7) (by simp)
      have c8 := HP.out.cell (j := 8) (by simp)
      simp only [List.getElem_cons_zero, List.getElem_cons_succ] at c0 c4 c5 c6 c7 c8
      have hg := HP.out.lt
      cases b
      · have HR1 : Hid (r = (if kind = 1 then Pkt.inB 1000 [first, ack, frame] && decide (n ≤ 32)
          else if kind = 2 then Pkt.inB 0 [first, ack, frame, (n : Int)] && (sum == 0) else false)) := by
          show r = _
          rw [HR.out]
          have := HBB.out
          revert this
          cases (x1 && !(src == dst) && decide (0 ≤ id) && decide (id ≤ 1099511627776))
          · intro h; cases h
          · intro; rfl
        clear HR HBB
        by_cases k1 : kind = 1
        · rw [if_pos k1] at HR1
          subst k1
          obtain ⟨x2, hx2⟩ : ∃ x, x = Pkt.inB 1000 [first, ack, frame] := ⟨_, rfl⟩
          have HX2 := hide hx2
          rw [← hx2] at HR1
          clear hx2
          obtain ⟨x3, hx3⟩ : ∃ x, decide (n ≤ 32) = x := ⟨_, rfl⟩
          rw [hx3] at HR1
          have dn : decide ((n : Int) ≤ 32) = x3 := by rw [← hx3]; congr 1; apply propext; omega
          cases x2
          · obtain rfl : r = false := HR1.out
            go_wp2_with (go_at_call 93; (with_reducible refine Calls.mono (packet_in (LiesN.new _ _ _ _ [first, ack, frame] _ rfl rfl) (by omega) HX2.out) ?_); rintro e w1 ⟨rfl, rfl⟩)
            go_ret
            exact ⟨rfl, Below_step HB2.out (Below_new _ _)⟩
          · obtain rfl : r = x3 := HR1.out
            go_wp2_with (go_at_call 93; (with_reducible refine Calls.mono (packet_in (LiesN.new _ _ _ _ [first, ack, frame] _ rfl rfl) (by omega) HX2.out) ?_); rintro e w1 ⟨rfl, rfl⟩)
            go_ret
            exact ⟨rfl, Below_step HB2.out (Below_new _ _)⟩
        · have dk : (kind == 1) = false := by simp [k1]
          rw [if_neg k1] at HR1
          by_cases k2 : kind = 2
          · rw [if_pos k2] at HR1
            subst k2
            obtain ⟨x2, hx2⟩ : ∃ x, x = Pkt.inB 0 [first, ack, frame, (n : Int)] := ⟨_, rfl⟩
            have HX2 := hide hx2
            rw [← hx2] at HR1
            clear hx2 dk k1
            cases x2
            · obtain rfl : r = false := HR1.out
              go_wp2_with (go_at_call 93; (with_reducible refine Calls.mono (packet_in (LiesN.new _ _ _ _ [first, ack, frame, (n : Int)] _ rfl rfl) (by omega) HX2.out) ?_); rintro e w1 ⟨rfl, rfl⟩)
              go_ret
              exact ⟨rfl, Below_step HB2.out (Below_new _ _)⟩
            · obtain ⟨x3, hx3⟩ : ∃ x, (sum == 0) = x := ⟨_, rfl⟩
              rw [hx3] at HR1
              obtain rfl : r = x3 := HR1.out
              go_wp2_with (go_at_call 93; (with_reducible refine Calls.mono (packet_in (LiesN.new _ _ _ _ [first, ack, frame, (n : Int)] _ rfl rfl) (by omega) HX2.out) ?_); rintro e w1 ⟨rfl, rfl⟩)
              go_ret
              exact ⟨rfl, Below_step HB2.out (Below_new _ _)⟩
          · have dk2 : (kind == 2) = false := by simp [k2]
            rw [if_neg k2] at HR1
            obtain rfl : r = false := HR1.out
            clear k1 k2
            go_wp2
            go_ret
            exact ⟨rfl, HB2.out⟩
      · obtain rfl : r = false := by
          rw [HR.out]
          have := HBB.out
          revert this
          cases (x1 && !(src == dst) && decide (0 ≤ id) && decide (id ≤ 1099511627776))
          · intro; rfl
          · intro h; cases h
        go_wp2
        go_ret
        exact ⟨rfl, HB2.out⟩
end Go.Proofs.Ytbcgffgiifminaa
namespace Go.Proofs.Ytbcgffgiifminaa
open Go.RowKit
set_option maxRecDepth 10000
set_option linter.unusedVariables false
namespace Pkt
def bad (kind src dst id : Int) : Bool := decide (kind < 1) || (decide (2 < kind) || (decide (src < 0) || (decide (7 < src) || (decide (dst < 0) || (decide (7 < dst) || ((src == dst) || (decide (id < 0) || decide (1099511627776 < id))))))))
def quit (first n ack frame sum : Int) : Bool := (first == 0) && ((n == 0) && ((ack == 0) && ((frame == 0) && (sum == 0))))
def fr (n : Int) : Bool := decide (0 ≤ n) && decide (n ≤ 1000)
theorem may_ref (p : Pkt) : p.may = (!(bad p.kind p.src p.dst p.id) && (if p.kind = 2 then quit p.first (p.press.length : Int) p.ack p.frame p.sum else fr p.first && (fr p.ack && (fr p.frame && decide ((p.press.length : Int) ≤ 32))))) := by
  rw [Bool.eq_iff_iff, may_iff]
  constructor
  · intro f
    have h1 := f.src
    have h2 := f.dst
    have h3 := f.ne
    have h4 := f.id
    rw [Bool.and_eq_true]
    constructor
    · have := f.kind
      unfold bad
      simp only [Bool.not_eq_true', Bool.or_eq_false_iff, decide_eq_false_iff_not, beq_eq_false_iff_ne]
      refine ⟨by omega, by omega, by omega, by omega, by omega, by omega, h3, by omega, by omega⟩
    · rcases f.kind with ⟨k, a, b, c, d⟩ | ⟨k, a, b, c, d, e⟩
      · rw [if_neg (by omega)]
        unfold fr
        simp only [Bool.and_eq_true, decide_eq_true_eq]
        omega
      · rw [if_pos k]
        unfold quit
        simp [a, b, c, d, e]
  · intro h
    rw [Bool.and_eq_true] at h
    obtain ⟨h1, h2⟩ := h
    unfold bad at h1
    simp only [Bool.not_eq_true', Bool.or_eq_false_iff, decide_eq_false_iff_not, beq_eq_false_iff_ne] at h1
    obtain ⟨h11, h12, h13, h14, h15, h16, h17, h18, h19⟩ := h1
    refine ⟨by omega, by omega, h17, by omega, ?_⟩
    by_cases k : p.kind = 2
    · rw [if_pos k] at h2
      unfold quit at h2
      simp only [Bool.and_eq_true, beq_iff_eq] at h2
      obtain ⟨a, b, c, d, e⟩ := h2
      exact .inr ⟨k, a, c, d, List.eq_nil_of_length_eq_zero (by omega), e⟩
    · rw [if_neg k] at h2
      unfold fr at h2
      simp only [Bool.and_eq_true, decide_eq_true_eq] at h2
      exact .inl ⟨by omega, by omega, by omega, by omega, by omega⟩
/-- The same? -/
def eqb (p q : Pkt) : Bool := (p.kind == q.kind) && ((p.src == q.src) && ((p.dst == q.dst) && ((p.id == q.id) && ((p.first == q.first) && ((p.press == q.press) && ((p.ack == q.ack) && ((p.frame == q.frame) && (p.sum == q.sum))))))))
theorem eqb_iff (p q : Pkt) : eqb p q = true ↔ p = q := by
  cases p; cases q
  unfold eqb
  simp only [Bool.and_eq_true, beq_iff_eq, Pkt.mk.injEq]
theorem eqb_self (p : Pkt) : eqb p p = true := (eqb_iff p p).2 rfl
theorem eqb_not {p q : Pkt} (h : p ≠ q) : eqb p q = false := by
  cases e : eqb p q with
  | false => rfl
  | true => exact absurd ((eqb_iff p q).1 e) h
end Pkt
set_option maxHeartbeats 400000 in
theorem ref_frames (x : Int) (w : World) {r : Bool} (hr : Pkt.fr x = r) : Calls Try.prog 83 #[.int .i64 x] w fun e w' => e = .returned (.bool r) ∧ w = w' := by
  obtain ⟨z1, d1⟩ : ∃ z, (decide (0 ≤ x)) = z := ⟨_, rfl⟩
  obtain ⟨z2, d2⟩ : ∃ z, (decide (x ≤ 1000)) = z := ⟨_, rfl⟩
  have HR : Hid (r = (z1 && z2)) := by show _ = _; rw [← hr, Pkt.fr, d1, d2]
  clear hr
  cases z1
  · obtain rfl : r = false := HR.out
    go_enter Try.func83, Try.ntmps83
    go_wp2
    go_ret
    exact ⟨rfl, rfl⟩
  · obtain rfl : r = z2 := HR.out
    go_enter Try.func83, Try.ntmps83
    go_wp2
    go_ret
    exact ⟨rfl, rfl⟩
set_option maxHeartbeats 400000 in
theorem bytes_Equal {A A' : Option Addr} {n n' c c' B B' : Nat} {l l' : List UInt8} {w : World} {r : Bool} (h : LiesB w B A n l) (h' : LiesB w B' A' n' l') (hr : (l == l') = r) :
    Calls Try.prog 81 #[.slice A n c, .slice A' n' c'] w fun e w' => e = .returned (.bool r) ∧ w = w' := by
  have H := hide h
  have H' := hide h'
  subst hr
  clear h h'
  go_enter Try.func81, Try.ntmps81
  go_wp2_with fail
  rw [run_stringB H.out]
  go_wp2_with fail
  rw [run_stringB H'.out]
  go_wp2_with fail
  go_ret
  exact ⟨rfl, rfl⟩
set_option maxHeartbeats 400000 in
theorem num_Four (a : Int) (w : World) (h1 : 0 ≤ a) (h2 : a < 4294967296) : Calls Try.prog 89 #[.int .u32 a] w fun e w' =>
    ∃ A c, e = .returned (.slice A 4 c) ∧ OwnB w' w.heap.size A 4 c (be32 a) ∧ Below w.heap.size w w' := by
  have HE := hide (Int.emod_eq_of_lt h1 h2)
  go_enter Try.func89, Try.ntmps89
  go_wp2
  go_ret
  refine ⟨_, _, rfl, OwnB.new _ _ 4 _ rfl (by simp [maxLen]) ?_, Below_new _ _⟩
  have := be32_cells a
  rw [HE.out] at this
  exact this
set_option maxHeartbeats 2000000 in
set_option maxRecDepth 10000 in
theorem ref_MayPacket (p : Pkt) {A : Option Addr} {n c : Nat} {w : World} {r : Bool} (hn : p.press.length = n) (hm : n ≤ 9223372036854775807) (hr : r = p.may) :
    Calls Try.prog 55 #[p.val (.slice A n c)] w fun e w' => e = .returned (.bool r) ∧ Below w.heap.size w w' := by
  have HR0 := p.may_ref
  obtain ⟨kind, src, dst, id, first, press, ack, frame, sum⟩ := p
  simp only at hn HR0
  rw [hn] at HR0
  have HR := hide (hr.trans HR0)
  clear hr hn HR0
  go_enter Try.func55, Try.ntmps55
  go_upto_region 1 with fail
  have HP : Hid (Arr 41 (w.alloc (.cells (Pkt.row ⟨kind, src, dst, id, first, press, ack, frame, sum⟩ (.slice A n c)).toArray 41)) w.heap.size (Pkt.row ⟨kind, src, dst, id, first, press, ack, frame, sum⟩ (.slice A n c))) := Arr.new 41 w _ _ rfl
  have HB : Hid (Below w.heap.size w (w.alloc (.cells (Pkt.row ⟨kind, src, dst, id, first, press, ack, frame, sum⟩ (.slice A n c)).toArray 41))) := Below_new _ _
  simp only [Pkt.row] at HP HB
  generalize World.alloc w _ = wx at HP HB ⊢
  obtain ⟨bb, hbb⟩ : ∃ b, b = Pkt.bad kind src dst id := ⟨_, rfl⟩
  rw [← hbb] at HR
  obtain ⟨z1, d1⟩ : ∃ z, (decide (kind < 1)) = z := ⟨_, rfl⟩
  obtain ⟨z2, d2⟩ : ∃ z, (decide (2 < kind)) = z := ⟨_, rfl⟩
  obtain ⟨z3, d3⟩ : ∃ z, (decide (src < 0)) = z := ⟨_, rfl⟩
  obtain ⟨z4, d4⟩ : ∃ z, (decide (7 < src)) = z := ⟨_, rfl⟩
  obtain ⟨z5, d5⟩ : ∃ z, (decide (dst < 0)) = z := ⟨_, rfl⟩
  obtain ⟨z6, d6⟩ : ∃ z, (decide (7 < dst)) = z := ⟨_, rfl⟩
  obtain ⟨z7, d7⟩ : ∃ z, (src == dst) = z := ⟨_, rfl⟩
  obtain ⟨z8, d8⟩ : ∃ z, (decide (id < 0)) = z := ⟨_, rfl⟩
  obtain ⟨z9, d9⟩ : ∃ z, (decide (1099511627776 < id)) = z := ⟨_, rfl⟩
  have HBB : Hid (bb = (z1 || (z2 || (z3 || (z4 || (z5 || (z6 || (z7 || (z8 || z9))))))))) := by show _ = _; rw [hbb, Pkt.bad, d1, d2, d3, d4, d5, d6, d7, d8, d9]
  clear hbb
  have c0 := HP.out.cell (j := 0) (by simp)
  have c1 := HP.out.cell (j := 1) (by simp)
  have c2 := HP.out.cell (j := 2) (by simp)
  have c3 := HP.out.cell (j := 3) (by simp)
  simp only [List.getElem_cons_zero, List.getElem_cons_succ] at c0 c1 c2 c3
  have hgc := HP.out.lt
  go_cut [47] (fun s wy => s = .bool bb ∧ wx = wy)
  case first =>
    cases z1
    case true =>
      go_wp2
      go_meet
      exact ⟨congrArg Value.bool HBB.out.symm, rfl⟩
    cases z2
    case true =>
      go_wp2
      go_meet
      exact ⟨congrArg Value.bool HBB.out.symm, rfl⟩
    cases z3
    case true =>
      go_wp2
      go_meet
      exact ⟨congrArg Value.bool HBB.out.symm, rfl⟩
    cases z4
    case true =>
      go_wp2
      go_meet
      exact ⟨congrArg Value.bool HBB.out.symm, rfl⟩
    cases z5
    case true =>
      go_wp2
      go_meet
      exact ⟨congrArg Value.bool HBB.out.symm, rfl⟩
    cases z6
    case true =>
      go_wp2
      go_meet
      exact ⟨congrArg Value.bool HBB.out.symm, rfl⟩
    cases z7
    case true =>
      go_wp2
      go_meet
      exact ⟨congrArg Value.bool HBB.out.symm, rfl⟩
    cases z8
    case true =>
      go_wp2
      go_meet
      exact ⟨congrArg Value.bool HBB.out.symm, rfl⟩
    cases z9
    case true =>
      go_wp2
      go_meet
      exact ⟨congrArg Value.bool HBB.out.symm, rfl⟩
    go_wp2
    go_meet
    exact ⟨congrArg Value.bool HBB.out.symm, rfl⟩
  case rest =>
    obtain ⟨rfl, rfl⟩ := hcut
    clear d1 d2 d3 d4 d5 d6 d7 d8 d9 HBB c1 c2 c3
    cases bb
    · have HR1 : Hid (r = (if kind = 2 then Pkt.quit first n ack frame sum else Pkt.fr first && (Pkt.fr ack && (Pkt.fr frame && decide ((n : Int) ≤ 32))))) := by
        show r = _
        rw [HR.out]; rfl
      clear HR
      have c0 := HP.out.cell (j := 0) (by simp)
      have c4 := HP.out.cell (j := 4) (by simp)
      have c5 := HP.out.cell (j := 5) (by simp)
      have c6 := HP.out.cell (j := 6) (by simp)
      have c7 := HP.out.cell (j := 7) (by simp)
      have c8 := HP.out.cell (j := 8) (by simp)
      simp only [List.getElem_cons_zero, List.getElem_cons_succ] at c0 c4 c5 c6 c7 c8
      have hgc := HP.out.lt
      by_cases k2 : kind = 2
      · rw [if_pos k2] at HR1
        subst k2
        obtain ⟨z1, d1⟩ : ∃ z, (first == 0) = z := ⟨_, rfl⟩
        obtain ⟨z2, d2⟩ : ∃ z, ((n : Int) == 0) = z := ⟨_, rfl⟩
        obtain ⟨z3, d3⟩ : ∃ z, (ack == 0) = z := ⟨_, rfl⟩
        obtain ⟨z4, d4⟩ : ∃ z, (frame == 0) = z := ⟨_, rfl⟩
        obtain ⟨z5, d5⟩ : ∃ z, (sum == 0) = z := ⟨_, rfl⟩
        have HQ : Hid ((z1 && (z2 && (z3 && (z4 && z5)))) = r) := by show _ = _; rw [HR1.out, Pkt.quit, d1, d2, d3, d4, d5]
        cases z1
        case false =>
          obtain rfl := HQ.out
          go_wp2
          go_ret
          exact ⟨rfl, HB.out⟩
        cases z2
        case false =>
          obtain rfl := HQ.out
          go_wp2
          go_ret
          exact ⟨rfl, HB.out⟩
        cases z3
        case false =>
          obtain rfl := HQ.out
          go_wp2
          go_ret
          exact ⟨rfl, HB.out⟩
        cases z4
        case false =>
          obtain rfl := HQ.out
          go_wp2
          go_ret
          exact ⟨rfl, HB.out⟩
        cases z5
        case false =>
          obtain rfl := HQ.out
          go_wp2
          go_ret
          exact ⟨rfl, HB.out⟩
        obtain rfl := HQ.out
        go_wp2
        go_ret
        exact ⟨rfl, HB.out⟩
      · have dk : (kind == 2) = false := by simp [k2]
        rw [if_neg k2] at HR1
        clear k2
        obtain ⟨z1, d1⟩ : ∃ z, (Pkt.fr first) = z := ⟨_, rfl⟩
        obtain ⟨z2, d2⟩ : ∃ z, (Pkt.fr ack) = z := ⟨_, rfl⟩
        obtain ⟨z3, d3⟩ : ∃ z, (Pkt.fr frame) = z := ⟨_, rfl⟩
        obtain ⟨z4, d4⟩ : ∃ z, (decide ((n : Int) ≤ 32)) = z := ⟨_, rfl⟩
        have HQ : Hid ((z1 && (z2 && (z3 && z4))) = r) := by show _ = _; rw [HR1.out, d1, d2, d3, d4]
        have D1 := hide d1
        have D2 := hide d2
        have D3 := hide d3
        clear d1 d2 d3
        cases z1
        case false =>
          obtain rfl := HQ.out
          go_wp2_with (go_at_call 83; (with_reducible first | refine Calls.mono (ref_frames first _ D1.out) ?_ | refine Calls.mono (ref_frames ack _ D2.out) ?_ | refine Calls.mono (ref_frames frame _ D3.out) ?_); rintro e w1 ⟨rfl, rfl⟩)
          go_ret
          exact ⟨rfl, HB.out⟩
        cases z2
        case false =>
          obtain rfl := HQ.out
          go_wp2_with (go_at_call 83; (with_reducible first | refine Calls.mono (ref_frames first _ D1.out) ?_ | refine Calls.mono (ref_frames ack _ D2.out) ?_ | refine Calls.mono (ref_frames frame _ D3.out) ?_); rintro e w1 ⟨rfl, rfl⟩)
          go_ret
          exact ⟨rfl, HB.out⟩
        cases z3
        case false =>
          obtain rfl := HQ.out
          go_wp2_with (go_at_call 83; (with_reducible first | refine Calls.mono (ref_frames first _ D1.out) ?_ | refine Calls.mono (ref_frames ack _ D2.out) ?_ | refine Calls.mono (ref_frames frame _ D3.out) ?_); rintro e w1 ⟨rfl, rfl⟩)
          go_ret
          exact ⟨rfl, HB.out⟩
        cases z4
        case false =>
          obtain rfl := HQ.out
          go_wp2_with (go_at_call 83; (with_reducible first | refine Calls.mono (ref_frames first _ D1.out) ?_ | refine Calls.mono (ref_frames ack _ D2.out) ?_ | refine Calls.mono (ref_frames frame _ D3.out) ?_); rintro e w1 ⟨rfl, rfl⟩)
          go_ret
          exact ⟨rfl, HB.out⟩
        obtain rfl := HQ.out
        go_wp2_with (go_at_call 83; (with_reducible first | refine Calls.mono (ref_frames first _ D1.out) ?_ | refine Calls.mono (ref_frames ack _ D2.out) ?_ | refine Calls.mono (ref_frames frame _ D3.out) ?_); rintro e w1 ⟨rfl, rfl⟩)
        go_ret
        exact ⟨rfl, HB.out⟩
    · obtain rfl : r = false := HR.out
      go_wp2
      go_ret
      exact ⟨rfl, HB.out⟩
end Go.Proofs.Ytbcgffgiifminaa
namespace Go.Proofs.Ytbcgffgiifminaa
open Go.RowKit
set_option maxRecDepth 10000
set_option linter.unusedVariables false
set_option maxRecDepth 10000 in
set_option maxHeartbeats 2000000 in
theorem runs_Encode (A : Option Addr) (n c B : Nat) (l : List UInt8) (w : World) (hA : LiesB w B A n l) (hB : B ≤ w.heap.size) (hn : n ≤ 10000) :
    Calls Try.prog 90 #[.slice A n c] w fun e w' => ∃ A' n' c', e = .returned (.slice A' n' c') ∧ OwnB w' w.heap.size A' n' c' (Runs.enc 0 l) ∧ Below w.heap.size w w' := by
  have hlen := Runs.enc_len n 0 l (by rw [hA.len]; omega) (by rw [hA.len]; omega)
  rw [hA.len] at hlen
  obtain ⟨R, hR⟩ : ∃ R, R = Runs.enc 0 l := ⟨_, rfl⟩
  rw [← hR] at hlen ⊢
  have HR := hide hR
  have HA := hide hA
  clear hR hA
  go_enter Try.func90, Try.ntmps90
  go_wp2
  go_loopw [3, 4, 5] (fun s x i wr => ∃ (k : Nat) (A' : Option Addr) (n' c' : Nat) (l' : List UInt8) (ah : UInt8), k ≤ n ∧ i = .int .i64 k ∧ x = .int .u8 (ah.toNat : Int) ∧ s = .slice A' n' c' ∧ OwnB wr w.heap.size A' n' c' l' ∧ l' ++ Runs.enc ah (l.drop k) = R ∧ Below w.heap.size w wr) (fun _ _ i _ => n - (intOf i).toNat)
  case atStart => exact ⟨0, _, _, _, [], 0, by omega, rfl, rfl, rfl, OwnB.nil _ _, by simp [HR.out], Below.refl _ _⟩
  case round =>
    obtain ⟨W1, hW1⟩ : ∃ W1, W1 = wr := ⟨_, rfl⟩
    subst hW1
    obtain ⟨k, A', n', c', l', ah, hk, rfl, rfl, rfl, hown, heq, hbel⟩ := hrel
    have HL := hide (HA.out.below (hbel.mono hB))
    have HO := hide hown
    have HB := hide hbel
    have hsz : w.heap.size ≤ W1.heap.size := hbel.size
    have hl' : n' ≤ 110000 := by
      have e2 := congrArg List.length heq
      have e3 := hown.len
      rw [List.length_append] at e2
      omega
    have HE := hide heq
    clear hown hbel heq
    by_cases hlt : k < n
    · obtain ⟨b, off, hlk, rfl, hbB, hc⟩ := HL.out.at_ hlt
      have hbw : b < w.heap.size := by omega
      obtain ⟨x, hx⟩ : ∃ x, x = l[k] := ⟨_, rfl⟩
      rw [← hx] at hc
      have hc0 : w.cell? ⟨b, off + k, none⟩ = some (.int .u8 (x.toNat : Int)) := (HB.out.cell (p := ⟨b, off + k, none⟩) hbw).symm.trans hc
      have HX := hide hx
      clear hx
      go_wp2
      go_loopw [6] (fun j wx => ∃ m q : Nat, k ≤ m ∧ m ≤ n ∧ j = .int .i64 m ∧ Runs.lead x (l.drop m) + (m - k) = Runs.lead x (l.drop k) ∧ wx = W1.drewN q) (fun j _ => n - (intOf j).toNat)
      case atStart => exact ⟨k, 0, by omega, hk, rfl, by omega, rfl⟩
      case round =>
        obtain ⟨m, q, hkm, hm, rfl, hlead, hwx⟩ := hrel
        have HLD := hide hlead
        have h1 := HL.out.drewN q
        have h2 : (W1.drewN q).cell? ⟨b, off + k, none⟩ = some (.int .u8 (x.toNat : Int)) := hc
        rw [← hwx] at h1 h2
        have HL1 := hide h1
        have HWX := hide hwx
        clear hlead hwx h1 hc
        have HGO := hide (show ∀ m, Runs.lead x (l.drop m) = 0 → Runs.lead x (l.drop m) + (m - k) = Runs.lead x (l.drop k) → k ≤ m → m ≤ n → l' ++ (Var.put (Var.zig ((m : Int) - k)) ++ [x ^^^ ah]) ++ Runs.enc x (l.drop m) = R from fun m h0 hm1 hm2 hm3 => by
          rw [← HE.out, Runs.enc_step (last := ah) hlk (by rw [← HX.out]; exact hm1) (by rw [← HX.out]; exact h0) hm2, ← HX.out]
          simp [List.append_assoc])
        by_cases hmn : m < n
        · obtain ⟨b2, off2, hlm, e2, -, hc2⟩ := HL1.out.at_ hmn
          injection e2 with e2
          injection e2 with e21 e22
          subst e21 e22
          by_cases hq : l[m] = x
          · rw [hq] at hc2
            have HQ := hide hq
            clear hq
            go_wp2
            go_quiet (fail)
            go_wp2
            exact ⟨⟨m + 1, q + nq, by omega, by omega, by go_num, by have := Runs.lead_eq hlm HQ.out; have := HLD.out; omega, by rw [HWX.out, World.drewN_drewN]⟩, by simp [intOf]; omega⟩
          · have hq2 : ¬ (l[m].toNat = x.toNat) := fun h => hq (UInt8.toNat_inj.1 h)
            have hlead0 : Runs.lead x (l.drop m) = 0 := Runs.lead_ne hlm hq
            generalize l[m] = y at hc2 hq2
            clear hq
            have hdec : ((y.toNat : Int) == (x.toNat : Int)) = false := by simp; omega
            go_wp2
            go_quiet (fail)
            go_wp2
            have hst := HGO.out m hlead0 HLD.out hkm hm
            have hmk : k < m := by have h1 := Runs.lead_eq (x := x) hlk HX.out.symm; have := HLD.out; omega
            have HST := hide hst
            have HO2 : OwnB (wr.drewN nq) w.heap.size A' n' c' l' := by rw [HWX.out]; exact (HO.out.drewN _).drewN _
            have HB2 : Below w.heap.size w (wr.drewN nq) := by rw [HWX.out]; exact Below_drewN (Below_drewN HB.out q) nq
            have hcw : (wr.drewN nq).cell? ⟨b, off + k, none⟩ = some (.int .u8 (x.toNat : Int)) := h2
            clear hst h2 hlead0
            generalize wr.drewN nq = W2 at HO2 HB2 hcw ⊢
            have HO3 := hide HO2
            have HB3 := hide HB2
            have hs3 : w.heap.size ≤ W2.heap.size := HB2.size
            have hs2 : w.heap.size ≤ W2.drew.heap.size := hs3
            have HO2 := hide HO3.out.drew
            have HB2 := hide HB3.out.drew
            have hp10 := Var.put_len10 (Var.zig ((m : Int) - k)) (Var.zig_lt _ (by omega) (by omega))
            have hxor := bits_xor8 x ah
            obtain ⟨z, hz⟩ : ∃ z, z = x ^^^ ah := ⟨_, rfl⟩
            rw [← hz] at hxor HST
            have HZ := hide hz
            clear hz
            have hwrap : IntKind.i64.wrap ((m : Int) - (k : Int)) = (m : Int) - (k : Int) := by rw [IntKind.wrap_i64]; omega
            go_wp2_with fail
            go_region_law (first
              | (go_simp; go_at_call 88; (refine Calls.mono (num_Put A' n' c' w.heap.size l' _ _ HO2.out hs2 (by omega) (by omega) (by omega)) ?_); rintro e w4 ⟨A4, n4, c4, rfl, own4, k4⟩; have HB4 : Below w.heap.size w w4 := HB2.out.trans (k4.belowOwn HO2.out hs2); have hc4 : w4.cell? ⟨b, off + k, none⟩ = some (.int .u8 (x.toNat : Int)) := (HB4.cell (p := ⟨b, off + k, none⟩) hbw).trans hc0; have hs4 := HB4.size; have hn4 := own4.len)
              | (go_simp; go_at_call 88; (refine Calls.mono (num_Put A' n' c' w.heap.size l' _ _ (HO3.out.below (Below_new _ _)).drew (by simp [World.drew]; omega) (by omega) (by omega) (by omega)) ?_); rintro e w4 ⟨A4, n4, c4, rfl, own4, k4⟩; have HB4 : Below w.heap.size w w4 := (HB3.out.trans ((Below_new _ _).mono hs3)).drew.trans (k4.belowOwn HO2.out (by simp [World.drew]; omega)); have L4 := (LiesB.new W2 _ _ _ [z] 1 rfl rfl).drew.keeps k4 (by intro b' off' e _ hs; injection e with e; injection e with e1 e2; have := (HO3.out.blk b' hs).2; omega); have hc4 : w4.cell? ⟨b, off + k, none⟩ = some (.int .u8 (x.toNat : Int)) := (HB4.cell (p := ⟨b, off + k, none⟩) hbw).trans hc0; have hs4 := HB4.size; have hn4 := own4.len)
              | (refine step_appendB rfl (.tmp 33) (.tmp 40) rfl w.heap.size A4 n4 c4 _ rfl own4 _ _ 1 1 [z] rfl L4 (n4 + 1) _ rfl rfl (by rw [List.length_append] at hn4; have := HO2.out.len; omega) hs4 ?_; intro A5 c5 w5 own5 k5 hk5; have HB5 : Below w.heap.size w w5 := HB4.trans (k5.belowOwn own4 hs4))
              | (refine step_appendB rfl (.tmp 33) (.tmp 40) rfl w.heap.size A4 n4 c4 _ rfl (own4.below (Below_new _ _)) _ _ 1 1 [z] rfl (LiesB.new _ _ _ _ _ _ rfl rfl) (n4 + 1) _ rfl rfl (by rw [List.length_append] at hn4; have := HO2.out.len; omega) (by simp; omega) ?_; intro A5 c5 w5 own5 k5 hk5; have HB5 : Below w.heap.size w w5 := (HB4.trans ((Below_new _ _).mono hs4)).trans (k5.belowOwn own4 (by simp; omega))))
            all_goals
              have hc5 : w5.cell? ⟨b, off + k, none⟩ = some (.int .u8 (x.toNat : Int)) := (HB5.cell (p := ⟨b, off + k, none⟩) hbw).trans hc0
              have HB6 := hide HB5
              have HO6 := hide own5
              clear HB5 own5 hk5 k5
              go_wp2
              exact ⟨⟨m, A5, n4 + 1, c5, _, x, hm, rfl, rfl, rfl, HO6.out, by rw [← HST.out]; simp [List.append_assoc], HB6.out⟩, by simp [intOf]; omega⟩
        · have hlead0 : Runs.lead x (l.drop m) = 0 := Runs.lead_end (by rw [HL1.out.len]; omega)
          go_wp2
          go_quiet (fail)
          go_wp2
          have hst := HGO.out m hlead0 HLD.out hkm hm
          have hmk : k < m := by have h1 := Runs.lead_eq (x := x) hlk HX.out.symm; have := HLD.out; omega
          have HST := hide hst
          have HO2 : OwnB (wr.drewN nq) w.heap.size A' n' c' l' := by rw [HWX.out]; exact (HO.out.drewN _).drewN _
          have HB2 : Below w.heap.size w (wr.drewN nq) := by rw [HWX.out]; exact Below_drewN (Below_drewN HB.out q) nq
          have hcw : (wr.drewN nq).cell? ⟨b, off + k, none⟩ = some (.int .u8 (x.toNat : Int)) := h2
          clear hst h2 hlead0
          generalize wr.drewN nq = W2 at HO2 HB2 hcw ⊢
          have HO3 := hide HO2
          have HB3 := hide HB2
          have hs3 : w.heap.size ≤ W2.heap.size := HB2.size
          have hs2 : w.heap.size ≤ W2.drew.heap.size := hs3
          have HO2 := hide HO3.out.drew
          have HB2 := hide HB3.out.drew
          have hp10 := Var.put_len10 (Var.zig ((m : Int) - k)) (Var.zig_lt _ (by omega) (by omega))
          have hxor := bits_xor8 x ah
          obtain ⟨z, hz⟩ : ∃ z, z = x ^^^ ah := ⟨_, rfl⟩
          rw [← hz] at hxor HST
          have HZ := hide hz
          clear hz
          have hwrap : IntKind.i64.wrap ((m : Int) - (k : Int)) = (m : Int) - (k : Int) := by rw [IntKind.wrap_i64]; omega
          go_wp2_with fail
          go_region_law (first
            | (go_simp; go_at_call 88; (refine Calls.mono (num_Put A' n' c' w.heap.size l' _ _ HO2.out hs2 (by omega) (by omega) (by omega)) ?_); rintro e w4 ⟨A4, n4, c4, rfl, own4, k4⟩; have HB4 : Below w.heap.size w w4 := HB2.out.trans (k4.belowOwn HO2.out hs2); have hc4 : w4.cell? ⟨b, off + k, none⟩ = some (.int .u8 (x.toNat : Int)) := (HB4.cell (p := ⟨b, off + k, none⟩) hbw).trans hc0; have hs4 := HB4.size; have hn4 := own4.len)
            | (go_simp; go_at_call 88; (refine Calls.mono (num_Put A' n' c' w.heap.size l' _ _ (HO3.out.below (Below_new _ _)).drew (by simp [World.drew]; omega) (by omega) (by omega) (by omega)) ?_); rintro e w4 ⟨A4, n4, c4, rfl, own4, k4⟩; have HB4 : Below w.heap.size w w4 := (HB3.out.trans ((Below_new _ _).mono hs3)).drew.trans (k4.belowOwn HO2.out (by simp [World.drew]; omega)); have L4 := (LiesB.new W2 _ _ _ [z] 1 rfl rfl).drew.keeps k4 (by intro b' off' e _ hs; injection e with e; injection e with e1 e2; have := (HO3.out.blk b' hs).2; omega); have hc4 : w4.cell? ⟨b, off + k, none⟩ = some (.int .u8 (x.toNat : Int)) := (HB4.cell (p := ⟨b, off + k, none⟩) hbw).trans hc0; have hs4 := HB4.size; have hn4 := own4.len)
            | (refine step_appendB rfl (.tmp 33) (.tmp 40) rfl w.heap.size A4 n4 c4 _ rfl own4 _ _ 1 1 [z] rfl L4 (n4 + 1) _ rfl rfl (by rw [List.length_append] at hn4; have := HO2.out.len; omega) hs4 ?_; intro A5 c5 w5 own5 k5 hk5; have HB5 : Below w.heap.size w w5 := HB4.trans (k5.belowOwn own4 hs4))
            | (refine step_appendB rfl (.tmp 33) (.tmp 40) rfl w.heap.size A4 n4 c4 _ rfl (own4.below (Below_new _ _)) _ _ 1 1 [z] rfl (LiesB.new _ _ _ _ _ _ rfl rfl) (n4 + 1) _ rfl rfl (by rw [List.length_append] at hn4; have := HO2.out.len; omega) (by simp; omega) ?_; intro A5 c5 w5 own5 k5 hk5; have HB5 : Below w.heap.size w w5 := (HB4.trans ((Below_new _ _).mono hs4)).trans (k5.belowOwn own4 (by simp; omega))))
          all_goals
            have hc5 : w5.cell? ⟨b, off + k, none⟩ = some (.int .u8 (x.toNat : Int)) := (HB5.cell (p := ⟨b, off + k, none⟩) hbw).trans hc0
            have HB6 := hide HB5
            have HO6 := hide own5
            clear HB5 own5 hk5 k5
            go_wp2
            exact ⟨⟨m, A5, n4 + 1, c5, _, x, hm, rfl, rfl, rfl, HO6.out, by rw [← HST.out]; simp [List.append_assoc], HB6.out⟩, by simp [intOf]; omega⟩
    · obtain rfl : k = n := by omega
      go_wp2
      go_ret
      refine ⟨A', n', c', rfl, ?_, HB.out⟩
      have := HE.out
      rw [List.drop_eq_nil_of_le (by rw [HL.out.len]; omega), Runs.enc_nil, List.append_nil] at this
      rw [← this]
      exact HO.out
end Go.Proofs.Ytbcgffgiifminaa
namespace Go.Proofs.Ytbcgffgiifminaa
open Go.RowKit
set_option maxRecDepth 10000
set_option linter.unusedVariables false
namespace Var
theorem zig_neg2 {v : Int} (h : v < 0) (lo : -9223372036854775808 ≤ v) : bits BinOp.xor IntKind.u64 IntKind.u64.max (IntKind.u64.wrap (IntKind.u64.wrap v * 2)) = (zig v : Int) := zig_neg h lo
theorem wrap128 (u : Nat) : ((u : Int) % 128 + 128) = ((UInt8.ofNat (u % 128 + 128)).toNat : Int) := by
  rw [UInt8.toNat_ofNat']; omega
end Var
set_option maxRecDepth 10000 in
set_option maxHeartbeats 1000000 in
theorem ref_Put (v : Int) (w : World) (lo : -9223372036854775808 ≤ v) (hi : v ≤ 9223372036854775807) :
    Calls Try.prog 56 #[.int .i64 v] w fun e w' => ∃ A' n' c', e = .returned (.slice A' n' c') ∧ OwnB w' w.heap.size A' n' c' (Var.put (Var.zig v)) ∧ Below w.heap.size w w' := by
  have hz := Var.zig_lt v lo hi
  have h10 := Var.put_len10 _ hz
  obtain ⟨u0, hu0⟩ : ∃ u0, u0 = Var.zig v := ⟨_, rfl⟩
  rw [← hu0] at hz h10 ⊢
  have Hz := hide hz
  have Hu := hide hu0
  clear hz hu0
  by_cases hv : v < 0
  · have e1 := Var.zig_neg hv lo
    rw [← Hu.out] at e1
    have sg : IntKind.u64.signed = false := rfl
    go_enter Try.func56, Try.ntmps56
    go_wp2
    all_goals clear e1
    go_loopw [3, 4] (fun x s wr => ∃ A' n' c' l' u, s = .slice A' n' c' ∧ x = .int .u64 (u : Nat) ∧ u < 18446744073709551616 ∧ OwnB wr w.heap.size A' n' c' l' ∧ l' ++ Var.put u = Var.put u0 ∧ Below w.heap.size w wr) (fun x _ _ => (intOf x).toNat)
    case atStart => exact ⟨_, _, _, [], u0, rfl, rfl, Hz.out, OwnB.nil _ _, rfl, Below.refl _ _⟩
    case round =>
      obtain ⟨A', n', c', l', u, rfl, rfl, hu, hown, heq, hbel⟩ := hrel
      have hlen : n' ≤ 10 := by
        have e2 := congrArg List.length heq
        have e3 := hown.len
        rw [List.length_append] at e2
        omega
      have hb2 : w.heap.size ≤ wr.heap.size := by have := hbel.size; omega
      have HO := hide hown
      have HB := hide hbel
      have HE := hide heq
      have HU := hide hu
      clear hown hbel heq hu
      by_cases hbig : 127 < u
      · go_wp2_with (at_builtin; refine wpB_append rfl (.tmp 14) (.tmp 19) rfl w.heap.size A' n' c' l' rfl (HO.out.below (Below_new _ _)) _ _ 1 1 [UInt8.ofNat (u % 128 + 128)] rfl (LiesB.new _ _ _ _ _ _ rfl (congrArg (fun z => [Value.int .u8 z]) (Var.wrap128 u))) (n' + 1) _ rfl rfl (by omega) (by simp; omega) ?_; intro A2 c2 w2 own2 hb3 hg2)
        rw [show IntKind.u64.wrap ((u : Int) / 128) = ((u / 128 : Nat) : Int) from by have := HU.out; rw [IntKind.wrap_u64]; omega]
        refine ⟨⟨A2, n' + 1, c2, _, u / 128, rfl, rfl, by have := HU.out; omega, own2, ?_, HB.out.trans ((Below_new _ _).mono hb2 |>.trans hb3)⟩, by simp [intOf]; omega⟩
        rw [← HE.out, List.append_assoc, Var.put_big (u := u) (by omega)]; rfl
      · go_wp2_with (at_builtin; refine wpB_append rfl (.tmp 23) (.tmp 26) rfl w.heap.size A' n' c' l' rfl (HO.out.below (Below_new _ _)) _ _ 1 1 [UInt8.ofNat u] rfl (LiesB.new _ _ _ _ _ _ rfl (by simp [bv]; omega)) (n' + 1) _ rfl rfl (by omega) (by simp; omega) ?_; intro A2 c2 w2 own2 hb3 hg2)
        go_ret
        refine ⟨A2, n' + 1, c2, rfl, ?_, HB.out.trans ((Below_new _ _).mono hb2 |>.trans hb3)⟩
        rw [← HE.out, Var.put_small (u := u) (by omega)]
        exact own2
  · have sg : IntKind.u64.signed = false := rfl
    have e1 : v * 2 = (u0 : Int) := by rw [Hu.out, Var.zig, if_neg hv]; omega
    go_enter Try.func56, Try.ntmps56
    go_wp2
    try rw [e1]
    clear e1
    go_loopw [3, 4] (fun x s wr => ∃ A' n' c' l' u, s = .slice A' n' c' ∧ x = .int .u64 (u : Nat) ∧ u < 18446744073709551616 ∧ OwnB wr w.heap.size A' n' c' l' ∧ l' ++ Var.put u = Var.put u0 ∧ Below w.heap.size w wr) (fun x _ _ => (intOf x).toNat)
    case atStart => exact ⟨_, _, _, [], u0, rfl, rfl, Hz.out, OwnB.nil _ _, rfl, Below.refl _ _⟩
    case round =>
      obtain ⟨A', n', c', l', u, rfl, rfl, hu, hown, heq, hbel⟩ := hrel
      have hlen : n' ≤ 10 := by
        have e2 := congrArg List.length heq
        have e3 := hown.len
        rw [List.length_append] at e2
        omega
      have hb2 : w.heap.size ≤ wr.heap.size := by have := hbel.size; omega
      have HO := hide hown
      have HB := hide hbel
      have HE := hide heq
      have HU := hide hu
      clear hown hbel heq hu
      by_cases hbig : 127 < u
      · go_wp2_with (at_builtin; refine wpB_append rfl (.tmp 14) (.tmp 19) rfl w.heap.size A' n' c' l' rfl (HO.out.below (Below_new _ _)) _ _ 1 1 [UInt8.ofNat (u % 128 + 128)] rfl (LiesB.new _ _ _ _ _ _ rfl (congrArg (fun z => [Value.int .u8 z]) (Var.wrap128 u))) (n' + 1) _ rfl rfl (by omega) (by simp; omega) ?_; intro A2 c2 w2 own2 hb3 hg2)
        rw [show IntKind.u64.wrap ((u : Int) / 128) = ((u / 128 : Nat) : Int) from by have := HU.out; rw [IntKind.wrap_u64]; omega]
        refine ⟨⟨A2, n' + 1, c2, _, u / 128, rfl, rfl, by have := HU.out; omega, own2, ?_, HB.out.trans ((Below_new _ _).mono hb2 |>.trans hb3)⟩, by simp [intOf]; omega⟩
        rw [← HE.out, List.append_assoc, Var.put_big (u := u) (by omega)]; rfl
      · go_wp2_with (at_builtin; refine wpB_append rfl (.tmp 23) (.tmp 26) rfl w.heap.size A' n' c' l' rfl (HO.out.below (Below_new _ _)) _ _ 1 1 [UInt8.ofNat u] rfl (LiesB.new _ _ _ _ _ _ rfl (by simp [bv]; omega)) (n' + 1) _ rfl rfl (by omega) (by simp; omega) ?_; intro A2 c2 w2 own2 hb3 hg2)
        go_ret
        refine ⟨A2, n' + 1, c2, rfl, ?_, HB.out.trans ((Below_new _ _).mono hb2 |>.trans hb3)⟩
        rw [← HE.out, Var.put_small (u := u) (by omega)]
        exact own2
end Go.Proofs.Ytbcgffgiifminaa
namespace Go.Proofs.Ytbcgffgiifminaa
open Go.RowKit
set_option maxRecDepth 10000
set_option linter.unusedVariables false
set_option maxRecDepth 10000 in
set_option maxHeartbeats 2000000 in
theorem ref_Runs (A : Option Addr) (n c B : Nat) (l : List UInt8) (w : World) (hA : LiesB w B A n l) (hB : B ≤ w.heap.size) (hn : n ≤ 10000) :
    Calls Try.prog 58 #[.slice A n c] w fun e w' => ∃ A' n' c', e = .returned (.slice A' n' c') ∧ OwnB w' w.heap.size A' n' c' (Runs.enc 0 l) ∧ Below w.heap.size w w' := by
  have hlen := Runs.enc_len n 0 l (by rw [hA.len]; omega) (by rw [hA.len]; omega)
  rw [hA.len] at hlen
  obtain ⟨R, hR⟩ : ∃ R, R = Runs.enc 0 l := ⟨_, rfl⟩
  rw [← hR] at hlen ⊢
  have HR := hide hR
  have HA := hide hA
  clear hR hA
  go_enter Try.func58, Try.ntmps58
  go_wp2
  go_loopw [3, 4, 5] (fun s x i wr => ∃ (k : Nat) (A' : Option Addr) (n' c' : Nat) (l' : List UInt8) (ah : UInt8), k ≤ n ∧ i = .int .i64 k ∧ x = .int .u8 (ah.toNat : Int) ∧ s = .slice A' n' c' ∧ OwnB wr w.heap.size A' n' c' l' ∧ l' ++ Runs.enc ah (l.drop k) = R ∧ Below w.heap.size w wr) (fun _ _ i _ => n - (intOf i).toNat)
  case atStart => exact ⟨0, _, _, _, [], 0, by omega, rfl, rfl, rfl, OwnB.nil _ _, by simp [HR.out], Below.refl _ _⟩
  case round =>
    obtain ⟨W1, hW1⟩ : ∃ W1, W1 = wr := ⟨_, rfl⟩
    subst hW1
    obtain ⟨k, A', n', c', l', ah, hk, rfl, rfl, rfl, hown, heq, hbel⟩ := hrel
    have HL := hide (HA.out.below (hbel.mono hB))
    have HO := hide hown
    have HB := hide hbel
    have hsz : w.heap.size ≤ W1.heap.size := hbel.size
    have hl' : n' ≤ 110000 := by
      have e2 := congrArg List.length heq
      have e3 := hown.len
      rw [List.length_append] at e2
      omega
    have HE := hide heq
    clear hown hbel heq
    by_cases hlt : k < n
    · obtain ⟨b, off, hlk, rfl, hbB, hc⟩ := HL.out.at_ hlt
      have hbw : b < w.heap.size := by omega
      obtain ⟨x, hx⟩ : ∃ x, x = l[k] := ⟨_, rfl⟩
      rw [← hx] at hc
      have hc0 : w.cell? ⟨b, off + k, none⟩ = some (.int .u8 (x.toNat : Int)) := (HB.out.cell (p := ⟨b, off + k, none⟩) hbw).symm.trans hc
      have HX := hide hx
      clear hx
      go_wp2
      go_loopw [6] (fun j wx => ∃ c1 q : Nat, 1 ≤ c1 ∧ k + c1 ≤ n ∧ j = .int .i64 c1 ∧ Runs.lead x (l.drop (k + c1)) + c1 = Runs.lead x (l.drop k) ∧ wx = W1.drewN q) (fun j _ => n - (intOf j).toNat)
      case atStart => exact ⟨1, 0, by omega, hlt, rfl, (Runs.lead_eq hlk HX.out.symm).symm, rfl⟩
      case round =>
        obtain ⟨c1, q, hc1, hm, rfl, hlead, hwx⟩ := hrel
        obtain ⟨m, hmm⟩ : ∃ m, m = k + c1 := ⟨_, rfl⟩
        rw [← hmm] at hm hlead
        have hmi : (k : Int) + (c1 : Int) = (m : Int) := by omega
        clear hmm
        have HLD := hide hlead
        have h1 := HL.out.drewN q
        have h2 : (W1.drewN q).cell? ⟨b, off + k, none⟩ = some (.int .u8 (x.toNat : Int)) := hc
        rw [← hwx] at h1 h2
        have HL1 := hide h1
        have HWX := hide hwx
        clear hlead hwx h1 hc
        have HGO := hide (show Runs.lead x (l.drop m) = 0 → l' ++ (Var.put (Var.zig (c1 : Int)) ++ [x ^^^ ah]) ++ Runs.enc x (l.drop m) = R from fun h0 => by
          rw [← HE.out, Runs.enc_step (last := ah) (k := m) hlk (by rw [← HX.out]; have := HLD.out; omega) (by rw [← HX.out]; exact h0) (by omega), ← HX.out, show ((m : Int) - (k : Int)) = (c1 : Int) by omega]
          simp [List.append_assoc])
        by_cases hmn : m < n
        · obtain ⟨b2, off2, hlm, e2, -, hc2⟩ := HL1.out.at_ hmn
          injection e2 with e2
          injection e2 with e21 e22
          subst e21 e22
          by_cases hq : l[m] = x
          · rw [hq] at hc2
            have HQ := hide hq
            clear hq
            go_wp2
            go_quiet (fail)
            go_wp2
            exact ⟨⟨c1 + 1, q + nq, by omega, by omega, by go_num, by have := Runs.lead_eq hlm HQ.out; have := HLD.out; rw [show k + (c1 + 1) = m + 1 by omega]; omega, by rw [HWX.out, World.drewN_drewN]⟩, by simp [intOf]; omega⟩
          · have hq2 : ¬ (l[m].toNat = x.toNat) := fun h => hq (UInt8.toNat_inj.1 h)
            have hlead0 : Runs.lead x (l.drop m) = 0 := Runs.lead_ne hlm hq
            generalize l[m] = y at hc2 hq2
            clear hq
            have hdec : ((y.toNat : Int) == (x.toNat : Int)) = false := by simp; omega
            go_wp2
            go_quiet (fail)
            go_wp2
            have hst := HGO.out hlead0
            have HST := hide hst
            have HO2 : OwnB (wr.drewN nq) w.heap.size A' n' c' l' := by rw [HWX.out]; exact (HO.out.drewN _).drewN _
            have HB2 : Below w.heap.size w (wr.drewN nq) := by rw [HWX.out]; exact Below_drewN (Below_drewN HB.out q) nq
            have hcw : (wr.drewN nq).cell? ⟨b, off + k, none⟩ = some (.int .u8 (x.toNat : Int)) := h2
            clear hst h2 hlead0
            generalize wr.drewN nq = W2 at HO2 HB2 hcw ⊢
            have HO3 := hide HO2
            have HB3 := hide HB2
            have hs3 : w.heap.size ≤ W2.heap.size := HB2.size
            have hs2 : w.heap.size ≤ W2.drew.heap.size := hs3
            have HO2 := hide HO3.out.drew
            have HB2 := hide HB3.out.drew
            have hp10 := Var.put_len10 (Var.zig (c1 : Int)) (Var.zig_lt _ (by omega) (by omega))
            have hxor := bits_xor8 x ah
            obtain ⟨z, hz⟩ : ∃ z, z = x ^^^ ah := ⟨_, rfl⟩
            rw [← hz] at hxor HST
            have HZ := hide hz
            clear hz
            obtain ⟨P, hP⟩ : ∃ P, P = Var.put (Var.zig (c1 : Int)) := ⟨_, rfl⟩
            rw [← hP] at hp10 HST
            have HP := hide hP
            clear hP
            go_wp2_with fail
            go_region_law (first
              | (go_simp; go_at_call 56; (refine Calls.mono (ref_Put (c1 : Int) _ (by omega) (by omega)) ?_); rintro e w4 ⟨A4, n4, c4, rfl, own4, hb4⟩; rw [← HP.out] at own4; have HO4 := HO2.out.below (w' := w4) hb4; have HB4 : Below w.heap.size w w4 := HB2.out.trans (hb4.mono hs2); have hs4 := HB4.size; have hn4 := own4.len; have hc4 : w4.cell? ⟨b, off + k, none⟩ = some (.int .u8 (x.toNat : Int)) := (HB4.cell (p := ⟨b, off + k, none⟩) hbw).trans hc0)
              | (go_simp; go_at_call 56; (refine Calls.mono (ref_Put (c1 : Int) _ (by omega) (by omega)) ?_); rintro e w4 ⟨A4, n4, c4, rfl, own4, hb4⟩; rw [← HP.out] at own4; have HO4 := (HO3.out.below (Below_new _ _)).drew.below (w' := w4) hb4; have HB4 : Below w.heap.size w w4 := (HB3.out.trans ((Below_new _ _).mono hs3)).drew.trans (hb4.mono (by simp [World.drew]; omega)); have L4 := (LiesB.new W2 _ _ _ [z] 1 rfl rfl).drew.below (w' := w4) (hb4.mono (by simp [World.drew])); have hs4 := HB4.size; have hn4 := own4.len; have hc4 : w4.cell? ⟨b, off + k, none⟩ = some (.int .u8 (x.toNat : Int)) := (HB4.cell (p := ⟨b, off + k, none⟩) hbw).trans hc0)
              | (refine step_appendB rfl (.tmp 32) (.tmp 34) rfl w.heap.size A' n' c' l' rfl HO4 _ A4 n4 c4 _ rfl own4.lies (n' + n4) _ rfl rfl (by omega) hs4 ?_; intro A5 c5 w5 own5 k5 hk5; have HB5 : Below w.heap.size w w5 := HB4.trans (k5.belowOwn HO4 hs4); have L5 := L4.keeps k5 (by intro b' off' e _ hs; injection e with e; injection e with e1 e2; have := (HO3.out.blk b' hs).2; omega); have hs5 := HB5.size; have hc5 : w5.cell? ⟨b, off + k, none⟩ = some (.int .u8 (x.toNat : Int)) := (HB5.cell (p := ⟨b, off + k, none⟩) hbw).trans hc0)
              | (refine step_appendB rfl (.tmp 32) (.tmp 34) rfl w.heap.size A' n' c' l' rfl HO4 _ A4 n4 c4 _ rfl own4.lies (n' + n4) _ rfl rfl (by omega) hs4 ?_; intro A5 c5 w5 own5 k5 hk5; have HB5 : Below w.heap.size w w5 := HB4.trans (k5.belowOwn HO4 hs4); have hs5 := HB5.size; have hc5 : w5.cell? ⟨b, off + k, none⟩ = some (.int .u8 (x.toNat : Int)) := (HB5.cell (p := ⟨b, off + k, none⟩) hbw).trans hc0)
              | (refine step_appendB rfl (.tmp 32) (.tmp 34) rfl w.heap.size A' n' c' l' rfl (HO4.below (Below_new _ _)) _ A4 n4 c4 _ rfl (own4.lies.below (Below_new _ _)) (n' + n4) _ rfl rfl (by omega) (by simp; omega) ?_; intro A5 c5 w5 own5 k5 hk5; have HB5 : Below w.heap.size w w5 := (HB4.trans ((Below_new _ _).mono hs4)).trans (k5.belowOwn HO4 (by simp; omega)); have L5 := (LiesB.new w4 _ _ _ [z] 1 rfl rfl).keeps k5 (by intro b' off' e _ hs; injection e with e; injection e with e1 e2; have := (HO4.blk b' hs).2; omega); have hs5 := HB5.size; have hc5 : w5.cell? ⟨b, off + k, none⟩ = some (.int .u8 (x.toNat : Int)) := (HB5.cell (p := ⟨b, off + k, none⟩) hbw).trans hc0)
              | (refine step_appendB rfl (.tmp 35) (.tmp 42) rfl w.heap.size A5 (n' + n4) c5 _ rfl own5 _ _ 1 1 [z] rfl L5 (n' + n4 + 1) _ rfl rfl (by omega) hs5 ?_; intro A6 c6 w6 own6 k6 hk6; have HB6 : Below w.heap.size w w6 := HB5.trans (k6.belowOwn own5 hs5))
              | (refine step_appendB rfl (.tmp 35) (.tmp 42) rfl w.heap.size A5 (n' + n4) c5 _ rfl (own5.below (Below_new _ _)) _ _ 1 1 [z] rfl (LiesB.new _ _ _ _ _ _ rfl rfl) (n' + n4 + 1) _ rfl rfl (by omega) (by simp; omega) ?_; intro A6 c6 w6 own6 k6 hk6; have HB6 : Below w.heap.size w w6 := (HB5.trans ((Below_new _ _).mono hs5)).trans (k6.belowOwn own5 (by simp; omega))))
            all_goals
              have hc6 : w6.cell? ⟨b, off + k, none⟩ = some (.int .u8 (x.toNat : Int)) := (HB6.cell (p := ⟨b, off + k, none⟩) hbw).trans hc0
              have HB7 := hide HB6
              have HO7 := hide own6
              clear HB6 own6 hk6 k6
              go_wp2
              exact ⟨⟨m, A6, n' + n4 + 1, c6, _, x, hm, by go_num, rfl, rfl, HO7.out, by rw [← HST.out]; simp [List.append_assoc], HB7.out⟩, by simp [intOf]; omega⟩
        · have hlead0 : Runs.lead x (l.drop m) = 0 := Runs.lead_end (by rw [HL1.out.len]; omega)
          go_wp2
          go_quiet (fail)
          go_wp2
          have hst := HGO.out hlead0
          have HST := hide hst
          have HO2 : OwnB (wr.drewN nq) w.heap.size A' n' c' l' := by rw [HWX.out]; exact (HO.out.drewN _).drewN _
          have HB2 : Below w.heap.size w (wr.drewN nq) := by rw [HWX.out]; exact Below_drewN (Below_drewN HB.out q) nq
          have hcw : (wr.drewN nq).cell? ⟨b, off + k, none⟩ = some (.int .u8 (x.toNat : Int)) := h2
          clear hst h2 hlead0
          generalize wr.drewN nq = W2 at HO2 HB2 hcw ⊢
          have HO3 := hide HO2
          have HB3 := hide HB2
          have hs3 : w.heap.size ≤ W2.heap.size := HB2.size
          have hs2 : w.heap.size ≤ W2.drew.heap.size := hs3
          have HO2 := hide HO3.out.drew
          have HB2 := hide HB3.out.drew
          have hp10 := Var.put_len10 (Var.zig (c1 : Int)) (Var.zig_lt _ (by omega) (by omega))
          have hxor := bits_xor8 x ah
          obtain ⟨z, hz⟩ : ∃ z, z = x ^^^ ah := ⟨_, rfl⟩
          rw [← hz] at hxor HST
          have HZ := hide hz
          clear hz
          obtain ⟨P, hP⟩ : ∃ P, P = Var.put (Var.zig (c1 : Int)) := ⟨_, rfl⟩
          rw [← hP] at hp10 HST
          have HP := hide hP
          clear hP
          go_wp2_with fail
          go_region_law (first
            | (go_simp; go_at_call 56; (refine Calls.mono (ref_Put (c1 : Int) _ (by omega) (by omega)) ?_); rintro e w4 ⟨A4, n4, c4, rfl, own4, hb4⟩; rw [← HP.out] at own4; have HO4 := HO2.out.below (w' := w4) hb4; have HB4 : Below w.heap.size w w4 := HB2.out.trans (hb4.mono hs2); have hs4 := HB4.size; have hn4 := own4.len; have hc4 : w4.cell? ⟨b, off + k, none⟩ = some (.int .u8 (x.toNat : Int)) := (HB4.cell (p := ⟨b, off + k, none⟩) hbw).trans hc0)
            | (go_simp; go_at_call 56; (refine Calls.mono (ref_Put (c1 : Int) _ (by omega) (by omega)) ?_); rintro e w4 ⟨A4, n4, c4, rfl, own4, hb4⟩; rw [← HP.out] at own4; have HO4 := (HO3.out.below (Below_new _ _)).drew.below (w' := w4) hb4; have HB4 : Below w.heap.size w w4 := (HB3.out.trans ((Below_new _ _).mono hs3)).drew.trans (hb4.mono (by simp [World.drew]; omega)); have L4 := (LiesB.new W2 _ _ _ [z] 1 rfl rfl).drew.below (w' := w4) (hb4.mono (by simp [World.drew])); have hs4 := HB4.size; have hn4 := own4.len; have hc4 : w4.cell? ⟨b, off + k, none⟩ = some (.int .u8 (x.toNat : Int)) := (HB4.cell (p := ⟨b, off + k, none⟩) hbw).trans hc0)
            | (refine step_appendB rfl (.tmp 32) (.tmp 34) rfl w.heap.size A' n' c' l' rfl HO4 _ A4 n4 c4 _ rfl own4.lies (n' + n4) _ rfl rfl (by omega) hs4 ?_; intro A5 c5 w5 own5 k5 hk5; have HB5 : Below w.heap.size w w5 := HB4.trans (k5.belowOwn HO4 hs4); have L5 := L4.keeps k5 (by intro b' off' e _ hs; injection e with e; injection e with e1 e2; have := (HO3.out.blk b' hs).2; omega); have hs5 := HB5.size; have hc5 : w5.cell? ⟨b, off + k, none⟩ = some (.int .u8 (x.toNat : Int)) := (HB5.cell (p := ⟨b, off + k, none⟩) hbw).trans hc0)
            | (refine step_appendB rfl (.tmp 32) (.tmp 34) rfl w.heap.size A' n' c' l' rfl HO4 _ A4 n4 c4 _ rfl own4.lies (n' + n4) _ rfl rfl (by omega) hs4 ?_; intro A5 c5 w5 own5 k5 hk5; have HB5 : Below w.heap.size w w5 := HB4.trans (k5.belowOwn HO4 hs4); have hs5 := HB5.size; have hc5 : w5.cell? ⟨b, off + k, none⟩ = some (.int .u8 (x.toNat : Int)) := (HB5.cell (p := ⟨b, off + k, none⟩) hbw).trans hc0)
            | (refine step_appendB rfl (.tmp 32) (.tmp 34) rfl w.heap.size A' n' c' l' rfl (HO4.below (Below_new _ _)) _ A4 n4 c4 _ rfl (own4.lies.below (Below_new _ _)) (n' + n4) _ rfl rfl (by omega) (by simp; omega) ?_; intro A5 c5 w5 own5 k5 hk5; have HB5 : Below w.heap.size w w5 := (HB4.trans ((Below_new _ _).mono hs4)).trans (k5.belowOwn HO4 (by simp; omega)); have L5 := (LiesB.new w4 _ _ _ [z] 1 rfl rfl).keeps k5 (by intro b' off' e _ hs; injection e with e; injection e with e1 e2; have := (HO4.blk b' hs).2; omega); have hs5 := HB5.size; have hc5 : w5.cell? ⟨b, off + k, none⟩ = some (.int .u8 (x.toNat : Int)) := (HB5.cell (p := ⟨b, off + k, none⟩) hbw).trans hc0)
            | (refine step_appendB rfl (.tmp 35) (.tmp 42) rfl w.heap.size A5 (n' + n4) c5 _ rfl own5 _ _ 1 1 [z] rfl L5 (n' + n4 + 1) _ rfl rfl (by omega) hs5 ?_; intro A6 c6 w6 own6 k6 hk6; have HB6 : Below w.heap.size w w6 := HB5.trans (k6.belowOwn own5 hs5))
            | (refine step_appendB rfl (.tmp 35) (.tmp 42) rfl w.heap.size A5 (n' + n4) c5 _ rfl (own5.below (Below_new _ _)) _ _ 1 1 [z] rfl (LiesB.new _ _ _ _ _ _ rfl rfl) (n' + n4 + 1) _ rfl rfl (by omega) (by simp; omega) ?_; intro A6 c6 w6 own6 k6 hk6; have HB6 : Below w.heap.size w w6 := (HB5.trans ((Below_new _ _).mono hs5)).trans (k6.belowOwn own5 (by simp; omega))))
          all_goals
            have hc6 : w6.cell? ⟨b, off + k, none⟩ = some (.int .u8 (x.toNat : Int)) := (HB6.cell (p := ⟨b, off + k, none⟩) hbw).trans hc0
            have HB7 := hide HB6
            have HO7 := hide own6
            clear HB6 own6 hk6 k6
            go_wp2
            exact ⟨⟨m, A6, n' + n4 + 1, c6, _, x, hm, by go_num, rfl, rfl, HO7.out, by rw [← HST.out]; simp [List.append_assoc], HB7.out⟩, by simp [intOf]; omega⟩
    · obtain rfl : k = n := by omega
      go_wp2
      go_ret
      refine ⟨A', n', c', rfl, ?_, HB.out⟩
      have := HE.out
      rw [List.drop_eq_nil_of_le (by rw [HL.out.len]; omega), Runs.enc_nil, List.append_nil] at this
      rw [← this]
      exact HO.out
end Go.Proofs.Ytbcgffgiifminaa
namespace Go.Proofs.Ytbcgffgiifminaa
open Go.RowKit
set_option maxRecDepth 10000
set_option maxHeartbeats 400000 in
theorem ref_Four (a : Int) (w : World) (h1 : 0 ≤ a) (h2 : a < 4294967296) : Calls Try.prog 57 #[.int .u32 a] w fun e w' =>
    ∃ A c, e = .returned (.slice A 4 c) ∧ OwnB w' w.heap.size A 4 c (be32 a) ∧ Below w.heap.size w w' := by
  have HE := hide (Int.emod_eq_of_lt h1 h2)
  go_enter Try.func57, Try.ntmps57
  go_wp2
  go_ret
  refine ⟨_, _, rfl, OwnB.new _ _ 4 _ rfl (by simp [maxLen]) ?_, Below_new _ _⟩
  have := be32_cells a
  rw [HE.out] at this
  exact this
end Go.Proofs.Ytbcgffgiifminaa
namespace Go.Proofs.Ytbcgffgiifminaa
open Go.RowKit
set_option maxRecDepth 10000
set_option linter.unusedVariables false
theorem info_packet : (Try.prog.info? 41).map (·.size) = some 9 := by kernel_rfl
/-- The whole packet is read. -/
theorem wpP_load {ops : Array Oper} {rest : List Oper} {o : Oper} {a : Act} {w : World} {Q : Exit → Act → World → Prop} (hgd : o.guard = none) (x : Operand) (ho : o.op = .load 41 x)
    (g : Nat) (hx : a.eval x = .pointer (some ⟨g, 0, none⟩)) (p : Pkt) (v : Value) (hg : Arr 41 w g (p.row v)) (h : wpList Try.prog ops Q rest (a.put o.dst (p.val v)) w) : wpList Try.prog ops Q (o :: rest) a w :=
  wpList_load_row hgd 41 x ho g hx 41 (p.row v).toArray (0, 0) _ hg Try.underlying41 rfl info_packet h
theorem results_P {fn : Func} {p : Tmp} (h : fn.results = #[.cell p 41]) (tmps : Array Value) (w : World) (g : Nat) (hp : tmps.getD p undef = .pointer (some ⟨g, 0, none⟩)) (q : Pkt) (v : Value) (hg : Arr 41 w g (q.row v)) :
    (results fn tmps).run Try.prog w = .ok (q.val v) w :=
  results_cell_row h tmps w g 41 (q.row v).toArray (0, 0) _ hp hg Try.underlying41 rfl info_packet
theorem results_P2 {fn : Func} {p q : Tmp} (h : fn.results = #[.cell p 41, .tmp q]) (tmps : Array Value) (w : World) (g : Nat) (hp : tmps.getD p undef = .pointer (some ⟨g, 0, none⟩)) (u : Value) (hv : tmps.getD q undef = u) (k : Pkt) (v : Value) (hg : Arr 41 w g (k.row v)) :
    (results fn tmps).run Try.prog w = .ok (.tuple #[k.val v, u]) w := by
  have hp' : tmps[p]?.getD undef = .pointer (some ⟨g, 0, none⟩) := by simpa using hp
  have hv' : tmps[q]?.getD undef = u := by simpa using hv
  have hl := run_loadVar_row (P := Try.prog) w g 41 41 (k.row v).toArray (0, 0) _ hg Try.underlying41 rfl info_packet
  simp [results, h, hp', hv', asAddr, hl]
/-- Bytes that grow beside a packet's block. -/
structure Grow (w wx : World) (g : Nat) (R : List Value) (A : Option Addr) (n c : Nat) (l : List UInt8) : Prop where
  own : OwnB wx w.heap.size A n c l
  arr : Arr 41 wx g R
  bel : Below w.heap.size w wx
section
variable {w wx w' : World} {g n c n' c' : Nat} {R : List Value} {A A' : Option Addr} {l l' : List UInt8}
theorem Grow.put (h : Grow w wx g R A n c l) (hk : Keeps (Mine A n c) wx w') (ho : OwnB w' w.heap.size A' n' c' l') : Grow w w' g R A' n' c' l' :=
  ⟨ho, h.arr.keeps hk fun e => h.own.ne_blk h.arr (by decide) e, h.bel.trans (hk.belowOwn h.own h.bel.size)⟩
theorem Grow.below (h : Grow w wx g R A n c l) (hb : Below wx.heap.size wx w') : Grow w w' g R A n c l := ⟨h.own.below hb, h.arr.belowN hb, Below_step h.bel hb⟩
theorem Grow.drew (h : Grow w wx g R A n c l) : Grow w wx.drew g R A n c l := ⟨h.own.drew, h.arr.drew, ⟨h.bel.os, h.bel.tape, h.bel.output, h.bel.size, h.bel.block⟩⟩
theorem Grow.size (h : Grow w wx g R A n c l) : w.heap.size ≤ wx.heap.size := h.bel.size
end
theorem runs_Encode_v {A : Option Addr} {n c B : Nat} {l x : List UInt8} {w : World} (hA : LiesB w B A n l) (hB : B ≤ w.heap.size) (hn : n ≤ 10000) (hx : Runs.enc 0 l = x) :
    Calls Try.prog 90 #[.slice A n c] w fun e w' => ∃ A' n' c', e = .returned (.slice A' n' c') ∧ OwnB w' w.heap.size A' n' c' x ∧ Below w.heap.size w w' := by subst hx; exact runs_Encode A n c B l w hA hB hn
theorem num_Put_v {A : Option Addr} {n c base : Nat} {l x : List UInt8} {v : Int} {w : World} (hA : OwnB w base A n c l) (hbase : base ≤ w.heap.size) (hn : n ≤ 1000000) (lo : -9223372036854775808 ≤ v) (hi : v ≤ 9223372036854775807) (hx : l ++ Var.put (Var.zig v) = x) :
    Calls Try.prog 88 #[.slice A n c, .int .i64 v] w fun e w' => ∃ A' n' c', e = .returned (.slice A' n' c') ∧ OwnB w' base A' n' c' x ∧ Keeps (Mine A n c) w w' := by subst hx; exact num_Put A n c base l v w hA hbase hn lo hi
end Go.Proofs.Ytbcgffgiifminaa
namespace Go.Proofs.Ytbcgffgiifminaa
open Go.RowKit
set_option maxRecDepth 10000
set_option linter.unusedVariables false
theorem Pkt.bv_byte (x : Int) : bv (Pkt.byte x) = .int .u8 (x % 256) := by
  unfold Pkt.byte
  exact bv_ofInt (by omega) (by omega)
theorem crc_Sum_v {A : Option Addr} {n c B : Nat} {l : List UInt8} {w : World} {s : Int} (hA : LiesB w B A n l) (hm : n ≤ 9223372036854775807) (hs : s = ((Crc.sum l).toNat : Int)) :
    Calls Try.prog 91 #[.slice A n c] w fun e w' => e = .returned (.int .u32 s) ∧ w = w' := by subst hs; exact crc_Sum A n c B l w hA hm
set_option maxHeartbeats 2000000 in
set_option maxRecDepth 10000 in
theorem packet_Encode (p : Pkt) {A : Option Addr} {n c B : Nat} {w : World} (hA : LiesB w B A n p.press) (hB : B ≤ w.heap.size) (hn : n ≤ 10000) (hw : p.WF) :
    Calls Try.prog 80 #[p.val (.slice A n c)] w fun e w' => ∃ A' n' c', e = .returned (.slice A' n' c') ∧ OwnB w' w.heap.size A' n' c' p.enc ∧ Below w.heap.size w w' ∧ (p.may = false → A' = none ∧ n' = 0 ∧ c' = 0) := by
  have LA := hide hA
  have HL := hide hA.len
  have HBB := hide hB
  have HP : Hid (Arr 41 (w.alloc (.cells (p.row (.slice A n c)).toArray 41)) w.heap.size (p.row (.slice A n c))) := Arr.new 41 w _ _ rfl
  have HB : Hid (Below w.heap.size w (w.alloc (.cells (p.row (.slice A n c)).toArray 41))) := Below_new _ _
  cases hm : p.may
  · have HE : Hid (p.enc = []) := Pkt.enc_nil_iff.2 hm
    have HM := hide hm
    clear hm hA hB hw
    go_enter Try.func80, Try.ntmps80
    go_upto_region 1 with fail
    generalize World.alloc w _ = wx at HP HB ⊢
    go_wp2_with (refine wpP_load rfl (.tmp 1) rfl w.heap.size rfl p (.slice A n c) HP.out ?_)
    refine Calls.mono (packet_May p HL.out (by omega) HM.out.symm) ?_
    rintro e w1 ⟨rfl, hb1⟩
    have HB1 := hide (Below_step HB.out hb1)
    clear hb1
    go_wp2_with fail
    go_ret
    exact ⟨none, 0, 0, rfl, by rw [HE.out]; exact OwnB.nil _ _, HB1.out, fun _ => ⟨rfl, rfl, rfl⟩⟩
  · have hf := Pkt.may_iff.1 hm
    have HE : Hid (p.enc = Pkt.sealB p.body) := by show _ = _; rw [Pkt.enc, if_pos hm]
    have HM := hide hm
    obtain ⟨kind, src, dst, id, first, press, ack, frame, sum⟩ := p
    obtain ⟨-, -, -, hid, hk⟩ := hf
    simp only at hid hk hw LA HL
    have HW := hide hw
    have HK := hide hk
    clear hm hA hB hw hk
    go_enter Try.func80, Try.ntmps80
    go_upto_region 1 with fail
    simp only [Pkt.row] at HP HB
    generalize World.alloc w _ = wx at HP HB ⊢
    go_wp2_with (refine wpP_load rfl (.tmp 1) rfl w.heap.size rfl ⟨kind, src, dst, id, first, press, ack, frame, sum⟩ (.slice A n c) HP.out ?_)
    refine Calls.mono (packet_May ⟨kind, src, dst, id, first, press, ack, frame, sum⟩ HL.out (by omega) HM.out.symm) ?_
    rintro e w1 ⟨rfl, hb1⟩
    have HB1 := hide (Below_step HB.out hb1)
    have HP := hide (HP.out.belowN hb1)
    have c0 := HP.out.cell (j := 0) (by simp)
    have c1 := HP.out.cell (j := 1) (by simp)
    have c2 := HP.out.cell (j := 2) (by simp)
    have c3 := HP.out.cell (j := 3) (by simp)
    simp only [List.getElem_cons_zero, List.getElem_cons_succ] at c0 c1 c2 c3
    have hg := HP.out.lt
    clear hb1
    go_wp2_with fail
    have G0 : Hid (Grow w (w1.alloc (.cells #[.int .u8 (kind % 256), .int .u8 (src % 256), .int .u8 (dst % 256)] 5)) w.heap.size (Pkt.row ⟨kind, src, dst, id, first, press, ack, frame, sum⟩ (.slice A n c)) (some ⟨w1.heap.size, 0, none⟩) 3 3 [Pkt.byte kind, Pkt.byte src, Pkt.byte dst]) :=
      ⟨(OwnB.new w1 _ 3 [Pkt.byte kind, Pkt.byte src, Pkt.byte dst] rfl (by simp [maxLen]) (by simp only [List.map_cons, List.map_nil, Pkt.bv_byte])).base_le HB1.out.size, HP.out.belowN (Below_new _ _), Below_step HB1.out (Below_new _ _)⟩
    refine Calls.mono (num_Put_v G0.out.own G0.out.size (by omega) (by omega) (by omega) rfl) ?_
    rintro e w2 ⟨A2, n2, c2', rfl, own2, hk2⟩
    have G1 := hide (G0.out.put hk2 own2)
    obtain ⟨b1, hb1⟩ : ∃ b, b = [Pkt.byte kind, Pkt.byte src, Pkt.byte dst] ++ Var.put (Var.zig id) := ⟨_, rfl⟩
    rw [← hb1] at G1
    have HB1' := hide hb1
    clear own2 hk2 G0 HP HB HB1 hb1 c0 c1 c2 c3 hg
    have c0 := G1.out.arr.cell (j := 0) (by simp)
    simp only [List.getElem_cons_zero] at c0
    by_cases k1 : kind = 1
    · subst k1
      obtain ⟨hfi, hac, hfr, hpl⟩ : (0 ≤ first ∧ first ≤ 1000) ∧ (0 ≤ ack ∧ ack ≤ 1000) ∧ (0 ≤ frame ∧ frame ≤ 1000) ∧ press.length ≤ 32 := by
        rcases HK.out with h | h
        · exact h.2
        · exact absurd h.1 (by decide)
      have c4 := G1.out.arr.cell (j := 4) (by simp)
      have c6 := G1.out.arr.cell (j := 6) (by simp)
      have c7 := G1.out.arr.cell (j := 7) (by simp)
      simp only [List.getElem_cons_zero, List.getElem_cons_succ] at c4 c6 c7
      have HN2 : Hid (n2 ≤ 13) := by
        show n2 ≤ 13
        have := G1.out.own.len
        rw [HB1'.out, List.length_append] at this
        have := Var.put_len10 (Var.zig id) (Var.zig_lt id (by omega) (by omega))
        simp only [List.length_cons, List.length_nil] at *
        omega
      have i0 : Hid (∀ w, (Instr.index 149 (.agg #[.int .i64 first, .int .i64 ack, .int .i64 frame]) (.int .i64 0)).run Try.prog w = .ok (.int .i64 first) w) := fun w => run_indexA (k := .i64) Try.underlying149 (by kernel_rfl) _ Try.underlying3 rfl [.int .i64 first, .int .i64 ack, .int .i64 frame] 0 rfl (by simp) w
      have i1 : Hid (∀ w, (Instr.index 149 (.agg #[.int .i64 first, .int .i64 ack, .int .i64 frame]) (.int .i64 1)).run Try.prog w = .ok (.int .i64 ack) w) := fun w => run_indexA (k := .i64) Try.underlying149 (by kernel_rfl) _ Try.underlying3 rfl [.int .i64 first, .int .i64 ack, .int .i64 frame] 1 rfl (by simp) w
      have i2 : Hid (∀ w, (Instr.index 149 (.agg #[.int .i64 first, .int .i64 ack, .int .i64 frame]) (.int .i64 2)).run Try.prog w = .ok (.int .i64 frame) w) := fun w => run_indexA (k := .i64) Try.underlying149 (by kernel_rfl) _ Try.underlying3 rfl [.int .i64 first, .int .i64 ack, .int .i64 frame] 2 rfl (by simp) w
      go_wp2_with fail
      go_loopg [3, 32] 3 (fun gg s i wr => ∃ (k n' c' : Nat) (A' : Option Addr) (l' : List UInt8), k ≤ 3 ∧ gg = 3 - k ∧ i = .int .i64 k ∧ s = .slice A' n' c' ∧ Hid (n' ≤ 13 + 10 * k) ∧ Hid (Grow w wr w.heap.size (Pkt.row ⟨1, src, dst, id, first, press, ack, frame, sum⟩ (.slice A n c)) A' n' c' l') ∧ Hid (l' = b1 ++ ([first, ack, frame].take k).flatMap (fun x => Var.put (Var.zig x))))
      case atStart => exact ⟨0, n2, c2', A2, b1, by omega, rfl, rfl, rfl, by have := HN2.out; show _ ≤ _; omega, G1.out, by show _ = _; simp⟩
      case round =>
        obtain ⟨k, n', c', A', l', hk, rfl, rfl, rfl, hn', G, hl'⟩ := hrel
        obtain hk3 | rfl | rfl | rfl : k = 3 ∨ k = 0 ∨ k = 1 ∨ k = 2 := by omega
        · subst hk3
          have hn1 := hn'.out
          have hl5 := G.out.own.len
          have c5 := G.out.arr.cell (j := 5) (by simp)
          have c8 := G.out.arr.cell (j := 8) (by simp)
          simp only [List.getElem_cons_zero, List.getElem_cons_succ] at c5 c8
          obtain ⟨x, hx⟩ : ∃ x, x = Runs.enc 0 press := ⟨_, rfl⟩
          have hx2 : x.length ≤ 64 := by have := Pkt.runs_len _ 0 press (Nat.le_refl _) (by omega); rw [hx]; omega
          have HX := hide hx.symm
          have hnp : press.length = n := HL.out
          have hz10 := Var.put_len10 (Var.zig (n : Int)) (Var.zig_lt (n : Int) (by omega) (by omega))
          obtain ⟨b2, hb2⟩ : ∃ b, b = l' ++ be32 sum ++ Var.put (Var.zig (n : Int)) := ⟨_, rfl⟩
          have HB2 := hide hb2.symm
          have hb2l : b2.length ≤ 60 := by rw [hb2]; simp only [List.length_append, be32_length]; omega
          obtain ⟨b3, hb3⟩ : ∃ b, b = b2 ++ x := ⟨_, rfl⟩
          have HBO : Hid (b3 = Pkt.body ⟨1, src, dst, id, first, press, ack, frame, sum⟩) := by
            show _ = _
            rw [hb3, hb2, hx, hl'.out, HB1'.out, Pkt.body, Pkt.tail, if_pos rfl]
            simp [hnp]
          have HB3 := hide hb3.symm
          obtain ⟨s, hs⟩ : ∃ s, s = ((Crc.sum b3).toNat : Int) := ⟨_, rfl⟩
          have HS1 : Hid (0 ≤ s) := by show _ ≤ _; omega
          have HS2 : Hid (s < 4294967296) := by show _ < _; have := (Crc.sum b3).isLt; omega
          have HS := hide hs
          have hb3l : b3.length ≤ 130 := by rw [hb3, List.length_append]; omega
          have hw1 := HW.out.1
          have hw2 := HW.out.2
          simp only at hw1 hw2
          clear hs hb3 hb2 hx
          go_wp2_with fail
          refine wp_region_noPanic ?_
          refine wp_region_held_drew (S := (fun w' => w'.cell? ⟨w.heap.size, 5, none⟩ = some (.slice A n c) ∧ w'.cell? ⟨w.heap.size, 8, none⟩ = some (.int .u32 sum))) (by kernel_rfl) ⟨c5, c8⟩ (fun hHeld => ?_)
          refine tk0 0 ?_
          refine tk 1 ?_
          refine tk 2 ?_
          refine tk 5 ?_
          refine tk 6 ?_
          refine tk 7 ?_
          refine rdy 3 fun K hK => ?_
          go_simp
          (go_at_call 89; (refine Calls.mono (num_Four sum _ hw1 hw2) ?_); rintro e w5 ⟨A5, c5', rfl, own5, hb5⟩)
          have G5 := G.out.drew.below hb5
          refine hK.out _ _ ⟨G5.arr.cell (j := 5) (by simp), G5.arr.cell (j := 8) (by simp)⟩ (fun hHeld => ?_)
          clear hK K
          try simp only [Act.put, List.setIfInBounds_toArray, List.set_cons_zero, List.set_cons_succ]
          refine rdy 4 fun K hK => ?_
          (refine step_appendB rfl (.tmp 39) (.tmp 42) rfl w.heap.size A' n' c' l' rfl G5.own _ A5 4 c5' _ rfl own5.lies (n' + 4) _ rfl rfl (by omega) G5.size ?_; intro A6 c6' w6 own6 k6 hk6)
          have G6 := G5.put k6 own6
          refine hK.out _ _ ⟨G6.arr.cell (j := 5) (by simp), G6.arr.cell (j := 8) (by simp)⟩ (fun hHeld => ?_)
          clear hK K
          try simp only [Act.put]
          refine rdy 8 fun K hK => ?_
          go_simp
          (go_at_call 88; (refine Calls.mono (num_Put_v G6.own G6.size (by omega) (by omega) (by omega) HB2.out) ?_); rintro e w7 ⟨A7, n7, c7', rfl, own7, hk7⟩)
          have G7 := G6.put hk7 own7
          refine hK.out _ _ ⟨G7.arr.cell (j := 5) (by simp), G7.arr.cell (j := 8) (by simp)⟩ (fun hHeld => ?_)
          clear hK K
          try simp only [Act.put, List.setIfInBounds_toArray, List.set_cons_zero, List.set_cons_succ]
          refine tk 9 ?_
          refine wpAnyH_done (by kernel_rfl) (NoPanic.normal ?_) _
          have hl7 := G7.own.len
          have c5 := G7.arr.cell (j := 5) (by simp)
          simp only [List.getElem_cons_zero, List.getElem_cons_succ] at c5
          have G7 := hide G7
          clear own5 own6 own7 hb5 k6 hk6 hk7 G5 G6 c8 c4 c6 c7 c0
          go_wp2_with fail
          refine Calls.mono (runs_Encode_v (LA.out.below (G7.out.bel.mono HBB.out)) (Nat.le_trans HBB.out G7.out.size) (by omega) HX.out) ?_
          rintro e w8 ⟨A8, n8, c8', rfl, own8, hb8⟩
          have G8 := hide (G7.out.below hb8)
          have L8 := hide own8.lies
          have hl8 := own8.len
          clear own8 hb8 c5
          go_wp2_with (at_builtin; refine wpB_append3 rfl (.tmp 48) (.tmp 51) rfl w.heap.size A7 n7 c7' b2 rfl G8.out.own _ A8 n8 c8' x rfl L8.out (n7 + n8) b3 rfl HB3.out (by omega) G8.out.size ?_; intro A9 c9 w9 own9 k9 hk9)
          have G9 := hide (G8.out.put k9 own9)
          have hl9 := own9.len
          clear own9 k9 hk9
          refine Calls.mono (crc_Sum_v G9.out.own.lies (by omega) HS.out) ?_
          rintro e w10 ⟨rfl, rfl⟩
          go_wp2_with fail
          refine Calls.mono (num_Four s _ HS1.out HS2.out) ?_
          rintro e w11 ⟨A11, c11, rfl, own11, hb11⟩
          have G11 := hide (G9.out.below hb11)
          have L11 := hide own11.lies
          clear own11 hb11
          go_wp2_with (at_builtin; refine wpB_append3 rfl (.tmp 53) (.tmp 56) rfl w.heap.size A9 (n7 + n8) c9 b3 rfl G11.out.own _ A11 4 c11 _ rfl L11.out (n7 + n8 + 4) _ rfl rfl (by omega) G11.out.size ?_; intro A12 c12 w12 own12 k12 hk12)
          go_ret
          exact ⟨_, _, _, rfl, by rw [HE.out, ← HBO.out, Pkt.sealB, ← HS.out]; exact own12, (G11.out.put k12 own12).bel, fun h => by cases h⟩
        · go_wp2_with (rw [i0.out])
          have hn1 := hn'.out
          refine Calls.mono (num_Put_v G.out.own G.out.size (by omega) (by omega) (by omega) rfl) ?_
          rintro e w5 ⟨A5, n5, c5, rfl, own5, hk5⟩
          have hl5 := own5.len
          have hl6 := G.out.own.len
          have hp10 := Var.put_len10 (Var.zig first) (Var.zig_lt first (by omega) (by omega))
          rw [List.length_append] at hl5
          have G2 := hide (G.out.put hk5 own5)
          clear own5 hk5
          go_wp2_with fail
          go_roundg (3 - 1)
          case measure => omega
          case rel => exact ⟨1, n5, c5, A5, _, by omega, rfl, by go_num, rfl, by show _ ≤ _; omega, G2, by show _ = _; rw [hl'.out]; simp⟩
        · go_wp2_with (rw [i1.out])
          have hn1 := hn'.out
          refine Calls.mono (num_Put_v G.out.own G.out.size (by omega) (by omega) (by omega) rfl) ?_
          rintro e w5 ⟨A5, n5, c5, rfl, own5, hk5⟩
          have hl5 := own5.len
          have hl6 := G.out.own.len
          have hp10 := Var.put_len10 (Var.zig ack) (Var.zig_lt ack (by omega) (by omega))
          rw [List.length_append] at hl5
          have G2 := hide (G.out.put hk5 own5)
          clear own5 hk5
          go_wp2_with fail
          go_roundg (3 - 2)
          case measure => omega
          case rel => exact ⟨2, n5, c5, A5, _, by omega, rfl, by go_num, rfl, by show _ ≤ _; omega, G2, by show _ = _; rw [hl'.out]; simp⟩
        · go_wp2_with (rw [i2.out])
          have hn1 := hn'.out
          refine Calls.mono (num_Put_v G.out.own G.out.size (by omega) (by omega) (by omega) rfl) ?_
          rintro e w5 ⟨A5, n5, c5, rfl, own5, hk5⟩
          have hl5 := own5.len
          have hl6 := G.out.own.len
          have hp10 := Var.put_len10 (Var.zig frame) (Var.zig_lt frame (by omega) (by omega))
          rw [List.length_append] at hl5
          have G2 := hide (G.out.put hk5 own5)
          clear own5 hk5
          go_wp2_with fail
          go_roundg (3 - 3)
          case measure => omega
          case rel => exact ⟨3, n5, c5, A5, _, by omega, rfl, by go_num, rfl, by show _ ≤ _; omega, G2, by show _ = _; rw [hl'.out]; simp⟩
    · have dk : (kind == 1) = false := by simp [k1]
      have HBO : Hid (b1 = Pkt.body ⟨kind, src, dst, id, first, press, ack, frame, sum⟩) := by show _ = _; rw [HB1'.out, Pkt.body, Pkt.tail, if_neg k1, List.append_nil]; rfl
      obtain ⟨s, hs⟩ : ∃ s, s = ((Crc.sum b1).toNat : Int) := ⟨_, rfl⟩
      have HS1 : Hid (0 ≤ s) := by show _ ≤ _; omega
      have HS2 : Hid (s < 4294967296) := by show _ < _; have := (Crc.sum b1).isLt; omega
      have HS := hide hs
      clear hs k1
      go_wp2_with fail
      have hlen : b1.length ≤ 96 := by have := Pkt.enc_short ⟨kind, src, dst, id, first, press, ack, frame, sum⟩; rw [HE.out, Pkt.sealB_len, ← HBO.out] at this; omega
      have hn2 := G1.out.own.len
      refine Calls.mono (crc_Sum_v G1.out.own.lies (by omega) HS.out) ?_
      rintro e w3 ⟨rfl, rfl⟩
      go_wp2_with fail
      refine Calls.mono (num_Four s _ HS1.out HS2.out) ?_
      rintro e w4 ⟨A4, c4, rfl, own4, hb4⟩
      have G2 := hide (G1.out.below hb4)
      have L4 := hide own4.lies
      clear own4 hb4
      go_wp2_with (at_builtin; refine wpB_append3 rfl (.tmp 53) (.tmp 56) rfl w.heap.size A2 n2 c2' b1 rfl G2.out.own _ A4 4 c4 _ rfl L4.out (n2 + 4) _ rfl rfl (by omega) G2.out.size ?_; intro A5 c5 w5 own5 k5 hk5)
      go_ret
      exact ⟨_, _, _, rfl, by rw [HE.out, ← HBO.out, Pkt.sealB, ← HS.out]; exact own5, (G2.out.put k5 own5).bel, fun h => by cases h⟩
end Go.Proofs.Ytbcgffgiifminaa
namespace Go.Proofs.Ytbcgffgiifminaa
open Go.RowKit
set_option maxRecDepth 10000
set_option linter.unusedVariables false
theorem ref_Put_v {v : Int} {x : List UInt8} {w : World} (lo : -9223372036854775808 ≤ v) (hi : v ≤ 9223372036854775807) (hx : Var.put (Var.zig v) = x) :
    Calls Try.prog 56 #[.int .i64 v] w fun e w' => ∃ A' n' c', e = .returned (.slice A' n' c') ∧ OwnB w' w.heap.size A' n' c' x ∧ Below w.heap.size w w' := by subst hx; exact ref_Put v w lo hi
theorem ref_Four_v {a : Int} {x : List UInt8} {w : World} (h1 : 0 ≤ a) (h2 : a < 4294967296) (hx : be32 a = x) : Calls Try.prog 57 #[.int .u32 a] w fun e w' =>
    ∃ A' n' c', e = .returned (.slice A' n' c') ∧ OwnB w' w.heap.size A' n' c' x ∧ Below w.heap.size w w' := by
  subst hx
  refine (ref_Four a w h1 h2).mono ?_
  rintro e w' ⟨A, c, rfl, h, hb⟩
  exact ⟨A, 4, c, rfl, h, hb⟩
theorem ref_Runs_v {A : Option Addr} {n c B : Nat} {l x : List UInt8} {w : World} (hA : LiesB w B A n l) (hB : B ≤ w.heap.size) (hn : n ≤ 10000) (hx : Runs.enc 0 l = x) :
    Calls Try.prog 58 #[.slice A n c] w fun e w' => ∃ A' n' c', e = .returned (.slice A' n' c') ∧ OwnB w' w.heap.size A' n' c' x ∧ Below w.heap.size w w' := by subst hx; exact ref_Runs A n c B l w hA hB hn
theorem ref_Sum_v {A : Option Addr} {n c B : Nat} {l : List UInt8} {w : World} {s : Int} (hA : LiesB w B A n l) (hm : n ≤ 9223372036854775807) (hs : s = ((Crc.sum l).toNat : Int)) :
    Calls Try.prog 59 #[.slice A n c] w fun e w' => e = .returned (.int .u32 s) ∧ w = w' := by subst hs; exact ref_Sum A n c B l w hA hm
theorem OwnB.apart {wy w' : World} {by' n c ny cy : Nat} {A Ay : Option Addr} {ly : List UInt8} (hy : OwnB wy by' Ay ny cy ly) (hk : Keeps (Mine A n c) wy w') (hA : ∀ k, some k = (Value.slice A n c).ownBlock → k < by') : OwnB w' by' Ay ny cy ly :=
  hy.keeps hk fun k hk1 hm => by
    have h1 := (hy.blk k hk1).1
    have h2 := hA k hm
    omega
set_option maxHeartbeats 4000000 in
set_option maxRecDepth 10000 in
theorem ref_Packet (p : Pkt) {A : Option Addr} {n c B : Nat} {w : World} (hA : LiesB w B A n p.press) (hB : B ≤ w.heap.size) (hn : n ≤ 10000) (hw : p.WF) :
    Calls Try.prog 21 #[p.val (.slice A n c)] w fun e w' => ∃ A' n' c', e = .returned (.slice A' n' c') ∧ OwnB w' w.heap.size A' n' c' p.enc ∧ Below w.heap.size w w' := by
  have LA := hide hA
  have HL := hide hA.len
  have HBB := hide hB
  have HP : Hid (Arr 41 (w.alloc (.cells (p.row (.slice A n c)).toArray 41)) w.heap.size (p.row (.slice A n c))) := Arr.new 41 w _ _ rfl
  have HB : Hid (Below w.heap.size w (w.alloc (.cells (p.row (.slice A n c)).toArray 41))) := Below_new _ _
  cases hm : p.may
  · have HE : Hid (p.enc = []) := Pkt.enc_nil_iff.2 hm
    have HM := hide hm
    clear hm hA hB hw
    go_enter Try.func21, Try.ntmps21
    go_upto_region 1 with fail
    generalize World.alloc w _ = wx at HP HB ⊢
    go_wp2_with (refine wpP_load rfl (.tmp 1) rfl w.heap.size rfl p (.slice A n c) HP.out ?_)
    refine Calls.mono (ref_MayPacket p HL.out (by omega) HM.out.symm) ?_
    rintro e w1 ⟨rfl, hb1⟩
    have HB1 := hide (Below_step HB.out hb1)
    clear hb1
    go_wp2_with fail
    go_ret
    exact ⟨none, 0, 0, rfl, by rw [HE.out]; exact OwnB.nil _ _, HB1.out⟩
  · have hf := Pkt.may_iff.1 hm
    have HE : Hid (p.enc = Pkt.sealB p.body) := by show _ = _; rw [Pkt.enc, if_pos hm]
    have HM := hide hm
    obtain ⟨kind, src, dst, id, first, press, ack, frame, sum⟩ := p
    obtain ⟨-, -, -, hid, hk⟩ := hf
    simp only at hid hk hw LA HL
    have HW1 := hide hw.1
    have HW2 := hide hw.2
    simp only at HW1 HW2
    have HK := hide hk
    obtain ⟨x0, hx0⟩ : ∃ x, Var.put (Var.zig id) = x := ⟨_, rfl⟩
    have X0 := hide hx0
    have hx0l : x0.length ≤ 10 := by rw [← hx0]; exact Var.put_len10 _ (Var.zig_lt id (by omega) (by omega))
    clear hm hA hB hw hk hx0
    go_enter Try.func21, Try.ntmps21
    go_upto_region 1 with fail
    simp only [Pkt.row] at HP HB
    generalize World.alloc w _ = wx at HP HB ⊢
    go_wp2_with (refine wpP_load rfl (.tmp 1) rfl w.heap.size rfl ⟨kind, src, dst, id, first, press, ack, frame, sum⟩ (.slice A n c) HP.out ?_)
    refine Calls.mono (ref_MayPacket ⟨kind, src, dst, id, first, press, ack, frame, sum⟩ HL.out (by omega) HM.out.symm) ?_
    rintro e w1 ⟨rfl, hb1⟩
    have HB1 := hide (Below_step HB.out hb1)
    have HP := hide (HP.out.belowN hb1)
    clear hb1 HB
    go_upto_region 3 with fail
    obtain ⟨b1, hb1⟩ : ∃ b, [Pkt.byte kind, Pkt.byte src, Pkt.byte dst] ++ x0 = b := ⟨_, rfl⟩
    have HB1' := hide hb1
    have hb1l : b1.length ≤ 13 := by rw [← hb1, List.length_append]; simp; omega
    clear hb1
    go_cut [3] (fun s wx => ∃ (A2 : Option Addr) (n2 c2 : Nat), s = .slice A2 n2 c2 ∧ Hid (Grow w wx w.heap.size (Pkt.row ⟨kind, src, dst, id, first, press, ack, frame, sum⟩ (.slice A n c)) A2 n2 c2 b1))
    case first =>
      have c0 := HP.out.cell (j := 0) (by simp)
      have c1 := HP.out.cell (j := 1) (by simp)
      have c2 := HP.out.cell (j := 2) (by simp)
      have c3 := HP.out.cell (j := 3) (by simp)
      simp only [List.getElem_cons_zero, List.getElem_cons_succ] at c0 c1 c2 c3
      have GN : Hid (∀ wy, Below w.heap.size w wy → Arr 41 wy w.heap.size (Pkt.row ⟨kind, src, dst, id, first, press, ack, frame, sum⟩ (.slice A n c)) → Grow w (wy.alloc (.cells #[.int .u8 (IntKind.u8.wrap kind), .int .u8 (IntKind.u8.wrap src), .int .u8 (IntKind.u8.wrap dst)] 5)) w.heap.size (Pkt.row ⟨kind, src, dst, id, first, press, ack, frame, sum⟩ (.slice A n c)) (some ⟨wy.heap.size, 0, none⟩) 3 3 [Pkt.byte kind, Pkt.byte src, Pkt.byte dst]) := fun wy hb hp =>
        ⟨(OwnB.new wy _ 3 [Pkt.byte kind, Pkt.byte src, Pkt.byte dst] rfl (by simp [maxLen]) (by simp only [List.map_cons, List.map_nil, Pkt.bv_byte, IntKind.wrap_u8])).base_le hb.size, hp.belowN (Below_new _ _), Below_step hb (Below_new _ _)⟩
      refine wp_region_noPanic ?_
      refine wp_region_held_drew (S := (fun w' => w'.cell? ⟨w.heap.size, 0, none⟩ = some (.int .i64 kind) ∧ w'.cell? ⟨w.heap.size, 1, none⟩ = some (.int .i64 src) ∧ w'.cell? ⟨w.heap.size, 2, none⟩ = some (.int .i64 dst) ∧ w'.cell? ⟨w.heap.size, 3, none⟩ = some (.int .i64 id))) (by kernel_rfl) ⟨c0, c1, c2, c3⟩ (fun hHeld => ?_)
      refine tk0 0 ?_
      refine tk 1 ?_
      refine tk 2 ?_
      refine tk 3 ?_
      refine tk 4 ?_
      refine tk 5 ?_
      refine tk 6 ?_
      refine tk 7 ?_
      refine tk 8 ?_
      refine tk 10 ?_
      refine tk 11 ?_
      refine wpAnyH_ready (rs := [9, 12]) (by kernel_rfl) (by simp) ?_
      refine AllReadyH.cons (o := ?_) ?_ (fun K hK => ?_) ?_
      rotate_left 1
      · (simp only [List.getElem?_toArray, List.getElem?_cons_succ, List.getElem?_cons_zero]; rfl)
      · go_simp
        skip
        have G0 := (GN.out w1 HB1.out HP.out).drew
        refine hK.out _ _ ⟨G0.arr.cell (j := 0) (by simp), G0.arr.cell (j := 1) (by simp), G0.arr.cell (j := 2) (by simp), G0.arr.cell (j := 3) (by simp)⟩ (fun hHeld => ?_)
        clear hK K
        try simp only [Act.put, List.setIfInBounds_toArray, List.set_cons_zero, List.set_cons_succ]
        refine rdy 12 fun K hK => ?_
        go_simp
        (go_at_call 56; (refine Calls.mono (ref_Put_v (by omega) (by omega) X0.out) ?_); rintro e w4 ⟨A4, n4, c4, rfl, own4, hb4⟩)
        have G4 := G0.below hb4
        have hl4 := own4.len
        refine hK.out _ _ ⟨G4.arr.cell (j := 0) (by simp), G4.arr.cell (j := 1) (by simp), G4.arr.cell (j := 2) (by simp), G4.arr.cell (j := 3) (by simp)⟩ (fun hHeld => ?_)
        clear hK K
        try simp only [Act.put, List.setIfInBounds_toArray, List.set_cons_zero, List.set_cons_succ]
        refine rdy 13 fun K hK => ?_
        (refine step_appendB rfl (.tmp 16) (.tmp 19) rfl w.heap.size _ 3 3 _ rfl G4.own _ A4 n4 c4 _ rfl own4.lies (3 + n4) b1 rfl HB1'.out (by omega) G4.size ?_; intro A5 c5 w5 own5 k5 hk5)
        have G5 := G4.put k5 own5
        refine hK.out _ _ ⟨G5.arr.cell (j := 0) (by simp), G5.arr.cell (j := 1) (by simp), G5.arr.cell (j := 2) (by simp), G5.arr.cell (j := 3) (by simp)⟩ (fun hHeld => ?_)
        clear hK K
        try simp only [Act.put]
        refine tk 14 ?_
        refine wpAnyH_done (by kernel_rfl) (NoPanic.normal ?_) _
        go_wp2_with fail
        go_meet
        exact ⟨_, _, _, rfl, G5⟩
      refine AllReadyH.cons (o := ?_) ?_ (fun K hK => ?_) ?_
      rotate_left 1
      · (simp only [List.getElem?_toArray, List.getElem?_cons_succ, List.getElem?_cons_zero]; rfl)
      · go_simp
        refine Calls.mono (ref_Put_v (by omega) (by omega) X0.out) ?_
        rintro e w4 ⟨A4, n4, c4, rfl, own4, hb4⟩
        have HB4 : Below w.heap.size w w4 := Below_step (Below_drewN HB1.out 1) hb4
        have HP4 : Arr 41 w4 w.heap.size (Pkt.row ⟨kind, src, dst, id, first, press, ack, frame, sum⟩ (.slice A n c)) := HP.out.drew.belowN hb4
        have hl4 := own4.len
        refine hK.out _ _ ⟨HP4.cell (j := 0) (by simp), HP4.cell (j := 1) (by simp), HP4.cell (j := 2) (by simp), HP4.cell (j := 3) (by simp)⟩ (fun hHeld => ?_)
        clear hK K
        try simp only [Act.put, List.setIfInBounds_toArray, List.set_cons_zero, List.set_cons_succ]
        refine rdy 9 fun K hK => ?_
        go_simp
        have G0 := GN.out w4 HB4 HP4
        have own4 := own4.below (Below_new w4 (.cells #[.int .u8 (IntKind.u8.wrap kind), .int .u8 (IntKind.u8.wrap src), .int .u8 (IntKind.u8.wrap dst)] 5))
        refine hK.out _ _ ⟨G0.arr.cell (j := 0) (by simp), G0.arr.cell (j := 1) (by simp), G0.arr.cell (j := 2) (by simp), G0.arr.cell (j := 3) (by simp)⟩ (fun hHeld => ?_)
        clear hK K
        try simp only [Act.put, List.setIfInBounds_toArray, List.set_cons_zero, List.set_cons_succ]
        refine rdy 13 fun K hK => ?_
        (refine step_appendB rfl (.tmp 16) (.tmp 19) rfl w.heap.size _ 3 3 _ rfl G0.own _ A4 n4 c4 _ rfl own4.lies (3 + n4) b1 rfl HB1'.out (by omega) G0.size ?_; intro A5 c5 w5 own5 k5 hk5)
        have G5 := G0.put k5 own5
        refine hK.out _ _ ⟨G5.arr.cell (j := 0) (by simp), G5.arr.cell (j := 1) (by simp), G5.arr.cell (j := 2) (by simp), G5.arr.cell (j := 3) (by simp)⟩ (fun hHeld => ?_)
        clear hK K
        try simp only [Act.put]
        refine tk 14 ?_
        refine wpAnyH_done (by kernel_rfl) (NoPanic.normal ?_) _
        go_wp2_with fail
        go_meet
        exact ⟨_, _, _, rfl, G5⟩
      exact AllReadyH.nil
    case rest =>
      obtain ⟨A2, n2, c2, rfl, G⟩ := hcut
      clear HP HB1
      have c0 := G.out.arr.cell (j := 0) (by simp)
      simp only [List.getElem_cons_zero] at c0
      by_cases k1 : kind = 1
      · subst k1
        obtain ⟨hfi, hac, hfr, hpl⟩ : (0 ≤ first ∧ first ≤ 1000) ∧ (0 ≤ ack ∧ ack ≤ 1000) ∧ (0 ≤ frame ∧ frame ≤ 1000) ∧ press.length ≤ 32 := by
          rcases HK.out with h | h
          · exact h.2
          · exact absurd h.1 (by decide)
        have hnp : press.length = n := HL.out
        obtain ⟨x1, hx1⟩ : ∃ x, Var.put (Var.zig first) = x := ⟨_, rfl⟩
        obtain ⟨x2, hx2⟩ : ∃ x, Var.put (Var.zig ack) = x := ⟨_, rfl⟩
        obtain ⟨x3, hx3⟩ : ∃ x, Var.put (Var.zig frame) = x := ⟨_, rfl⟩
        obtain ⟨x4, hx4⟩ : ∃ x, be32 sum = x := ⟨_, rfl⟩
        obtain ⟨x5, hx5⟩ : ∃ x, Var.put (Var.zig (n : Int)) = x := ⟨_, rfl⟩
        obtain ⟨x6, hx6⟩ : ∃ x, Runs.enc 0 press = x := ⟨_, rfl⟩
        have X1 := hide hx1
        have X2 := hide hx2
        have X3 := hide hx3
        have X4 := hide hx4
        have X5 := hide hx5
        have X6 := hide hx6
        have hx1l : x1.length ≤ 10 := by rw [← hx1]; exact Var.put_len10 _ (Var.zig_lt first (by omega) (by omega))
        have hx2l : x2.length ≤ 10 := by rw [← hx2]; exact Var.put_len10 _ (Var.zig_lt ack (by omega) (by omega))
        have hx3l : x3.length ≤ 10 := by rw [← hx3]; exact Var.put_len10 _ (Var.zig_lt frame (by omega) (by omega))
        have hx4l : x4.length = 4 := by rw [← hx4, be32_length]
        have hx5l : x5.length ≤ 10 := by rw [← hx5]; exact Var.put_len10 _ (Var.zig_lt (n : Int) (by omega) (by omega))
        have hx6l : x6.length ≤ 64 := by have := Pkt.runs_len _ 0 press (Nat.le_refl _) (by omega); rw [← hx6]; omega
        obtain ⟨b2, hb2⟩ : ∃ b, b1 ++ x1 ++ x2 = b := ⟨_, rfl⟩
        obtain ⟨b3, hb3⟩ : ∃ b, b2 ++ x3 ++ x4 = b := ⟨_, rfl⟩
        obtain ⟨b4, hb4⟩ : ∃ b, b3 ++ x5 ++ x6 = b := ⟨_, rfl⟩
        have hb2l : b2.length ≤ 33 := by rw [← hb2]; simp only [List.length_append]; omega
        have hb3l : b3.length ≤ 47 := by rw [← hb3]; simp only [List.length_append]; omega
        have hb4l : b4.length ≤ 121 := by rw [← hb4]; simp only [List.length_append]; omega
        have HBO : Hid (b4 = Pkt.body ⟨1, src, dst, id, first, press, ack, frame, sum⟩) := by
          show _ = _
          rw [← hb4, ← hb3, ← hb2, ← hx1, ← hx2, ← hx3, ← hx4, ← hx5, ← hx6, ← HB1'.out, ← X0.out, Pkt.body, Pkt.tail, if_pos rfl]
          simp [hnp]
        have HB2' := hide hb2
        have HB3' := hide hb3
        have HB4' := hide hb4
        clear hx1 hx2 hx3 hx4 hx5 hx6 hb2 hb3 hb4
        go_upto_region 5 with fail
        go_cut [3] (fun s wx => ∃ (A2 : Option Addr) (n2 c2 : Nat), s = .slice A2 n2 c2 ∧ Hid (Grow w wx w.heap.size (Pkt.row ⟨1, src, dst, id, first, press, ack, frame, sum⟩ (.slice A n c)) A2 n2 c2 b2))
        case first =>
          have c4 := G.out.arr.cell (j := 4) (by simp)
          have c6 := G.out.arr.cell (j := 6) (by simp)
          simp only [List.getElem_cons_zero, List.getElem_cons_succ] at c4 c6
          have hl2 := G.out.own.len
          have hn2 := (G.out.own.blk)
          refine wp_region_noPanic ?_
          refine wp_region_held_drew (S := (fun w' => w'.cell? ⟨w.heap.size, 4, none⟩ = some (.int .i64 first) ∧ w'.cell? ⟨w.heap.size, 6, none⟩ = some (.int .i64 ack))) (by kernel_rfl) ⟨c4, c6⟩ (fun hHeld => ?_)
          refine tk0 0 ?_
          refine tk 1 ?_
          refine tk 2 ?_
          refine tk 5 ?_
          refine tk 6 ?_
          refine rdy 3 fun K hK => ?_
          go_simp
          (go_at_call 56; (refine Calls.mono (ref_Put_v (v := first) (by omega) (by omega) X1.out) ?_); rintro e w3 ⟨A3, n3, c3', rfl, own3, hb3⟩)
          have G3 := G.out.drew.below hb3
          have hl3 := own3.len; have O3 := hide own3; clear own3 hb3
          refine hK.out _ _ ⟨G3.arr.cell (j := 4) (by simp), G3.arr.cell (j := 6) (by simp)⟩ (fun hHeld => ?_)
          clear hK K
          try simp only [Act.put, List.setIfInBounds_toArray, List.set_cons_zero, List.set_cons_succ]
          refine rdy 4 fun K hK => ?_
          refine step_appendB rfl (.tmp 24) (.tmp 27) rfl w.heap.size A2 n2 c2 b1 rfl G3.own _ A3 n3 c3' _ rfl O3.out.lies (n2 + n3) _ rfl rfl (by omega) G3.size ?_
          intro A4 c4' w4 own4 k4 hk4
          have G4 := G3.put k4 own4
          have hl4 := own4.len; clear own4 k4 hk4
          refine hK.out _ _ ⟨G4.arr.cell (j := 4) (by simp), G4.arr.cell (j := 6) (by simp)⟩ (fun hHeld => ?_)
          clear hK K
          try simp only [Act.put]
          refine rdy 7 fun K hK => ?_
          go_simp
          (go_at_call 56; (refine Calls.mono (ref_Put_v (v := ack) (by omega) (by omega) X2.out) ?_); rintro e w5 ⟨A5, n5, c5', rfl, own5, hb5⟩)
          have G5 := G4.below hb5
          have hl5 := own5.len; have O5 := hide own5; clear own5 hb5
          refine hK.out _ _ ⟨G5.arr.cell (j := 4) (by simp), G5.arr.cell (j := 6) (by simp)⟩ (fun hHeld => ?_)
          clear hK K
          try simp only [Act.put, List.setIfInBounds_toArray, List.set_cons_zero, List.set_cons_succ]
          refine rdy 8 fun K hK => ?_
          (refine step_appendB rfl (.tmp 28) (.tmp 31) rfl w.heap.size A4 (n2 + n3) c4' _ rfl G5.own _ A5 n5 c5' _ rfl O5.out.lies (n2 + n3 + n5) _ rfl HB2'.out (by omega) G5.size ?_; intro A6 c6' w6 own6 k6 hk6)
          have G6 := G5.put k6 own6
          refine hK.out _ _ ⟨G6.arr.cell (j := 4) (by simp), G6.arr.cell (j := 6) (by simp)⟩ (fun hHeld => ?_)
          clear hK K
          try simp only [Act.put]
          refine tk 9 ?_
          refine wpAnyH_done (by kernel_rfl) (NoPanic.normal ?_) _
          go_wp2_with fail
          go_meet
          exact ⟨_, _, _, rfl, G6⟩
        case rest =>
          obtain ⟨A2, n2, c2, rfl, G⟩ := hcut
          go_upto_region 6 with fail
          go_cut [3] (fun s wx => ∃ (A2 : Option Addr) (n2 c2 : Nat), s = .slice A2 n2 c2 ∧ Hid (Grow w wx w.heap.size (Pkt.row ⟨1, src, dst, id, first, press, ack, frame, sum⟩ (.slice A n c)) A2 n2 c2 b3))
          case first =>
            have c7 := G.out.arr.cell (j := 7) (by simp)
            have c8 := G.out.arr.cell (j := 8) (by simp)
            simp only [List.getElem_cons_zero, List.getElem_cons_succ] at c7 c8
            have hl2 := G.out.own.len
            have hn2 := (G.out.own.blk)
            refine wp_region_noPanic ?_
            refine wp_region_held_drew (S := (fun w' => w'.cell? ⟨w.heap.size, 7, none⟩ = some (.int .i64 frame) ∧ w'.cell? ⟨w.heap.size, 8, none⟩ = some (.int .u32 sum))) (by kernel_rfl) ⟨c7, c8⟩ (fun hHeld => ?_)
            refine tk0 0 ?_
            refine tk 1 ?_
            refine tk 2 ?_
            refine tk 5 ?_
            refine tk 6 ?_
            refine rdy 3 fun K hK => ?_
            go_simp
            (go_at_call 56; (refine Calls.mono (ref_Put_v (v := frame) (by omega) (by omega) X3.out) ?_); rintro e w3 ⟨A3, n3, c3', rfl, own3, hb3⟩)
            have G3 := G.out.drew.below hb3
            have hl3 := own3.len; have O3 := hide own3; clear own3 hb3
            refine hK.out _ _ ⟨G3.arr.cell (j := 7) (by simp), G3.arr.cell (j := 8) (by simp)⟩ (fun hHeld => ?_)
            clear hK K
            try simp only [Act.put, List.setIfInBounds_toArray, List.set_cons_zero, List.set_cons_succ]
            refine rdy 4 fun K hK => ?_
            refine step_appendB rfl (.tmp 33) (.tmp 36) rfl w.heap.size A2 n2 c2 b2 rfl G3.own _ A3 n3 c3' _ rfl O3.out.lies (n2 + n3) _ rfl rfl (by omega) G3.size ?_
            intro A4 c4' w4 own4 k4 hk4
            have G4 := G3.put k4 own4
            have hl4 := own4.len; clear own4 k4 hk4
            refine hK.out _ _ ⟨G4.arr.cell (j := 7) (by simp), G4.arr.cell (j := 8) (by simp)⟩ (fun hHeld => ?_)
            clear hK K
            try simp only [Act.put]
            refine rdy 7 fun K hK => ?_
            go_simp
            (go_at_call 57; (refine Calls.mono (ref_Four_v HW1.out HW2.out X4.out) ?_); rintro e w5 ⟨A5, n5, c5', rfl, own5, hb5⟩)
            have G5 := G4.below hb5
            have hl5 := own5.len; have O5 := hide own5; clear own5 hb5
            refine hK.out _ _ ⟨G5.arr.cell (j := 7) (by simp), G5.arr.cell (j := 8) (by simp)⟩ (fun hHeld => ?_)
            clear hK K
            try simp only [Act.put, List.setIfInBounds_toArray, List.set_cons_zero, List.set_cons_succ]
            refine rdy 8 fun K hK => ?_
            (refine step_appendB rfl (.tmp 37) (.tmp 40) rfl w.heap.size A4 (n2 + n3) c4' _ rfl G5.own _ A5 n5 c5' _ rfl O5.out.lies (n2 + n3 + n5) _ rfl HB3'.out (by omega) G5.size ?_; intro A6 c6' w6 own6 k6 hk6)
            have G6 := G5.put k6 own6
            refine hK.out _ _ ⟨G6.arr.cell (j := 7) (by simp), G6.arr.cell (j := 8) (by simp)⟩ (fun hHeld => ?_)
            clear hK K
            try simp only [Act.put]
            refine tk 9 ?_
            refine wpAnyH_done (by kernel_rfl) (NoPanic.normal ?_) _
            go_wp2_with fail
            go_meet
            exact ⟨_, _, _, rfl, G6⟩
          case rest =>
            obtain ⟨A2, n2, c2, rfl, G⟩ := hcut
            go_upto_region 7 with fail
            go_cut [3] (fun s wx => ∃ (A2 : Option Addr) (n2 c2 : Nat), s = .slice A2 n2 c2 ∧ Hid (Grow w wx w.heap.size (Pkt.row ⟨1, src, dst, id, first, press, ack, frame, sum⟩ (.slice A n c)) A2 n2 c2 b4))
            case first =>
              have c5 := G.out.arr.cell (j := 5) (by simp)
              have c8 := G.out.arr.cell (j := 8) (by simp)
              simp only [List.getElem_cons_zero, List.getElem_cons_succ] at c5 c8
              have hl2 := G.out.own.len
              have hn2 := (G.out.own.blk)
              refine wp_region_noPanic ?_
              refine wp_region_held_drew (S := (fun w' => w'.cell? ⟨w.heap.size, 5, none⟩ = some (.slice A n c) ∧ w'.cell? ⟨w.heap.size, 8, none⟩ = some (.int .u32 sum))) (by kernel_rfl) ⟨c5, c8⟩ (fun hHeld => ?_)
              refine tk0 0 ?_
              refine tk 1 ?_
              refine tk 2 ?_
              refine tk 3 ?_
              refine tk 6 ?_
              refine tk 7 ?_
              refine rdy 4 fun K hK => ?_
              go_simp
              (go_at_call 56; (refine Calls.mono (ref_Put_v (v := (n : Int)) (by omega) (by omega) X5.out) ?_); rintro e w3 ⟨A3, n3, c3', rfl, own3, hb3⟩)
              have G3 := G.out.drew.below hb3
              have hl3 := own3.len; have O3 := hide own3; clear own3 hb3
              refine hK.out _ _ ⟨G3.arr.cell (j := 5) (by simp), G3.arr.cell (j := 8) (by simp)⟩ (fun hHeld => ?_)
              clear hK K
              try simp only [Act.put, List.setIfInBounds_toArray, List.set_cons_zero, List.set_cons_succ]
              refine rdy 5 fun K hK => ?_
              refine step_appendB rfl (.tmp 42) (.tmp 46) rfl w.heap.size A2 n2 c2 b3 rfl G3.own _ A3 n3 c3' _ rfl O3.out.lies (n2 + n3) _ rfl rfl (by omega) G3.size ?_
              intro A4 c4' w4 own4 k4 hk4
              have G4 := G3.put k4 own4
              have hl4 := own4.len; clear own4 k4 hk4
              refine hK.out _ _ ⟨G4.arr.cell (j := 5) (by simp), G4.arr.cell (j := 8) (by simp)⟩ (fun hHeld => ?_)
              clear hK K
              try simp only [Act.put]
              refine rdy 8 fun K hK => ?_
              go_simp
              (go_at_call 58; (refine Calls.mono (ref_Runs_v (LA.out.below (G4.bel.mono HBB.out)) (Nat.le_trans HBB.out G4.size) (by omega) X6.out) ?_); rintro e w5 ⟨A5, n5, c5', rfl, own5, hb5⟩)
              have G5 := G4.below hb5
              have hl5 := own5.len; have O5 := hide own5; clear own5 hb5
              refine hK.out _ _ ⟨G5.arr.cell (j := 5) (by simp), G5.arr.cell (j := 8) (by simp)⟩ (fun hHeld => ?_)
              clear hK K
              try simp only [Act.put, List.setIfInBounds_toArray, List.set_cons_zero, List.set_cons_succ]
              refine rdy 9 fun K hK => ?_
              (refine step_appendB rfl (.tmp 47) (.tmp 50) rfl w.heap.size A4 (n2 + n3) c4' _ rfl G5.own _ A5 n5 c5' _ rfl O5.out.lies (n2 + n3 + n5) _ rfl HB4'.out (by omega) G5.size ?_; intro A6 c6' w6 own6 k6 hk6)
              have G6 := G5.put k6 own6
              refine hK.out _ _ ⟨G6.arr.cell (j := 5) (by simp), G6.arr.cell (j := 8) (by simp)⟩ (fun hHeld => ?_)
              clear hK K
              try simp only [Act.put]
              refine tk 10 ?_
              refine wpAnyH_done (by kernel_rfl) (NoPanic.normal ?_) _
              go_wp2_with fail
              go_meet
              exact ⟨_, _, _, rfl, G6⟩
            case rest =>
              obtain ⟨A2, n2, c2, rfl, G⟩ := hcut
              obtain ⟨s, hs⟩ : ∃ s, s = ((Crc.sum b4).toNat : Int) := ⟨_, rfl⟩
              have HS1 : Hid (0 ≤ s) := by show _ ≤ _; omega
              have HS2 : Hid (s < 4294967296) := by show _ < _; have := (Crc.sum b4).isLt; omega
              have HS := hide hs
              obtain ⟨x7, hx7⟩ : ∃ x, be32 s = x := ⟨_, rfl⟩
              have HX7 := hide hx7
              have hx7l : x7.length = 4 := by rw [← hx7, be32_length]
              clear hs hx7
              go_wp2_with fail
              have hl2 := G.out.own.len
              refine Calls.mono (ref_Sum_v G.out.own.lies (by omega) HS.out) ?_
              rintro e w10 ⟨rfl, rfl⟩
              go_wp2_with fail
              refine Calls.mono (ref_Four_v HS1.out HS2.out HX7.out) ?_
              rintro e w11 ⟨A11, n11, c11, rfl, own11, hb11⟩
              have G11 := hide (G.out.below hb11)
              have L11 := hide own11.lies
              have hl11 := own11.len
              clear own11 hb11
              go_wp2_with (at_builtin; refine wpB_append3 rfl (.tmp 52) (.tmp 55) rfl w.heap.size A2 n2 c2 b4 rfl G11.out.own _ A11 n11 c11 x7 rfl L11.out (n2 + n11) _ rfl rfl (by omega) G11.out.size ?_; intro A12 c12 w12 own12 k12 hk12)
              go_ret
              exact ⟨_, _, _, rfl, by rw [HE.out, ← HBO.out, Pkt.sealB, ← HS.out, HX7.out]; exact own12, (G11.out.put k12 own12).bel⟩
      · have dk : (kind == 1) = false := by simp [k1]
        have HBO : Hid (b1 = Pkt.body ⟨kind, src, dst, id, first, press, ack, frame, sum⟩) := by show _ = _; rw [← HB1'.out, ← X0.out, Pkt.body, Pkt.tail, if_neg k1, List.append_nil]; rfl
        clear k1
        obtain ⟨s, hs⟩ : ∃ s, s = ((Crc.sum b1).toNat : Int) := ⟨_, rfl⟩
        have HS1 : Hid (0 ≤ s) := by show _ ≤ _; omega
        have HS2 : Hid (s < 4294967296) := by show _ < _; have := (Crc.sum b1).isLt; omega
        have HS := hide hs
        obtain ⟨x7, hx7⟩ : ∃ x, be32 s = x := ⟨_, rfl⟩
        have HX7 := hide hx7
        have hx7l : x7.length = 4 := by rw [← hx7, be32_length]
        clear hs hx7
        go_wp2_with fail
        have hl2 := G.out.own.len
        refine Calls.mono (ref_Sum_v G.out.own.lies (by omega) HS.out) ?_
        rintro e w10 ⟨rfl, rfl⟩
        go_wp2_with fail
        refine Calls.mono (ref_Four_v HS1.out HS2.out HX7.out) ?_
        rintro e w11 ⟨A11, n11, c11, rfl, own11, hb11⟩
        have G11 := hide (G.out.below hb11)
        have L11 := hide own11.lies
        have hl11 := own11.len
        clear own11 hb11
        go_wp2_with (at_builtin; refine wpB_append3 rfl (.tmp 52) (.tmp 55) rfl w.heap.size A2 n2 c2 b1 rfl G11.out.own _ A11 n11 c11 x7 rfl L11.out (n2 + n11) _ rfl rfl (by omega) G11.out.size ?_; intro A12 c12 w12 own12 k12 hk12)
        go_ret
        exact ⟨_, _, _, rfl, by rw [HE.out, ← HBO.out, Pkt.sealB, ← HS.out, HX7.out]; exact own12, (G11.out.put k12 own12).bel⟩
end Go.Proofs.Ytbcgffgiifminaa
namespace Go.Proofs.Ytbcgffgiifminaa
open Go.RowKit
set_option maxRecDepth 10000
set_option linter.unusedVariables false
/-- The reader in block r: what is left to read, and whether something did not go. -/
structure Rd (w : World) (B r : Nat) (bad : Bool) (A : Option Addr) (n c : Nat) (l : List UInt8) : Prop where
  arr : Arr 133 w r [.slice A n c, .bool bad]
  lies : LiesB w B A n l
  ge : B ≤ r
  cap : n ≤ c
theorem LiesB.set {w : World} {B r n : Nat} {A : Option Addr} {l : List UInt8} (h : LiesB w B A n l) (hr : B ≤ r) (j : Nat) (v : Value) : LiesB (w.setCell ⟨r, j, none⟩ v) B A n l :=
  h.below ⟨rfl, rfl, rfl, by simp [World.setCell], fun k hk => Below.heap_setCell w ⟨r, j, none⟩ v k (by show k ≠ r; omega)⟩
set_option maxHeartbeats 1000000 in
theorem reader_num {w : World} {B r n c : Nat} {bad bad' : Bool} {A : Option Addr} {l l' : List UInt8} {v : Int} (h : Rd w B r bad A n c l) (hn : n ≤ 140737488355328) (hv : Pkt.num bad l = (v, bad', l')) :
    Calls Try.prog 77 #[.pointer (some ⟨r, 0, none⟩)] w fun e w' => ∃ A' n' c', e = .returned (.int .i64 v) ∧ Rd w' B r bad' A' n' c' l' ∧ n' ≤ n ∧ Keeps (fun k => k = r) w w' ∧ w'.heap.size = w.heap.size := by
  have c0 := h.arr.cell (j := 0) (by simp)
  have c1 := h.arr.cell (j := 1) (by simp)
  have f0 := h.arr.frozen 0
  have f1 := h.arr.frozen 1
  simp only [List.getElem_cons_zero, List.getElem_cons_succ] at c0 c1
  have H := hide h
  have hl := h.lies.len
  obtain ⟨⟨v0, m, er⟩, hg⟩ : ∃ x, Var.get 0 0 l = x := ⟨_, rfl⟩
  have HG := hide hg
  unfold Pkt.num at hv
  rw [hg] at hv
  simp only at hv
  cases bad
  · by_cases he : er = 0
    · subst he
      have hv' : (v0, false, l.drop m) = (v, bad', l') := hv
      simp only [Prod.mk.injEq] at hv'
      obtain ⟨rfl, rfl, hl'⟩ := hv'
      have hm : m ≤ n := by have := (Var.get_back0 hg).2; omega
      have HL := hide hl'
      clear hv hg hl' h
      go_enter Try.func77, Try.ntmps77
      go_wp2_with fail
      refine Calls.mono (num_Get _ _ _ _ _ _ H.out.lies hn v0 m 0 HG.out) ?_
      rintro e w1 ⟨rfl, rfl⟩
      go_wp2_with fail
      go_ret
      exact ⟨_, _, _, rfl, ⟨(H.out.arr.set 1 (.bool false)).set 0 _, by rw [← HL.out]; exact ((H.out.lies.set H.out.ge 1 _).set H.out.ge 0 _).cut H.out.cap, H.out.ge, by have := H.out.cap; omega⟩, by omega,
        (Keeps.setCell _ ⟨r, 1, none⟩ _).trans (Keeps.setCell _ ⟨r, 0, none⟩ _) (fun _ _ h => h), by simp [World.setCell]⟩
    · have d1 : (er != 0) = true := by simpa using he
      have d2 : (er == 0) = false := by simpa using he
      rw [d2] at hv
      have hv' : (v0, true, l) = (v, bad', l') := hv
      simp only [Prod.mk.injEq] at hv'
      obtain ⟨rfl, rfl, rfl⟩ := hv'
      clear hv hg h d2 he
      go_enter Try.func77, Try.ntmps77
      go_wp2_with fail
      refine Calls.mono (num_Get _ _ _ _ _ _ H.out.lies hn v0 m er HG.out) ?_
      rintro e w1 ⟨rfl, rfl⟩
      go_wp2_with fail
      go_ret
      exact ⟨_, _, _, rfl, ⟨H.out.arr.set 1 (.bool true), H.out.lies.set H.out.ge 1 _, H.out.ge, H.out.cap⟩, Nat.le_refl _, Keeps.setCell _ ⟨r, 1, none⟩ _, by simp [World.setCell]⟩
  · have hv' : (v0, true, l) = (v, bad', l') := hv
    simp only [Prod.mk.injEq] at hv'
    obtain ⟨rfl, rfl, rfl⟩ := hv'
    clear hv hg h
    go_enter Try.func77, Try.ntmps77
    go_wp2_with fail
    refine Calls.mono (num_Get _ _ _ _ _ _ H.out.lies hn v0 m er HG.out) ?_
    rintro e w1 ⟨rfl, rfl⟩
    go_wp2_with fail
    go_ret
    exact ⟨_, _, _, rfl, ⟨H.out.arr.set 1 (.bool true), H.out.lies.set H.out.ge 1 _, H.out.ge, H.out.cap⟩, Nat.le_refl _, Keeps.setCell _ ⟨r, 1, none⟩ _, by simp [World.setCell]⟩
namespace Pkt
def val4 (l : List UInt8) (k : Nat) : Nat := (l.take k).foldl (fun x b => x * 256 + b.toNat) 0
theorem val4_succ (l : List UInt8) (k : Nat) (hk : k < l.length) : val4 l (k + 1) = val4 l k * 256 + l[k].toNat := by
  unfold val4
  rw [List.take_succ_eq_append_getElem hk, List.foldl_append]
  rfl
theorem val4_lt (l : List UInt8) (k : Nat) (hk : k < 4) (hl : k ≤ l.length) : val4 l k < 256 ^ k := by
  induction k with
  | zero => simp [val4]
  | succ k ih =>
    rw [val4_succ l k (by omega), Nat.pow_succ]
    have := ih (by omega) (by omega)
    have := l[k].toNat_lt
    omega
theorem val4_four (l : List UInt8) (h : 4 ≤ l.length) : (val4 l 4 : Int) = get4 l := by
  match l, h with
  | a :: b :: c :: d :: t, _ => simp only [val4, List.take_succ_cons, List.take_zero, List.foldl_cons, List.foldl_nil, get4, num4]; omega
theorem or_next (x : Nat) (c : UInt8) (hx : x < 16777216) : bits BinOp.or IntKind.u32 ((x : Int) * 256) (c.toNat : Int) = ((x * 256 + c.toNat : Nat) : Int) := by
  have hc := c.toNat_lt
  rw [show (x : Int) * 256 = ((x * 256 : Nat) : Int) from by omega, u32_or_nat _ _ (by omega) (by omega), nat_join 8 _ _ (by omega) (by omega)]
end Pkt
set_option maxHeartbeats 1000000 in
theorem reader_four {w : World} {B r n c : Nat} {bad bad' : Bool} {A : Option Addr} {l l' : List UInt8} {v : Int} (h : Rd w B r bad A n c l) (hn : n ≤ 140737488355328) (hv : Pkt.four bad l = (v, bad', l')) :
    Calls Try.prog 78 #[.pointer (some ⟨r, 0, none⟩)] w fun e w' => ∃ A' n' c', e = .returned (.int .u32 v) ∧ Rd w' B r bad' A' n' c' l' ∧ n' ≤ n ∧ Keeps (fun k => k = r) w w' ∧ w'.heap.size = w.heap.size := by
  have c0 := h.arr.cell (j := 0) (by simp)
  have c1 := h.arr.cell (j := 1) (by simp)
  have f0 := h.arr.frozen 0
  have f1 := h.arr.frozen 1
  simp only [List.getElem_cons_zero, List.getElem_cons_succ] at c0 c1
  have H := hide h
  have hl := h.lies.len
  unfold Pkt.four at hv
  cases bad
  · by_cases he : n < 4
    · have d1 : decide ((n : Int) < 4) = true := decide_eq_true (by omega)
      rw [if_pos (.inr (by omega))] at hv
      simp only [Prod.mk.injEq] at hv
      obtain ⟨rfl, rfl, rfl⟩ := hv
      clear h he
      go_enter Try.func78, Try.ntmps78
      go_wp2_with fail
      go_ret
      exact ⟨_, _, _, rfl, ⟨H.out.arr.set 1 (.bool true), H.out.lies.set H.out.ge 1 _, H.out.ge, H.out.cap⟩, Nat.le_refl _, Keeps.setCell _ ⟨r, 1, none⟩ _, by simp [World.setCell]⟩
    · have d1 : decide ((n : Int) < 4) = false := decide_eq_false (by omega)
      rw [if_neg (by rintro (h | h); cases h; omega)] at hv
      simp only [Prod.mk.injEq] at hv
      obtain ⟨hv, rfl, hl'⟩ := hv
      have HL := hide hl'
      have hcap := h.cap
      obtain ⟨b, off, hl0, hA, hbB, -⟩ := h.lies.at_ (k := 0) (by omega)
      subst hA
      have hbr : b ≠ r := by have := h.ge; omega
      clear h hl'
      go_enter Try.func78, Try.ntmps78
      go_wp2_with fail
      have K1 : Hid (Keeps (fun k => k = r) w (w.setCell ⟨r, 1, none⟩ (.bool false))) := Keeps.setCell _ ⟨r, 1, none⟩ _
      have Z1 : Hid ((w.setCell ⟨r, 1, none⟩ (.bool false)).heap.size = w.heap.size) := by show _ = _; simp [World.setCell]
      have H1 : Hid (Rd (w.setCell ⟨r, 1, none⟩ (.bool false)) B r false (some ⟨b, off, none⟩) n c l) := ⟨H.out.arr.set 1 (.bool false), H.out.lies.set H.out.ge 1 _, H.out.ge, H.out.cap⟩
      generalize w.setCell ⟨r, 1, none⟩ (.bool false) = w1 at K1 Z1 H1 ⊢
      clear c0 c1 f0 f1
      have c0 := H1.out.arr.cell (j := 0) (by simp)
      have f0 := H1.out.arr.frozen 0
      simp only [List.getElem_cons_zero] at c0
      go_loop [3, 31] (fun x i => ∃ k : Nat, k ≤ 4 ∧ i = .int .i64 k ∧ x = .int .u32 ((Pkt.val4 l k : Nat) : Int)) (fun _ i => 4 - (intOf i).toNat)
      case atStart => exact ⟨0, Nat.zero_le _, rfl, rfl⟩
      case round =>
        obtain ⟨k, hk, rfl, rfl⟩ := hrel
        by_cases hlt : k < 4
        · obtain ⟨b', off', hlk, hAA, -, hc⟩ := H1.out.lies.at_ (k := k) (by omega)
          injection hAA with hAA
          injection hAA with h1 h2
          subst h1 h2
          obtain ⟨z, hz⟩ : ∃ z, z = l[k] := ⟨_, rfl⟩
          rw [← hz] at hc
          obtain ⟨x, hx⟩ : ∃ x, x = Pkt.val4 l k := ⟨_, rfl⟩
          have hx2 := Pkt.val4_lt l k hlt (by omega)
          rw [← hx] at hx2 ⊢
          have hx3 : x < 16777216 := by
            have : 256 ^ k ≤ 256 ^ 3 := Nat.pow_le_pow_right (by omega) (by omega)
            omega
          have HV : Hid (Pkt.val4 l (k + 1) = x * 256 + z.toNat) := by show _ = _; rw [Pkt.val4_succ l k hlk, hx, hz]
          have HO := hide (Pkt.or_next x z hx3)
          have hxm : IntKind.u32.wrap ((x : Int) * 256) = (x : Int) * 256 := by rw [IntKind.wrap_u32]; omega
          clear hx hz hx2
          go_wp2
          go_round
          case rel => exact ⟨k + 1, by omega, by go_num, by rw [show ((z.toNat : Int) % 4294967296) = z.toNat from by have := z.toNat_lt; omega, HO.out, HV.out]⟩
          case measure => simp [intOf]; omega
        · obtain rfl : k = 4 := by omega
          have HV : Hid (((Pkt.val4 l 4 : Nat) : Int) = v) := by show _ = _; rw [Pkt.val4_four l (by omega), hv]
          rw [HV.out]
          go_wp2
          go_ret
          have RD : Rd (w1.setCell ⟨r, 0, none⟩ (.slice (cutA (some ⟨b, off, none⟩) c 4 1) (n - 4) (c - 4))) B r false (cutA (some ⟨b, off, none⟩) c 4 1) (n - 4) (c - 4) l' := ⟨H1.out.arr.set 0 _, by rw [← HL.out]; exact (H1.out.lies.set H1.out.ge 0 _).cut H1.out.cap, H1.out.ge, by omega⟩
          exact ⟨rfl, _, _, ⟨_, RD⟩, by omega,
            K1.out.trans (Keeps.setCell _ ⟨r, 0, none⟩ _) (fun _ _ h => h), by simp [World.setCell]; exact Z1.out⟩
  · rw [if_pos (.inl rfl)] at hv
    simp only [Prod.mk.injEq] at hv
    obtain ⟨rfl, rfl, rfl⟩ := hv
    clear h
    go_enter Try.func78, Try.ntmps78
    go_wp2_with fail
    go_ret
    exact ⟨_, _, _, rfl, ⟨H.out.arr.set 1 (.bool true), H.out.lies.set H.out.ge 1 _, H.out.ge, H.out.cap⟩, Nat.le_refl _, Keeps.setCell _ ⟨r, 1, none⟩ _, by simp [World.setCell]⟩
end Go.Proofs.Ytbcgffgiifminaa
namespace Go.Proofs.Ytbcgffgiifminaa
open Go.RowKit
set_option maxRecDepth 10000
set_option linter.unusedVariables false
namespace Runs
theorem dec_len (N : Nat) : ∀ (most : Nat) (first : Bool) (a : UInt8) (out l : List UInt8), l.length ≤ N → (dec most first a out l).2 = 0 → out.length ≤ (dec most first a out l).1.length := by
  induction N with
  | zero => intro most first a out l h h2; have : l = [] := List.eq_nil_of_length_eq_zero (by omega); subst this; rw [dec_nil]; exact Nat.le_refl _
  | succ N ih =>
    intro most first a out l h h2
    by_cases hl : l = []
    · subst hl; rw [dec_nil]; exact Nat.le_refl _
    · obtain ⟨v, k, e, hg⟩ : ∃ v k e, Var.get 0 0 l = (v, k, e) := ⟨_, _, _, rfl⟩
      by_cases h3 : e ≠ 0 ∨ v < 1 ∨ l.length ≤ k ∨ (l.getD k 0 = 0 ∧ first = false)
      · rw [dec_bad hg hl h3] at h2; simp at h2
      · by_cases h4 : (most : Int) - out.length < v
        · rw [dec_full hg hl h3 h4] at h2; simp at h2
        · rw [dec_on hg hl h3 h4] at h2 ⊢
          have hne : l.length ≠ 0 := fun h' => hl (List.eq_nil_of_length_eq_zero h')
          have := ih _ _ _ _ _ (by rw [List.length_drop]; omega) h2
          rw [List.length_append] at this
          omega
end Runs

/-- The fault of the next run, as the code asks it. -/
def badB (k n q : Nat) (v er : Int) (l : List UInt8) : Bool := decide (er ≠ 0 ∨ v < 1 ∨ n ≤ k + q ∨ (l.getD (k + q) 0 = 0 ∧ 0 < k))
theorem badB_t {k n q : Nat} {v er : Int} {l : List UInt8} (h : er ≠ 0 ∨ v < 1 ∨ n ≤ k + q ∨ (l.getD (k + q) 0 = 0 ∧ 0 < k)) : badB k n q v er l = true := by unfold badB; exact decide_eq_true h
theorem badB_f {k n q : Nat} {v er : Int} {l : List UInt8} (h : ¬ (er ≠ 0 ∨ v < 1 ∨ n ≤ k + q ∨ (l.getD (k + q) 0 = 0 ∧ 0 < k))) : badB k n q v er l = false := by unfold badB; exact decide_eq_false h
theorem badB_out {k n q : Nat} {v er : Int} {l : List UInt8} {b : Bool} (h : badB k n q v er l = b) : (er ≠ 0 ∨ v < 1 ∨ n ≤ k + q ∨ (l.getD (k + q) 0 = 0 ∧ 0 < k)) ↔ b = true := by subst h; unfold badB; simp

set_option maxRecDepth 10000 in
set_option maxHeartbeats 10000000 in
theorem runs_Decode (A : Option Addr) (n c B : Nat) (l : List UInt8) (most : Int) (M : Nat) (w : World) (hA : LiesB w B A n l) (hnc : n ≤ c) (hB : B ≤ w.heap.size) (hn : n ≤ 1000000)
    (lo : -9223372036854775808 ≤ most) (hi : most ≤ 9223372036854775807) (hM : max most 0 = (M : Int)) (R : List UInt8 × Int) (hR : Runs.dec M true 0 [] l = R) (room : M ≤ 1000000 ∨ (R.2 = 0 ∧ R.1.length ≤ 1000000)) :
    Calls Try.prog 79 #[.slice A n c, .int .i64 most] w fun e w' => ∃ A' n' c', e = .returned (.tuple #[.slice A' n' c', .int .i64 R.2]) ∧ OwnB w' w.heap.size A' n' c' R.1 ∧ Below w.heap.size w w' := by
  have HR := hide hR
  have HA := hide hA
  have HM := hide room
  clear hR hA room
  go_enter Try.func79, Try.ntmps79
  go_wp2
  go_loopg [6, 7, 8] n (fun g s x i wr => ∃ (k : Nat) (A' : Option Addr) (n' c' : Nat) (l' : List UInt8) (ah : UInt8), k ≤ n ∧ n' ≤ M ∧ g = n - k ∧ i = .int .i64 k ∧ x = .int .u8 (ah.toNat : Int) ∧ s = .slice A' n' c' ∧ OwnB wr w.heap.size A' n' c' l' ∧ Runs.dec M (decide (k = 0)) ah l' (l.drop k) = R ∧ Below w.heap.size w wr)
  case atStart => exact ⟨0, _, _, _, [], 0, by omega, by omega, rfl, rfl, rfl, rfl, OwnB.nil _ _, by simpa using HR.out, Below.refl _ _⟩
  case round =>
    obtain ⟨W1, hW1⟩ : ∃ W1, W1 = wr := ⟨_, rfl⟩
    subst hW1
    obtain ⟨k, A', n', c', l', ah, hk, hnM, rfl, rfl, rfl, rfl, hown, heq, hbel⟩ := hrel
    have HL := hide (HA.out.below (hbel.mono hB))
    have HO := hide hown
    have HB := hide hbel
    have HE := hide heq
    have hsz : w.heap.size ≤ W1.heap.size := hbel.size
    have hl' := hide hown.len
    clear hown hbel heq
    by_cases hlt : k < n
    · have hcut := HL.out.cut (k := k) hnc
      have HC := hide hcut
      obtain ⟨v, q, er, hg⟩ : ∃ v q er, Var.get 0 0 (l.drop k) = (v, q, er) := ⟨_, _, _, rfl⟩
      have hf := Var.get_facts _ 0 0 v q er (by omega) (by simp) hg
      rw [hcut.len] at hf
      have HG := hide hg
      have hne : l.drop k ≠ [] := fun h => by have := congrArg List.length h; rw [hcut.len] at this; simp at this; omega
      have HNE := hide hne
      obtain ⟨f1, f2, f3, f4, f5⟩ := hf
      have F4 := hide f4
      have F5 := hide f5
      clear hcut hg hne f4 f5
      obtain ⟨bad, hbad⟩ : ∃ bad, badB k n q v er l = bad := ⟨_, rfl⟩
      have HBAD := hide (badB_out hbad)
      clear hbad
      go_upto_region 6 with (go_at_call 86; refine Calls.mono (num_Get _ _ _ B _ _ HC.out (by omega) v q er HG.out) ?_; rintro e w' ⟨rfl, rfl⟩)
      go_cut [50] from 12 to 77 (fun s50 wx => s50 = .bool bad ∧ wx = W1)
      case first =>
        by_cases b1 : er ≠ 0
        · have hd : (er == 0) = false := by simpa using b1
          have hd2 : (er != 0) = true := by simpa using b1
          have hb : bad = true := HBAD.out.1 (.inl b1)
          have HB1 := hide hb
          clear hb b1
          go_wp2
          go_meet
          rw [HB1.out]
          exact ⟨rfl, rfl⟩
        · obtain rfl : er = 0 := by omega
          have f5 := F5.out rfl
          clear b1
          by_cases b2 : v < 1
          · have HB1 := hide (HBAD.out.1 (.inr (.inl b2)))
            have d1 : decide (v < 1) = true := decide_eq_true b2
            clear b2
            go_wp2
            go_meet
            rw [HB1.out]
            exact ⟨rfl, rfl⟩
          · by_cases b3 : n ≤ k + q
            · have HB1 := hide (HBAD.out.1 (.inr (.inr (.inl b3))))
              have d1 : decide (v < 1) = false := decide_eq_false b2
              have d2 : decide ((n : Int) ≤ (k : Int) + (q : Int)) = true := decide_eq_true (by omega)
              go_wp2
              go_meet
              rw [HB1.out]
              exact ⟨rfl, rfl⟩
            · have d1 : decide (v < 1) = false := decide_eq_false b2
              obtain ⟨m, hmm⟩ : ∃ m, m = k + q := ⟨_, rfl⟩
              have hmi : (k : Int) + (q : Int) = (m : Int) := by omega
              rw [← hmm] at HBAD b3
              obtain ⟨b, off, hlm, rfl, hbB, hcc⟩ := HL.out.at_ (k := m) (by omega)
              have hget : l.getD m 0 = l[m] := by rw [List.getD_eq_getElem?_getD, List.getElem?_eq_getElem hlm]; rfl
              obtain ⟨z, hz⟩ : ∃ z, z = l[m] := ⟨_, rfl⟩
              rw [← hz] at hcc hget
              rw [hget] at HBAD
              have hzt := z.toNat_lt
              clear hz hget hmm
              by_cases hz0 : z = 0
              · subst hz0
                have hcc : W1.cell? ⟨b, off + m, none⟩ = some (.int .u8 0) := hcc
                by_cases hk0 : 0 < k
                · have HB1 := hide (HBAD.out.1 (.inr (.inr (.inr ⟨rfl, hk0⟩))))
                  go_wp2
                  go_meet
                  rw [HB1.out]
                  exact ⟨rfl, rfl⟩
                · have HB1 : Hid (bad = false) := by
                    rw [← Bool.not_eq_true, ← HBAD.out]; exact fun h => by rcases h with h | h | h | h <;> first | exact h rfl | omega
                  go_wp2
                  go_meet
                  rw [HB1.out]
                  exact ⟨rfl, rfl⟩
              · have hz1 : ((z.toNat : Int) == 0) = false := by
                  have h2 : z.toNat ≠ 0 := fun h => hz0 (UInt8.toNat_inj.1 (by rw [h]; rfl))
                  simp; omega
                have HB1 : Hid (bad = false) := by
                  rw [← Bool.not_eq_true, ← HBAD.out]; exact fun h => by rcases h with h | h | h | h <;> first | exact h rfl | omega | exact hz0 h.1
                clear hz0
                go_wp2
                go_meet
                rw [HB1.out]
                exact ⟨rfl, rfl⟩
      case rest =>
        obtain ⟨rfl, rfl⟩ := hcut
        cases bad with
        | true =>
          have hr : R = ([], 1) := by
            rw [← HE.out]
            refine Runs.dec_bad HG.out HNE.out ?_
            rw [HC.out.len]
            rcases HBAD.out.2 rfl with h | h | h | h
            · exact .inl h
            · exact .inr (.inl h)
            · exact .inr (.inr (.inl (by omega)))
            · exact .inr (.inr (.inr ⟨by rw [List.getD_eq_getElem?_getD, List.getElem?_drop, ← List.getD_eq_getElem?_getD]; exact h.1, by simp; omega⟩))
          subst hr
          go_wp2
          go_ret2
          exact ⟨none, 0, 0, rfl, OwnB.nil _ _, HB.out⟩
        | false =>
          have hnb := fun h => Bool.false_ne_true (HBAD.out.1 h)
          have er0 : er = 0 := by
            rcases Decidable.em (er = 0) with h | h
            · exact h
            · exact absurd (.inl h) hnb
          have HNB := hide hnb
          clear hnb
          subst er0
          have f5 := F5.out rfl
          have b2 : 1 ≤ v := by
            rcases Decidable.em (v < 1) with h | h
            · exact absurd (.inr (.inl h)) HNB.out
            · omega
          have b3 : k + q < n := by
            rcases Decidable.em (n ≤ k + q) with h | h
            · exact absurd (.inr (.inr (.inl h))) HNB.out
            · omega
          obtain ⟨m, hmm⟩ : ∃ m, m = k + q := ⟨_, rfl⟩
          have hmi : (k : Int) + (q : Int) = (m : Int) := by omega
          rw [← hmm] at b3 HNB
          obtain ⟨b, off, hlm, rfl, hbB, hcc⟩ := HL.out.at_ (k := m) (by omega)
          have hget0 : l.getD m 0 = l[m] := by rw [List.getD_eq_getElem?_getD, List.getElem?_eq_getElem hlm]; rfl
          have hget : (l.drop k).getD q 0 = l[m] := by
            rw [List.getD_eq_getElem?_getD, List.getElem?_drop, ← hmm, List.getElem?_eq_getElem hlm]; rfl
          obtain ⟨z, hz⟩ : ∃ z, z = l[m] := ⟨_, rfl⟩
          rw [← hz] at hcc hget hget0
          rw [hget0] at HNB
          have hzt := z.toNat_lt
          have HGT := hide hget
          have HMM := hide hmm
          clear hz hget hmm hget0
          have HOK : Hid (¬ ((0 : Int) ≠ 0 ∨ v < 1 ∨ (l.drop k).length ≤ q ∨ ((l.drop k).getD q 0 = 0 ∧ decide (k = 0) = false))) := by
            rw [HGT.out]
            have := HMM.out
            have h3 : (l.drop k).length = n - k := HC.out.len
            have h4 := HNB.out
            rintro (h | h | h | h)
            · exact h rfl
            · omega
            · omega
            · exact h4 (.inr (.inr (.inr ⟨h.1, by have := h.2; simp at this; omega⟩)))
          have hMl : (M : Int) ≤ 9223372036854775807 := by omega
          by_cases b5 : (M : Int) - n' < v
          · have hr : R = ([], 4) := HE.out.symm.trans (Runs.dec_full (most := M) (first := decide (k = 0)) (a := ah) (out := l') HG.out HNE.out HOK.out (by rw [hl'.out]; exact b5))
            subst hr
            go_wp2
            go_ret2
            exact ⟨none, 0, 0, rfl, OwnB.nil _ _, HB.out⟩
          · have hon := Runs.dec_on (most := M) (first := decide (k = 0)) (a := ah) (out := l') HG.out HNE.out HOK.out (by rw [hl'.out]; exact b5)
            obtain ⟨vn, rfl⟩ : ∃ vn : Nat, v = (vn : Int) := ⟨v.toNat, by omega⟩
            rw [HE.out, HGT.out, List.drop_drop] at hon
            obtain ⟨z2, hz2⟩ : ∃ z2, z2 = ah ^^^ z := ⟨_, rfl⟩
            have hxor := bits_xor8 ah z
            rw [← hz2] at hon hxor
            have hroom : n' + vn ≤ 1000000 := by
              have h3 := hl'.out
              rcases HM.out with h | ⟨h1, h2⟩
              · omega
              · rw [hon] at h1 h2
                have := Runs.dec_len _ _ _ _ _ _ (Nat.le_refl _) h1
                rw [List.length_append, List.length_replicate] at this
                have e2 : ((vn : Int)).toNat = vn := by omega
                rw [e2] at *
                omega
            have HON := hide (show Runs.dec M (decide (m + 1 = 0)) z2 (l' ++ List.replicate vn z2) (l.drop (m + 1)) = R from by
              have := HMM.out
              rw [hon, show decide (m + 1 = 0) = false by simp, show k + (q + 1) = m + 1 by omega]; rfl)
            clear hon hz2
            go_wp2
            go_loopg [6, 67] vn (fun g s j wx => ∃ (t : Nat) (A2 : Option Addr) (n2 c2 : Nat), t ≤ vn ∧ g = vn - t ∧ n2 = n' + t ∧ j = .int .i64 t ∧ s = .slice A2 n2 c2 ∧ OwnB wx w.heap.size A2 n2 c2 (l' ++ List.replicate t z2) ∧ Below w.heap.size w wx)
            case atStart => exact ⟨0, A', n', c', by omega, rfl, rfl, rfl, rfl, by simpa using HO.out, HB.out⟩
            case round =>
              obtain ⟨t, A2, n2, c2, ht, rfl, rfl, rfl, rfl, hown2, hbel2⟩ := hrel
              have HO2 := hide hown2
              have HB2 := hide hbel2
              have hs2 : w.heap.size ≤ wr.heap.size := hbel2.size
              clear hown2 hbel2
              by_cases htv : t < vn
              · go_wp2_with (at_builtin; refine wpB_append rfl (.tmp 69) (.tmp 71) rfl w.heap.size A2 (n' + t) c2 _ rfl (HO2.out.below (Below_new _ _)) _ _ 1 1 [z2] rfl (LiesB.new _ _ _ _ _ _ rfl rfl) (n' + t + 1) _ rfl rfl (by omega) (by simp; omega) ?_; intro A3 c3 w3 own3 hb3 hg3)
                go_roundg (vn - (t + 1))
                case measure => omega
                case rel => exact ⟨t + 1, A3, n' + t + 1, c3, by omega, rfl, by omega, by go_num, rfl, by rw [List.append_assoc, ← List.replicate_succ'] at own3; exact own3, HB2.out.trans (((Below_new _ _).mono hs2).trans hb3)⟩
              · obtain rfl : t = vn := by omega
                go_wp2
                go_roundg (n - (m + 1))
                case measure => have := HMM.out; omega
                case rel => exact ⟨m + 1, A2, n' + t, c2, _, z2, by omega, by omega, rfl, by go_num, rfl, rfl, HO2.out, HON.out, HB2.out⟩
    · obtain rfl : k = n := by omega
      have hr : R = (l', 0) := by
        rw [← HE.out, List.drop_eq_nil_of_le (by rw [HL.out.len]; omega), Runs.dec_nil]
      subst hr
      go_wp2
      go_ret2
      exact ⟨A', n', c', rfl, HO.out, HB.out⟩
end Go.Proofs.Ytbcgffgiifminaa
namespace Go.Proofs.Ytbcgffgiifminaa
open Go.RowKit
set_option maxRecDepth 10000
set_option linter.unusedVariables false
/-- Decode, its answer handed over. -/
theorem runs_Decode_v {A : Option Addr} {n c B : Nat} {l x : List UInt8} {most e : Int} (M : Nat) {w : World} (hA : LiesB w B A n l) (hnc : n ≤ c) (hB : B ≤ w.heap.size) (hn : n ≤ 1000000)
    (lo : -9223372036854775808 ≤ most) (hi : most ≤ 9223372036854775807) (hM : max most 0 = (M : Int)) (hR : Runs.dec M true 0 [] l = (x, e)) (room : M ≤ 1000000 ∨ (e = 0 ∧ x.length ≤ 1000000)) :
    Calls Try.prog 79 #[.slice A n c, .int .i64 most] w fun en w' => ∃ A' n' c', en = .returned (.tuple #[.slice A' n' c', .int .i64 e]) ∧ OwnB w' w.heap.size A' n' c' x ∧ Below w.heap.size w w' := 
  runs_Decode A n c B l most M w hA hnc hB hn lo hi hM (x, e) hR room

end Go.Proofs.Ytbcgffgiifminaa
namespace Go.Proofs.Ytbcgffgiifminaa
open Go.RowKit
set_option maxRecDepth 10000
set_option linter.unusedVariables false
def Pkt.zero : Pkt := ⟨0, 0, 0, 0, 0, [], 0, 0, 0⟩
/-- What Decode answers. -/
inductive Pkt.Said (N : Nat) (b : List UInt8) (w' : World) : Ending → Prop
  | yes (p : Pkt) (A : Option Addr) (n c : Nat) (h : Pkt.Is b p) (hl : LiesB w' w'.heap.size A n p.press) (hc : n ≤ c) (hn : n ≤ 32) (hf : ∀ bk off, A = some ⟨bk, off, none⟩ → p.press ≠ [] → N ≤ bk) : Pkt.Said N b w' (.returned (.tuple #[p.val (.slice A n c), .int .i64 0]))
  | no (h : ∀ p, ¬ Pkt.Is b p) : Pkt.Said N b w' (.returned (.tuple #[Pkt.zero.val (.slice none 0 0), .int .i64 1]))
theorem Pkt.row_one (p : Pkt) (A : Option Addr) (n c : Nat) : ∀ u ∈ p.row (.slice A n c), u.oneCell' = true := by
  intro u hu
  simp only [Pkt.row, List.mem_cons, List.not_mem_nil, or_false] at hu
  rcases hu with rfl | rfl | rfl | rfl | rfl | rfl | rfl | rfl | rfl <;> rfl
/-- The whole packet is written. -/
theorem wpP_store {ops : Array Oper} {rest : List Oper} {o : Oper} {a : Act} {w : World} {Q : Exit → Act → World → Prop} (hgd : o.guard = none) (x y : Operand) (ho : o.op = .store 41 x y)
    (g : Nat) (hx : a.eval x = .pointer (some ⟨g, 0, none⟩)) (p q : Pkt) (A A' : Option Addr) (n n' c c' : Nat) (hy : a.eval y = p.val (.slice A n c)) (hg : Arr 41 w g (q.row (.slice A' n' c')))
    (h : ∀ w', Arr 41 w' g (p.row (.slice A n c)) → Keeps (fun k => k = g) w w' → w'.heap.size = w.heap.size → wpList Try.prog ops Q rest (a.put o.dst undef) w') : wpList Try.prog ops Q (o :: rest) a w :=
  wpA_store hgd 41 x y ho g (p.row (.slice A n c)) hx hy 41 _ hg 9 info_packet rfl rfl (p.row_one A n c) h
/-- The same inside a region that draws. -/
theorem step_storeP {ops : Array Oper} {o : Oper} {a : Act} {w : World} {K : Act → World → Prop} {Q : Exit → Act → World → Prop} {E : Prop} (hgd : o.guard = none) (x y : Operand) (ho : o.op = .store 41 x y)
    (g : Nat) (hx : a.eval x = .pointer (some ⟨g, 0, none⟩)) (p q : Pkt) (A A' : Option Addr) (n n' c c' : Nat) (hy : a.eval y = p.val (.slice A n c)) (hg : Arr 41 w g (q.row (.slice A' n' c')))
    (h : ∀ w', Arr 41 w' g (p.row (.slice A n c)) → Keeps (fun k => k = g) w w' → w'.heap.size = w.heap.size → K (a.put o.dst undef) w') :
    if Region.wanted o (yielded ops a.tmps) = true then Oper.wp Try.prog o a w K Q else E := by
  have hw : Region.wanted o (yielded ops a.tmps) = true := by simp [Region.wanted, hgd]
  rw [if_pos hw]
  exact wp_store_row 41 x y ho g (p.row (.slice A n c)).toArray hx hy 41 (q.row (.slice A' n' c')).toArray hg (by rw [info_packet]; rfl) rfl (Array.all_eq_true_iff_forall_mem.2 fun v hv => p.row_one A n c v (by simpa using hv))
    (h _ (setRow_heap w g _ _ 41 _ hg) ⟨rfl, rfl, rfl, by simp, fun k _ hk => setRow_other w g k _ hk⟩ (by simp))
/-- Decode at work: its result's block, the packet's, the reader. -/
structure DS (w wx : World) (B r : Nat) (R : List Value) (bad : Bool) (A : Option Addr) (n c : Nat) (l : List UInt8) : Prop where
  res : Arr 41 wx w.heap.size (Pkt.zero.row (.slice none 0 0))
  p : Arr 41 wx (w.heap.size + 1) R
  rd : Rd wx B r bad A n c l
  bel : Below w.heap.size w wx
  at2 : r = w.heap.size + 2
section
variable {w wx w' : World} {B r n c n' c' : Nat} {R : List Value} {bad bad' : Bool} {A A' : Option Addr} {l l' : List UInt8}
theorem DS.num (h : DS w wx B r R bad A n c l) (h' : Rd w' B r bad' A' n' c' l') (hk : Keeps (fun k => k = r) wx w') : DS w w' B r R bad' A' n' c' l' :=
  ⟨h.res.keeps hk (by have := h.at2; omega), h.p.keeps hk (by have := h.at2; omega), h', h.bel.trans (hk.below h.bel.size (fun k hk => by have := h.at2; omega)), h.at2⟩
theorem DS.below (h : DS w wx B r R bad A n c l) (hb : Below wx.heap.size wx w') (hB : B ≤ wx.heap.size) : DS w w' B r R bad A n c l :=
  ⟨h.res.belowN hb, h.p.belowN hb, ⟨h.rd.arr.belowN hb, h.rd.lies.below (hb.mono hB), h.rd.ge, h.rd.cap⟩, Below_step h.bel hb, h.at2⟩
theorem DS.set (h : DS w wx B r R bad A n c l) (hB : B ≤ w.heap.size) (j : Nat) (v : Value) : DS w (wx.setCell ⟨w.heap.size + 1, j, none⟩ v) B r (R.set j v) bad A n c l :=
  ⟨h.res.keeps (Keeps.setCell wx ⟨w.heap.size + 1, j, none⟩ v) (by show ¬ _ = w.heap.size + 1; omega), h.p.set j v,
   ⟨h.rd.arr.keeps (Keeps.setCell wx ⟨w.heap.size + 1, j, none⟩ v) (by show ¬ r = w.heap.size + 1; have := h.at2; omega), h.rd.lies.set (by omega) j v, h.rd.ge, h.rd.cap⟩,
   h.bel.trans ((Keeps.setCell wx ⟨w.heap.size + 1, j, none⟩ v).below h.bel.size (fun k hk => by show ¬ k = w.heap.size + 1; omega)), h.at2⟩
end
set_option maxHeartbeats 4000000 in
set_option maxRecDepth 10000 in
theorem packet_Decode {A : Option Addr} {n c B : Nat} {b : List UInt8} {w : World} (hA : LiesB w B A n b) (hB : B ≤ w.heap.size) (hnc : n ≤ c) (hn : n ≤ 1000000) :
    Calls Try.prog 51 #[.slice A n c] w fun e w' => Pkt.Said w.heap.size b w' e ∧ Below w.heap.size w w' := by
  have LA := hide hA
  have hl := hA.len
  have HBB := hide hB
  have HP : Hid (Arr 41 (w.alloc (.cells (Pkt.zero.row (.slice none 0 0)).toArray 41)) w.heap.size (Pkt.zero.row (.slice none 0 0))) := Arr.new 41 w _ _ rfl
  have HB : Hid (Below w.heap.size w (w.alloc (.cells (Pkt.zero.row (.slice none 0 0)).toArray 41))) := Below_new _ _
  have hsz : (w.alloc (.cells (Pkt.zero.row (.slice none 0 0)).toArray 41)).heap.size = w.heap.size + 1 := by simp
  simp only [Pkt.row, Pkt.zero] at HP HB hsz
  clear hA hB
  by_cases h7 : n < 7
  · have d1 : decide ((n : Int) < 7) = true := decide_eq_true (by omega)
    have HN : Hid (∀ p, ¬ Pkt.Is b p) := fun p hp => by have := (Pkt.is_head hp).1; omega
    clear h7 hsz
    go_enter Try.func51, Try.ntmps51
    go_upto_region 1 with fail
    generalize World.alloc w _ = wx at HP HB ⊢
    go_wp2_with (refine wpP_store rfl (.tmp 2) (.tmp 13) rfl w.heap.size rfl Pkt.zero Pkt.zero none none 0 0 0 0 rfl HP.out ?_; intro w1 ha1 hk1 hs1)
    refine bodyPost_ret (results_P2 (fn := Try.f51) rfl _ _ w.heap.size rfl _ rfl Pkt.zero (.slice none 0 0) ha1) rfl ?_
    exact ⟨.no HN.out, HB.out.trans (hk1.below HB.out.size (fun k hk => by omega))⟩
  · obtain ⟨m, rfl⟩ : ∃ m, n = m + 4 := ⟨n - 4, by omega⟩
    have hm3 : 3 ≤ m := by omega
    have d1 : decide (((m + 4 : Nat) : Int) < 7) = false := decide_eq_false (by omega)
    obtain ⟨ab, ao, hl0, rfl, hab, -⟩ := LA.out.at_ (k := 0) (by omega)
    obtain ⟨kb, sb, db, tb, hbt⟩ : ∃ k s d t, b = k :: s :: d :: t := by
      match b, hl with
      | k :: s :: d :: t, _ => exact ⟨k, s, d, t, rfl⟩
      | [], h => simp at h
      | [_], h => simp at h
      | [_, _], h => simp at h
    have CC : Hid (∀ w', Below w.heap.size w w' → w'.cell? ⟨ab, ao, none⟩ = some (.int .u8 (kb.toNat : Int)) ∧ w'.cell? ⟨ab, ao + 1, none⟩ = some (.int .u8 (sb.toNat : Int)) ∧ w'.cell? ⟨ab, ao + 2, none⟩ = some (.int .u8 (db.toNat : Int))) := by
      intro w' hb
      have L := LA.out.below (hb.mono HBB.out)
      obtain ⟨_, _, _, e0, -, q0⟩ := L.at_ (k := 0) (by omega)
      obtain ⟨_, _, _, e1, -, q1⟩ := L.at_ (k := 1) (by omega)
      obtain ⟨_, _, _, e2, -, q2⟩ := L.at_ (k := 2) (by omega)
      injection e0 with e0; injection e0 with e00 e01; subst e00 e01
      injection e1 with e1; injection e1 with e10 e11; subst e10 e11
      injection e2 with e2; injection e2 with e20 e21; subst e20 e21
      simp only [hbt, List.getElem_cons_zero, List.getElem_cons_succ] at q0 q1 q2
      exact ⟨q0, q1, q2⟩
    have HBT := hide hbt
    clear h7 hbt
    go_enter Try.func51, Try.ntmps51
    go_upto_region 1 with fail
    generalize World.alloc w _ = wx at HP HB hsz ⊢
    have HSZ := hide hsz
    clear hsz
    go_upto_region 3 with fail
    go_cut [4] (fun s4 wy => s4 = .pointer (some ⟨w.heap.size + 1, 0, none⟩) ∧ Hid (Arr 41 wy (w.heap.size + 1) (Pkt.row ⟨kb.toNat, sb.toNat, db.toNat, 0, 0, [], 0, 0, 0⟩ (.slice none 0 0))) ∧ Hid (Arr 41 wy w.heap.size (Pkt.zero.row (.slice none 0 0))) ∧ Hid (Below w.heap.size w wy) ∧ Hid (wy.heap.size = w.heap.size + 2))
    case first =>
      have cc := CC.out wx HB.out
      obtain ⟨hc0, hc1, hc2⟩ := cc
      have HP1 : Arr 41 (wx.alloc (.cells (Pkt.zero.row (.slice none 0 0)).toArray 41)) (w.heap.size + 1) (Pkt.zero.row (.slice none 0 0)) := by rw [← HSZ.out]; exact Arr.new 41 wx _ _ rfl
      have HP2 : Arr 41 (wx.alloc (.cells (Pkt.zero.row (.slice none 0 0)).toArray 41)) w.heap.size (Pkt.zero.row (.slice none 0 0)) := Arr.belowN HP.out (Below_new _ _)
      have HB2 := Below_step HB.out (Below_new wx (.cells (Pkt.zero.row (.slice none 0 0)).toArray 41))
      have i0 : (0 : Int) < (m : Int) + 4 := by omega
      have i1 : (1 : Int) < (m : Int) + 4 := by omega
      have i2 : (2 : Int) < (m : Int) + 4 := by omega
      have wk : IntKind.i64.wrap (kb.toNat : Int) = kb.toNat := by rw [IntKind.wrap_i64]; have := kb.toNat_lt; omega
      have ws : IntKind.i64.wrap (sb.toNat : Int) = sb.toNat := by rw [IntKind.wrap_i64]; have := sb.toNat_lt; omega
      have wd : IntKind.i64.wrap (db.toNat : Int) = db.toNat := by rw [IntKind.wrap_i64]; have := db.toNat_lt; omega
      refine wp_region_noPanic ?_
      refine wp_region_held_drew (S := (fun w' => w'.cell? ⟨ab, ao, none⟩ = some (.int .u8 (kb.toNat : Int)) ∧ w'.cell? ⟨ab, ao + 1, none⟩ = some (.int .u8 (sb.toNat : Int)) ∧ w'.cell? ⟨ab, ao + 2, none⟩ = some (.int .u8 (db.toNat : Int)))) (by kernel_rfl) ⟨hc0, hc1, hc2⟩ (fun hHeld => ?_)
      refine tk0 0 ?_
      refine tk 1 ?_
      refine tk 2 ?_
      refine tk 3 ?_
      refine tk 4 ?_
      refine tk 5 ?_
      refine tk 6 ?_
      refine tk 7 ?_
      refine tk 8 ?_
      refine tk 9 ?_
      refine tk 10 ?_
      refine tk 11 ?_
      refine tk 12 ?_
      refine rdy 13 fun K hK => ?_
      go_simp
      refine hK.out _ _ (CC.out _ HB2.drew) (fun hHeld => ?_)
      clear hK K
      try simp only [Act.put, List.setIfInBounds_toArray, List.set_cons_zero, List.set_cons_succ]
      refine rdy 14 fun K hK => ?_
      (refine step_storeP rfl (.tmp 4) (.tmp 26) rfl wx.heap.size rfl ⟨kb.toNat, sb.toNat, db.toNat, 0, 0, [], 0, 0, 0⟩ Pkt.zero none none 0 0 0 0 rfl (by rw [HSZ.out]; exact HP1.drew) ?_; intro w3 ha3 hk3 hs3)
      refine hK.out _ _ (CC.out _ (HB2.drew.trans (hk3.below (by show w.heap.size ≤ _; exact HB2.size) (fun k hk => by have := HSZ.out; omega)))) (fun hHeld => ?_)
      clear hK K
      try simp only [Act.put]
      refine wpAnyH_done (by kernel_rfl) (NoPanic.normal ?_) _
      go_wp2_with fail
      go_meet
      rw [HSZ.out] at ha3 hk3
      exact ⟨by rw [HSZ.out], ha3, HP2.drew.keeps hk3 (by omega), HB2.drew.trans (hk3.below (by show w.heap.size ≤ _; exact HB2.size) (fun k hk => by omega)), by rw [hs3]; show (World.alloc wx _).heap.size = _; simp; exact HSZ.out⟩
    case rest =>
      obtain ⟨rfl, HP1, HP0, HB1, HZ⟩ := hcut
      clear HP HB HSZ
      go_upto_region 5 with fail
      obtain ⟨l0, hl0⟩ : ∃ l, l = (b.take m).drop 3 := ⟨_, rfl⟩
      have HL0 := hide hl0
      have D0 : Hid (DS w (wc.alloc (.cells #[.slice (cutA (some ⟨ab, ao, none⟩) c 3 1) (m - 3) (c - 3), .bool false] 133)) B wc.heap.size (Pkt.row ⟨kb.toNat, sb.toNat, db.toNat, 0, 0, [], 0, 0, 0⟩ (.slice none 0 0)) false (cutA (some ⟨ab, ao, none⟩) c 3 1) (m - 3) (c - 3) l0) := by
        have L : LiesB wc B (some ⟨ab, ao, none⟩) m (b.take m) := by
          have := (LA.out.below (HB1.out.mono HBB.out)).take m
          rwa [Nat.min_eq_left (by omega)] at this
        refine ⟨Arr.belowN HP0.out (Below_new _ _), Arr.belowN HP1.out (Below_new _ _), ⟨Arr.new 133 wc _ _ rfl, ?_, ?_, by omega⟩, Below_step HB1.out (Below_new _ _), HZ.out⟩
        · rw [hl0]
          exact (L.cut (k := 3) (cap := c) (by omega)).below ((Below_new _ _).mono (Nat.le_trans HBB.out HB1.out.size))
        · exact Nat.le_trans HBB.out HB1.out.size
      have hln : l0.length = m - 3 := D0.out.rd.lies.len
      clear hl0 HP1 HP0
      obtain ⟨⟨x1, e1, l1⟩, hn1⟩ : ∃ y, Pkt.num false l0 = y := ⟨_, rfl⟩
      have HN1 := hide hn1
      clear hn1
      go_wp2_with fail
      refine Calls.mono (reader_num D0.out.rd (by omega) HN1.out) ?_
      rintro e w1 ⟨A1, n1, c1, rfl, rd1, hb1, hk1, hz1⟩
      have D1 := hide (D0.out.num rd1 hk1)
      have f3 := D1.out.p.frozen 3
      have c3 := D1.out.p.cell (j := 3) (by simp)
      simp only [List.getElem_cons_zero, List.getElem_cons_succ] at c3
      clear rd1 hk1 hz1
      go_upto_region 6 with fail
      have D2 := hide (D1.out.set HBB.out 3 (.int .i64 x1))
      generalize World.setCell w1 _ _ = w2 at D2 ⊢
      clear c3 f3 D1 D0
      have c0 := D2.out.p.cell (j := 0) (by simp)
      simp only [List.set_cons_succ, List.set_cons_zero, List.getElem_cons_zero] at c0
      by_cases hk1 : (kb.toNat : Int) = 1
      · have d2 : ((kb.toNat : Int) == 1) = true := by simp [hk1]
        obtain ⟨⟨y3, e3, l3⟩, hn3⟩ : ∃ y, Pkt.num e1 l1 = y := ⟨_, rfl⟩
        have HN3 := hide hn3
        clear hn3
        go_upto_region 7 with fail
        go_wp2_with fail
        refine Calls.mono (reader_num D2.out.rd (by omega) HN3.out) ?_
        rintro e v3 ⟨A3, n3, c3', rfl, rd1, hb3, hk1', hz1⟩
        have E3 := hide (D2.out.num rd1 hk1')
        have ff := E3.out.p.frozen 4
        have cc := E3.out.p.cell (j := 4) (by simp)
        simp only [List.set_cons_succ, List.set_cons_zero, List.getElem_cons_zero, List.getElem_cons_succ] at cc
        clear rd1 hk1' hz1
        go_upto_region 8 with fail
        have D3 := hide (E3.out.set HBB.out 4 (.int .i64 y3))
        generalize World.setCell v3 _ _ = z3 at D3 ⊢
        clear cc ff E3 D2
        obtain ⟨⟨y4, e4, l4⟩, hn4⟩ : ∃ y, Pkt.num e3 l3 = y := ⟨_, rfl⟩
        have HN4 := hide hn4
        clear hn4
        go_upto_region 8 with fail
        go_wp2_with fail
        refine Calls.mono (reader_num D3.out.rd (by omega) HN4.out) ?_
        rintro e v4 ⟨A4, n4, c4', rfl, rd1, hb4, hk1', hz1⟩
        have E4 := hide (D3.out.num rd1 hk1')
        have ff := E4.out.p.frozen 6
        have cc := E4.out.p.cell (j := 6) (by simp)
        simp only [List.set_cons_succ, List.set_cons_zero, List.getElem_cons_zero, List.getElem_cons_succ] at cc
        clear rd1 hk1' hz1
        go_upto_region 9 with fail
        have D4 := hide (E4.out.set HBB.out 6 (.int .i64 y4))
        generalize World.setCell v4 _ _ = z4 at D4 ⊢
        clear cc ff E4 D3
        obtain ⟨⟨y5, e5, l5⟩, hn5⟩ : ∃ y, Pkt.num e4 l4 = y := ⟨_, rfl⟩
        have HN5 := hide hn5
        clear hn5
        go_upto_region 9 with fail
        go_wp2_with fail
        refine Calls.mono (reader_num D4.out.rd (by omega) HN5.out) ?_
        rintro e v5 ⟨A5, n5, c5', rfl, rd1, hb5, hk1', hz1⟩
        have E5 := hide (D4.out.num rd1 hk1')
        have ff := E5.out.p.frozen 7
        have cc := E5.out.p.cell (j := 7) (by simp)
        simp only [List.set_cons_succ, List.set_cons_zero, List.getElem_cons_zero, List.getElem_cons_succ] at cc
        clear rd1 hk1' hz1
        go_upto_region 10 with fail
        have D5 := hide (E5.out.set HBB.out 7 (.int .i64 y5))
        generalize World.setCell v5 _ _ = z5 at D5 ⊢
        clear cc ff E5 D4
        obtain ⟨⟨y6, e6, l6⟩, hn6⟩ : ∃ y, Pkt.four e5 l5 = y := ⟨_, rfl⟩
        have HN6 := hide hn6
        clear hn6
        go_upto_region 10 with fail
        go_wp2_with fail
        refine Calls.mono (reader_four D5.out.rd (by omega) HN6.out) ?_
        rintro e v6 ⟨A6, n6, c6', rfl, rd1, hb6, hk1', hz1⟩
        have E6 := hide (D5.out.num rd1 hk1')
        have ff := E6.out.p.frozen 8
        have cc := E6.out.p.cell (j := 8) (by simp)
        simp only [List.set_cons_succ, List.set_cons_zero, List.getElem_cons_zero, List.getElem_cons_succ] at cc
        clear rd1 hk1' hz1
        go_upto_region 11 with fail
        have D6 := hide (E6.out.set HBB.out 8 (.int .u32 y6))
        generalize World.setCell v6 _ _ = z6 at D6 ⊢
        clear cc ff E6 D5
        obtain ⟨⟨y7, e7, l7⟩, hn7⟩ : ∃ y, Pkt.num e6 l6 = y := ⟨_, rfl⟩
        have HN7 := hide hn7
        clear hn7
        go_wp2_with fail
        refine Calls.mono (reader_num D6.out.rd (by omega) HN7.out) ?_
        rintro e v7 ⟨A7, n7, c7', rfl, rd1, hb7, hk1', hz1⟩
        have D7 := hide (D6.out.num rd1 hk1')
        have cc := D7.out.rd.arr.cell (j := 0) (by simp)
        simp only [List.getElem_cons_zero] at cc
        clear rd1 hk1' hz1 D6
        obtain ⟨⟨y, ey⟩, hR⟩ : ∃ R, Runs.dec 32 true 0 [] l7 = R := ⟨_, rfl⟩
        have HR := hide hR
        clear hR
        go_wp2_with fail
        refine Calls.mono (runs_Decode_v 32 D7.out.rd.lies D7.out.rd.cap (Nat.le_trans HBB.out D7.out.bel.size) (by omega) (by omega) (by omega) (by omega) HR.out (.inl (by omega))) ?_
        rintro e v8 ⟨A8, n8, c8', rfl, own8, hb8⟩
        have D8 := hide (D7.out.below hb8 (Nat.le_trans HBB.out D7.out.bel.size))
        have hl8 := own8.len
        have hcap8 := own8.cap
        have hbl8 := own8.blk
        have O8 := hide own8
        have hs7 := D7.out.bel.size
        clear own8 hb8 cc
        have HQ0 : Hid (∀ p, Pkt.Is b p → p = ⟨kb.toNat, sb.toNat, db.toNat, x1, y3, y, y4, y5, y6⟩ ∧ e7 = false ∧ ey = 0 ∧ y7 = (y.length : Int)) := by
          intro p hp
          obtain ⟨-, k, s, d, t, hb, k1, s1, d1, e⟩ := Pkt.is_head hp
          have hbt := HBT.out
          rw [hb] at hbt
          simp only [List.cons.injEq] at hbt
          obtain ⟨rfl, rfl, rfl, -⟩ := hbt
          have f := Pkt.may_iff.1 hp.1
          have hw := hp.2.1
          rw [hl, show m + 4 - 4 = m by omega, ← HL0.out] at e
          rcases f.kind with ⟨h, a1, a2, a3, a4⟩ | ⟨h, -⟩
          · rw [Pkt.is_one hp h] at e
            have q1 := HN1.out
            rw [e, Pkt.num_put (by have := f.id; omega) (by have := f.id; omega)] at q1
            simp only [Prod.mk.injEq] at q1
            obtain ⟨i1, i2, i3⟩ := q1
            have q3 := HN3.out
            rw [← i2, ← i3, Pkt.num_put (by omega) (by omega)] at q3
            simp only [Prod.mk.injEq] at q3
            obtain ⟨j1, j2, j3⟩ := q3
            have q4 := HN4.out
            rw [← j2, ← j3, Pkt.num_put (by omega) (by omega)] at q4
            simp only [Prod.mk.injEq] at q4
            obtain ⟨o1, o2, o3⟩ := q4
            have q5 := HN5.out
            rw [← o2, ← o3, Pkt.num_put (by omega) (by omega)] at q5
            simp only [Prod.mk.injEq] at q5
            obtain ⟨r1, r2, r3⟩ := q5
            have q6 := HN6.out
            rw [← r2, ← r3, Pkt.four_be32 hw.1 hw.2] at q6
            simp only [Prod.mk.injEq] at q6
            obtain ⟨s1', s2, s3⟩ := q6
            have q7 := HN7.out
            rw [← s2, ← s3, Pkt.num_put (by omega) (by omega)] at q7
            simp only [Prod.mk.injEq] at q7
            obtain ⟨t1, t2, t3⟩ := q7
            have q8 := HR.out
            rw [← t3, Runs.dec_enc0 32 _ (by omega), if_pos a4] at q8
            simp only [Prod.mk.injEq] at q8
            obtain ⟨u1, u2⟩ := q8
            refine ⟨?_, t2.symm, u2.symm, by rw [← t1, ← u1]⟩
            cases p
            simp only [Pkt.mk.injEq] at *
            exact ⟨k1.symm, s1.symm, d1.symm, i1, j1, u1, o1, r1, s1'⟩
          · omega
        have hlt7 := D7.out.p.lt
        clear D7
        by_cases he : ey = 0
        · subst he
          have hy32 := (Runs.dec_back0 HR.out rfl).2
          by_cases h7n : y7 = (n8 : Int)
          · have d3 : (y7 != (n8 : Int)) = false := by simp [h7n]
            have f5 := D8.out.p.frozen 5
            have c5 := D8.out.p.cell (j := 5) (by simp)
            simp only [List.set_cons_succ, List.set_cons_zero, List.getElem_cons_zero, List.getElem_cons_succ] at c5
            go_upto_region 16 with fail
            have D9 := hide (D8.out.set HBB.out 5 (.slice A8 n8 c8'))
            have O9 := hide ((O8.out.keeps (Keeps.setCell v8 ⟨w.heap.size + 1, 5, none⟩ (.slice A8 n8 c8')) (fun k hk => by have := (O8.out.blk k hk).1; show ¬ k = w.heap.size + 1; omega)).lies)
            have HA8 : Hid (∀ b off, A8 = some ⟨b, off, none⟩ → y ≠ [] → w.heap.size < b) := by
              intro b' off' hb' hy
              have h0 : 0 < n8 := by rcases Nat.eq_zero_or_pos n8 with h | h; · rw [h] at hl8; exact absurd (List.eq_nil_of_length_eq_zero hl8) hy
                                     · exact h
              obtain ⟨g, hg, hg2, -⟩ := O8.out.form h0
              rw [hb'] at hg
              injection hg with hg
              injection hg with hg
              omega
            generalize World.setCell v8 _ _ = w2' at D9 O9 ⊢
            obtain ⟨q, hq⟩ : ∃ q : Pkt, q = ⟨kb.toNat, sb.toNat, db.toNat, x1, y3, y, y4, y5, y6⟩ := ⟨_, rfl⟩
            have D : Hid (DS w w2' B wc.heap.size (q.row (.slice A8 n8 c8')) e7 A7 n7 c7' l7) := by subst hq; exact D9.out
            have LQ : Hid (LiesB w2' w2'.heap.size A8 n8 q.press) := by subst hq; exact O9.out
            have HW : Hid q.WF := by
              subst hq
              show 0 ≤ y6 ∧ y6 < 4294967296
              have h6 := HN6.out
              have hr := Pkt.get4_range l5
              unfold Pkt.four at h6
              split at h6
              · simp only [Prod.mk.injEq] at h6; omega
              · simp only [Prod.mk.injEq] at h6; omega
            have HQ : Hid (∀ p, Pkt.Is b p → p = q ∧ e7 = false) := fun p hp => by rw [hq]; exact ⟨(HQ0.out p hp).1, (HQ0.out p hp).2.1⟩
            have HC : Hid (n8 ≤ c8' ∧ n8 ≤ 32) := ⟨hcap8, by omega⟩
            have HA9 : Hid (∀ b off, A8 = some ⟨b, off, none⟩ → q.press ≠ [] → w.heap.size < b) := by subst hq; exact HA8.out
            clear D8 D9 O8 O9 c5 f5 hq hbl8
            go_wp2_with (refine wpP_load rfl (.tmp 4) rfl (w.heap.size + 1) rfl q (.slice A8 n8 c8') D.out.p ?_)
            refine Calls.mono (packet_Encode q LQ.out (Nat.le_refl _) (by omega) HW.out) ?_
            rintro e w9 ⟨A9, n9, c9, rfl, own9, hb9, hnil⟩
            have D9 := hide (D.out.below hb9 (Nat.le_trans HBB.out D.out.bel.size))
            have O9 := hide own9
            have LB9 := hide (LA.out.below (D9.out.bel.mono HBB.out))
            have cb := D9.out.rd.arr.cell (j := 1) (by simp)
            simp only [List.getElem_cons_zero, List.getElem_cons_succ] at cb
            cases e7
            case true =>
              have NO : Hid (∀ p, ¬ Pkt.Is b p) := fun p hp => by have := (HQ.out p hp).2; cases this
              have heq : (q.enc == b) = (q.enc == b) := rfl
              go_wp2_with (first | rw [Lib.run_eql_slice_nil_nil _ _ _ Try.underlying34] | rw [Lib.run_eql_slice_some_nil _ _ _ _ Try.underlying34] | (go_at_call 81; (refine Calls.mono (bytes_Equal O9.out.lies LB9.out heq) ?_); rintro e w10 ⟨rfl, rfl⟩) | (refine wpP_store rfl (.tmp 2) (.tmp 89) rfl w.heap.size rfl Pkt.zero Pkt.zero none none 0 0 0 0 rfl D9.out.res ?_; intro w12 ha12 hk12 hs12))
              refine bodyPost_ret (results_P2 (fn := Try.f51) rfl _ _ w.heap.size rfl _ rfl Pkt.zero (.slice none 0 0) ha12) rfl ?_
              exact ⟨.no NO.out, D9.out.bel.trans (hk12.below D9.out.bel.size (fun k hk => by omega))⟩
            case false =>
              cases hm : q.may
              case false =>
                have NO : Hid (∀ p, ¬ Pkt.Is b p) := fun p hp => by have := (HQ.out p hp).1; subst this; rw [hp.1] at hm; cases hm
                obtain ⟨rfl, rfl, rfl⟩ := hnil hm
                have heq : (q.enc == b) = (q.enc == b) := rfl
                clear hnil own9
                go_wp2_with (first | rw [Lib.run_eql_slice_nil_nil _ _ _ Try.underlying34] | rw [Lib.run_eql_slice_some_nil _ _ _ _ Try.underlying34] | (go_at_call 81; (refine Calls.mono (bytes_Equal O9.out.lies LB9.out heq) ?_); rintro e w10 ⟨rfl, rfl⟩) | (refine wpP_store rfl (.tmp 2) (.tmp 89) rfl w.heap.size rfl Pkt.zero Pkt.zero none none 0 0 0 0 rfl D9.out.res ?_; intro w12 ha12 hk12 hs12))
                refine bodyPost_ret (results_P2 (fn := Try.f51) rfl _ _ w.heap.size rfl _ rfl Pkt.zero (.slice none 0 0) ha12) rfl ?_
                exact ⟨.no NO.out, D9.out.bel.trans (hk12.below D9.out.bel.size (fun k hk => by omega))⟩
              case true =>
                have hne : 0 < n9 := by have := own9.len; rcases Nat.eq_zero_or_pos n9 with h | h; · rw [h] at this; have := Pkt.enc_nil_iff.1 (List.eq_nil_of_length_eq_zero this); rw [hm] at this; cases this
                                        · exact h
                obtain ⟨g9, rfl, -, -⟩ := own9.form hne
                clear hnil own9
                cases heq : (q.enc == b)
                case false =>
                  have NO : Hid (∀ p, ¬ Pkt.Is b p) := fun p hp => by have := (HQ.out p hp).1; subst this; rw [← Pkt.is_enc hp] at heq; simp at heq
                  go_wp2_with (first | rw [Lib.run_eql_slice_nil_nil _ _ _ Try.underlying34] | rw [Lib.run_eql_slice_some_nil _ _ _ _ Try.underlying34] | (go_at_call 81; (refine Calls.mono (bytes_Equal O9.out.lies LB9.out heq) ?_); rintro e w10 ⟨rfl, rfl⟩) | (refine wpP_store rfl (.tmp 2) (.tmp 89) rfl w.heap.size rfl Pkt.zero Pkt.zero none none 0 0 0 0 rfl D9.out.res ?_; intro w12 ha12 hk12 hs12))
                  refine bodyPost_ret (results_P2 (fn := Try.f51) rfl _ _ w.heap.size rfl _ rfl Pkt.zero (.slice none 0 0) ha12) rfl ?_
                  exact ⟨.no NO.out, D9.out.bel.trans (hk12.below D9.out.bel.size (fun k hk => by omega))⟩
                case true =>
                  have YES : Hid (Pkt.Is b q) := by show Pkt.Is b q; have := Pkt.enc_is hm HW.out; rwa [eq_of_beq heq] at this
                  have LQ9 := hide ((LQ.out.below hb9).more hb9.size)
                  go_wp2_with (first | rw [Lib.run_eql_slice_nil_nil _ _ _ Try.underlying34] | rw [Lib.run_eql_slice_some_nil _ _ _ _ Try.underlying34] | (go_at_call 81; (refine Calls.mono (bytes_Equal O9.out.lies LB9.out heq) ?_); rintro e w10 ⟨rfl, rfl⟩) | (refine wpP_load rfl (.tmp 4) rfl (w.heap.size + 1) rfl q (.slice A8 n8 c8') D9.out.p ?_) | (refine wpP_store rfl (.tmp 2) (.tmp 90) rfl w.heap.size rfl q Pkt.zero A8 none n8 0 c8' 0 rfl D9.out.res ?_; intro w12 ha12 hk12 hs12))
                  refine bodyPost_ret (results_P2 (fn := Try.f51) rfl _ _ w.heap.size rfl _ rfl q (.slice A8 n8 c8') ha12) rfl ?_
                  have LY := LQ9.out.keeps hk12 (fun b off h1 h2 hm => by have := HA9.out b off h1 h2; omega)
                  rw [← hs12] at LY
                  exact ⟨.yes q _ _ _ YES.out LY HC.out.1 HC.out.2 (fun b off h1 h2 => Nat.le_of_lt (HA9.out b off h1 h2)), D9.out.bel.trans (hk12.below D9.out.bel.size (fun k hk => by omega))⟩
          · have d3 : (y7 != (n8 : Int)) = true := by simp [h7n]
            have NO : Hid (∀ p, ¬ Pkt.Is b p) := fun p hp => by have := (HQ0.out p hp).2.2.2; omega
            clear h7n
            go_wp2_with (refine wpP_store rfl (.tmp 2) (.tmp 70) rfl w.heap.size rfl Pkt.zero Pkt.zero none none 0 0 0 0 rfl D8.out.res ?_; intro w12 ha12 hk12 hs12)
            refine bodyPost_ret (results_P2 (fn := Try.f51) rfl _ _ w.heap.size rfl _ rfl Pkt.zero (.slice none 0 0) ha12) rfl ?_
            exact ⟨.no NO.out, D8.out.bel.trans (hk12.below D8.out.bel.size (fun k hk => by omega))⟩
        · have d3 : (ey != 0) = true := by simp [he]
          have NO : Hid (∀ p, ¬ Pkt.Is b p) := fun p hp => he (HQ0.out p hp).2.2.1
          clear he
          go_wp2_with (refine wpP_store rfl (.tmp 2) (.tmp 70) rfl w.heap.size rfl Pkt.zero Pkt.zero none none 0 0 0 0 rfl D8.out.res ?_; intro w12 ha12 hk12 hs12)
          refine bodyPost_ret (results_P2 (fn := Try.f51) rfl _ _ w.heap.size rfl _ rfl Pkt.zero (.slice none 0 0) ha12) rfl ?_
          exact ⟨.no NO.out, D8.out.bel.trans (hk12.below D8.out.bel.size (fun k hk => by omega))⟩
      · have d2 : ((kb.toNat : Int) == 1) = false := by simp [hk1]
        go_upto_region 16 with fail
        obtain ⟨q, hq⟩ : ∃ q : Pkt, q = ⟨kb.toNat, sb.toNat, db.toNat, x1, 0, [], 0, 0, 0⟩ := ⟨_, rfl⟩
        have D : Hid (DS w w2 B wc.heap.size (q.row (.slice none 0 0)) e1 A1 n1 c1 l1) := by subst hq; exact D2.out
        have LQ : Hid (LiesB w2 w2.heap.size none 0 q.press) := by subst hq; exact LiesB.nil _ _ _
        have HW : Hid q.WF := by subst hq; exact ⟨by show (0 : Int) ≤ 0; decide, by show (0 : Int) < 4294967296; decide⟩
        have HQ : Hid (∀ p, Pkt.Is b p → p = q ∧ e1 = false) := by
          intro p hp
          obtain ⟨-, k, s, d, t, hb, k1, s1, d1, e⟩ := Pkt.is_head hp
          have hbt := HBT.out
          rw [hb] at hbt
          simp only [List.cons.injEq] at hbt
          obtain ⟨rfl, rfl, rfl, -⟩ := hbt
          have f := Pkt.may_iff.1 hp.1
          rw [hl, show m + 4 - 4 = m by omega, ← HL0.out] at e
          have hn1 := HN1.out
          rw [e, Pkt.num_put (by have := f.id; omega) (by have := f.id; omega)] at hn1
          simp only [Prod.mk.injEq] at hn1
          refine ⟨?_, hn1.2.1.symm⟩
          rcases f.kind with ⟨h, -⟩ | ⟨h, a1, a2, a3, a4, a5⟩
          · omega
          · rw [hq]
            cases p
            simp only [Pkt.mk.injEq] at *
            exact ⟨k1.symm, s1.symm, d1.symm, hn1.1, a1, a4, a2, a3, a5⟩
        have HC : Hid (0 ≤ 0 ∧ 0 ≤ 32) := ⟨by omega, by omega⟩
        have HA9 : Hid (∀ b off, (none : Option Addr) = some ⟨b, off, none⟩ → q.press ≠ [] → w.heap.size < b) := fun b off h => by cases h
        clear D2 c0 hq
        go_wp2_with (refine wpP_load rfl (.tmp 4) rfl (w.heap.size + 1) rfl q (.slice none 0 0) D.out.p ?_)
        refine Calls.mono (packet_Encode q LQ.out (Nat.le_refl _) (by omega) HW.out) ?_
        rintro e w9 ⟨A9, n9, c9, rfl, own9, hb9, hnil⟩
        have D9 := hide (D.out.below hb9 (Nat.le_trans HBB.out D.out.bel.size))
        have O9 := hide own9
        have LB9 := hide (LA.out.below (D9.out.bel.mono HBB.out))
        have cb := D9.out.rd.arr.cell (j := 1) (by simp)
        simp only [List.getElem_cons_zero, List.getElem_cons_succ] at cb
        cases e1
        case true =>
          have NO : Hid (∀ p, ¬ Pkt.Is b p) := fun p hp => by have := (HQ.out p hp).2; cases this
          have heq : (q.enc == b) = (q.enc == b) := rfl
          go_wp2_with (first | rw [Lib.run_eql_slice_nil_nil _ _ _ Try.underlying34] | rw [Lib.run_eql_slice_some_nil _ _ _ _ Try.underlying34] | (go_at_call 81; (refine Calls.mono (bytes_Equal O9.out.lies LB9.out heq) ?_); rintro e w10 ⟨rfl, rfl⟩) | (refine wpP_store rfl (.tmp 2) (.tmp 89) rfl w.heap.size rfl Pkt.zero Pkt.zero none none 0 0 0 0 rfl D9.out.res ?_; intro w12 ha12 hk12 hs12))
          refine bodyPost_ret (results_P2 (fn := Try.f51) rfl _ _ w.heap.size rfl _ rfl Pkt.zero (.slice none 0 0) ha12) rfl ?_
          exact ⟨.no NO.out, D9.out.bel.trans (hk12.below D9.out.bel.size (fun k hk => by omega))⟩
        case false =>
          cases hm : q.may
          case false =>
            have NO : Hid (∀ p, ¬ Pkt.Is b p) := fun p hp => by have := (HQ.out p hp).1; subst this; rw [hp.1] at hm; cases hm
            obtain ⟨rfl, rfl, rfl⟩ := hnil hm
            have heq : (q.enc == b) = (q.enc == b) := rfl
            clear hnil own9
            go_wp2_with (first | rw [Lib.run_eql_slice_nil_nil _ _ _ Try.underlying34] | rw [Lib.run_eql_slice_some_nil _ _ _ _ Try.underlying34] | (go_at_call 81; (refine Calls.mono (bytes_Equal O9.out.lies LB9.out heq) ?_); rintro e w10 ⟨rfl, rfl⟩) | (refine wpP_store rfl (.tmp 2) (.tmp 89) rfl w.heap.size rfl Pkt.zero Pkt.zero none none 0 0 0 0 rfl D9.out.res ?_; intro w12 ha12 hk12 hs12))
            refine bodyPost_ret (results_P2 (fn := Try.f51) rfl _ _ w.heap.size rfl _ rfl Pkt.zero (.slice none 0 0) ha12) rfl ?_
            exact ⟨.no NO.out, D9.out.bel.trans (hk12.below D9.out.bel.size (fun k hk => by omega))⟩
          case true =>
            have hne : 0 < n9 := by have := own9.len; rcases Nat.eq_zero_or_pos n9 with h | h; · rw [h] at this; have := Pkt.enc_nil_iff.1 (List.eq_nil_of_length_eq_zero this); rw [hm] at this; cases this
                                    · exact h
            obtain ⟨g9, rfl, -, -⟩ := own9.form hne
            clear hnil own9
            cases heq : (q.enc == b)
            case false =>
              have NO : Hid (∀ p, ¬ Pkt.Is b p) := fun p hp => by have := (HQ.out p hp).1; subst this; rw [← Pkt.is_enc hp] at heq; simp at heq
              go_wp2_with (first | rw [Lib.run_eql_slice_nil_nil _ _ _ Try.underlying34] | rw [Lib.run_eql_slice_some_nil _ _ _ _ Try.underlying34] | (go_at_call 81; (refine Calls.mono (bytes_Equal O9.out.lies LB9.out heq) ?_); rintro e w10 ⟨rfl, rfl⟩) | (refine wpP_store rfl (.tmp 2) (.tmp 89) rfl w.heap.size rfl Pkt.zero Pkt.zero none none 0 0 0 0 rfl D9.out.res ?_; intro w12 ha12 hk12 hs12))
              refine bodyPost_ret (results_P2 (fn := Try.f51) rfl _ _ w.heap.size rfl _ rfl Pkt.zero (.slice none 0 0) ha12) rfl ?_
              exact ⟨.no NO.out, D9.out.bel.trans (hk12.below D9.out.bel.size (fun k hk => by omega))⟩
            case true =>
              have YES : Hid (Pkt.Is b q) := by show Pkt.Is b q; have := Pkt.enc_is hm HW.out; rwa [eq_of_beq heq] at this
              have LQ9 := hide ((LQ.out.below hb9).more hb9.size)
              go_wp2_with (first | rw [Lib.run_eql_slice_nil_nil _ _ _ Try.underlying34] | rw [Lib.run_eql_slice_some_nil _ _ _ _ Try.underlying34] | (go_at_call 81; (refine Calls.mono (bytes_Equal O9.out.lies LB9.out heq) ?_); rintro e w10 ⟨rfl, rfl⟩) | (refine wpP_load rfl (.tmp 4) rfl (w.heap.size + 1) rfl q (.slice none 0 0) D9.out.p ?_) | (refine wpP_store rfl (.tmp 2) (.tmp 90) rfl w.heap.size rfl q Pkt.zero none none 0 0 0 0 rfl D9.out.res ?_; intro w12 ha12 hk12 hs12))
              refine bodyPost_ret (results_P2 (fn := Try.f51) rfl _ _ w.heap.size rfl _ rfl q (.slice none 0 0) ha12) rfl ?_
              have LY := LQ9.out.keeps hk12 (fun b off h1 h2 hm => by have := HA9.out b off h1 h2; omega)
              rw [← hs12] at LY
              exact ⟨.yes q _ _ _ YES.out LY HC.out.1 HC.out.2 (fun b off h1 h2 => Nat.le_of_lt (HA9.out b off h1 h2)), D9.out.bel.trans (hk12.below D9.out.bel.size (fun k hk => by omega))⟩
end Go.Proofs.Ytbcgffgiifminaa
namespace Go.Proofs.Ytbcgffgiifminaa
open Go.RowKit
set_option maxRecDepth 10000

set_option maxHeartbeats 400000 in
theorem law_Short (A : Option Addr) (n c : Nat) (mi : Int) (m : Nat) (w : World) (hc : n ≤ c) (hmi : mi = (m : Int)) (hm2 : m ≤ 9223372036854775807) :
    Calls Try.prog 19 #[.slice A n c, .int .i64 mi] w fun e w' => e = .returned (.slice A (min m n) c) ∧ w = w' := by
  subst hmi
  by_cases h : m < n
  · have hmin : min m n = m := by omega
    rw [hmin]
    clear hmin
    have hmc : m ≤ c := by omega
    go_enter Try.func19, Try.ntmps19
    go_wp2
    go_ret
    exact ⟨rfl, rfl⟩
  · have hmin : min m n = n := by omega
    rw [hmin]
    clear hmin
    go_enter Try.func19, Try.ntmps19
    go_wp2
    go_ret
    exact ⟨rfl, rfl⟩
end Go.Proofs.Ytbcgffgiifminaa
