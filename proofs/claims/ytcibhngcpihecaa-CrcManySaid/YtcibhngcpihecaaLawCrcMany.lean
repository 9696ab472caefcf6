/-
  CrcMany's walk.
-/
import Derived.Test.YtcibhngcpihecaaLaw3
import Derived.Test.YtcibhngcpihecaaMem
import Derived.Test.YtcibhngcpihecaaOpen
namespace Go.Proofs.Ytcibhngcpihecaa
open Go.RowKit
theorem more_part (l : List UInt8) (i j : Nat) (h : i ≤ j) : Crc.more (Crc.sum (l.take i)) ((l.take j).drop i) = Crc.sum (l.take j) := by
  have e : (l.take j).take i ++ (l.take j).drop i = l.take j := List.take_append_drop i (l.take j)
  rw [List.take_take, Nat.min_eq_left h] at e
  rw [← Crc.sum_append, e]
theorem tmod_place (x : Int) (k : Int) (hk : 0 < k) : -k < x.tmod k ∧ x.tmod k < k :=
  ⟨by have := Int.lt_tmod_of_pos x hk; omega, Int.tmod_lt_of_pos x hk⟩
set_option maxHeartbeats 400000 in
theorem law_CrcMany (A : Option Addr) (n c : Nat) (a : List UInt8) (A2 : Option Addr) (n2 c2 : Nat) (b : List Int) (w : World) (hA : LiesB w w.heap.size A n a) (hc : n ≤ c) (_ : c ≤ maxLen)
    (hA2 : LiesI .i64 w w.heap.size A2 n2 b) (hc2 : n2 ≤ c2) (_ : c2 ≤ maxLen) :
    Calls Try.prog 6 #[.slice A n c, .slice A2 n2 c2] w fun e w' => e = .returned (.bool true) ∧ Below w.heap.size w w' := by
  have hn : n ≤ 9223372036854775807 := by simp only [maxLen] at *; omega
  have hn2 : n2 ≤ 9223372036854775807 := by simp only [maxLen] at *; omega
  go_enter Try.func6, Try.ntmps6
  go_wp2_with fail
  refine Calls.mono (begun3 _) ?_
  rintro e w1 ⟨rfl, hb1⟩
  obtain ⟨m, hm⟩ : ∃ m, m = min 300 n := ⟨_, rfl⟩
  have hm0 : m ≤ 300 := by omega
  have hmc : m ≤ c := by omega
  have ha1 := (hA.below hb1).take 300
  rw [← hm] at ha1
  have hb2 := hA2.below hb1
  have Hm := hide hm
  clear hm
  rcases (show (300 < n ∧ decide ((300 : Int) < (n : Int)) = true) ∨ (n ≤ 300 ∧ decide ((300 : Int) < (n : Int)) = false) from by simp; omega) with ⟨hlt, hdec⟩ | ⟨hlt, hdec⟩
  all_goals
    go_wp2
    first
      | rw [show Value.slice A 300 c = Value.slice A m c from by rw [Hm.out, Nat.min_eq_left (Nat.le_of_lt hlt)]]
      | rw [show n = m from by have := Hm.out; omega]
    go_loop [6, 7, 8] (fun s p i => ∃ k q : Nat, k ≤ 40 ∧ k ≤ n2 ∧ q ≤ m ∧ i = .int .i64 k ∧ p = .int .i64 q ∧ s = .int .u32 ((Crc.sum ((a.take 300).take q)).toNat : Int)) (fun _ _ i => 40 - (intOf i).toNat)
    case atStart => exact ⟨0, 0, Nat.zero_le _, Nat.zero_le _, Nat.zero_le _, rfl, rfl, by rw [List.take_zero]; rfl⟩
    case round =>
      obtain ⟨k, q, hk40, hkn, hqm, rfl, rfl, rfl⟩ := hrel
      by_cases hk1 : k < n2
      · by_cases hk2 : k < 40
        · obtain ⟨b1, o1, hl1, rfl, -, hc1⟩ := hb2.at_ hk1
          obtain ⟨x, hx⟩ : ∃ x, x = b[k] := ⟨_, rfl⟩
          rw [← hx] at hc1
          clear hx
          obtain ⟨ht1, ht2⟩ := tmod_place x 40 (by omega)
          obtain ⟨d, hd⟩ : ∃ d : Nat, min ((m : Int) - q) (x.tmod 40 % 40) = (d : Int) := ⟨(min ((m : Int) - q) (x.tmod 40 % 40)).toNat, by omega⟩
          have hd1 : q + d ≤ m := by omega
          have hd2 : q + d ≤ c := by omega
          have hla := ha1.len
          have ha3 : LiesB w1 w.heap.size (cutA A c q 1) d (((a.take 300).take (q + d)).drop q) := by
            have := (ha1.take (q + d)).cut (k := q) (cap := c) (by omega)
            rwa [show min (q + d) m - q = d from by omega] at this
          have ha4 : LiesB w1 w.heap.size A (q + d) ((a.take 300).take (q + d)) := by
            have := ha1.take (q + d)
            rwa [show min (q + d) m = q + d from by omega] at this
          have HE := hide (more_part (a.take 300) q (q + d) (by omega))
          go_wp2_with (first
            | (go_at_call 16; (with_reducible refine Calls.mono (crc_More _ _ _ _ _ _ _ ha3 (by omega)) ?_); rintro e w5 ⟨rfl, rfl⟩; rw [HE.out])
            | (go_at_call 14; (with_reducible refine Calls.mono (crc_Sum _ _ _ _ _ _ ha4 (by omega)) ?_); rintro e w5 ⟨rfl, rfl⟩))
          refine ⟨?_, by simp [intOf]; omega⟩
          exact ⟨k + 1, q + d, by omega, by omega, hd1, by go_num, by go_num, rfl⟩
        · have ha3 : LiesB w1 w.heap.size (cutA A c q 1) (m - q) ((a.take 300).drop q) := ha1.cut (by omega)
          have HE : Hid (Crc.more (Crc.sum ((a.take 300).take q)) ((a.take 300).drop q) = Crc.sum (a.take 300)) := by
            have := more_part (a.take 300) q m hqm
            rwa [List.take_of_length_le (Nat.le_of_eq ha1.len)] at this
          go_wp2_with (first
            | (go_at_call 16; (with_reducible refine Calls.mono (crc_More _ _ _ _ _ _ _ ha3 (by omega)) ?_); rintro e w5 ⟨rfl, rfl⟩; rw [HE.out])
            | (go_at_call 14; (with_reducible refine Calls.mono (crc_Sum _ _ _ _ _ _ ha1 (by omega)) ?_); rintro e w5 ⟨rfl, rfl⟩))
          go_ret
          exact ⟨by simp, hb1⟩
      · have ha3 : LiesB w1 w.heap.size (cutA A c q 1) (m - q) ((a.take 300).drop q) := ha1.cut (by omega)
        have HE : Hid (Crc.more (Crc.sum ((a.take 300).take q)) ((a.take 300).drop q) = Crc.sum (a.take 300)) := by
          have := more_part (a.take 300) q m hqm
          rwa [List.take_of_length_le (Nat.le_of_eq ha1.len)] at this
        go_wp2_with (first
          | (go_at_call 16; (with_reducible refine Calls.mono (crc_More _ _ _ _ _ _ _ ha3 (by omega)) ?_); rintro e w5 ⟨rfl, rfl⟩; rw [HE.out])
          | (go_at_call 14; (with_reducible refine Calls.mono (crc_Sum _ _ _ _ _ _ ha1 (by omega)) ?_); rintro e w5 ⟨rfl, rfl⟩))
        go_ret
        exact ⟨by simp, hb1⟩
end Go.Proofs.Ytcibhngcpihecaa
