/-
  PredictTable: the walk.
-/
import Derived.Test.YtbeeddpbkniijaaLaw18
import Derived.Deep.QuietTactic
import Derived.BigQuiet
namespace Go.Proofs.Ytbeeddpbkniijaa
open Go.RowKit
set_option linter.unusedVariables false
open Prd
theorem By.chain_getD (b : By) {n i : Nat} (past : List UInt8) (h : i < n) : (b.chain n past).getD i 0 = b.first (past ++ b.chain i past) := by
  obtain ⟨m, rfl⟩ : ∃ m, n = i + (m + 1) := ⟨n - i - 1, by omega⟩
  rw [By.chain_add, By.chain]
  have hl := b.chain_len i past
  rw [List.getD_eq_getElem?_getD, List.getElem?_append_right (by omega), hl, Nat.sub_self]
  rfl
theorem table_chain (t : List UInt8) {n i : Nat} (past : List UInt8) (h : i < n) : (By.chain ⟨3, 0, t⟩ n past).getD i 0 = t.getD ((past.length + i) % t.length) 0 := by
  rw [By.chain_getD _ past h, ← By.first_table (by rfl)]
  unfold By.tb
  rw [List.length_append, By.chain_len]
set_option maxHeartbeats 4000000 in
set_option maxRecDepth 10000 in
theorem law_PredictTable (A0 : Option Addr) (n0 c0 : Nat) (l0 : List UInt8) (A : Option Addr) (n c : Nat) (l : List UInt8) (ni : Int) (w : World) (hT : LiesB w w.heap.size A0 n0 l0) (hc0 : n0 ≤ c0) (hcm0 : c0 ≤ maxLen) (hA : LiesB w w.heap.size A n l) (hc : n ≤ c) (hcm : c ≤ maxLen) (lo : -9223372036854775808 ≤ ni) (hi : ni ≤ 9223372036854775807) :
    Calls Try.prog 6 #[.slice A0 n0 c0, .slice A n c, .int .i64 ni] w fun e w' => e = .returned (.bool true) ∧ Below w.heap.size w w' := by
  have HA := hide hA
  have HT0 := hide hT
  clear hA hcm hT hcm0
  go_enter Try.func6, Try.ntmps6
  go_wp2_with fail
  refine Calls.mono (begun18 w) ?_
  rintro e w1 ⟨rfl, hb1⟩
  have HB1 := hide hb1
  clear hb1
  go_wp2_with fail
  refine Calls.mono (law_Short A0 n0 c0 50 50 w1 hc0 rfl (by omega)) ?_
  rintro e w2 ⟨rfl, rfl⟩
  go_wp2_with fail
  refine Calls.mono (law_Short A n c 60 60 w1 hc rfl (by omega)) ?_
  rintro e w2 ⟨rfl, rfl⟩
  obtain ⟨m, hm⟩ : ∃ m, m = min 60 n := ⟨_, rfl⟩
  obtain ⟨q, hq⟩ : ∃ q, q = min 50 n0 := ⟨_, rfl⟩
  rw [← hm, ← hq]
  have hm60 : m ≤ 60 := by omega
  have hmc : m ≤ c := by omega
  have hq50 : q ≤ 50 := by omega
  have hqc : q ≤ c0 := by omega
  have hbs := HB1.out.size
  have HP : Hid (LiesB w1 w.heap.size A m (l.take 60)) := by
    have := (HA.out.below HB1.out).take 60
    rwa [← hm] at this
  have HQ : Hid (LiesB w1 w.heap.size A0 q (l0.take 50)) := by
    have := (HT0.out.below HB1.out).take 50
    rwa [← hq] at this
  obtain ⟨past, hp⟩ : ∃ p, p = l.take 60 := ⟨_, rfl⟩
  rw [← hp] at HP
  obtain ⟨tb, htb⟩ : ∃ p, p = l0.take 50 := ⟨_, rfl⟩
  rw [← htb] at HQ
  clear hm hp HA hq htb HT0
  by_cases h0 : ni < 0
  · have d0 : decide (ni < 0) = true := decide_eq_true h0
    go_wp2_with fail
    go_ret
    exact ⟨rfl, HB1.out⟩
  have d0 : decide (ni < 0) = false := decide_eq_false h0
  by_cases h1 : ni > 100
  · have d1 : decide (ni > 100) = true := decide_eq_true h1
    go_wp2_with fail
    go_ret
    exact ⟨rfl, HB1.out⟩
  have d1 : decide (ni > 100) = false := decide_eq_false h1
  by_cases hz : q = 0
  · subst hz
    go_wp2_with fail
    go_ret
    exact ⟨rfl, HB1.out⟩
  have dz : ((q : Int) == 0) = false := by simpa using hz
  obtain ⟨k, rfl⟩ : ∃ k : Nat, ni = (k : Int) := ⟨ni.toNat, by omega⟩
  have hk : k ≤ 100 := by omega
  clear lo hi h0 h1
  go_wp2_with fail
  refine Calls.mono (pred_Chain ⟨3, 0, tb⟩ A0 q c0 A m c w.heap.size past k w1 HP.out HQ.out hbs hmc (by omega)) ?_
  rintro e w3 ⟨A3, n3, c3, rfl, l3, k3, hb3⟩
  have hlt := HQ.out.len
  rw [if_pos (by unfold By.may; simp [hlt]; omega), show (min (max (k : Int) 0) 1000).toNat = k by omega] at l3
  obtain rfl : n3 = k := by have := l3.len; rw [By.chain_len] at this; exact this.symm
  have L3 := hide l3
  have HQ3 := hide (HQ.out.below (hb3.mono hbs))
  have B3 := hide (Below_step HB1.out hb3)
  have HLT := hide hlt
  clear l3 hb3 hlt
  go_wp2_with fail
  go_loopg [9] n3 (fun gg s wr => ∃ i nd : Nat, i ≤ n3 ∧ gg = n3 - i ∧ s = .int .i64 (i : Int) ∧ wr = w3.drewN nd)
  case atStart => exact ⟨0, 0, by omega, rfl, rfl, rfl⟩
  case round =>
    obtain ⟨i, nd, hi, rfl, rfl, rfl⟩ := hrel
    by_cases hlt : i < n3
    · obtain ⟨bl, off, hlp, rfl, -, hcp⟩ := L3.out.at_ hlt
      obtain ⟨r, hr⟩ : ∃ r, r = (m + i) % q := ⟨_, rfl⟩
      have hrq : r < q := by rw [hr]; exact Nat.mod_lt _ (by omega)
      obtain ⟨b2, o2, hlq, rfl, -, hcq⟩ := HQ3.out.at_ hrq
      have he : (By.chain ⟨3, 0, tb⟩ n3 past)[i] = tb[r] := by
        have := table_chain tb past hlt
        rw [HP.out.len, HLT.out, ← hr, List.getD_eq_getElem?_getD, List.getElem?_eq_getElem hlp, List.getD_eq_getElem?_getD, List.getElem?_eq_getElem hlq] at this
        exact this
      rw [he] at hcp
      obtain ⟨x, hx⟩ : ∃ x, x = tb[r] := ⟨_, rfl⟩
      rw [← hx] at hcp hcq
      have hmod : Int.tmod ((m : Int) + (i : Int)) (q : Int) = (r : Int) := by rw [hr, Int.tmod_eq_emod_of_nonneg (by omega), Int.natCast_emod, Int.natCast_add]
      have hri : (r : Int) < (q : Int) := by omega
      clear hx hr he
      go_wp2_with fail
      go_quiet (fail)
      go_wp2_with fail
      go_roundg (n3 - (i + 1))
      case measure => omega
      case rel => exact ⟨i + 1, _, by omega, rfl, by go_num, rfl⟩
    · obtain rfl : i = n3 := by omega
      go_wp2_with fail
      go_ret
      exact ⟨rfl, Below_drewN B3.out _⟩
end Go.Proofs.Ytbeeddpbkniijaa
