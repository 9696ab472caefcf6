/-
  PredictLast: the walk.
-/
import Derived.Test.YtbeeddpbkniijaaLaw18
namespace Go.Proofs.Ytbeeddpbkniijaa
open Go.RowKit
set_option linter.unusedVariables false
open Prd
theorem last_first (past : List UInt8) : By.first ⟨1, 0, []⟩ past = endB past := by
  refine (By.first_best (b := ⟨1, 0, []⟩) (by decide) ?_ (.inl rfl)).symm
  intro x
  unfold By.wgt
  rw [if_neg (by rintro ⟨h, _⟩; cases h)]
  exact Nat.zero_le _
theorem endB_snoc (l : List UInt8) (x : UInt8) : endB (l ++ [x]) = x := by
  unfold endB
  rw [List.length_append, List.length_singleton, Nat.add_sub_cancel, List.getD_eq_getElem?_getD, List.getElem?_append_right (Nat.le_refl _), Nat.sub_self]
  rfl
theorem last_chain : ∀ (n : Nat) (past : List UInt8), By.chain ⟨1, 0, []⟩ n past = List.replicate n (endB past)
  | 0, past => rfl
  | n + 1, past => by
    rw [By.chain, last_first, last_chain n, endB_snoc, List.replicate_succ]
set_option maxHeartbeats 4000000 in
set_option maxRecDepth 10000 in
theorem law_PredictLast (A : Option Addr) (n c : Nat) (l : List UInt8) (ni : Int) (w : World) (hA : LiesB w w.heap.size A n l) (hc : n ≤ c) (hcm : c ≤ maxLen) (lo : -9223372036854775808 ≤ ni) (hi : ni ≤ 9223372036854775807) :
    Calls Try.prog 5 #[.slice A n c, .int .i64 ni] w fun e w' => e = .returned (.bool true) ∧ Below w.heap.size w w' := by
  have HA := hide hA
  clear hA hcm
  go_enter Try.func5, Try.ntmps5
  go_wp2_with fail
  refine Calls.mono (begun18 w) ?_
  rintro e w1 ⟨rfl, hb1⟩
  have HB1 := hide hb1
  clear hb1
  go_wp2_with fail
  refine Calls.mono (law_Short A n c 60 60 w1 hc rfl (by omega)) ?_
  rintro e w2 ⟨rfl, rfl⟩
  obtain ⟨m, hm⟩ : ∃ m, m = min 60 n := ⟨_, rfl⟩
  rw [← hm]
  have hm60 : m ≤ 60 := by omega
  have hmc : m ≤ c := by omega
  have hbs := HB1.out.size
  have HP : Hid (LiesB w1 w.heap.size A m (l.take 60)) := by
    have := (HA.out.below HB1.out).take 60
    rwa [← hm] at this
  obtain ⟨past, hp⟩ : ∃ p, p = l.take 60 := ⟨_, rfl⟩
  rw [← hp] at HP
  clear hm hp HA
  by_cases h0 : ni < 0
  · have d0 : decide (ni < 0) = true := decide_eq_true h0
    go_wp2_with fail
    go_ret
    exact ⟨rfl, HB1.out⟩
  have d0 : decide (ni < 0) = false := decide_eq_false h0
  by_cases h1 : ni > 100
  · have d1 : decide (ni > 100) = true := decide_eq_true h1
    go_wp2_with fail
    go_ret
    exact ⟨rfl, HB1.out⟩
  have d1 : decide (ni > 100) = false := decide_eq_false h1
  obtain ⟨k, rfl⟩ : ∃ k : Nat, ni = (k : Int) := ⟨ni.toNat, by omega⟩
  have hk : k ≤ 100 := by omega
  clear lo hi h0 h1
  obtain ⟨e0, he0⟩ : ∃ e0, e0 = endB past := ⟨_, rfl⟩
  have HE0 := hide he0
  clear he0
  go_upto_if 22 with fail
  go_cut [6] from 20 to 28 (fun s wx => s = .int .u8 (e0.toNat : Int) ∧ w1 = wx)
  case first =>
    by_cases hz : m = 0
    · subst hz
      have HE : Hid (e0 = 0) := by
        show _ = _
        have := HP.out.len
        rw [HE0.out, List.length_eq_zero_iff.1 this]; rfl
      go_wp2_with fail
      go_meet
      exact ⟨by rw [HE.out]; rfl, rfl⟩
    · obtain ⟨j, rfl⟩ : ∃ j, m = j + 1 := ⟨m - 1, by omega⟩
      obtain ⟨bl, off, hlp, rfl, -, hcp⟩ := HP.out.at_ (k := j) (by omega)
      obtain ⟨x, hx⟩ : ∃ x, x = past[j] := ⟨_, rfl⟩
      rw [← hx] at hcp
      have HE : Hid (e0 = x) := by
        show _ = _
        rw [HE0.out]
        unfold endB
        rw [HP.out.len, Nat.add_sub_cancel, List.getD_eq_getElem?_getD, List.getElem?_eq_getElem hlp, hx]; rfl
      have d2 : decide (((j + 1 : Nat) : Int) > 0) = true := decide_eq_true (by omega)
      have e1 : ((j + 1 : Nat) : Int) - 1 = (j : Int) := by omega
      have hj : (j : Int) < ((j + 1 : Nat) : Int) := by omega
      clear hx hz
      go_wp2_with fail
      go_meet
      exact ⟨by rw [HE.out], rfl⟩
  case rest =>
  obtain ⟨rfl, rfl⟩ := hcut
  go_wp2_with fail
  refine Calls.mono (pred_Chain ⟨1, 0, []⟩ none 0 0 A m c w.heap.size past k w1 HP.out (LiesB.nil _ _ _) hbs hmc (by omega)) ?_
  rintro e w3 ⟨A3, n3, c3, rfl, l3, k3, hb3⟩
  rw [if_pos (by decide +kernel), show (min (max (k : Int) 0) 1000).toNat = k by omega, last_chain, ← HE0.out] at l3
  obtain rfl : n3 = k := by have := l3.len; simpa using this.symm
  have L3 := hide l3
  have B3 := hide (Below_step HB1.out hb3)
  clear l3 hb3
  go_wp2_with fail
  go_loopg [8] n3 (fun gg s wr => ∃ i : Nat, i ≤ n3 ∧ gg = n3 - i ∧ s = .int .i64 (i : Int) ∧ w3 = wr)
  case atStart => exact ⟨0, by omega, rfl, rfl, rfl⟩
  case round =>
    obtain ⟨i, hi, rfl, rfl, rfl⟩ := hrel
    by_cases hlt : i < n3
    · obtain ⟨bl, off, hlp, rfl, -, hcp⟩ := L3.out.at_ hlt
      rw [List.getElem_replicate] at hcp
      go_wp2_with fail
      go_roundg (n3 - (i + 1))
      case measure => omega
      case rel => exact ⟨i + 1, by omega, rfl, by go_num, rfl⟩
    · obtain rfl : i = n3 := by omega
      go_wp2_with fail
      go_ret
      exact ⟨rfl, B3.out⟩
end Go.Proofs.Ytbeeddpbkniijaa
