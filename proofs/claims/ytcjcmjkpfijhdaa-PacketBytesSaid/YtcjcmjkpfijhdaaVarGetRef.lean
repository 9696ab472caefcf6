/-
  quintainref1.Get.
-/
import Derived.Test.YtcjcmjkpfijhdaaVarGet
namespace Go.Proofs.Ytcjcmjkpfijhdaa
open Go.RowKit
set_option linter.unusedVariables false
namespace Var
theorem mul_up (x p k : Nat) (hp : p = 128 ^ k) (h : x * 128 ^ k < 18446744073709551616) : IntKind.u64.wrap ((x : Int) * (p : Int)) = ((x * 128 ^ k : Nat) : Int) := by
  subst hp
  rw [IntKind.wrap_u64, ← Int.natCast_mul]
  omega
theorem pow_up (k p : Nat) (hp : p = 128 ^ k) (h : k < 9) : IntKind.u64.wrap ((p : Int) * 128) = ((128 ^ (k + 1) : Nat) : Int) := by
  subst hp
  have h1 : k = 0 ∨ k = 1 ∨ k = 2 ∨ k = 3 ∨ k = 4 ∨ k = 5 ∨ k = 6 ∨ k = 7 ∨ k = 8 := by omega
  rcases h1 with rfl | rfl | rfl | rfl | rfl | rfl | rfl | rfl | rfl <;> rfl
end Var

set_option maxRecDepth 10000 in
set_option maxHeartbeats 1000000 in
theorem ref_Get (A : Option Addr) (n c B : Nat) (l : List UInt8) (w : World) (hA : LiesB w B A n l) (hn : n ≤ 140737488355328) (v : Int) (m : Nat) (er : Int) (hv : Var.get 0 0 l = (v, m, er)) :
    Calls Try.prog 38 #[.slice A n c] w fun e w' => e = .returned (.tuple #[.int .i64 v, .int .i64 m, .int .i64 er]) ∧ w = w' := by
  have HA := hide hA
  have HV := hide hv
  clear hA hv
  go_enter Try.func38, Try.ntmps38
  go_wp2
  go_loop [5, 6, 7] (fun x q i => ∃ k u p : Nat, k ≤ n ∧ k ≤ 9 ∧ i = .int .i64 k ∧ x = .int .u64 (u : Nat) ∧ q = .int .u64 (p : Nat) ∧ p = 128 ^ k ∧ u < 128 ^ k ∧ Var.get k u (l.drop k) = (v, m, er)) (fun _ _ i => n - (intOf i).toNat)
  case atStart => exact ⟨0, 0, 1, Nat.zero_le _, by omega, rfl, rfl, rfl, rfl, by simp, HV.out⟩
  case round =>
    obtain ⟨k, u, p, hk, hk9, rfl, rfl, rfl, hp, hu, hg⟩ := hrel
    have HP := hide hp
    clear hp
    by_cases hlt : k < n
    · obtain ⟨b, off, hlk, rfl, -, hc⟩ := HA.out.at_ hlt
      rw [Var.drop_at hlk] at hg
      obtain ⟨z, hz⟩ : ∃ z, z = l[k] := ⟨_, rfl⟩
      rw [← hz] at hc hg
      have Hu := hide hu
      clear hz hu
      have hz2 := z.toNat_lt
      by_cases h9 : k = 9 ∧ 1 < z.toNat
      · rw [Var.get_form9 h9.1 h9.2] at hg
        injection hg with e1 e2; injection e2 with e2 e3
        subst e1 e2 e3
        obtain ⟨rfl, h92⟩ := h9
        go_wp2
        go_ret3
        exact ⟨rfl, rfl⟩
      · have hx9 : k = 9 → z.toNat % 128 ≤ 1 := by omega
        have hr := Var.room Hu.out (Nat.mod_lt z.toNat (by omega : 0 < 128)) hk9 hx9
        have hRem : (z.toNat : Int) % 128 = ((z.toNat % 128 : Nat) : Int) := by omega
        have hMul := Var.mul_up (z.toNat % 128) p k HP.out hr.1
        have hxz : z.toNat < 128 → z.toNat % 128 = z.toNat := fun h => Nat.mod_eq_of_lt h
        have hxz2 : 128 ≤ z.toNat → z.toNat % 128 = z.toNat - 128 := fun h => by omega
        have hw := Var.wrap_small (z.toNat % 128) (by omega)
        have Hx9 := hide hx9
        clear hx9
        obtain ⟨x, hx⟩ : ∃ x, x = z.toNat % 128 := ⟨_, rfl⟩
        rw [← hx] at hr hRem hMul hxz hxz2 hw
        have HX := hide hx
        clear hx
        obtain ⟨y, hy⟩ : ∃ y, y = x * 128 ^ k := ⟨_, rfl⟩
        rw [← hy] at hr hMul
        have HY := hide hy
        clear hy
        obtain ⟨s, hs⟩ : ∃ s, s = u + y := ⟨_, rfl⟩
        rw [← hs] at hr
        have hAdd : IntKind.u64.wrap ((u : Int) + (y : Int)) = (s : Int) := by rw [IntKind.wrap_u64]; omega
        have HS := hide hs
        clear hs
        have HR := hide hr
        have HXZ := hide hxz
        have HXZ2 := hide hxz2
        have HN := hide h9
        clear hr hxz hxz2
        by_cases hbig : 128 ≤ z.toNat
        · rw [Var.get_on h9 hbig, ← HXZ2.out hbig, ← HY.out, ← HS.out] at hg
          have HG := hide hg
          have d9 : ((k : Int) == 9) = false := by simp; omega
          have hk8 : k < 9 := by omega
          have hz0 : ((z.toNat : Int) == 0) = false := by simp; omega
          have hP := Var.pow_up k p HP.out hk8
          obtain ⟨p2, hp2⟩ : ∃ p2, p2 = 128 ^ (k + 1) := ⟨_, rfl⟩
          rw [← hp2] at hP
          have HP2 := hide hp2
          clear hp2
          clear hg h9 hz2
          have d128 : decide ((z.toNat : Int) < 128) = false := by simp; omega
          have HB := hide hbig
          clear hbig
          by_cases hk0 : k = 0
          · have d0 : ¬ 0 < k := by omega
            have HK := hide hk0
            clear hk0
            go_wp2
            exact ⟨⟨k + 1, s, p2, by omega, by omega, by go_num, rfl, rfl, HP2.out, by rw [HS.out, HY.out]; exact (Var.room Hu.out (by have := HX.out; omega) hk9 (fun h => absurd h (by omega))).2.2, HG.out⟩, by simp [intOf]; omega⟩
          · have d0 : 0 < k := by omega
            have HK := hide hk0
            clear hk0
            go_wp2
            exact ⟨⟨k + 1, s, p2, by omega, by omega, by go_num, rfl, rfl, HP2.out, by rw [HS.out, HY.out]; exact (Var.room Hu.out (by have := HX.out; omega) hk9 (fun h => absurd h (by omega))).2.2, HG.out⟩, by simp [intOf]; omega⟩
        · have hsm : z.toNat < 128 := by omega
          by_cases h0 : 0 < k ∧ z.toNat = 0
          · rw [Var.get_form0 h0.2 h0.1] at hg
            injection hg with e1 e2; injection e2 with e2 e3
            subst e1 e2 e3
            obtain ⟨h01, h02⟩ := h0
            clear h9
            rw [h02] at hc
            by_cases hk9' : k = 9
            · subst hk9'
              go_wp2
              all_goals (go_ret3; exact ⟨rfl, rfl⟩)
            · have d9 : ((k : Int) == 9) = false := by simp; omega
              go_wp2
              all_goals (go_ret3; exact ⟨rfl, rfl⟩)
          · rw [Var.get_ok h9 hsm h0, ← HXZ.out hsm, ← HY.out, ← HS.out] at hg
            injection hg with e1 e2; injection e2 with e2 e3
            subst e2 e3
            obtain ⟨g, hgg⟩ : ∃ g, g = s / 2 := ⟨_, rfl⟩
            have hg63 : g < 9223372036854775808 := by have := HR.out.2.1; omega
            have hHalf : (s : Int) / 2 = (g : Int) := by omega
            have HGG := hide hgg
            have H0 := hide h0
            have E1 := hide e1
            have d128 : decide ((z.toNat : Int) < 128) = true := by simp; omega
            have HSM := hide hsm
            clear h9 h0 e1 hgg hsm hbig hz2
            by_cases hk9' : k = 9
            · subst hk9'
              have hz1 : z.toNat ≤ 1 := by have := HN.out; omega
              have hz0 : ((z.toNat : Int) == 0) = false := by have := H0.out; simp; omega
              by_cases hs2 : s % 2 = 1
              · have hpar : (s : Int) % 2 = 1 := by omega
                have hcase : v = -(g : Int) - 1 := by rw [← E1.out]; unfold Var.unzig; rw [if_pos hs2, HGG.out]
                clear hs2
                subst hcase
                go_wp2
                go_ret3
                exact ⟨rfl, rfl⟩
              · have hpar : (s : Int) % 2 = 0 := by omega
                have hcase : v = (g : Int) := by rw [← E1.out]; unfold Var.unzig; rw [if_neg hs2, HGG.out]
                clear hs2
                subst hcase
                go_wp2
                go_ret3
                exact ⟨rfl, rfl⟩
            · have d9 : ((k : Int) == 9) = false := by simp; omega
              by_cases hk0 : k = 0
              · have d0 : ¬ 0 < k := by omega
                clear hk0
                by_cases hs2 : s % 2 = 1
                · have hpar : (s : Int) % 2 = 1 := by omega
                  have hcase : v = -(g : Int) - 1 := by rw [← E1.out]; unfold Var.unzig; rw [if_pos hs2, HGG.out]
                  clear hs2
                  subst hcase
                  go_wp2
                  go_ret3
                  exact ⟨rfl, rfl⟩
                · have hpar : (s : Int) % 2 = 0 := by omega
                  have hcase : v = (g : Int) := by rw [← E1.out]; unfold Var.unzig; rw [if_neg hs2, HGG.out]
                  clear hs2
                  subst hcase
                  go_wp2
                  go_ret3
                  exact ⟨rfl, rfl⟩
              · have hz0 : ((z.toNat : Int) == 0) = false := by have := H0.out; simp; omega
                have d0 : 0 < k := by omega
                clear hk0
                by_cases hs2 : s % 2 = 1
                · have hpar : (s : Int) % 2 = 1 := by omega
                  have hcase : v = -(g : Int) - 1 := by rw [← E1.out]; unfold Var.unzig; rw [if_pos hs2, HGG.out]
                  clear hs2
                  subst hcase
                  go_wp2
                  go_ret3
                  exact ⟨rfl, rfl⟩
                · have hpar : (s : Int) % 2 = 0 := by omega
                  have hcase : v = (g : Int) := by rw [← E1.out]; unfold Var.unzig; rw [if_neg hs2, HGG.out]
                  clear hs2
                  subst hcase
                  go_wp2
                  go_ret3
                  exact ⟨rfl, rfl⟩
    · rw [List.drop_eq_nil_of_le (by rw [HA.out.len]; omega), Var.get_nil] at hg
      injection hg with e1 e2; injection e2 with e2 e3
      subst e1 e2 e3
      go_wp2
      go_ret3
      exact ⟨rfl, rfl⟩
end Go.Proofs.Ytcjcmjkpfijhdaa
