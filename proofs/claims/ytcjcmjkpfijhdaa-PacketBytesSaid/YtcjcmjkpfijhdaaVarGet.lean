/-
  num.Get, quintainref1.Get.
-/
import Derived.Test.YtcjcmjkpfijhdaaVar
namespace Go.Proofs.Ytcjcmjkpfijhdaa
open Go.RowKit
set_option linter.unusedVariables false
namespace Var
theorem get_nil (i u : Nat) : get i u [] = (0, 0, 2) := rfl
theorem get_form9 {i u : Nat} {c : UInt8} {t : List UInt8} (h : i = 9) (h2 : 1 < c.toNat) : get i u (c :: t) = (0, 0, 1) := by rw [get, if_pos ⟨h, h2⟩]
theorem get_on {i u : Nat} {c : UInt8} {t : List UInt8} (h : ¬ (i = 9 ∧ 1 < c.toNat)) (h2 : 128 ≤ c.toNat) : get i u (c :: t) = get (i + 1) (u + (c.toNat - 128) * 128 ^ i) t := by rw [get, if_neg h, if_pos h2]
theorem get_form0 {i u : Nat} {c : UInt8} {t : List UInt8} (h2 : c.toNat = 0) (h3 : 0 < i) : get i u (c :: t) = (0, 0, 1) := by
  rw [get, if_neg (by omega), if_neg (by omega), if_pos ⟨h3, h2⟩]
theorem get_ok {i u : Nat} {c : UInt8} {t : List UInt8} (h : ¬ (i = 9 ∧ 1 < c.toNat)) (h2 : c.toNat < 128) (h3 : ¬ (0 < i ∧ c.toNat = 0)) : get i u (c :: t) = (unzig (u + c.toNat * 128 ^ i), i + 1, 0) := by
  rw [get, if_neg h, if_neg (by omega), if_neg h3]
/-- What is behind a place: the byte there, and the rest. -/
theorem drop_at {l : List UInt8} {k : Nat} (h : k < l.length) : l.drop k = l[k] :: l.drop (k + 1) := List.drop_eq_getElem_cons h
theorem and127 (c : UInt8) : bits BinOp.and IntKind.u8 (c.toNat : Int) 127 = ((c.toNat % 128 : Nat) : Int) := by
  rw [show (127 : Int) = ((127 : Nat) : Int) from rfl, u8_and_nat _ _ c.toNat_lt (by omega)]
  congr 1
  exact Nat.and_two_pow_sub_one_eq_mod c.toNat 7
theorem room {u x k : Nat} (hu : u < 128 ^ k) (hx : x < 128) (hk : k ≤ 9) (h9 : k = 9 → x ≤ 1) : x * 128 ^ k < 18446744073709551616 ∧ u + x * 128 ^ k < 18446744073709551616 ∧ u + x * 128 ^ k < 128 ^ (k + 1) := by
  have h1 : k = 0 ∨ k = 1 ∨ k = 2 ∨ k = 3 ∨ k = 4 ∨ k = 5 ∨ k = 6 ∨ k = 7 ∨ k = 8 ∨ k = 9 := by omega
  rcases h1 with rfl | rfl | rfl | rfl | rfl | rfl | rfl | rfl | rfl | rfl <;> simp at h9 hu ⊢ <;> omega
theorem wrap_small (x : Nat) (h : x < 18446744073709551616) : IntKind.u64.wrap (x : Int) = (x : Int) := by rw [IntKind.wrap_u64]; omega
theorem half (s : Nat) (h : s < 18446744073709551616) : wrap64 ((s : Int) / 2) = (s : Int) / 2 := by
  unfold wrap64; omega
theorem or_up {u x k : Nat} (hu : u < 128 ^ k) (hx : x < 128) (hk : k ≤ 9) (h9 : k = 9 → x ≤ 1) : bits BinOp.or IntKind.u64 (u : Int) ((x * 128 ^ k : Nat) : Int) = ((u + x * 128 ^ k : Nat) : Int) := by
  have e : (128 : Nat) ^ k = 2 ^ (7 * k) := by rw [Nat.pow_mul]
  have hp := room hu hx hk h9
  rw [u64_or_nat _ _ (by omega) (by omega)]
  congr 1
  rw [e] at hu ⊢
  have := Nat.shiftLeft_add_eq_or_of_lt hu x
  rw [Nat.shiftLeft_eq] at this
  rw [Nat.or_comm, ← this, Nat.add_comm]
theorem par (s : Nat) (h : s < 18446744073709551616) : bits BinOp.and IntKind.u64 (s : Int) 1 = ((s % 2 : Nat) : Int) := by
  rw [show (1 : Int) = ((1 : Nat) : Int) from rfl, u64_and_nat _ _ h (by omega)]
  congr 1
  exact Nat.and_two_pow_sub_one_eq_mod s 1
theorem not64 (t : Nat) (h : t < 9223372036854775808) : bits BinOp.xor IntKind.i64 (-1) (t : Int) = -(t : Int) - 1 := by
  show IntKind.i64.wrap ((BitVec.ofInt 64 (-1) ^^^ BitVec.ofInt 64 (t : Int)).toNat : Int) = _
  have e1 : BitVec.ofInt 64 (-1) = BitVec.allOnes 64 := by decide
  have e2 : BitVec.ofInt 64 (t : Int) = BitVec.ofNat 64 t := by rw [BitVec.ofInt_natCast]
  have e3 : (~~~ (BitVec.ofNat 64 t)).toNat = 2 ^ 64 - 1 - t := by rw [BitVec.toNat_not, BitVec.toNat_ofNat, Nat.mod_eq_of_lt (by omega)]
  rw [e1, e2, BitVec.allOnes_xor, e3, IntKind.wrap_i64]
  omega
theorem shl_up (x k : Nat) (h : x * 128 ^ k < 18446744073709551616) : IntKind.u64.wrap ((x : Int) * 2 ^ (7 * k)) = ((x * 128 ^ k : Nat) : Int) := by
  have e : ((x : Int) * 2 ^ (7 * k)) = ((x * 128 ^ k : Nat) : Int) := by
    rw [Int.natCast_mul, Int.natCast_pow]
    congr 1
    rw [Int.pow_mul]; rfl
  rw [e, IntKind.wrap_u64]
  omega
end Var

set_option maxRecDepth 10000 in
set_option maxHeartbeats 1000000 in
theorem num_Get (A : Option Addr) (n c B : Nat) (l : List UInt8) (w : World) (hA : LiesB w B A n l) (hn : n ≤ 140737488355328) (v : Int) (m : Nat) (er : Int) (hv : Var.get 0 0 l = (v, m, er)) :
    Calls Try.prog 37 #[.slice A n c] w fun e w' => e = .returned (.tuple #[.int .i64 v, .int .i64 m, .int .i64 er]) ∧ w = w' := by
  have HA := hide hA
  have HV := hide hv
  clear hA hv
  go_enter Try.func37, Try.ntmps37
  go_wp2
  go_loop [5, 11] (fun x i => ∃ k u : Nat, k ≤ n ∧ k ≤ 9 ∧ i = .int .i64 k ∧ x = .int .u64 (u : Nat) ∧ u < 128 ^ k ∧ Var.get k u (l.drop k) = (v, m, er)) (fun _ i => n - (intOf i).toNat)
  case atStart => exact ⟨0, 0, Nat.zero_le _, by omega, rfl, rfl, by simp, HV.out⟩
  case round =>
    obtain ⟨k, u, hk, hk9, rfl, rfl, hu, hg⟩ := hrel
    by_cases hlt : k < n
    · obtain ⟨b, off, hlk, rfl, -, hc⟩ := HA.out.at_ hlt
      rw [Var.drop_at hlk] at hg
      obtain ⟨z, hz⟩ : ∃ z, z = l[k] := ⟨_, rfl⟩
      rw [← hz] at hc hg
      have Hu := hide hu
      clear hz hu
      have hz2 := z.toNat_lt
      by_cases h9 : k = 9 ∧ 1 < z.toNat
      · rw [Var.get_form9 h9.1 h9.2] at hg
        injection hg with e1 e2; injection e2 with e2 e3
        subst e1 e2 e3
        obtain ⟨rfl, h92⟩ := h9
        go_wp2
        go_ret3
        exact ⟨rfl, rfl⟩
      · have hx9 : k = 9 → z.toNat % 128 ≤ 1 := by omega
        have hr := Var.room Hu.out (Nat.mod_lt z.toNat (by omega : 0 < 128)) hk9 hx9
        have hAnd := Var.and127 z
        have hOr := Var.or_up Hu.out (Nat.mod_lt z.toNat (by omega : 0 < 128)) hk9 hx9
        have hShl := Var.shl_up (z.toNat % 128) k hr.1
        have hxz : z.toNat < 128 → z.toNat % 128 = z.toNat := fun h => Nat.mod_eq_of_lt h
        have hxz2 : 128 ≤ z.toNat → z.toNat % 128 = z.toNat - 128 := fun h => by omega
        have hw := Var.wrap_small (z.toNat % 128) (by omega)
        have Hx9 := hide hx9
        clear hx9
        obtain ⟨x, hx⟩ : ∃ x, x = z.toNat % 128 := ⟨_, rfl⟩
        rw [← hx] at hr hAnd hOr hShl hxz hxz2 hw
        have HX := hide hx
        clear hx
        obtain ⟨y, hy⟩ : ∃ y, y = x * 128 ^ k := ⟨_, rfl⟩
        rw [← hy] at hr hOr hShl
        have HY := hide hy
        clear hy
        obtain ⟨s, hs⟩ : ∃ s, s = u + y := ⟨_, rfl⟩
        rw [← hs] at hr hOr
        have HS := hide hs
        clear hs
        have HR := hide hr
        have HXZ := hide hxz
        have HXZ2 := hide hxz2
        have HN := hide h9
        clear hr hxz hxz2
        by_cases hbig : 128 ≤ z.toNat
        · rw [Var.get_on h9 hbig, ← HXZ2.out hbig, ← HY.out, ← HS.out] at hg
          have HG := hide hg
          have d9 : ((k : Int) == 9) = false := by simp; omega
          have hk8 : k < 9 := by omega
          clear hg h9
          go_wp2
          exact ⟨⟨k + 1, s, by omega, by omega, by go_num, rfl, by rw [HS.out, HY.out]; exact (Var.room Hu.out (by have := HX.out; omega) hk9 (fun h => absurd h (by omega))).2.2, HG.out⟩, by simp [intOf]; omega⟩
        · have hsm : z.toNat < 128 := by omega
          by_cases h0 : 0 < k ∧ z.toNat = 0
          · rw [Var.get_form0 h0.2 h0.1] at hg
            injection hg with e1 e2; injection e2 with e2 e3
            subst e1 e2 e3
            obtain ⟨h01, h02⟩ := h0
            clear h9
            rw [h02] at hc
            by_cases hk9' : k = 9
            · subst hk9'
              go_wp2
              all_goals (go_ret3; exact ⟨rfl, rfl⟩)
            · have d9 : ((k : Int) == 9) = false := by simp; omega
              go_wp2
              all_goals (go_ret3; exact ⟨rfl, rfl⟩)
          · rw [Var.get_ok h9 hsm h0, ← HXZ.out hsm, ← HY.out, ← HS.out] at hg
            injection hg with e1 e2; injection e2 with e2 e3
            subst e2 e3
            have hpar := Var.par s HR.out.2.1
            have hnot : bits BinOp.xor IntKind.i64 (-1) ((s : Int) / 2) = -((s : Int) / 2) - 1 := Var.not64 (s / 2) (by have := HR.out.2.1; omega)
            have hW := Var.half s HR.out.2.1
            have H0 := hide h0
            have s64 : IntKind.i64.signed = true := rfl
            have hcase : v = if s % 2 = 1 then -((s : Int) / 2) - 1 else (s : Int) / 2 := by rw [← e1]; unfold Var.unzig; split <;> omega
            clear h9 h0 e1
            by_cases hk9' : k = 9
            · subst hk9'
              have hz1 : z.toNat ≤ 1 := by have := HN.out; omega
              have hz0 : ((z.toNat : Int) == 0) = false := by have := H0.out; simp; omega
              have hShl' : IntKind.u64.wrap ((x : Int) * 9223372036854775808) = (y : Int) := hShl
              clear hShl
              by_cases hs2 : s % 2 = 1
              · rw [hs2] at hpar
                rw [if_pos hs2] at hcase
                subst hcase
                go_wp2
                go_ret3
                exact ⟨rfl, rfl⟩
              · rw [show s % 2 = 0 by omega] at hpar
                rw [if_neg hs2] at hcase
                subst hcase
                go_wp2
                go_ret3
                exact ⟨rfl, rfl⟩
            · have d9 : ((k : Int) == 9) = false := by simp; omega
              by_cases hk0 : k = 0
              · subst hk0
                have hc' := hc
                rw [Nat.add_zero] at hc'
                have hShl' : IntKind.u64.wrap ((x : Int) * 1) = (y : Int) := hShl
                have hxy : x = y := by rw [HY.out]; simp
                by_cases hs2 : s % 2 = 1
                · rw [hs2] at hpar
                  rw [if_pos hs2] at hcase
                  subst hcase hxy
                  go_wp2
                  go_ret3
                  exact ⟨rfl, rfl⟩
                · rw [show s % 2 = 0 by omega] at hpar
                  rw [if_neg hs2] at hcase
                  subst hcase hxy
                  go_wp2
                  go_ret3
                  exact ⟨rfl, rfl⟩
              · have hz0 : ((z.toNat : Int) == 0) = false := by have := H0.out; simp; omega
                have hkp : 0 < k := by omega
                by_cases hs2 : s % 2 = 1
                · rw [hs2] at hpar
                  rw [if_pos hs2] at hcase
                  subst hcase
                  go_wp2
                  go_ret3
                  exact ⟨rfl, rfl⟩
                · rw [show s % 2 = 0 by omega] at hpar
                  rw [if_neg hs2] at hcase
                  subst hcase
                  go_wp2
                  go_ret3
                  exact ⟨rfl, rfl⟩
    · rw [List.drop_eq_nil_of_le (by rw [HA.out.len]; omega), Var.get_nil] at hg
      injection hg with e1 e2; injection e2 with e2 e3
      subst e1 e2 e3
      go_wp2
      go_ret3
      exact ⟨rfl, rfl⟩
end Go.Proofs.Ytcjcmjkpfijhdaa
