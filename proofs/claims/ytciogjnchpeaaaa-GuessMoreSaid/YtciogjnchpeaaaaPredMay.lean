/-
  May and MayBy.
-/
import Derived.Test.YtciogjnchpeaaaaPredP
import Derived.Test.YtciogjnchpeaaaaArr
import Derived.Test.YtciogjnchpeaaaaRegion
namespace Go.Proofs.Ytciogjnchpeaaaa
open Go.RowKit
set_option maxRecDepth 10000
set_option linter.unusedVariables false
open Prd in
set_option maxHeartbeats 2000000 in
theorem pred_May (b : By) (A : Option Addr) (n c : Nat) (w : World) (hn : b.table.length = n) :
    Calls Try.prog 25 #[b.val (.slice A n c)] w fun e w' => e = .returned (.bool b.may) ∧ Below w.heap.size w w' := by
  obtain ⟨r, hr⟩ : ∃ r, r = b.may := ⟨_, rfl⟩
  rw [← hr]
  have HR : Hid (r = ((decide (b.kind = 1) && decide (b.order = 0) && decide (n = 0)) || (decide (b.kind = 2) && decide (0 ≤ b.order) && decide (b.order ≤ 3) && decide (n = 0)) || (decide (b.kind = 3) && decide (b.order = 0) && decide (1 ≤ n) && decide (n ≤ 1000)))) := by
    show _ = _; rw [hr, ← hn]; rfl
  clear hr hn
  obtain ⟨kd, hkd⟩ : ∃ k, k = b.kind := ⟨_, rfl⟩
  obtain ⟨od, hod⟩ : ∃ k, k = b.order := ⟨_, rfl⟩
  rw [show b.val (.slice A n c) = .agg #[.int .i64 b.kind, .int .i64 b.order, .slice A n c] from rfl]
  rw [← hkd, ← hod] at HR ⊢
  clear hkd hod
  go_enter Try.func25, Try.ntmps25
  go_upto_region 2 with fail
  generalize hw0 : World.alloc w _ = w0
  have hA0 : Arr 39 w0 w.heap.size [.int .i64 kd, .int .i64 od, .slice A n c] := by rw [← hw0]; exact Arr.new 39 w _ _ rfl
  have HB0 : Hid (Below w.heap.size w w0) := by show Below _ _ _; rw [← hw0]; exact Below_new w _
  have c0 := hA0.cell (j := 0) (by simp)
  have c1 := hA0.cell (j := 1) (by simp)
  have c2 := hA0.cell (j := 2) (by simp)
  simp only [List.getElem_cons_zero, List.getElem_cons_succ] at c0 c1 c2
  clear hw0 hA0
  have n0 : ((n : Int) == 0) = decide (n = 0) := by by_cases h : n = 0 <;> simp [h]
  by_cases k1 : kd = 1
  · subst k1
    by_cases o0 : od = 0
    · subst o0
      by_cases z : n = 0
      · subst z
        go_wp2_with fail
        go_ret
        exact ⟨by rw [HR.out]; rfl, HB0.out⟩
      · have dz : ((n : Int) == 0) = false := by rw [n0]; exact decide_eq_false z
        go_wp2_with fail
        go_ret
        exact ⟨by rw [HR.out]; simp [z], HB0.out⟩
    · have d0 : (od == 0) = false := by simpa using o0
      go_wp2_with fail
      go_ret
      exact ⟨by rw [HR.out]; simp [o0], HB0.out⟩
  · have d1 : (kd == 1) = false := by simpa using k1
    by_cases k2 : kd = 2
    · subst k2
      by_cases o0 : 0 ≤ od
      · have e0 : decide (od ≥ 0) = true := decide_eq_true o0
        by_cases o3 : od ≤ 3
        · have e3 : decide (od ≤ 3) = true := decide_eq_true o3
          by_cases z : n = 0
          · subst z
            go_wp2_with fail
            go_ret
            exact ⟨by rw [HR.out]; simp [o0, o3], HB0.out⟩
          · have dz : ((n : Int) == 0) = false := by rw [n0]; exact decide_eq_false z
            go_wp2_with fail
            go_ret
            exact ⟨by rw [HR.out]; simp [z], HB0.out⟩
        · have e3 : decide (od ≤ 3) = false := decide_eq_false o3
          go_wp2_with fail
          go_ret
          exact ⟨by rw [HR.out]; simp; omega, HB0.out⟩
      · have e0 : decide (od ≥ 0) = false := decide_eq_false o0
        go_wp2_with fail
        go_ret
        exact ⟨by rw [HR.out]; simp; omega, HB0.out⟩
    · have d2 : (kd == 2) = false := by simpa using k2
      by_cases k3 : kd = 3
      · subst k3
        by_cases o0 : od = 0
        · subst o0
          by_cases z : 1 ≤ n
          · have dz : decide ((n : Int) ≥ 1) = true := decide_eq_true (by omega)
            by_cases z2 : n ≤ 1000
            · have dz2 : decide ((n : Int) ≤ 1000) = true := decide_eq_true (by omega)
              go_wp2_with fail
              go_ret
              exact ⟨by rw [HR.out]; simp; omega, HB0.out⟩
            · have dz2 : decide ((n : Int) ≤ 1000) = false := decide_eq_false (by omega)
              go_wp2_with fail
              go_ret
              exact ⟨by rw [HR.out]; simp; omega, HB0.out⟩
          · have dz : decide ((n : Int) ≥ 1) = false := decide_eq_false (by omega)
            go_wp2_with fail
            go_ret
            exact ⟨by rw [HR.out]; simp; omega, HB0.out⟩
        · have d0 : (od == 0) = false := by simpa using o0
          go_wp2_with fail
          go_ret
          exact ⟨by rw [HR.out]; simp [o0], HB0.out⟩
      · have d3 : (kd == 3) = false := by simpa using k3
        go_wp2_with fail
        go_ret
        exact ⟨by rw [HR.out]; simp [k1, k2, k3], HB0.out⟩
open Prd in
set_option maxHeartbeats 2000000 in
theorem ref_MayBy (b : By) (A : Option Addr) (n c : Nat) (w : World) (hn : b.table.length = n) :
    Calls Try.prog 29 #[b.val (.slice A n c)] w fun e w' => e = .returned (.bool b.may) ∧ Below w.heap.size w w' := by
  obtain ⟨r, hr⟩ : ∃ r, r = b.may := ⟨_, rfl⟩
  rw [← hr]
  have HR : Hid (r = ((decide (b.kind = 1) && decide (b.order = 0) && decide (n = 0)) || (decide (b.kind = 2) && decide (0 ≤ b.order) && decide (b.order ≤ 3) && decide (n = 0)) || (decide (b.kind = 3) && decide (b.order = 0) && decide (1 ≤ n) && decide (n ≤ 1000)))) := by
    show _ = _; rw [hr, ← hn]; rfl
  clear hr hn
  obtain ⟨kd, hkd⟩ : ∃ k, k = b.kind := ⟨_, rfl⟩
  obtain ⟨od, hod⟩ : ∃ k, k = b.order := ⟨_, rfl⟩
  rw [show b.val (.slice A n c) = .agg #[.int .i64 b.kind, .int .i64 b.order, .slice A n c] from rfl]
  rw [← hkd, ← hod] at HR ⊢
  clear hkd hod
  go_enter Try.func29, Try.ntmps29
  go_upto_region 1 with fail
  generalize hw0 : World.alloc w _ = w0
  have hA0 : Arr 25 w0 w.heap.size [.int .i64 kd, .int .i64 od, .slice A n c] := by rw [← hw0]; exact Arr.new 25 w _ _ rfl
  have HB0 : Hid (Below w.heap.size w w0) := by show Below _ _ _; rw [← hw0]; exact Below_new w _
  have c0 := hA0.cell (j := 0) (by simp)
  have c1 := hA0.cell (j := 1) (by simp)
  have c2 := hA0.cell (j := 2) (by simp)
  simp only [List.getElem_cons_zero, List.getElem_cons_succ] at c0 c1 c2
  clear hw0 hA0
  have n0 : ((n : Int) == 0) = decide (n = 0) := by by_cases h : n = 0 <;> simp [h]
  by_cases k0 : kd < 1
  · have e0 : decide (kd < 1) = true := decide_eq_true k0
    go_wp2_with fail
    go_ret
    exact ⟨by rw [HR.out]; simp; omega, HB0.out⟩
  have e0 : decide (kd < 1) = false := decide_eq_false k0
  by_cases k4 : kd > 3
  · have e4 : decide (kd > 3) = true := decide_eq_true k4
    go_wp2_with fail
    go_ret
    exact ⟨by rw [HR.out]; simp; omega, HB0.out⟩
  have e4 : decide (kd > 3) = false := decide_eq_false k4
  by_cases o0 : od < 0
  · have e5 : decide (od < 0) = true := decide_eq_true o0
    go_wp2_with fail
    go_ret
    exact ⟨by rw [HR.out]; simp; omega, HB0.out⟩
  have e5 : decide (od < 0) = false := decide_eq_false o0
  by_cases o3 : od > 3
  · have e6 : decide (od > 3) = true := decide_eq_true o3
    go_wp2_with fail
    go_ret
    exact ⟨by rw [HR.out]; simp; omega, HB0.out⟩
  have e6 : decide (od > 3) = false := decide_eq_false o3
  have hk : kd = 1 ∨ kd = 2 ∨ kd = 3 := by omega
  clear e0 e4 k0 k4
  by_cases oz : od = 0
  · subst oz
    clear e5 e6 o0 o3
    rcases hk with rfl | rfl | rfl
    · by_cases z : n = 0
      · subst z
        go_wp2_with fail
        go_ret
        exact ⟨by rw [HR.out]; rfl, HB0.out⟩
      · have dz : ((n : Int) == 0) = false := by rw [n0]; exact decide_eq_false z
        go_wp2_with fail
        go_ret
        exact ⟨by rw [HR.out]; simp [z], HB0.out⟩
    · by_cases z : n = 0
      · subst z
        go_wp2_with fail
        go_ret
        exact ⟨by rw [HR.out]; rfl, HB0.out⟩
      · have dz : ((n : Int) == 0) = false := by rw [n0]; exact decide_eq_false z
        go_wp2_with fail
        go_ret
        exact ⟨by rw [HR.out]; simp [z], HB0.out⟩
    · by_cases z : 1 ≤ n
      · have dz : decide ((n : Int) ≥ 1) = true := decide_eq_true (by omega)
        by_cases z2 : n ≤ 1000
        · have dz2 : decide ((n : Int) ≤ 1000) = true := decide_eq_true (by omega)
          go_wp2_with fail
          go_ret
          exact ⟨by rw [HR.out]; simp; omega, HB0.out⟩
        · have dz2 : decide ((n : Int) ≤ 1000) = false := decide_eq_false (by omega)
          go_wp2_with fail
          go_ret
          exact ⟨by rw [HR.out]; simp; omega, HB0.out⟩
      · have dz : decide ((n : Int) ≥ 1) = false := decide_eq_false (by omega)
        go_wp2_with fail
        go_ret
        exact ⟨by rw [HR.out]; simp; omega, HB0.out⟩
  · have ez : (od != 0) = true := by simpa using oz
    rcases hk with rfl | rfl | rfl
    · go_wp2_with fail
      go_ret
      exact ⟨by rw [HR.out]; simp [oz], HB0.out⟩
    · by_cases z : n = 0
      · subst z
        go_wp2_with fail
        go_ret
        exact ⟨by rw [HR.out]; simp; omega, HB0.out⟩
      · have dz : ((n : Int) == 0) = false := by rw [n0]; exact decide_eq_false z
        go_wp2_with fail
        go_ret
        exact ⟨by rw [HR.out]; simp [z], HB0.out⟩
    · go_wp2_with fail
      go_ret
      exact ⟨by rw [HR.out]; simp [oz], HB0.out⟩
end Go.Proofs.Ytciogjnchpeaaaa
