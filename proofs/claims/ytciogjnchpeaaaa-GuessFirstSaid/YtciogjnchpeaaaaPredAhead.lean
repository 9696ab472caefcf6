/-
  The document's ahead.
-/
import Derived.Test.YtciogjnchpeaaaaPredFirst
import Derived.Deep.QuietTactic
import Derived.BigQuiet
namespace Go.Proofs.Ytciogjnchpeaaaa
open Go.RowKit
set_option maxRecDepth 10000
set_option linter.unusedVariables false
open Prd
/-- Of the greater one of two values: does it stand ahead? -/
theorem By.ahead_plain {b : By} {past : List UInt8} {x y : UInt8} (h : y < x) :
    (b.kind = 3 → x = b.tb past → decide (b.key past x < b.key past y) = true) ∧ (b.kind = 3 → y = b.tb past → decide (b.key past x < b.key past y) = false) ∧
    (b.kind = 3 → x ≠ b.tb past → y ≠ b.tb past → decide (b.key past x < b.key past y) = decide (x = endB past)) ∧
    (b.kind ≠ 3 → b.wgt past x = b.wgt past y → decide (b.key past x < b.key past y) = decide (x = endB past)) ∧
    (b.kind ≠ 3 → b.wgt past x ≠ b.wgt past y → decide (b.key past x < b.key past y) = decide (b.wgt past y < b.wgt past x)) := by
  have h0 : y.toNat < x.toNat := UInt8.lt_iff_toNat_lt.1 h
  have hne : x ≠ y := fun e => by rw [e] at h0; omega
  have m1 := b.first_min past x
  have m2 := b.first_min past y
  have hk : b.key past x ≠ b.key past y := fun e => hne (b.key_inj past _ _ e)
  refine ⟨fun k3 e => ?_, fun k3 e => ?_, fun k3 e1 e2 => ?_, fun k3 e => ?_, fun k3 e => ?_⟩
  · rw [By.first_table k3] at e; rw [← e] at m2; exact decide_eq_true (by omega)
  · rw [By.first_table k3] at e; rw [← e] at m1; exact decide_eq_false (by omega)
  · have := By.key_lt_of_hi (b := b) (past := past) h (by unfold By.hi; rw [if_pos k3, if_pos k3, if_neg e1, if_neg e2])
    rw [Bool.eq_iff_iff, decide_eq_true_iff, decide_eq_true_iff]; exact this
  · have := By.key_lt_of_hi (b := b) (past := past) h (by unfold By.hi; rw [if_neg k3, if_neg k3, e])
    rw [Bool.eq_iff_iff, decide_eq_true_iff, decide_eq_true_iff]; exact this
  · have l1 := b.wgt_le past x
    have l2 := b.wgt_le past y
    have hhi : ∀ y, b.hi past y = past.length - b.wgt past y := fun y => by unfold By.hi; rw [if_neg k3]
    rw [Bool.eq_iff_iff, decide_eq_true_iff, decide_eq_true_iff]
    rcases Nat.lt_or_ge (b.wgt past y) (b.wgt past x) with h1 | h1
    · have := By.key_of_hi (b := b) (past := past) (x := x) (y := y) (by rw [hhi, hhi]; omega)
      constructor <;> intro _ <;> omega
    · have := By.key_of_hi (b := b) (past := past) (x := y) (y := x) (by rw [hhi, hhi]; omega)
      constructor <;> intro _ <;> omega
theorem By.wgt_table {b : By} (past : List UInt8) (x : UInt8) (h : b.kind = 3) : b.wgt past x = 0 := by unfold By.wgt; rw [if_neg (by rw [h]; omega)]
/-- What the document takes for drawn. -/
def Prd.By.draw (b : By) (past : List UInt8) : Int := if b.kind = 3 then ((b.tb past).toNat : Int) else -1
set_option maxHeartbeats 4000000 in
set_option maxRecDepth 10000 in
theorem ref_ahead {b : By} {past : List UInt8} {W : World} (hn : past.length ≤ 1000000) (x y : UInt8) (hyx : y < x) {xi yi e0 dr : Int} (hxi : xi = (x.toNat : Int)) (hyi : yi = (y.toNat : Int)) (he0 : e0 = ((endB past).toNat : Int)) (hdr : dr = b.draw past) {f : UInt8 → Nat} (hf : f = b.wgt past) :
    Calls Try.prog 42 #[.int .i64 xi, .int .i64 yi, .agg (wl f).toArray, .int .i64 e0, .int .i64 dr] W fun e w' => e = .returned (.bool (decide (b.key past x < b.key past y))) ∧ Below W.heap.size W w' := by
  obtain ⟨P1, P2, P3, P4, P5⟩ := By.ahead_plain (b := b) (past := past) hyx
  obtain ⟨r, hr⟩ : ∃ r, r = decide (b.key past x < b.key past y) := ⟨_, rfl⟩
  rw [← hr] at P1 P2 P3 P4 P5 ⊢
  have hx256 : x.toNat < 256 := x.toNat_lt
  have hxl : (x.toNat : Int) < 256 := by omega
  have hy256 : y.toNat < 256 := y.toNat_lt
  have hyl : (y.toNat : Int) < 256 := by omega
  have hxy : x ≠ y := fun e => by rw [e] at hyx; simp at hyx
  subst hxi hyi he0 hdr
  obtain ⟨e, he⟩ : ∃ e, e = endB past := ⟨_, rfl⟩
  obtain ⟨dr, hdr⟩ : ∃ e, e = b.draw past := ⟨_, rfl⟩
  rw [← he] at P3 P4 ⊢
  rw [← hdr]
  have hpx : f x ≤ 1000000 := by rw [hf]; have := b.wgt_le past x; omega
  have hpy : f y ≤ 1000000 := by rw [hf]; have := b.wgt_le past y; omega
  rw [← hf] at P4 P5
  have hwt : b.kind = 3 → f x = f y := fun h => by rw [hf, By.wgt_table past x h, By.wgt_table past y h]
  have hone : ∀ u ∈ (wl f).toArray.toList, u.oneCell' = true := fun u hu => wl_one f u (by simpa using hu)
  obtain ⟨px, hpx'⟩ : ∃ q, q = f x := ⟨_, rfl⟩
  obtain ⟨py, hpy'⟩ : ∃ q, q = f y := ⟨_, rfl⟩
  have HPX := hide (And.intro hpx' hpy')
  rw [← hpx'] at hpx hwt P4 P5
  rw [← hpy'] at hpy hwt P4 P5
  have HPS := hide (And.intro P1 (And.intro P2 (And.intro P3 (And.intro P4 P5))))
  have HDR : Hid ((b.kind = 3 ∧ dr = ((b.tb past).toNat : Int)) ∨ (b.kind ≠ 3 ∧ dr = -1)) := by
    show _ ∨ _
    rw [hdr]; unfold Prd.By.draw
    by_cases k3 : b.kind = 3
    · rw [if_pos k3]; exact .inl ⟨k3, rfl⟩
    · rw [if_neg k3]; exact .inr ⟨k3, rfl⟩
  have HWT := hide hwt
  have HXY := hide hxy
  clear hyx hr P1 P2 P3 P4 P5 hf hdr hpx' hpy' hwt hxy hone he
  go_enter Try.func42, Try.ntmps42
  go_upto_region 1 with fail
  generalize hw0 : World.alloc W _ = w0
  have hA : Arr 67 w0 W.heap.size (wl f) := by rw [← hw0]; exact Arr.new 67 W _ _ rfl
  have HB : Hid (Below W.heap.size W w0) := by show Below _ _ _; rw [← hw0]; exact Below_new W _
  have cx := hA.wcell x
  have cy := hA.wcell y
  rw [← HPX.out.1] at cx
  rw [← HPX.out.2] at cy
  clear hw0 hA
  rcases HDR.out with ⟨k3, hdr⟩ | ⟨k3, hdr⟩
  · obtain ⟨t, ht⟩ : ∃ t, t = b.tb past := ⟨_, rfl⟩
    rw [← ht] at hdr HPS
    subst hdr
    have hpq : px = py := HWT.out k3
    subst hpq
    have HK3 := hide k3
    clear k3 ht
    by_cases hxt : x = t
    · have dx : ((x.toNat : Int) == (t.toNat : Int)) = true := by rw [hxt]; simp
      have HR : Hid (r = true) := HPS.out.1 HK3.out hxt
      clear hxt
      go_wp2_with fail
      go_ret
      exact ⟨by rw [HR.out]; rfl, HB.out⟩
    · have dx : ((x.toNat : Int) == (t.toNat : Int)) = false := by
        have : x.toNat ≠ t.toNat := fun e => hxt (UInt8.toNat_inj.1 e)
        simp; omega
      by_cases hyt : y = t
      · have dy : ((y.toNat : Int) == (t.toNat : Int)) = true := by rw [hyt]; simp
        have HR : Hid (r = false) := HPS.out.2.1 HK3.out hyt
        clear hxt hyt
        go_wp2_with fail
        go_ret
        exact ⟨by rw [HR.out]; rfl, HB.out⟩
      · have dy : ((y.toNat : Int) == (t.toNat : Int)) = false := by
          have : y.toNat ≠ t.toNat := fun e => hyt (UInt8.toNat_inj.1 e)
          simp; omega
        have HR : Hid (r = decide (x = e)) := HPS.out.2.2.1 HK3.out hxt hyt
        clear hxt hyt
        by_cases hxe : x = e
        · have de : ((x.toNat : Int) == (e.toNat : Int)) = true := by rw [hxe]; simp
          have HR2 : Hid (r = true) := by show _ = _; rw [HR.out]; exact decide_eq_true hxe
          clear hxe
          go_wp2_with fail
          go_quiet (fail)
          go_wp2_with fail
          go_ret
          exact ⟨by rw [HR2.out]; rfl, Below_drewN HB.out _⟩
        · have de : ((x.toNat : Int) == (e.toNat : Int)) = false := by
            have : x.toNat ≠ e.toNat := fun h => hxe (UInt8.toNat_inj.1 h)
            simp; omega
          have HR2 : Hid (r = false) := by show _ = _; rw [HR.out]; exact decide_eq_false hxe
          clear hxe
          go_wp2_with fail
          go_quiet (fail)
          go_wp2_with fail
          go_ret
          exact ⟨by rw [HR2.out]; rfl, Below_drewN HB.out _⟩
  · subst hdr
    have dx : ((x.toNat : Int) == (-1)) = false := by simp
    have dy : ((y.toNat : Int) == (-1)) = false := by simp
    by_cases hpq : px = py
    · have HR : Hid (r = decide (x = e)) := HPS.out.2.2.2.1 k3 hpq
      subst hpq
      clear k3
      by_cases hxe : x = e
      · have de : ((x.toNat : Int) == (e.toNat : Int)) = true := by rw [hxe]; simp
        have HR2 : Hid (r = true) := by show _ = _; rw [HR.out]; exact decide_eq_true hxe
        clear hxe
        go_wp2_with fail
        go_quiet (fail)
        go_wp2_with fail
        go_ret
        exact ⟨by rw [HR2.out]; rfl, Below_drewN HB.out _⟩
      · have de : ((x.toNat : Int) == (e.toNat : Int)) = false := by
          have : x.toNat ≠ e.toNat := fun h => hxe (UInt8.toNat_inj.1 h)
          simp; omega
        have HR2 : Hid (r = false) := by show _ = _; rw [HR.out]; exact decide_eq_false hxe
        clear hxe
        go_wp2_with fail
        go_quiet (fail)
        go_wp2_with fail
        go_ret
        exact ⟨by rw [HR2.out]; rfl, Below_drewN HB.out _⟩
    · have dpq : ((px : Int) != (py : Int)) = true := by simp; omega
      have HR : Hid (r = decide (py < px)) := HPS.out.2.2.2.2 k3 hpq
      clear k3 hpq
      go_wp2_with fail
      go_quiet (fail)
      go_wp2_with fail
      go_quiet (fail)
      go_wp2_with fail
      go_ret
      exact ⟨by rw [HR.out]; rfl, Below_drewN (Below_drewN HB.out _) _⟩
end Go.Proofs.Ytciogjnchpeaaaa
