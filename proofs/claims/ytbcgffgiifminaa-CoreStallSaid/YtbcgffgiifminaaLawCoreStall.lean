/-
  CoreStall: the walk.
-/
import Derived.Test.YtbcgffgiifminaaStand
namespace Go.Proofs.Ytbcgffgiifminaa
open Go.RowKit
set_option maxRecDepth 10000
set_option linter.unusedVariables false
def stallCfg (d wd : Int) : Cfg := ⟨2, 0, 1, d, wd, 1, 0, 0, 0, 3⟩
/-- A player that pressed k times, or as often as it may. -/
def stallAt (c : Cfg) : Nat → Co
  | 0 => Co.new c
  | k + 1 => (stallAt c k).press (UInt8.ofNat (k % 256))
theorem front_two (a b : List UInt8) : front [a, b] = min a.length b.length := by
  simp [front, frontK]
theorem stall_err {d wd : Nat} (hd : d ≤ 8) (hw : wd ≤ 16) {s : Co} {l : List UInt8} {k : Nat} (hl : l.length = min k wd) (hs : s = { Co.new (stallCfg d wd) with ls := [List.replicate d 0 ++ l, List.replicate d 0] }) :
    s.mine.length = d + min k wd ∧ front s.ls = d ∧ s.pressErr = if k < wd then 0 else 5 := by
  subst hs
  have h1 : ({ Co.new (stallCfg d wd) with ls := [List.replicate d 0 ++ l, List.replicate d 0] } : Co).mine.length = d + min k wd := by
    show (List.replicate d 0 ++ l).length = _
    rw [List.length_append, List.length_replicate, hl]
  have h2 : front ({ Co.new (stallCfg d wd) with ls := [List.replicate d 0 ++ l, List.replicate d 0] } : Co).ls = d := by
    show front [List.replicate d 0 ++ l, List.replicate d 0] = d
    rw [front_two, List.length_append, List.length_replicate]; omega
  refine ⟨h1, h2, ?_⟩
  rw [Co.pressErr, h1, h2, if_neg (by show ¬ false = true; decide), if_neg (by omega)]
  show (if (wd : Int) ≤ ((d + min k wd : Nat) : Int) - (d : Int) then (5 : Int) else 0) = _
  by_cases h : k < wd
  · rw [if_neg (by omega), if_pos h]
  · rw [if_pos (by omega), if_neg h]
theorem stall_lines {d wd : Nat} (hd : d ≤ 8) (hw : wd ≤ 16) (k : Nat) : ∃ l : List UInt8, l.length = min k wd ∧ (stallAt (stallCfg d wd) k) = { Co.new (stallCfg d wd) with ls := [List.replicate d 0 ++ l, List.replicate d 0] } := by
  induction k with
  | zero => exact ⟨[], by simp, by rw [List.append_nil]; rfl⟩
  | succ k ih =>
    obtain ⟨l, hl, hs⟩ := ih
    obtain ⟨-, -, he⟩ := stall_err hd hw hl hs
    rw [stallAt, Co.press, he]
    by_cases h : k < wd
    · rw [if_pos (by rw [if_pos h]), hs]
      refine ⟨l ++ [UInt8.ofNat (k % 256)], by rw [List.length_append, hl]; simp; omega, ?_⟩
      show ({ Co.new (stallCfg d wd) with ls := [(List.replicate d 0 ++ l) ++ [UInt8.ofNat (k % 256)], List.replicate d 0] } : Co) = _
      rw [List.append_assoc]
    · rw [if_neg (by rw [if_neg h]; decide), hs]
      exact ⟨l, by rw [hl]; omega, rfl⟩
theorem stall_fine {d wd : Nat} (hd : d ≤ 8) (hw1 : 1 ≤ wd) (hw : wd ≤ 16) : (stallCfg d wd).Fine :=
  ⟨by show (2 : Int) ≤ 2 ∧ (2 : Int) ≤ 8; omega, by show (0 : Int) ≤ 0 ∧ (0 : Int) ≤ 2 - 1; omega, by show (0 : Int) ≤ 1 ∧ (1 : Int) ≤ _; omega, by show (0 : Int) ≤ d ∧ (d : Int) ≤ 8; omega, by show (1 : Int) ≤ wd ∧ (wd : Int) ≤ 16; omega, by show (1 : Int) ≤ 1 ∧ (1 : Int) ≤ 3; omega, by show (0 : Int) ≤ 0 ∧ (0 : Int) ≤ 3; omega, .inl rfl,
   by show (0 : Int) ≤ 0 ∧ (0 : Int) ≤ 8; omega, by show (0 : Int) ≤ 0 ∧ (0 : Int) ≤ 4; omega, by show (3 : Int) ≤ 3 ∧ (3 : Int) ≤ 50; omega⟩
set_option maxHeartbeats 4000000 in
theorem law_CoreStall (delay window n : Int) (w : World) (lo0 : -9223372036854775808 ≤ delay) (hi0 : delay ≤ 9223372036854775807) (lo1 : -9223372036854775808 ≤ window) (hi1 : window ≤ 9223372036854775807) (lo2 : -9223372036854775808 ≤ n) (hi2 : n ≤ 9223372036854775807) :
    Calls Try.prog 3 #[.int .i64 delay, .int .i64 window, .int .i64 n] w fun r w' => r = .returned (.bool true) ∧ Below w.heap.size w w' := by
  by_cases hr : delay < 0 ∨ 8 < delay ∨ window < 1 ∨ 16 < window ∨ n < 0 ∨ 40 < n
  · obtain ⟨z1, d1⟩ : ∃ z, (decide (delay < 0)) = z := ⟨_, rfl⟩
    obtain ⟨z2, d2⟩ : ∃ z, (decide (delay > 8)) = z := ⟨_, rfl⟩
    obtain ⟨z3, d3⟩ : ∃ z, (decide (window < 1)) = z := ⟨_, rfl⟩
    obtain ⟨z4, d4⟩ : ∃ z, (decide (window > 16)) = z := ⟨_, rfl⟩
    obtain ⟨z5, d5⟩ : ∃ z, (decide (n < 0)) = z := ⟨_, rfl⟩
    obtain ⟨z6, d6⟩ : ∃ z, (decide (n > 40)) = z := ⟨_, rfl⟩
    have hz : (z1 || z2 || z3 || z4 || z5 || z6) = true := by
      rw [← d1, ← d2, ← d3, ← d4, ← d5, ← d6]
      simp only [Bool.or_eq_true, decide_eq_true_eq]
      omega
    have HZ := hide hz
    clear hr hz
    go_enter Try.func3, Try.ntmps3
    go_wp2_with fail
    refine Calls.mono (begun21 w) ?_
    rintro e w1 ⟨rfl, hb1⟩
    have HB1 := hide hb1
    clear hb1
    go_upto_region 4 with fail
    go_cut [36] (fun s36 wx => s36 = .bool true ∧ wx = w1)
    case first =>
      cases z1
      case true => go_wp2_with fail; go_meet; exact ⟨rfl, rfl⟩
      cases z2
      case true => go_wp2_with fail; go_meet; exact ⟨rfl, rfl⟩
      cases z3
      case true => go_wp2_with fail; go_meet; exact ⟨rfl, rfl⟩
      cases z4
      case true => go_wp2_with fail; go_meet; exact ⟨rfl, rfl⟩
      cases z5
      case true => go_wp2_with fail; go_meet; exact ⟨rfl, rfl⟩
      cases z6
      case true => go_wp2_with fail; go_meet; exact ⟨rfl, rfl⟩
      exact absurd HZ.out (by decide)
    case rest =>
    obtain ⟨rfl, rfl⟩ := hcut
    go_wp2_with fail
    go_ret
    exact ⟨rfl, HB1.out⟩
  · have d1 : decide (delay < 0) = false := decide_eq_false (by omega)
    have d2 : decide (delay > 8) = false := decide_eq_false (by omega)
    have d3 : decide (window < 1) = false := decide_eq_false (by omega)
    have d4 : decide (window > 16) = false := decide_eq_false (by omega)
    have d5 : decide (n < 0) = false := decide_eq_false (by omega)
    have d6 : decide (n > 40) = false := decide_eq_false (by omega)
    obtain ⟨d, hd⟩ : ∃ d : Nat, delay = (d : Int) := ⟨delay.toNat, by omega⟩
    obtain ⟨wd, hwd⟩ : ∃ d : Nat, window = (d : Int) := ⟨window.toNat, by omega⟩
    obtain ⟨m, hm⟩ : ∃ d : Nat, n = (d : Int) := ⟨n.toNat, by omega⟩
    have HD := hide hd
    have HWD := hide hwd
    have HMM := hide hm
    have hd8 : d ≤ 8 := by omega
    have hw1 : 1 ≤ wd := by omega
    have hw16 : wd ≤ 16 := by omega
    have hm40 : m ≤ 40 := by omega
    clear hr hd hwd hm
    go_enter Try.func3, Try.ntmps3
    go_wp2_with fail
    refine Calls.mono (begun21 w) ?_
    rintro e w1 ⟨rfl, hb1⟩
    have HB1 := hide hb1
    clear hb1
    go_upto_region 6 with fail
    clear d1 d2 d3 d4 d5 d6
    rw [HD.out, HWD.out, HMM.out]
    go_wp2_with fail
    refine Calls.mono (use_New (stallCfg d wd) (stall_fine hd8 hw1 hw16) w1) ?_
    rintro r w2 ⟨x, p2, rfl, hc2⟩
    have H2 := hide hc2
    clear hc2
    go_wp2_with fail
    go_loopg [10] m (fun gg s10 wr => ∃ (k : Nat) (p : CP), k ≤ m ∧ gg = m - k ∧ s10 = .int .i64 (k : Int) ∧ Hid (HC w1.heap.size w1 wr x p (stallAt (stallCfg d wd) k)))
    case atStart => exact ⟨0, p2, by omega, rfl, rfl, H2⟩
    case round =>
      obtain ⟨W1, hW1⟩ : ∃ W1, W1 = wr := ⟨_, rfl⟩
      subst hW1
      obtain ⟨k, p, hkm, rfl, rfl, H3⟩ := hrel
      obtain ⟨l, hl, hs⟩ := stall_lines hd8 hw16 k
      obtain ⟨hmn, hfr, her⟩ := stall_err hd8 hw16 hl hs
      obtain ⟨s, hss⟩ : ∃ s, s = stallAt (stallCfg d wd) k := ⟨_, rfl⟩
      have HNX : Hid (s.press (UInt8.ofNat (k % 256)) = stallAt (stallCfg d wd) (k + 1)) := by rw [hss]; rfl
      rw [← hss] at H3 hmn hfr her
      have HMN := hide hmn
      have HFR := hide hfr
      by_cases hlt : k < m
      · have hkm2 : (k : Int) < (m : Int) := by omega
        by_cases hkw : k < wd
        · have d1 : decide ((k : Int) ≥ (wd : Int)) = false := decide_eq_false (by omega)
          have d2 : ¬ wd ≤ k := by omega
          have HER : Hid (s.pressErr = 0) := by show _ = _; rw [her, if_pos hkw]
          clear hl hs hmn hfr her hss hkw
          go_wp2_with fail
          refine Calls.mono (use_Press H3.out (UInt8.ofNat (k % 256)) ?_ HER.out HNX.out) ?_
          · rw [UInt8.toNat_ofNat']; omega
          rintro r w4 ⟨rfl, p4, hc4, -⟩
          have H4 := hide hc4
          clear hc4
          go_wp2_with fail
          go_roundg (m - (k + 1))
          case measure => omega
          case rel => exact ⟨k + 1, p4, by omega, rfl, by go_num, H4⟩
        · have d1 : decide ((k : Int) ≥ (wd : Int)) = true := decide_eq_true (by omega)
          have d2 : wd ≤ k := by omega
          have HER : Hid (s.pressErr = 5) := by show _ = _; rw [her, if_neg hkw]
          clear hl hs hmn hfr her hss hkw
          go_wp2_with fail
          refine Calls.mono (use_Press H3.out (UInt8.ofNat (k % 256)) ?_ HER.out HNX.out) ?_
          · rw [UInt8.toNat_ofNat']; omega
          rintro r w4 ⟨rfl, p4, hc4, -⟩
          have H4 := hide hc4
          clear hc4
          go_wp2_with fail
          go_roundg (m - (k + 1))
          case measure => omega
          case rel => exact ⟨k + 1, p4, by omega, rfl, by go_num, H4⟩
      · obtain rfl : m = k := by omega
        obtain ⟨t, ht⟩ : ∃ t : Nat, min m wd = t := ⟨_, rfl⟩
        have HH : Hid ((s.mine.length : Int) = (d : Int) + (t : Int)) := by show _ = _; rw [hmn, ht]; omega
        have HFF : Hid ((front s.ls : Int) = (d : Int)) := by show _ = _; rw [hfr]
        have hmin : min (m : Int) (wd : Int) = (t : Int) := by omega
        have ht2 : t ≤ 40 := by omega
        clear hl hs hmn hfr her hss
        go_wp2_with fail
        refine Calls.mono (use_Head H3.out HH.out) ?_
        rintro r w4 ⟨rfl, hc4, -⟩
        have H4 := hide hc4
        clear hc4
        go_wp2_with fail
        refine Calls.mono (core_Queue H4.out.core) ?_
        rintro r w5 ⟨rfl, rfl⟩
        go_wp2_with fail
        refine Calls.mono (use_Front H4.out HFF.out) ?_
        rintro r w5 ⟨rfl, rfl⟩
        go_wp2_with fail
        go_ret
        exact ⟨rfl, Below_step HB1.out H4.out.bel⟩
end Go.Proofs.Ytbcgffgiifminaa
