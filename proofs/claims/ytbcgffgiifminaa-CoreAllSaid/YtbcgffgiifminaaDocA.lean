/-
  The document's player: which may be.
-/
import Derived.Test.YtbcgffgiifminaaStand
namespace Go.Proofs.Ytbcgffgiifminaa
open Go.RowKit
set_option maxRecDepth 10000
set_option linter.unusedVariables false
theorem ref_within (n a b : Int) (w : World) {r : Bool} (hr : inn n a b = r) : Calls Try.prog 67 #[.int .i64 n, .int .i64 a, .int .i64 b] w fun e w' => e = .returned (.bool r) ∧ w = w' := by
  by_cases h1 : a ≤ n
  · have d1 : decide (n ≥ a) = true := decide_eq_true h1
    obtain ⟨z, hz⟩ : ∃ z : Bool, decide (n ≤ b) = z := ⟨_, rfl⟩
    have HR : Hid (z = r) := by show _ = _; rw [← hr, inn, decide_eq_true h1, hz]; rfl
    clear h1 hr
    cases z
    all_goals
      go_enter Try.func67, Try.ntmps67
      go_wp2_with fail
      go_ret
      exact ⟨by rw [← HR.out]; rfl, rfl⟩
  · have d1 : decide (n ≥ a) = false := decide_eq_false h1
    have HR : Hid (false = r) := by show _ = _; rw [← hr, inn, decide_eq_false h1]; rfl
    clear h1 hr
    go_enter Try.func67, Try.ntmps67
    go_wp2_with fail
    go_ret
    exact ⟨by rw [← HR.out]; rfl, rfl⟩
set_option maxHeartbeats 8000000 in
theorem ref_MayCore (c : Cfg) {w : World} {r : Bool} (hr : r = c.may) :
    Calls Try.prog 34 #[c.val] w fun e w' => e = .returned (.bool r) ∧ Below w.heap.size w w' := by
  obtain ⟨n, me, id, delay, window, guess, order, branches, workers, room⟩ := c
  obtain ⟨z1, hz1⟩ : ∃ z, inn n 2 8 = z := ⟨_, rfl⟩
  obtain ⟨z2, hz2⟩ : ∃ z, inn me 0 (n - 1) = z := ⟨_, rfl⟩
  obtain ⟨z5, hz5⟩ : ∃ z, inn delay 0 8 = z := ⟨_, rfl⟩
  obtain ⟨z6, hz6⟩ : ∃ z, inn window 1 16 = z := ⟨_, rfl⟩
  obtain ⟨z7, hz7⟩ : ∃ z, inn guess 1 3 = z := ⟨_, rfl⟩
  obtain ⟨z8, hz8⟩ : ∃ z, inn order 0 3 = z := ⟨_, rfl⟩
  obtain ⟨z11, hz11⟩ : ∃ z, inn branches 0 8 = z := ⟨_, rfl⟩
  obtain ⟨z12, hz12⟩ : ∃ z, inn workers 0 4 = z := ⟨_, rfl⟩
  obtain ⟨z13, hz13⟩ : ∃ z, inn room 3 50 = z := ⟨_, rfl⟩
  obtain ⟨n3, hn3⟩ : ∃ z : Bool, decide (id < 0) = z := ⟨_, rfl⟩
  obtain ⟨n4, hn4⟩ : ∃ z : Bool, decide (id > 1099511627776) = z := ⟨_, rfl⟩
  obtain ⟨n9, hn9⟩ : ∃ z : Bool, (order != 0) = z := ⟨_, rfl⟩
  obtain ⟨n10, hn10⟩ : ∃ z : Bool, (guess != 2) = z := ⟨_, rfl⟩
  have HR : Hid (r = (z1 && z2 && !n3 && !n4 && (z5 && z6 && z7 && z8) && (!n9 || !n10) && z11 && z12 && z13)) := by
    show _ = _
    have e3 : decide (0 ≤ id) = !n3 := by rw [← hn3]; by_cases h : 0 ≤ id <;> simp [h] <;> omega
    have e4 : decide (id ≤ 1099511627776) = !n4 := by rw [← hn4]; by_cases h : id ≤ 1099511627776 <;> simp [h] <;> omega
    have e9 : decide (order = 0) = !n9 := by rw [← hn9]; by_cases h : order = 0 <;> simp [h]
    have e10 : decide (guess = 2) = !n10 := by rw [← hn10]; by_cases h : guess = 2 <;> simp [h]
    rw [hr, Cfg.may]
    simp only [hz1, hz2, hz5, hz6, hz7, hz8, hz11, hz12, hz13, e3, e4, e9, e10]
  have HZ1 := hide hz1
  have HZ2 := hide hz2
  have HZ5 := hide hz5
  have HZ6 := hide hz6
  have HZ7 := hide hz7
  have HZ8 := hide hz8
  have HZ11 := hide hz11
  have HZ12 := hide hz12
  have HZ13 := hide hz13
  clear hr hz1 hz2 hz5 hz6 hz7 hz8 hz11 hz12 hz13
  go_enter Try.func34, Try.ntmps34
  go_upto_region 1 with fail
  have HP : Hid (Arr 28 (w.alloc (.cells (Cfg.row ⟨n, me, id, delay, window, guess, order, branches, workers, room⟩).toArray 28)) w.heap.size (Cfg.row ⟨n, me, id, delay, window, guess, order, branches, workers, room⟩)) := Arr.new 28 w _ _ rfl
  have HB : Hid (Below w.heap.size w (w.alloc (.cells (Cfg.row ⟨n, me, id, delay, window, guess, order, branches, workers, room⟩).toArray 28))) := Below_new _ _
  simp only [Cfg.row] at HP HB
  generalize World.alloc w _ = w1 at HP HB ⊢
  obtain ⟨g1, hg1⟩ : ∃ g, g = w.heap.size := ⟨_, rfl⟩
  rw [← hg1] at HP ⊢
  clear hg1
  have c0 := HP.out.cell (j := 0) (by simp)
  have c1 := HP.out.cell (j := 1) (by simp)
  have c2 := HP.out.cell (j := 2) (by simp)
  have c3 := HP.out.cell (j := 3) (by simp)
  have c4 := HP.out.cell (j := 4) (by simp)
  have c5 := HP.out.cell (j := 5) (by simp)
  have c6 := HP.out.cell (j := 6) (by simp)
  have c7 := HP.out.cell (j := 7) (by simp)
  have c8 := HP.out.cell (j := 8) (by simp)
  have c9 := HP.out.cell (j := 9) (by simp)
  simp only [List.getElem_cons_zero, List.getElem_cons_succ] at c0 c1 c2 c3 c4 c5 c6 c7 c8 c9
  go_cut [59] (fun s wx => s = .bool (!(z1 && z2 && !n3 && !n4 && (z5 && z6 && z7 && z8) && (!n9 || !n10))) ∧ Below w1.heap.size w1 wx)
  case first =>
    cases z1
    case false =>
      go_wp2_with (go_at_call 67; (first | (with_reducible refine Calls.mono (ref_within _ _ _ _ HZ1.out) ?_) | (with_reducible refine Calls.mono (ref_within _ _ _ _ HZ2.out) ?_) | (with_reducible refine Calls.mono (ref_within _ _ _ _ HZ5.out) ?_) | (with_reducible refine Calls.mono (ref_within _ _ _ _ HZ6.out) ?_) | (with_reducible refine Calls.mono (ref_within _ _ _ _ HZ7.out) ?_) | (with_reducible refine Calls.mono (ref_within _ _ _ _ HZ8.out) ?_)); rintro e w2 ⟨rfl, rfl⟩)
      go_meet
      exact ⟨rfl, Below.refl _ _⟩
    have hww : IntKind.i64.wrap (n - 1) = n - 1 := IntWalk.i64_in _ ⟨by have := inn_iff.1 HZ1.out; omega, by have := inn_iff.1 HZ1.out; omega⟩
    cases z2
    case false =>
      go_wp2_with (go_at_call 67; (first | (with_reducible refine Calls.mono (ref_within _ _ _ _ HZ1.out) ?_) | (with_reducible refine Calls.mono (ref_within _ _ _ _ HZ2.out) ?_) | (with_reducible refine Calls.mono (ref_within _ _ _ _ HZ5.out) ?_) | (with_reducible refine Calls.mono (ref_within _ _ _ _ HZ6.out) ?_) | (with_reducible refine Calls.mono (ref_within _ _ _ _ HZ7.out) ?_) | (with_reducible refine Calls.mono (ref_within _ _ _ _ HZ8.out) ?_)); rintro e w2 ⟨rfl, rfl⟩)
      go_meet
      exact ⟨rfl, Below.refl _ _⟩
    cases n3
    case true =>
      go_wp2_with (go_at_call 67; (first | (with_reducible refine Calls.mono (ref_within _ _ _ _ HZ1.out) ?_) | (with_reducible refine Calls.mono (ref_within _ _ _ _ HZ2.out) ?_) | (with_reducible refine Calls.mono (ref_within _ _ _ _ HZ5.out) ?_) | (with_reducible refine Calls.mono (ref_within _ _ _ _ HZ6.out) ?_) | (with_reducible refine Calls.mono (ref_within _ _ _ _ HZ7.out) ?_) | (with_reducible refine Calls.mono (ref_within _ _ _ _ HZ8.out) ?_)); rintro e w2 ⟨rfl, rfl⟩)
      go_meet
      exact ⟨rfl, Below.refl _ _⟩
    cases n4
    case true =>
      go_wp2_with (go_at_call 67; (first | (with_reducible refine Calls.mono (ref_within _ _ _ _ HZ1.out) ?_) | (with_reducible refine Calls.mono (ref_within _ _ _ _ HZ2.out) ?_) | (with_reducible refine Calls.mono (ref_within _ _ _ _ HZ5.out) ?_) | (with_reducible refine Calls.mono (ref_within _ _ _ _ HZ6.out) ?_) | (with_reducible refine Calls.mono (ref_within _ _ _ _ HZ7.out) ?_) | (with_reducible refine Calls.mono (ref_within _ _ _ _ HZ8.out) ?_)); rintro e w2 ⟨rfl, rfl⟩)
      go_meet
      exact ⟨rfl, Below.refl _ _⟩
    cases z5
    case false =>
      go_wp2_with (go_at_call 67; (first | (with_reducible refine Calls.mono (ref_within _ _ _ _ HZ1.out) ?_) | (with_reducible refine Calls.mono (ref_within _ _ _ _ HZ2.out) ?_) | (with_reducible refine Calls.mono (ref_within _ _ _ _ HZ5.out) ?_) | (with_reducible refine Calls.mono (ref_within _ _ _ _ HZ6.out) ?_) | (with_reducible refine Calls.mono (ref_within _ _ _ _ HZ7.out) ?_) | (with_reducible refine Calls.mono (ref_within _ _ _ _ HZ8.out) ?_)); rintro e w2 ⟨rfl, rfl⟩)
      go_meet
      exact ⟨rfl, Below.refl _ _⟩
    cases z6
    case false =>
      go_wp2_with (go_at_call 67; (first | (with_reducible refine Calls.mono (ref_within _ _ _ _ HZ1.out) ?_) | (with_reducible refine Calls.mono (ref_within _ _ _ _ HZ2.out) ?_) | (with_reducible refine Calls.mono (ref_within _ _ _ _ HZ5.out) ?_) | (with_reducible refine Calls.mono (ref_within _ _ _ _ HZ6.out) ?_) | (with_reducible refine Calls.mono (ref_within _ _ _ _ HZ7.out) ?_) | (with_reducible refine Calls.mono (ref_within _ _ _ _ HZ8.out) ?_)); rintro e w2 ⟨rfl, rfl⟩)
      go_meet
      exact ⟨rfl, Below.refl _ _⟩
    cases z7
    case false =>
      go_wp2_with (go_at_call 67; (first | (with_reducible refine Calls.mono (ref_within _ _ _ _ HZ1.out) ?_) | (with_reducible refine Calls.mono (ref_within _ _ _ _ HZ2.out) ?_) | (with_reducible refine Calls.mono (ref_within _ _ _ _ HZ5.out) ?_) | (with_reducible refine Calls.mono (ref_within _ _ _ _ HZ6.out) ?_) | (with_reducible refine Calls.mono (ref_within _ _ _ _ HZ7.out) ?_) | (with_reducible refine Calls.mono (ref_within _ _ _ _ HZ8.out) ?_)); rintro e w2 ⟨rfl, rfl⟩)
      go_meet
      exact ⟨rfl, Below.refl _ _⟩
    cases z8
    case false =>
      go_wp2_with (go_at_call 67; (first | (with_reducible refine Calls.mono (ref_within _ _ _ _ HZ1.out) ?_) | (with_reducible refine Calls.mono (ref_within _ _ _ _ HZ2.out) ?_) | (with_reducible refine Calls.mono (ref_within _ _ _ _ HZ5.out) ?_) | (with_reducible refine Calls.mono (ref_within _ _ _ _ HZ6.out) ?_) | (with_reducible refine Calls.mono (ref_within _ _ _ _ HZ7.out) ?_) | (with_reducible refine Calls.mono (ref_within _ _ _ _ HZ8.out) ?_)); rintro e w2 ⟨rfl, rfl⟩)
      go_meet
      exact ⟨rfl, Below.refl _ _⟩
    cases n9
    case false =>
      go_wp2_with (go_at_call 67; (first | (with_reducible refine Calls.mono (ref_within _ _ _ _ HZ1.out) ?_) | (with_reducible refine Calls.mono (ref_within _ _ _ _ HZ2.out) ?_) | (with_reducible refine Calls.mono (ref_within _ _ _ _ HZ5.out) ?_) | (with_reducible refine Calls.mono (ref_within _ _ _ _ HZ6.out) ?_) | (with_reducible refine Calls.mono (ref_within _ _ _ _ HZ7.out) ?_) | (with_reducible refine Calls.mono (ref_within _ _ _ _ HZ8.out) ?_)); rintro e w2 ⟨rfl, rfl⟩)
      go_meet
      exact ⟨rfl, Below.refl _ _⟩
    cases n10
    case false =>
      go_wp2_with (go_at_call 67; (first | (with_reducible refine Calls.mono (ref_within _ _ _ _ HZ1.out) ?_) | (with_reducible refine Calls.mono (ref_within _ _ _ _ HZ2.out) ?_) | (with_reducible refine Calls.mono (ref_within _ _ _ _ HZ5.out) ?_) | (with_reducible refine Calls.mono (ref_within _ _ _ _ HZ6.out) ?_) | (with_reducible refine Calls.mono (ref_within _ _ _ _ HZ7.out) ?_) | (with_reducible refine Calls.mono (ref_within _ _ _ _ HZ8.out) ?_)); rintro e w2 ⟨rfl, rfl⟩)
      go_meet
      exact ⟨rfl, Below.refl _ _⟩
    case true =>
      go_wp2_with (go_at_call 67; (first | (with_reducible refine Calls.mono (ref_within _ _ _ _ HZ1.out) ?_) | (with_reducible refine Calls.mono (ref_within _ _ _ _ HZ2.out) ?_) | (with_reducible refine Calls.mono (ref_within _ _ _ _ HZ5.out) ?_) | (with_reducible refine Calls.mono (ref_within _ _ _ _ HZ6.out) ?_) | (with_reducible refine Calls.mono (ref_within _ _ _ _ HZ7.out) ?_) | (with_reducible refine Calls.mono (ref_within _ _ _ _ HZ8.out) ?_)); rintro e w2 ⟨rfl, rfl⟩)
      go_meet
      exact ⟨rfl, Below.refl _ _⟩
  case rest =>
  obtain ⟨rfl, hb1⟩ := hcut
  obtain ⟨y1, hy1⟩ : ∃ y, y = (z1 && z2 && !n3 && !n4 && (z5 && z6 && z7 && z8) && (!n9 || !n10)) := ⟨_, rfl⟩
  rw [← hy1] at HR ⊢
  have HB2 := hide (Below_step HB.out hb1)
  have c7 := below_cell hb1 c7
  have c8 := below_cell hb1 c8
  have c9 := below_cell hb1 c9
  obtain ⟨w2, hw2⟩ : ∃ w2, w2 = wc := ⟨_, rfl⟩
  subst hw2
  clear hb1 hy1 hn3 hn4 hn9 hn10 c0 c1 c2 c3 c4 c5 c6 HB HP
  cases y1
  case false =>
    go_wp2_with (go_at_call 67; (first | (with_reducible refine Calls.mono (ref_within _ _ _ _ HZ11.out) ?_) | (with_reducible refine Calls.mono (ref_within _ _ _ _ HZ12.out) ?_) | (with_reducible refine Calls.mono (ref_within _ _ _ _ HZ13.out) ?_)); rintro e w2 ⟨rfl, rfl⟩)
    go_ret
    exact ⟨by rw [HR.out]; rfl, HB2.out⟩
  cases z11
  case false =>
    go_wp2_with (go_at_call 67; (first | (with_reducible refine Calls.mono (ref_within _ _ _ _ HZ11.out) ?_) | (with_reducible refine Calls.mono (ref_within _ _ _ _ HZ12.out) ?_) | (with_reducible refine Calls.mono (ref_within _ _ _ _ HZ13.out) ?_)); rintro e w2 ⟨rfl, rfl⟩)
    go_ret
    exact ⟨by rw [HR.out]; rfl, HB2.out⟩
  cases z12
  case false =>
    go_wp2_with (go_at_call 67; (first | (with_reducible refine Calls.mono (ref_within _ _ _ _ HZ11.out) ?_) | (with_reducible refine Calls.mono (ref_within _ _ _ _ HZ12.out) ?_) | (with_reducible refine Calls.mono (ref_within _ _ _ _ HZ13.out) ?_)); rintro e w2 ⟨rfl, rfl⟩)
    go_ret
    exact ⟨by rw [HR.out]; rfl, HB2.out⟩
  cases z13
  case false =>
    go_wp2_with (go_at_call 67; (first | (with_reducible refine Calls.mono (ref_within _ _ _ _ HZ11.out) ?_) | (with_reducible refine Calls.mono (ref_within _ _ _ _ HZ12.out) ?_) | (with_reducible refine Calls.mono (ref_within _ _ _ _ HZ13.out) ?_)); rintro e w2 ⟨rfl, rfl⟩)
    go_ret
    exact ⟨by rw [HR.out]; rfl, HB2.out⟩
  case true =>
    go_wp2_with (go_at_call 67; (first | (with_reducible refine Calls.mono (ref_within _ _ _ _ HZ11.out) ?_) | (with_reducible refine Calls.mono (ref_within _ _ _ _ HZ12.out) ?_) | (with_reducible refine Calls.mono (ref_within _ _ _ _ HZ13.out) ?_)); rintro e w2 ⟨rfl, rfl⟩)
    go_ret
    exact ⟨by rw [HR.out]; rfl, HB2.out⟩
end Go.Proofs.Ytbcgffgiifminaa
