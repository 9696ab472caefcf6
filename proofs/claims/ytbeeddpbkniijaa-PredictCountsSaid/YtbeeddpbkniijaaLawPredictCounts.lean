/-
  PredictCounts: the walk.
-/
import Derived.Test.YtbeeddpbkniijaaLaw18
import Derived.Deep.QuietTactic
import Derived.BigQuiet
namespace Go.Proofs.Ytbeeddpbkniijaa
open Go.RowKit
set_option maxRecDepth 10000
set_option linter.unusedVariables false
open Prd
set_option maxHeartbeats 2000000 in
set_option maxRecDepth 10000 in
theorem counts_1 {w : World} {g4 g5 o m c B : Nat} {A : Option Addr} {past : List UInt8} (a4 : Arr 3 w g4 [.int .i64 (o : Int)]) (a5 : Arr 22 w g5 [.slice A m c]) (hP : LiesB w B A m past) (hmc : m ≤ c) (hm : m ≤ 1000) (ho : o ≤ m) (x : UInt8) :
    Calls Try.prog 21 #[.int .u8 (x.toNat : Int), .pointer (some ⟨g4, 0, none⟩), .pointer (some ⟨g5, 0, none⟩)] w fun e w' => e = .returned (.int .i64 ((cnt o past m x : Nat) : Int)) ∧ ∃ k, w' = w.drewN k := by
  have HP := hide hP
  have q4 := a4.cell (j := 0) (by simp)
  have q5 := a5.cell (j := 0) (by simp)
  simp only [List.getElem_cons_zero] at q4 q5
  clear a4 a5 hP
  go_enter Try.func21, Try.ntmps21
  go_wp2_with fail
  go_loopg [5, 6] (m - o) (fun gg s5 s6 wr => ∃ i p nd : Nat, o ≤ i ∧ i ≤ m ∧ p ≤ i ∧ gg = m - i ∧ s6 = .int .i64 (i : Int) ∧ s5 = .int .i64 (p : Int) ∧ Hid (p = cnt o past i x) ∧ wr = w.drewN nd)
  case atStart => exact ⟨o, 0, 0, by omega, by omega, by omega, rfl, rfl, rfl, (cnt_early o past o x (Nat.le_refl _)).symm, rfl⟩
  case round =>
    obtain ⟨i, p, nd, hoi, him, hpi, rfl, rfl, rfl, HC, rfl⟩ := hrel
    by_cases hlt : i < m
    · obtain ⟨bl, off, hlp, rfl, -, hcp⟩ := HP.out.at_ hlt
      obtain ⟨y, hy⟩ : ∃ y, y = past[i] := ⟨_, rfl⟩
      rw [← hy] at hcp
      have HY : Hid (past.getD i 0 = y) := by
        show _ = _
        rw [List.getD_eq_getElem?_getD, List.getElem?_eq_getElem hlp, hy]; rfl
      have hil : (i : Int) < (m : Int) := by omega
      by_cases hxy : y = x
      · subst hxy
        obtain ⟨d, hd⟩ : ∃ d, d = i - o := ⟨_, rfl⟩
        obtain ⟨e, he⟩ : ∃ e, e = m - o := ⟨_, rfl⟩
        obtain ⟨z, hz⟩ : ∃ z, z = hit o past i := ⟨_, rfl⟩
        have HZ := hide hz
        obtain ⟨X, hX⟩ : ∃ X, X = (past.drop d).take o := ⟨_, rfl⟩
        obtain ⟨Y, hY⟩ : ∃ Y, Y = past.drop e := ⟨_, rfl⟩
        have hXY : (X == Y) = z := by
          rw [hX, hY, hz, hd, he, ← HP.out.len]; rfl
        have L1 : LiesB w B (cutA (some ⟨bl, off, none⟩) c d 1) o X := by
          have := (HP.out.cut (k := d) hmc).take o
          rw [Nat.min_eq_left (by omega)] at this
          rw [hX]; exact this
        have L2 : LiesB w B (cutA (some ⟨bl, off, none⟩) c e 1) o Y := by
          have := HP.out.cut (k := e) hmc
          rw [show m - e = o by omega] at this
          rw [hY]; exact this
        have hs1 := fun k => run_stringB (c := c - d) (L1.drewN k)
        have hs2 := fun k => run_stringB (c := c - e) (L2.drewN k)
        have e1 : (i : Int) - (o : Int) = (d : Int) := by omega
        have e2 : i - d = o := by omega
        have e3 : (m : Int) - (o : Int) = (e : Int) := by omega
        have e4 : m - e = o := by omega
        have e5 : d ≤ i := by omega
        have e6 : i ≤ c := by omega
        have e7 : e ≤ m := by omega
        clear hd he hz hX hY L1 L2 hy
        cases z
        · go_wp2_with fail
          go_quiet (fail)
          go_wp2_with fail
          go_roundg (m - (i + 1))
          case measure => omega
          case rel =>
            refine ⟨i + 1, p, _, by omega, by omega, by omega, rfl, by go_num, rfl, ?_, rfl⟩
            show _ = _
            rw [cnt_succ, ← HC.out, if_neg (by rintro ⟨_, h2, _⟩; rw [← HZ.out] at h2; cases h2), Nat.add_zero]
        · go_wp2_with fail
          go_quiet (fail)
          go_wp2_with fail
          go_roundg (m - (i + 1))
          case measure => omega
          case rel =>
            refine ⟨i + 1, p + 1, _, by omega, by omega, by omega, rfl, by go_num, by go_num, ?_, rfl⟩
            show _ = _
            rw [cnt_succ, ← HC.out, if_pos ⟨hoi, HZ.out.symm, HY.out⟩]
      · have hne : Hid (past.getD i 0 ≠ x) := by show _ ≠ _; rw [HY.out]; exact hxy
        have hnn : y.toNat ≠ x.toNat := fun e => hxy (UInt8.toNat_inj.1 e)
        have dne : ((y.toNat : Int) == (x.toNat : Int)) = false := by rw [beq_eq_false_iff_ne]; omega
        clear hy hxy
        go_wp2_with fail
        go_quiet (fail)
        go_wp2_with fail
        go_roundg (m - (i + 1))
        case measure => omega
        case rel =>
          refine ⟨i + 1, p, _, by omega, by omega, by omega, rfl, by go_num, rfl, ?_, rfl⟩
          show _ = _
          rw [cnt_succ, ← HC.out, if_neg (by rintro ⟨_, _, h3⟩; exact hne.out h3), Nat.add_zero]
    · obtain rfl : i = m := by omega
      go_wp2_with fail
      go_ret
      exact ⟨by rw [← HC.out]; rfl, _, rfl⟩
set_option maxHeartbeats 2000000 in
set_option maxRecDepth 10000 in
theorem counts_2 {w : World} {g m c B : Nat} {A : Option Addr} {L : List UInt8} (a5 : Arr 22 w g [.slice A m c]) (hP : LiesB w B A m L) (hm : m ≤ 1000) (x : UInt8) (p : Nat) (hp : p < m) (hpx : L.getD p 0 = x) (hpn : ∀ i, i < p → L.getD i 0 ≠ x) :
    Calls Try.prog 22 #[.int .u8 (x.toNat : Int), .pointer (some ⟨g, 0, none⟩)] w fun e w' => e = .returned (.int .i64 (p : Int)) ∧ w = w' := by
  have HP := hide hP
  have HX := hide hpx
  have HN := hide hpn
  have q5 := a5.cell (j := 0) (by simp)
  simp only [List.getElem_cons_zero] at q5
  clear a5 hP hpx hpn
  go_enter Try.func22, Try.ntmps22
  go_wp2_with fail
  go_loopg [4] p (fun gg s wr => ∃ i : Nat, i ≤ p ∧ gg = p - i ∧ s = .int .i64 (i : Int) ∧ w = wr)
  case atStart => exact ⟨0, by omega, rfl, rfl, rfl⟩
  case round =>
    obtain ⟨i, hi, rfl, rfl, rfl⟩ := hrel
    have him : i < m := by omega
    obtain ⟨bl, off, hlp, rfl, -, hcp⟩ := HP.out.at_ him
    obtain ⟨y, hy⟩ : ∃ y, y = L[i] := ⟨_, rfl⟩
    rw [← hy] at hcp
    have HY : Hid (L.getD i 0 = y) := by
      show _ = _
      rw [List.getD_eq_getElem?_getD, List.getElem?_eq_getElem hlp, hy]; rfl
    have hil : (i : Int) < (m : Int) := by omega
    by_cases hip : i = p
    · subst hip
      obtain rfl : y = x := by rw [← HY.out, HX.out]
      clear hy
      go_wp2_with fail
      go_ret
      exact ⟨rfl, rfl⟩
    · have hne : y ≠ x := by rw [← HY.out]; exact HN.out i (by omega)
      have hnn : y.toNat ≠ x.toNat := fun e => hne (UInt8.toNat_inj.1 e)
      have dne : ((y.toNat : Int) == (x.toNat : Int)) = false := by rw [beq_eq_false_iff_ne]; omega
      clear hy hne hnn
      go_wp2_with fail
      go_roundg (p - (i + 1))
      case measure => omega
      case rel => exact ⟨i + 1, by omega, rfl, by go_num, rfl⟩

theorem counts_at {b : By} {past L : List UInt8} (h : L = b.rank past) (x : UInt8) : ∃ p, p < 256 ∧ L.getD p 0 = x ∧ ∀ i, i < p → L.getD i 0 ≠ x := by
  have hm := b.rank_mem past x
  have hs := b.rank_sorted past
  have hl := b.rank_len past
  rw [← h] at hm hs hl
  obtain ⟨p, hp, e⟩ := List.mem_iff_getElem.1 hm
  have e2 : L.getD p 0 = x := by rw [List.getD_eq_getElem?_getD, List.getElem?_eq_getElem hp]; exact e
  refine ⟨p, by omega, e2, fun i hi hx => ?_⟩
  have := hs.idx hi hp
  rw [hx, e2] at this
  omega
theorem counts_lt {o : Int} {past L : List UInt8} (h : L = By.rank ⟨2, o, []⟩ past) {p p2 : Nat} {v u : UInt8} (hp : p < 256) (hp2 : p2 < 256) (hv : L.getD p 0 = v) (hu : L.getD p2 0 = u) (hw : By.wgt ⟨2, o, []⟩ past u < By.wgt ⟨2, o, []⟩ past v) : p < p2 := by
  have hs := By.rank_sorted ⟨2, o, []⟩ past
  have hl := By.rank_len ⟨2, o, []⟩ past
  rw [← h] at hs hl
  have hk : By.key ⟨2, o, []⟩ past v < By.key ⟨2, o, []⟩ past u := by
    refine By.key_of_hi ?_
    have l1 := By.wgt_le ⟨2, o, []⟩ past v
    unfold By.hi
    rw [if_neg (by intro h; cases h), if_neg (by intro h; cases h)]
    omega
  rcases Nat.lt_trichotomy p p2 with h1 | h1 | h1
  · exact h1
  · subst h1; rw [hv] at hu; rw [hu] at hk; omega
  · have := hs.idx h1 (by omega)
    rw [hv, hu] at this
    omega
set_option maxHeartbeats 4000000 in
set_option maxRecDepth 10000 in
theorem law_PredictCounts (oi : Int) (A : Option Addr) (n c : Nat) (l : List UInt8) (vi ui : Int) (w : World) (olo : -9223372036854775808 ≤ oi) (ohi : oi ≤ 9223372036854775807) (hA : LiesB w w.heap.size A n l) (hc : n ≤ c) (hcm : c ≤ maxLen) (vlo : 0 ≤ vi) (vhi : vi ≤ 255) (ulo : 0 ≤ ui) (uhi : ui ≤ 255) :
    Calls Try.prog 9 #[.int .i64 oi, .slice A n c, .int .u8 vi, .int .u8 ui] w fun e w' => e = .returned (.bool true) ∧ Below w.heap.size w w' := by
  have HA := hide hA
  clear hA hcm
  obtain ⟨v, rfl⟩ : ∃ v : UInt8, vi = (v.toNat : Int) := ⟨UInt8.ofNat vi.toNat, by rw [UInt8.toNat_ofNat_of_lt' (by omega : vi.toNat < 256)]; omega⟩
  obtain ⟨u, rfl⟩ : ∃ u : UInt8, ui = (u.toNat : Int) := ⟨UInt8.ofNat ui.toNat, by rw [UInt8.toNat_ofNat_of_lt' (by omega : ui.toNat < 256)]; omega⟩
  clear vlo vhi ulo uhi
  go_enter Try.func9, Try.ntmps9
  go_upto_region 1 with fail
  generalize hw0 : World.alloc (World.alloc w _) _ = w0
  obtain ⟨g5, hg5⟩ : ∃ g, g = w.heap.size + 1 := ⟨_, rfl⟩
  have HT : Hid (Arr 3 w0 w.heap.size [.int .i64 oi] ∧ Arr 22 w0 g5 [.slice A n c] ∧ Below w.heap.size w w0) := by
    have a1 := Arr.new 3 w #[.int .i64 oi] _ rfl
    have b1 := Below_new w (.cells #[.int .i64 oi] 3)
    have s1 := World.size_alloc w (.cells #[.int .i64 oi] 3)
    have a2 := Arr.new 22 (World.alloc w (.cells #[.int .i64 oi] 3)) #[.slice A n c] _ rfl
    have b2 := Below_new (World.alloc w (.cells #[.int .i64 oi] 3)) (.cells #[.slice A n c] 22)
    rw [s1] at a2
    show _ ∧ _
    rw [← hw0, hg5]
    exact ⟨a1.belowN b2, a2, Below_step b1 b2⟩
  have hgw : w.heap.size < g5 := by omega
  have hg0 : g5 < w0.heap.size := HT.out.2.1.lt
  rw [← hg5]
  clear hw0 hg5
  go_wp2_with fail
  refine Calls.mono (begun18 w0) ?_
  rintro e w1 ⟨rfl, hb1⟩
  have H4 := hide (HT.out.1.belowN hb1)
  have H5 := hide (HT.out.2.1.belowN hb1)
  have HB1 := hide (Below_step HT.out.2.2 hb1)
  have hg1 : g5 < w1.heap.size := H5.out.lt
  have q5 := H5.out.cell (j := 0) (by simp)
  have f5 := H5.out.frozen 0
  simp only [List.getElem_cons_zero] at q5
  clear hb1 HT hg0
  go_wp2_with fail
  refine Calls.mono (law_Short A n c 50 50 w1 hc rfl (by omega)) ?_
  rintro e w2 ⟨rfl, rfl⟩
  obtain ⟨m, hm⟩ : ∃ m, m = min 50 n := ⟨_, rfl⟩
  rw [← hm]
  have hm50 : m ≤ 50 := by omega
  have hmc : m ≤ c := by omega
  have HM := hide hm
  clear hm
  go_upto_region 5 with fail
  have hm := HM.out
  generalize hw3 : World.setCell w1 _ _ = w3
  have KS := Keeps.setCell w1 ⟨g5, 0, none⟩ (.slice A m c)
  obtain ⟨past, hp⟩ : ∃ p, p = l.take 50 := ⟨_, rfl⟩
  have T3 : Hid (Arr 3 w3 w.heap.size [.int .i64 oi] ∧ Arr 22 w3 g5 [.slice A m c] ∧ Below w.heap.size w w3) := by
    have h5 := H5.out.set 0 (.slice A m c)
    simp only [List.set_cons_zero] at h5
    rw [hw3] at h5 KS
    exact ⟨H4.out.keeps KS (by show ¬ w.heap.size = g5; omega), h5, HB1.out.trans (KS.below (by omega) (fun k hk => by show ¬ k = g5; omega))⟩
  have HP : Hid (LiesB w3 w.heap.size A m past) := by
    have := (HA.out.below T3.out.2.2).take 50
    rwa [← hm, ← hp] at this
  have hg3 : g5 < w3.heap.size := T3.out.2.1.lt
  clear hw3 KS H4 H5 HB1 HA hm HM hp q5 f5 hg1
  have q4 := T3.out.1.cell (j := 0) (by simp)
  have q5 := T3.out.2.1.cell (j := 0) (by simp)
  simp only [List.getElem_cons_zero] at q4 q5
  by_cases h0 : oi < 0
  · have d0 : decide (oi < 0) = true := decide_eq_true h0
    clear h0
    go_wp2_with fail
    go_ret
    exact ⟨rfl, T3.out.2.2⟩
  have d0 : decide (oi < 0) = false := decide_eq_false h0
  by_cases h1 : oi > 3
  · have d1 : decide (oi > 3) = true := decide_eq_true h1
    clear h0 h1
    go_wp2_with fail
    go_ret
    exact ⟨rfl, T3.out.2.2⟩
  have d1 : decide (oi > 3) = false := decide_eq_false h1
  by_cases hvu : v = u
  · subst hvu
    clear h0 h1
    go_wp2_with fail
    go_ret
    exact ⟨rfl, T3.out.2.2⟩
  have hvn : v.toNat ≠ u.toNat := fun e => hvu (UInt8.toNat_inj.1 e)
  have dvu : ((v.toNat : Int) == (u.toNat : Int)) = false := by rw [beq_eq_false_iff_ne]; omega
  obtain ⟨o, rfl⟩ : ∃ o : Nat, oi = (o : Int) := ⟨oi.toNat, by omega⟩
  have ho3 : o ≤ 3 := by omega
  by_cases hmo : m < o
  · have dm : decide ((m : Int) < (o : Int)) = true := decide_eq_true (by omega)
    clear h0 h1 hvn
    go_wp2_with fail
    go_ret
    exact ⟨rfl, T3.out.2.2⟩
  have dm : decide ((m : Int) < (o : Int)) = false := decide_eq_false (by omega)
  have hmo2 : o ≤ m := by omega
  have HVU := hide hvu
  clear h0 h1 hvn hmo hvu olo ohi
  go_wp2_with fail
  refine Calls.mono (pred_Rank ⟨2, (o : Int), []⟩ none 0 0 A m c w.heap.size past 256 w3 HP.out (LiesB.nil _ _ _) T3.out.2.2.size hmc (by omega)) ?_
  rintro e w4 ⟨A4, n4, c4, rfl, l4, k4, hb4⟩
  rw [if_pos (by unfold By.may; simp; omega), show (min (max (256 : Int) 0) 256).toNat = 256 by decide, List.take_of_length_le (Nat.le_of_eq (By.rank_len _ _))] at l4
  obtain rfl : n4 = 256 := by have := l4.len; rw [By.rank_len] at this; omega
  have L4 := hide l4
  have H4 := hide (T3.out.1.belowN hb4)
  have H5 := hide (T3.out.2.1.belowN hb4)
  have HB4 := hide (Below_step T3.out.2.2 hb4)
  have HP4 := hide (HP.out.below (hb4.mono T3.out.2.2.size))
  clear l4 hb4 T3 HP q4 q5
  go_upto_region 9 with fail
  generalize hw5 : World.alloc w4 _ = w5
  obtain ⟨g11, hg11⟩ : ∃ g, g = w4.heap.size := ⟨_, rfl⟩
  obtain ⟨L, hL⟩ : ∃ L, L = By.rank ⟨2, (o : Int), []⟩ past := ⟨_, rfl⟩
  rw [← hL] at L4
  have HL := hide hL
  have T5 : Hid (Arr 3 w5 w.heap.size [.int .i64 (o : Int)] ∧ Arr 22 w5 g5 [.slice A m c] ∧ Arr 22 w5 g11 [.slice A4 256 c4] ∧ LiesB w5 w.heap.size A m past ∧ LiesB w5 g11 A4 256 L ∧ Below w.heap.size w w5) := by
    show _ ∧ _
    rw [← hw5, hg11]
    have bn := Below_new w4 (.cells #[.slice A4 256 c4] 22)
    exact ⟨H4.out.belowN bn, H5.out.belowN bn, Arr.new 22 w4 _ _ rfl, HP4.out.below (bn.mono HB4.out.size), L4.out.below bn, Below_step HB4.out bn⟩
  rw [← hg11]
  have q11 := T5.out.2.2.1.cell (j := 0) (by simp)
  simp only [List.getElem_cons_zero] at q11
  obtain ⟨a, ha⟩ : ∃ a, a = cnt o past m v := ⟨_, rfl⟩
  obtain ⟨b, hb⟩ : ∃ b, b = cnt o past m u := ⟨_, rfl⟩
  have HAB := hide (And.intro ha hb)
  clear hw5 hg11 H4 H5 HB4 HP4 L4 hL ha hb
  go_wp2_with fail
  refine Calls.mono (counts_1 T5.out.1 T5.out.2.1 T5.out.2.2.2.1 hmc (by omega) hmo2 v) ?_
  rintro e w6 ⟨rfl, k6, rfl⟩
  rw [← HAB.out.1]
  go_wp2_with fail
  refine Calls.mono (counts_1 (T5.out.1.drewN k6) (T5.out.2.1.drewN k6) (T5.out.2.2.2.1.drewN k6) hmc (by omega) hmo2 u) ?_
  rintro e w7 ⟨rfl, k7, rfl⟩
  rw [← HAB.out.2]
  by_cases hab : a ≤ b
  · have dab : decide ((a : Int) ≤ (b : Int)) = true := decide_eq_true (by omega)
    have dab2 : decide (a ≤ b) = true := decide_eq_true (by omega)
    clear hab
    go_wp2_with fail
    go_ret
    exact ⟨rfl, Below_drewN T5.out.2.2.2.2.2 _⟩
  have dab : decide ((a : Int) ≤ (b : Int)) = false := decide_eq_false (by omega)
  have dab2 : decide (a ≤ b) = false := decide_eq_false (by omega)
  obtain ⟨p, hp, hpv, hpn⟩ := counts_at HL.out v
  obtain ⟨p2, hp2, hpu, hpn2⟩ := counts_at HL.out u
  have hpp : p < p2 := by
    refine counts_lt HL.out hp hp2 hpv hpu ?_
    rw [By.wgt, By.wgt, if_pos ⟨rfl, by rw [T5.out.2.2.2.1.len]; exact hmo2⟩, if_pos ⟨rfl, by rw [T5.out.2.2.2.1.len]; exact hmo2⟩, T5.out.2.2.2.1.len]
    show cnt o past m u < cnt o past m v
    rw [← HAB.out.1, ← HAB.out.2]; omega
  have dpp : decide ((p : Int) < (p2 : Int)) = true := decide_eq_true (by omega)
  have dpp2 : decide (p < p2) = true := decide_eq_true hpp
  have HV := hide (And.intro hpv hpn)
  have HU := hide (And.intro hpu hpn2)
  clear hab hpv hpn hpu hpn2 hpp
  go_wp2_with fail
  refine Calls.mono (counts_2 (T5.out.2.2.1.drewN (k6 + k7)) (T5.out.2.2.2.2.1.drewN (k6 + k7)) (by omega) v p hp HV.out.1 HV.out.2) ?_
  rintro e w8 ⟨rfl, rfl⟩
  go_wp2_with fail
  refine Calls.mono (counts_2 (T5.out.2.2.1.drewN (k6 + k7)) (T5.out.2.2.2.2.1.drewN (k6 + k7)) (by omega) u p2 hp2 HU.out.1 HU.out.2) ?_
  rintro e w8 ⟨rfl, rfl⟩
  go_wp2_with fail
  go_ret
  exact ⟨rfl, Below_drewN T5.out.2.2.2.2.2 _⟩
end Go.Proofs.Ytbeeddpbkniijaa
