/-
  InputStays: the walk.
-/
import Derived.Test.YtigejejiodkjmaaLaw13
import Derived.Test.YtigejejiodkjmaaShort
namespace Go.Proofs.Ytigejejiodkjmaa
open Go.RowKit
set_option linter.unusedVariables false
set_option maxHeartbeats 1000000 in
set_option maxRecDepth 10000 in
theorem law_InputStays (A : Option Addr) (n c : Nat) (b : List UInt8) (A2 : Option Addr) (n2 c2 : Nat) (d : List UInt8) (first : Int) (w : World) (hA : LiesB w w.heap.size A n b) (hc : n ≤ c) (_ : c ≤ maxLen)
    (hA2 : LiesB w w.heap.size A2 n2 d) (hc2 : n2 ≤ c2) (_ : c2 ≤ maxLen) (lo : -9223372036854775808 ≤ first) (hi : first ≤ 9223372036854775807) :
    Calls Try.prog 7 #[.slice A n c, .slice A2 n2 c2, .int .i64 first] w fun e w' => e = .returned (.bool true) ∧ Below w.heap.size w w' := by
  obtain ⟨m1, hm1⟩ : ∃ m, m = min 40 n := ⟨_, rfl⟩
  obtain ⟨m2, hm2⟩ : ∃ m, m = min 40 n2 := ⟨_, rfl⟩
  obtain ⟨b', hb'⟩ : ∃ l, l = b.take 40 := ⟨_, rfl⟩
  obtain ⟨d', hd'⟩ : ∃ l, l = d.take 40 := ⟨_, rfl⟩
  have hl1 : m1 ≤ 40 := by omega
  have hc2' : m2 ≤ c2 := by omega
  have hl2 : m2 ≤ 40 := by omega
  have hb0 := hA.take 40
  have hd0 := hA2.take 40
  rw [← hm1, ← hb'] at hb0
  rw [← hm2, ← hd'] at hd0
  have Hm1 := hide hm1
  have Hm2 := hide hm2
  clear hA hA2 hb' hd' hm1 hm2
  go_enter Try.func7, Try.ntmps7
  go_wp2_with fail
  refine Calls.mono (begun13 _) ?_
  rintro e w1 ⟨rfl, hb1⟩
  have Hb0 := hide hb0
  have Hd0 := hide hd0
  go_wp2_with fail
  refine Calls.mono (law_Short _ _ _ _ 40 _ hc (by omega) (by omega)) ?_
  rintro e w2 ⟨rfl, rfl⟩
  rw [← Hm1.out]
  go_wp2_with fail
  refine Calls.mono (law_Short _ _ _ _ 40 _ hc2 (by omega) (by omega)) ?_
  rintro e w2 ⟨rfl, rfl⟩
  rw [← Hm2.out]
  by_cases h1 : first < 0
  · go_wp2_with fail
    go_ret
    exact ⟨rfl, hb1⟩
  by_cases h2 : (m1 : Int) < first
  · go_wp2_with fail
    go_ret
    exact ⟨rfl, hb1⟩
  obtain ⟨f, rfl⟩ : ∃ f : Nat, first = (f : Int) := ⟨first.toNat, by omega⟩
  go_wp2_with fail
  refine Calls.mono (input_New_v _ 0 _ rfl) ?_
  rintro e w2 ⟨p, g, rfl, k1, k2, k3, k4⟩
  have M1 := hide (MyLine.new hb1 k1 k2 k3 k4)
  clear k1 k2 k3 k4
  have hbw := M1.out.2.1
  have hb2 := hb0
  obtain ⟨hb0, hd0⟩ : LiesB w2 w.heap.size A m1 b' ∧ LiesB w2 w.heap.size A2 m2 d' := ⟨Hb0.out.below hbw, Hd0.out.below hbw⟩
  have hbl := hb0.len
  have hdl := hd0.len
  have e1 := putAdd_zero (b := b') (by omega)
  have e2 := putErr_zero (b := b') (by omega)
  have HD := hide (M1.out.dis hb0)
  have HL := hide (LiesB.more hb0 hbw.size)
  have He := hide e1
  have He2 := hide e2
  have Hbl := hide hbl
  have Hdl := hide hdl
  clear e1 e2 hbl hdl hb2 hb1 hb0 hd0 hbw
  go_wp2_with fail
  refine Calls.mono (line_Put_v p g [] 0 A m1 c b' b' m1 0 _ M1.out.1 HL.out HD.out (by omega) (by omega) (by omega) He.out (by rw [Hbl.out]) He2.out) ?_
  rintro e w3 ⟨rfl, g3, k1, k2, k3⟩
  rw [List.nil_append] at k1
  have M2 := hide (M1.out.step k1 k2 k3)
  clear k1 k2 k3
  have HB2 := hide (Hd0.out.below M2.out.2.1)
  have HD2 := hide (M2.out.dis HB2.out)
  have HL2 := hide (HB2.out.more M2.out.2.1.size)
  obtain ⟨E, hE⟩ : ∃ E, E = putErr b' f d' := ⟨_, rfl⟩
  obtain ⟨add, hadd⟩ : ∃ a, a = putAdd b' f d' := ⟨_, rfl⟩
  have hadd2 : add = d'.drop (m1 - f) := by
    rw [hadd, putAdd_form (by rw [Hbl.out]; omega), Hbl.out, List.take_of_length_le]
    rw [List.length_drop, Hdl.out]; omega
  have Hadd := hide hadd
  have HE := hide hE
  have Hadd2 := hide hadd2
  clear hE hadd hadd2
  go_wp2_with fail
  refine Calls.mono (line_Put_v p g3 b' f A2 m2 c2 d' add add.length E _ M2.out.1 HL2.out HD2.out (by omega) (by omega) (by omega) Hadd.out.symm rfl HE.out.symm) ?_
  rintro e w4 ⟨rfl, g4, k1, k2, k3⟩
  have M3 := hide (M2.out.step k1 k2 k3)
  clear k1 k2 k3
  obtain ⟨x, hx⟩ : ∃ x, x = b' ++ add := ⟨_, rfl⟩
  obtain ⟨mx, hmx⟩ : ∃ m, m = x.length := ⟨_, rfl⟩
  have hmx2 : mx = m1 + (m2 - (m1 - f)) := by rw [hmx, hx, List.length_append, Hadd2.out, List.length_drop, Hbl.out, Hdl.out]
  have hfm : f ≤ m1 := by omega
  rw [← hx] at M3
  have Hx := hide hx
  have Hmx := hide hmx
  have Hmx2 := hide hmx2
  clear hx hmx hmx2
  go_wp2_with fail
  refine Calls.mono (line_All_v p g4 x mx _ M3.out.1 Hmx.out.symm) ?_
  rintro e w5 ⟨A5, c5, rfl, own5, hb5⟩
  have M4 := hide (M3.out.below hb5)
  clear hb5
  have hcap := own5.cap
  have hbl2 := Hbl.out
  have hdl2 := Hdl.out
  obtain ⟨M, hM⟩ : ∃ M, M = m2 - (m1 - f) := ⟨_, rfl⟩
  have hmx3 : mx = m1 + M := by rw [hM]; exact Hmx2.out
  have L1 : LiesB w5 w5.heap.size A5 m1 b' := by
    have h := own5.lies.take m1
    rw [Hx.out, List.take_append_of_le_length (Nat.le_of_eq hbl2.symm), List.take_of_length_le (Nat.le_of_eq hbl2), Nat.min_eq_left (by omega)] at h
    exact h
  have L2 : LiesB w5 w.heap.size A m1 b' := Hb0.out.below M4.out.2.1
  have L3 : LiesB w5 w5.heap.size (cutA A5 c5 m1 1) (mx - m1) add := by
    have h := own5.lies.cut (k := m1) hcap
    rw [Hx.out, List.drop_append_of_le_length (Nat.le_of_eq hbl2.symm), List.drop_of_length_le (Nat.le_of_eq hbl2)] at h
    exact h
  have L4 : LiesB w5 w.heap.size (cutA A2 c2 (m2 - M) 1) (m2 - (m2 - M)) add := by
    have h := (Hd0.out.below M4.out.2.1).cut (k := m2 - M) hc2'
    have e : d'.drop (m2 - M) = add := by
      rw [Hadd2.out]
      by_cases h2 : m1 - f ≤ m2
      · congr 1; omega
      · rw [List.drop_of_length_le (by omega), List.drop_of_length_le (by omega)]
    rw [e] at h
    exact h
  have hs1 := fun k => run_stringB (c := c5) (L1.drewN k)
  have hs2 := fun k => run_stringB (c := c) (L2.drewN k)
  have hmc5 : m1 ≤ c5 := by omega
  have hM2 : max 0 ((f : Int) + (m2 : Int) - (m1 : Int)) = (M : Int) := by omega
  have HM := hide hM
  have HMX := hide hmx3
  have H3 := hide L3
  have H4 := hide L4
  have Hc5 := hide hcap
  clear hM hmx3 L1 L2 L3 L4 hbl2 hdl2 hcap own5
  go_wp2_with fail
  go_quiet (fail)
  clear hs1 hs2
  obtain ⟨q, hq⟩ : ∃ q : Nat, (m2 : Int) - (M : Int) = (q : Int) := ⟨m2 - M, by have := HM.out; omega⟩
  have hq2 : m2 - M = q := by omega
  rw [hq2] at H4
  have hqw : IntKind.i64.wrap (q : Int) = (q : Int) := IntWalk.i64_in _ ⟨by omega, by omega⟩
  have hmw : IntKind.i64.wrap ((m1 : Int) + (M : Int)) = (m1 : Int) + (M : Int) := IntWalk.i64_in _ ⟨by omega, by omega⟩
  have heq : ((mx : Int) == (m1 : Int) + (M : Int)) = true := by rw [beq_iff_eq]; have := HMX.out; omega
  have hqm : q ≤ m2 := by omega
  have hm1x : m1 ≤ mx := by have := HMX.out; omega
  have hs3 := fun k => run_stringB (c := c5 - m1) (H3.out.drewN k)
  have hs4 := fun k => run_stringB (c := c2 - q) (H4.out.drewN k)
  clear hq2
  go_wp2_with fail
  go_quiet (fail)
  go_wp2_with fail
  go_ret
  exact ⟨rfl, Below_drewN (Below_drewN M4.out.2.1 _) _⟩
end Go.Proofs.Ytigejejiodkjmaa
