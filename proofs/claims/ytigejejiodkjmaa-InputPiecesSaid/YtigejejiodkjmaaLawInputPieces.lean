/-
  InputPieces: the walk.
-/
import Derived.Test.YtigejejiodkjmaaLaw13
import Derived.Test.YtigejejiodkjmaaShort
import Derived.Test.YtigejejiodkjmaaOpen
namespace Go.Proofs.Ytigejejiodkjmaa
open Go.RowKit
set_option linter.unusedVariables false
theorem piece_add {b : List UInt8} {h f t : Nat} (hb : b.length ≤ 60) (hh : h ≤ b.length) (ht : t ≤ b.length) (hft : f ≤ t) (hf : f ≤ h) :
    putAdd (b.take h) f ((b.take t).drop f) = (b.take t).drop h ∧ putErr (b.take h) f ((b.take t).drop f) = 0 ∧ b.take h ++ (b.take t).drop h = b.take (max h t) := by
  have e1 : (b.take h).length = h := by rw [List.length_take]; omega
  refine ⟨?_, ?_, ?_⟩
  · rw [putAdd_form (by omega), e1, List.drop_drop, List.take_of_length_le (by rw [List.length_drop, List.length_take]; omega)]
    congr 1; omega
  · rw [putErr_form (by omega), if_neg]
    rw [List.length_drop, List.length_take]; omega
  · by_cases h1 : h ≤ t
    · have : b.take h = (b.take t).take h := by rw [List.take_take, Nat.min_eq_left h1]
      rw [this, List.take_append_drop, Nat.max_eq_right h1]
    · rw [List.drop_of_length_le (by rw [List.length_take]; omega), List.append_nil, Nat.max_eq_left (by omega)]
theorem piece_gap {b : List UInt8} {h f t : Nat} (hh : h ≤ b.length) (hf : h < f) :
    putAdd (b.take h) f ((b.take t).drop f) = [] ∧ putErr (b.take h) f ((b.take t).drop f) = 2 := by
  have e1 : (b.take h).length = h := by rw [List.length_take]; omega
  refine ⟨?_, ?_⟩
  · rw [putAdd, if_pos (.inr (by rw [e1]; omega))]
  · rw [putErr, if_neg (by omega), if_pos (by rw [e1]; omega)]
set_option maxHeartbeats 4000000 in
set_option maxRecDepth 10000 in
theorem law_InputPieces (A : Option Addr) (n c : Nat) (b : List UInt8) (A2 : Option Addr) (n2 c2 : Nat) (fr : List Int) (A3 : Option Addr) (n3 c3 : Nat) (ns : List Int) (w : World) (hA : LiesB w w.heap.size A n b) (hc : n ≤ c) (_ : c ≤ maxLen)
    (hA2 : LiesI .i64 w w.heap.size A2 n2 fr) (hc2 : n2 ≤ c2) (hm2 : c2 ≤ maxLen) (hA3 : LiesI .i64 w w.heap.size A3 n3 ns) (hc3 : n3 ≤ c3) (hm3 : c3 ≤ maxLen) :
    Calls Try.prog 6 #[.slice A n c, .slice A2 n2 c2, .slice A3 n3 c3] w fun e w' => e = .returned (.bool true) ∧ Below w.heap.size w w' := by
  have hn2 : n2 ≤ 9223372036854775807 := by simp only [maxLen] at *; omega
  have hn3 : n3 ≤ 9223372036854775807 := by simp only [maxLen] at *; omega
  obtain ⟨m, hm⟩ : ∃ m, m = min 60 n := ⟨_, rfl⟩
  obtain ⟨b', hb'⟩ : ∃ l, l = b.take 60 := ⟨_, rfl⟩
  have hl1 : m ≤ 60 := by omega
  have hmc : m ≤ c := by omega
  have hb0 := hA.take 60
  rw [← hm, ← hb'] at hb0
  have Hm := hide hm
  have H2 := hide hA2
  have H3 := hide hA3
  clear hA hA2 hA3 hb' hm hm2 hm3
  go_enter Try.func6, Try.ntmps6
  go_wp2_with fail
  refine Calls.mono (begun13 _) ?_
  rintro e w1 ⟨rfl, hb1⟩
  have Hb0 := hide hb0
  have Hl := hide hb0.len
  have L1 := hb0.below hb1
  clear hb0
  go_wp2_with fail
  refine Calls.mono (law_Short _ _ _ _ 60 _ hc (by omega) (by omega)) ?_
  rintro e w2 ⟨rfl, rfl⟩
  rw [← Hm.out]
  clear L1
  go_wp2_with fail
  refine Calls.mono (input_New_v _ 0 _ rfl) ?_
  rintro e w2 ⟨p, g, rfl, k1, k2, k3, k4⟩
  have M1 := hide (MyLine.new hb1 k1 k2 k3 k4)
  clear k1 k2 k3 k4 hb1
  go_wp2_with fail
  go_loopw [9, 10] (fun hv i wr => ∃ k h : Nat, k ≤ 40 ∧ h ≤ m ∧ i = .int .i64 k ∧ hv = .int .i64 h ∧ ∃ g', MyLine w wr p g' (b'.take h)) (fun _ i _ => 40 - (intOf i).toNat)
  case atStart => exact ⟨0, 0, Nat.zero_le _, Nat.zero_le _, rfl, rfl, g, by rw [List.take_zero]; exact M1.out⟩
  case round =>
    obtain ⟨k, h, hk, hh, rfl, rfl, g', hmy⟩ := hrel
    have M := hide hmy
    clear hmy
    by_cases hgo : k < n2 ∧ k < n3 ∧ k < 40 ∧ 0 < m
    · obtain ⟨q1, q2, q3, q4⟩ := hgo
      obtain ⟨b1, o1, hl2, rfl, -, hc1⟩ := (H2.out.below M.out.2.1).at_ q1
      obtain ⟨b2, o2, hl3, rfl, -, hc2⟩ := (H3.out.below M.out.2.1).at_ q2
      obtain ⟨x, hx⟩ : ∃ x, x = fr[k] := ⟨_, rfl⟩
      obtain ⟨y, hy⟩ : ∃ y, y = ns[k] := ⟨_, rfl⟩
      rw [← hx] at hc1
      rw [← hy] at hc2
      clear hx hy
      obtain ⟨t1, t2⟩ := tmod_lt x m (by omega)
      obtain ⟨t3, t4⟩ := tmod_lt y 9 (by omega)
      have hf0 := Int.emod_nonneg (x.tmod (m : Int)) (show (m : Int) ≠ 0 by omega)
      have hf1 := Int.emod_lt_of_pos (x.tmod (m : Int)) (show (0 : Int) < m by omega)
      obtain ⟨f, hf⟩ : ∃ f : Nat, x.tmod (m : Int) % (m : Int) = (f : Int) := ⟨(x.tmod (m : Int) % (m : Int)).toNat, by omega⟩
      rw [hf] at hf0 hf1
      obtain ⟨t, ht⟩ : ∃ t : Nat, min (m : Int) ((f : Int) + y.tmod 9 % 9) = (t : Int) := ⟨(min (m : Int) ((f : Int) + y.tmod 9 % 9)).toNat, by omega⟩
      have htm : t ≤ m := by omega
      have hft : f ≤ t := by omega
      have htc : t ≤ c := by omega
      have hm0 : ((m : Int) == 0) = false := by simp; omega
      have Lp : LiesB wr w.heap.size (cutA A c f 1) (t - f) ((b'.take t).drop f) := by
        have := ((Hb0.out.below M.out.2.1).take t).cut (k := f) (cap := c) (by omega)
        rwa [Nat.min_eq_left htm] at this
      have HLp := hide (Lp.more M.out.2.1.size)
      have HDp := hide (M.out.dis Lp)
      have HLen := hide Lp.len
      have hlb := Hl.out
      clear Lp
      by_cases hgap : h < f
      · have e := piece_gap (b := b') (t := t) (by rw [hlb]; exact hh) hgap
        have E1 := hide e.1
        have E2 := hide e.2
        clear e hlb
        go_wp2_with fail
        refine Calls.mono (line_Put_v p g' (b'.take h) f _ _ _ _ [] 0 2 _ M.out.1 HLp.out HDp.out (by omega) (by omega) (by omega) E1.out rfl E2.out) ?_
        rintro e w3 ⟨rfl, g3, k1, k2, k3⟩
        rw [List.append_nil] at k1
        have M2 := hide (M.out.step k1 k2 k3)
        clear k1 k2 k3
        go_wp2_with fail
        exact ⟨⟨k + 1, h, by omega, hh, by go_num, rfl, g3, M2.out⟩, by simp [intOf]; omega⟩
      · have e := piece_add (b := b') (h := h) (f := f) (t := t) (by omega) (by omega) (by omega) hft (by omega)
        obtain ⟨N, hN⟩ : ∃ N : Nat, max (0 : Int) ((t : Int) - (h : Int)) = (N : Int) := ⟨t - h, by omega⟩
        obtain ⟨H, hH⟩ : ∃ H : Nat, max (h : Int) (t : Int) = (H : Int) := ⟨max h t, by omega⟩
        have E1 := hide e.1
        have E2 := hide e.2.1
        have E3 := hide e.2.2
        have EN : Hid (((b'.take t).drop h).length = N) := by
          show _ = _
          rw [List.length_drop, List.length_take]; omega
        have hHm : H ≤ m := by omega
        have EH : Hid (max h t = H) := by show _ = _; omega
        clear e hlb
        go_wp2_with fail
        refine Calls.mono (line_Put_v p g' (b'.take h) f _ _ _ _ _ N 0 _ M.out.1 HLp.out HDp.out (by omega) (by omega) (by omega) E1.out (by rw [EN.out]) E2.out) ?_
        rintro e w3 ⟨rfl, g3, k1, k2, k3⟩
        rw [E3.out, EH.out] at k1
        have M2 := hide (M.out.step k1 k2 k3)
        clear k1 k2 k3
        go_wp2_with fail
        exact ⟨⟨k + 1, H, by omega, hHm, by go_num, by go_num, g3, M2.out⟩, by simp [intOf]; omega⟩
    · have Lb : LiesB wr w.heap.size A h (b'.take h) := by
        have := (Hb0.out.below M.out.2.1).take h
        rwa [Nat.min_eq_left hh] at this
      have hlen : (b'.take h).length = h := by rw [List.length_take, Hl.out]; omega
      have Hlen := hide hlen
      have HLb := hide Lb
      have hhc : h ≤ c := by omega
      clear hlen Lb
      have hd : (¬ k < n2) ∨ (k < n2 ∧ ¬ k < n3) ∨ (k < n2 ∧ k < n3 ∧ ¬ k < 40) ∨ (k < n2 ∧ k < n3 ∧ k < 40 ∧ ((m : Int) == 0) = true) := by
        rw [beq_iff_eq]; omega
      clear hgo
      rcases hd with q1 | ⟨q1, q2⟩ | ⟨q1, q2, q3⟩ | ⟨q1, q2, q3, q4⟩
      all_goals
        have HB := M.out.2.1.drew
        have L0 := HLb.out.drew
        have ML := hide (M.out.below ((Below.refl _ _).drew))
        go_wp2_with fail
        go_region_with (first
          | (go_at_call 18; (refine Calls.mono (line_All_v p g' (b'.take h) h _ ML.out.1 Hlen.out) ?_); rintro e w4 ⟨A4, c4, rfl, own4, hb4⟩; have L4 := own4.lies; have L0 := LiesB_step L0 HB hb4; have HB := Below_step HB hb4)
          | (rw [run_stringB L4]) | (rw [run_stringB L0]))
        all_goals
          go_wp2_with fail
          go_ret
          exact ⟨rfl, HB⟩
end Go.Proofs.Ytigejejiodkjmaa
