/-
  InputFull: the walk.
-/
import Derived.Test.YtigejejiodkjmaaLaw13
namespace Go.Proofs.Ytigejejiodkjmaa
open Go.RowKit
set_option linter.unusedVariables false
theorem full_add {t k : Nat} (ht : t ≤ 1000) : putAdd (List.replicate t 0) t (List.replicate k 0) = List.replicate (min k (1000 - t)) 0 ∧ putErr (List.replicate t 0) t (List.replicate k 0) = if 1000 < t + k then 4 else 0 := by
  have e : (List.replicate t (0 : UInt8)).length = t := List.length_replicate
  refine ⟨?_, ?_⟩
  · rw [putAdd_form (by omega), e, Nat.sub_self, List.drop_zero, List.take_replicate, Nat.min_comm]
  · rw [putErr_form (by omega), List.length_replicate]
set_option maxHeartbeats 4000000 in
set_option maxRecDepth 10000 in
theorem law_InputFull (n per : Int) (w : World) (lo0 : -9223372036854775808 ≤ n) (hi0 : n ≤ 9223372036854775807) (lo1 : -9223372036854775808 ≤ per) (hi1 : per ≤ 9223372036854775807) :
    Calls Try.prog 3 #[.int .i64 n, .int .i64 per] w fun e w' => e = .returned (.bool true) ∧ Below w.heap.size w w' := by
  go_enter Try.func3, Try.ntmps3
  go_wp2_with fail
  refine Calls.mono (begun13 _) ?_
  rintro e w1 ⟨rfl, hb1⟩
  by_cases c1 : n < 980
  · go_wp2_with fail
    go_ret
    exact ⟨rfl, hb1⟩
  by_cases c2 : 1020 < n
  · go_wp2_with fail
    go_ret
    exact ⟨rfl, hb1⟩
  by_cases c3 : per < 1
  · go_wp2_with fail
    go_ret
    exact ⟨rfl, hb1⟩
  by_cases c4 : 100 < per
  · go_wp2_with fail
    go_ret
    exact ⟨rfl, hb1⟩
  obtain ⟨N, rfl⟩ : ∃ N : Nat, n = (N : Int) := ⟨n.toNat, by omega⟩
  obtain ⟨P, rfl⟩ : ∃ P : Nat, per = (P : Int) := ⟨per.toNat, by omega⟩
  have d1 : decide ((N : Int) < 980) = false := by simp; omega
  have d2 : decide (1020 < (N : Int)) = false := by simp; omega
  have d3 : decide ((P : Int) < 1) = false := by simp; omega
  have d4 : decide (100 < (P : Int)) = false := by simp; omega
  go_wp2_with fail
  refine Calls.mono (input_New_v _ 0 _ rfl) ?_
  rintro e w2 ⟨p, g, rfl, k1, k2, k3, k4⟩
  have M1 := hide (MyLine.new hb1 k1 k2 k3 k4)
  clear k1 k2 k3 k4 hb1
  go_wp2_with fail
  go_loopw [7] (fun i wr => ∃ t : Nat, t ≤ 1000 ∧ t ≤ N ∧ i = .int .i64 t ∧ ∃ g', MyLine w wr p g' (List.replicate t 0)) (fun i _ => N - (intOf i).toNat)
  case atStart => exact ⟨0, Nat.zero_le _, Nat.zero_le _, rfl, g, M1.out⟩
  case round =>
    obtain ⟨t, ht, htN, rfl, g', hmy⟩ := hrel
    have M := hide hmy
    clear hmy
    have Hlen : Hid ((List.replicate t (0 : UInt8)).length = t) := List.length_replicate
    by_cases hlt : t < N
    · obtain ⟨k, hk⟩ : ∃ k : Nat, min (P : Int) ((N : Int) - (t : Int)) = (k : Int) := ⟨min P (N - t), by omega⟩
      have hk1 : 1 ≤ k := by omega
      have hk2 : k ≤ 100 := by omega
      have hk3 : t + k ≤ N := by omega
      have e := full_add (k := k) ht
      have E1 := hide e.1
      have E2 := hide e.2
      clear e
      have HB0 := hide M.out.2.1
      by_cases hful : t + k ≤ 1000
      · have e3 : min (k : Int) (1000 - (t : Int)) = (k : Int) := by omega
        have E4 : Hid (min k (1000 - t) = k) := by show _ = _; omega
        have E5 : Hid (List.replicate t (0 : UInt8) ++ List.replicate k 0 = List.replicate (t + k) 0) := by show _ = _; rw [List.replicate_append_replicate]
        have hdk : decide ((k : Int) < (k : Int)) = false := by simp
        go_wp2_with (first
          | (at_make; refine wpB_make rfl _ _ rfl wr.heap.size _ _ k rfl rfl rfl rfl (by omega) (Nat.le_refl _) ?_; intro gm w3 own3 hb3 hg3; have L3 := hide own3.lies; have M3 := hide (M.out.below hb3); have Hgm := hide own3.lt; clear own3 hg3)
          | (go_at_call 14; refine Calls.mono (line_Put_v p g' (List.replicate t 0) t _ _ _ _ (List.replicate k 0) k 0 _ M3.out.1 L3.out (by intro bk off e _ hs; injection e with e; injection e with e; subst e; rcases hs with hs | hs; (have := M.out.1.lt.1; have := Hgm.out.1; omega); (have := M.out.1.lt.2 _ hs; have := Hgm.out.1; omega)) (by omega) (by omega) (by omega) (by rw [E1.out, E4.out]) (by rw [List.length_replicate]) (by rw [E2.out, if_neg (by omega)])) ?_; rintro e w4 ⟨rfl, g4, k1, k2, k3⟩; rw [E5.out] at k1; have M4 := hide (M3.out.step k1 k2 k3); clear k1 k2 k3))
        exact ⟨⟨t + k, hful, hk3, by go_num, g4, M4.out⟩, by simp [intOf]; omega⟩
      · obtain ⟨a, ha⟩ : ∃ a : Nat, min (k : Int) (1000 - (t : Int)) = (a : Int) := ⟨min k (1000 - t), by omega⟩
        have E4 : Hid (min k (1000 - t) = a) := by show _ = _; omega
        have hta : t + a = 1000 := by omega
        have E5 : Hid (List.replicate t (0 : UInt8) ++ List.replicate a 0 = List.replicate 1000 0) := by show _ = _; rw [List.replicate_append_replicate, hta]
        have hak : a < k := by omega
        have hN : 1000 < N := by omega
        have hmin : min (N : Int) 1000 = 1000 := by omega
        clear hta
        go_wp2_with (first
          | (at_make; refine wpB_make rfl _ _ rfl wr.heap.size _ _ k rfl rfl rfl rfl (by omega) (Nat.le_refl _) ?_; intro gm w3 own3 hb3 hg3; have L3 := hide own3.lies; have M3 := hide (M.out.below hb3); have Hgm := hide own3.lt; clear own3 hg3)
          | (go_at_call 14; refine Calls.mono (line_Put_v p g' (List.replicate t 0) t _ _ _ _ (List.replicate a 0) a 4 _ M3.out.1 L3.out (by intro bk off e _ hs; injection e with e; injection e with e; subst e; rcases hs with hs | hs; (have := M.out.1.lt.1; have := Hgm.out.1; omega); (have := M.out.1.lt.2 _ hs; have := Hgm.out.1; omega)) (by omega) (by omega) (by omega) (by rw [E1.out, E4.out]) (by rw [List.length_replicate]) (by rw [E2.out, if_pos (by omega)])) ?_; rintro e w4 ⟨rfl, g4, k1, k2, k3⟩; rw [E5.out] at k1; have M4 := hide (M3.out.step k1 k2 k3); clear k1 k2 k3)
          | (go_at_call 15; refine Calls.mono (line_Len_v p g4 _ 1000 _ M4.out.1 (by rw [List.length_replicate]; rfl)) ?_; rintro e w5 ⟨rfl, rfl⟩)
          | (go_at_call 16; refine Calls.mono (line_Add_full_v p g4 _ 1 _ _ M4.out.1 (by rw [List.length_replicate]; omega) rfl) ?_; rintro e w5 ⟨rfl, rfl⟩))
        go_ret
        exact ⟨by first | (simp; done) | (simp; omega), M4.out.2.1⟩
    · have hNt : t = N := by omega
      have HN := hide hNt
      clear hNt
      have hmin : min (N : Int) 1000 = (t : Int) := by omega
      by_cases hful : t < 1000
      · have hN : ¬ 1000 ≤ (N : Int) := by omega
        go_wp2_with (first
          | (go_at_call 15; refine Calls.mono (line_Len_v p g' _ t _ M.out.1 (by rw [Hlen.out])) ?_; rintro e w5 ⟨rfl, rfl⟩)
          | (go_at_call 16; refine Calls.mono (line_Add_v p g' _ 1 _ _ M.out.1 (by rw [Hlen.out]; exact hful) rfl) ?_; rintro e w4 ⟨rfl, g4, k1, k2, k3⟩; have M4 := hide (M.out.step k1 k2 k3); clear k1 k2 k3))
        go_ret
        exact ⟨by first | (simp; done) | (simp; omega), M4.out.2.1⟩
      · have hN : 1000 ≤ (N : Int) := by omega
        go_wp2_with (first
          | (go_at_call 15; refine Calls.mono (line_Len_v p g' _ t _ M.out.1 (by rw [Hlen.out])) ?_; rintro e w5 ⟨rfl, rfl⟩)
          | (go_at_call 16; refine Calls.mono (line_Add_full_v p g' _ 1 _ _ M.out.1 (by rw [Hlen.out]; omega) rfl) ?_; rintro e w5 ⟨rfl, rfl⟩))
        go_ret
        exact ⟨by first | (simp; done) | (simp; omega), M.out.2.1⟩
end Go.Proofs.Ytigejejiodkjmaa
