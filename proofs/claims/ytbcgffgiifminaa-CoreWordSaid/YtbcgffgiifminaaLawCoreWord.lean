/-
  CoreWord: the walk.
-/
import Derived.Test.YtbcgffgiifminaaStand
namespace Go.Proofs.Ytbcgffgiifminaa
open Go.RowKit
set_option maxRecDepth 10000
set_option linter.unusedVariables false
theorem hold_same {s : Co} (h : ∀ (i : Nat) (q : Peer), s.peers[i]? = some q → q.bad s.marks = false) : s.hold = s := by
  have : ∀ k, s.holdK k = s := by
    intro k
    induction k with
    | zero => rfl
    | succ k ih =>
      rw [Co.holdK, ih, Co.hold1]
      split
      · rename_i q hq
        rw [if_neg (by rw [h k q hq]; decide)]
      · rfl
  exact this _
def wordCfg : Cfg := ⟨2, 0, 3, 0, 16, 1, 0, 0, 0, 3⟩
theorem wordCfg_fine : wordCfg.Fine := wordCfg.may_iff.1 (by decide)
def wSt (f sm : Int) (ms : List Int) : Co := ⟨wordCfg, [[], []], [⟨0, 0, 0, 0, false⟩, ⟨0, 0, f, sm, false⟩], ms, [], 0, false⟩
def wPkt (f s : Int) : Pkt := ⟨1, 1, 0, 3, 0, [], 0, f, s⟩
theorem wSt_bad {f sm : Int} {ms : List Int} (h : (ms.length : Int) < f ∨ ms.getD (f - 1).toNat 0 = sm) : ∀ (i : Nat) (q : Peer), (wSt f sm ms).peers[i]? = some q → q.bad (wSt f sm ms).marks = false := by
  intro i q hq
  match i, hq with
  | 0, hq =>
    have : q = ⟨0, 0, 0, 0, false⟩ := by simpa [wSt] using hq.symm
    rw [this]; rfl
  | 1, hq =>
    have : q = ⟨0, 0, f, sm, false⟩ := by simpa [wSt] using hq.symm
    rw [this, Peer.bad]
    show (decide (1 ≤ f) && decide (f ≤ (ms.length : Int)) && !false && !(sm == ms.getD (f - 1).toNat 0)) = false
    rcases h with h | h
    · rw [decide_eq_false (show ¬ f ≤ (ms.length : Int) by omega)]; simp
    · rw [h]; simp
  | i + 2, hq => simp [wSt] at hq
theorem word_hear_ge {f0 s0 f s : Int} (h1 : 1 ≤ f) (h : f0 ≤ f) : (wSt f0 s0 []).hear (wPkt f s) = wSt f s [] := by
  have e1 : ((((wSt f0 s0 []).hear1 1).hear2 1 (wPkt f s)).hear3 1 (wPkt f s)) = wSt f0 s0 [] := by rfl
  have e2 : (wSt f0 s0 []).hear4 1 (wPkt f s) = wSt f s [] := by
    rw [Co.hear4, if_pos]
    · rfl
    · show (decide (f > 0) && decide (f ≥ f0)) = true
      rw [decide_eq_true (by omega), decide_eq_true (by omega)]; rfl
  show ((((((wSt f0 s0 []).hear1 1).hear2 1 (wPkt f s)).hear3 1 (wPkt f s)).hear4 1 (wPkt f s)).hold) = _
  rw [e1, e2]
  exact hold_same (wSt_bad (.inl (by show (0 : Int) < f; omega)))
theorem word_hear_lt {f0 s0 f s : Int} (h1 : 1 ≤ f) (h : f < f0) : (wSt f0 s0 []).hear (wPkt f s) = wSt f0 s0 [] := by
  have e1 : ((((wSt f0 s0 []).hear1 1).hear2 1 (wPkt f s)).hear3 1 (wPkt f s)) = wSt f0 s0 [] := by rfl
  have e2 : (wSt f0 s0 []).hear4 1 (wPkt f s) = wSt f0 s0 [] := by
    rw [Co.hear4, if_neg]
    show ¬ (decide (f > 0) && decide (f ≥ f0)) = true
    rw [decide_eq_false (show ¬ f ≥ f0 by omega)]; simp
  show ((((((wSt f0 s0 []).hear1 1).hear2 1 (wPkt f s)).hear3 1 (wPkt f s)).hear4 1 (wPkt f s)).hold) = _
  rw [e1, e2]
  exact hold_same (wSt_bad (.inl (by show (0 : Int) < f0; omega)))
def wMarks (f s : Int) (k : Nat) : List Int := (List.range k).map fun (j : Nat) => if (j : Int) + 1 = f then s else 7
theorem wMarks_succ (f s : Int) (k : Nat) : wMarks f s (k + 1) = wMarks f s k ++ [if (k : Int) + 1 = f then s else 7] := by
  unfold wMarks; rw [List.range_succ, List.map_append]; rfl
theorem wMarks_len (f s : Int) (k : Nat) : (wMarks f s k).length = k := by simp [wMarks]
theorem wMarks_at {f s : Int} {k : Nat} (h1 : 1 ≤ f) (h : f ≤ k) : (wMarks f s k).getD (f - 1).toNat 0 = s := by
  unfold wMarks
  rw [List.getD_eq_getElem?_getD, List.getElem?_map, List.getElem?_range (by omega)]
  show (if (((f - 1).toNat : Nat) : Int) + 1 = f then s else 7) = s
  rw [if_pos (by omega)]
theorem word_mark {f s v : Int} {k : Nat} (h1 : 1 ≤ f) (hk : k < 5) (hv : v = if (k : Int) + 1 = f then s else 7) : (wSt f s (wMarks f s k)).mark v = wSt f s (wMarks f s (k + 1)) := by
  have hl : (wSt f s (wMarks f s k)).marks.length < 1000 := by show (wMarks f s k).length < 1000; rw [wMarks_len]; omega
  rw [Co.mark, if_pos hl]
  show (wSt f s (wMarks f s k ++ [v])).hold = _
  rw [hv, ← wMarks_succ]
  refine hold_same (wSt_bad ?_)
  by_cases h : f ≤ ((k + 1 : Nat) : Int)
  · exact .inr (wMarks_at h1 h)
  · left; rw [wMarks_len]; omega
theorem word_mark_eq {f s : Int} {k : Nat} (h1 : 1 ≤ f) (h : (k : Int) + 1 = f) (hk : k < 5) : (wSt f s (wMarks f s k)).mark s = wSt f s (wMarks f s (k + 1)) := word_mark h1 hk (by rw [if_pos h])
theorem word_mark_ne {f s : Int} {k : Nat} (h1 : 1 ≤ f) (h : ¬ (k : Int) + 1 = f) (hk : k < 5) : (wSt f s (wMarks f s k)).mark 7 = wSt f s (wMarks f s (k + 1)) := word_mark h1 hk (by rw [if_neg h])
theorem wPkt_may {f s : Int} (h1 : 1 ≤ f) (h5 : f ≤ 5) : (wPkt f s).may = true := Pkt.may_iff.2 ⟨by show (0 : Int) ≤ 1 ∧ (1 : Int) ≤ 7; omega, by show (0 : Int) ≤ 0 ∧ (0 : Int) ≤ 7; omega, by show (1 : Int) ≠ 0; omega, by show (0 : Int) ≤ 3 ∧ (3 : Int) ≤ _; omega,
  .inl ⟨rfl, by show (0 : Int) ≤ 0 ∧ (0 : Int) ≤ 1000; omega, by show (0 : Int) ≤ 0 ∧ (0 : Int) ≤ 1000; omega, by show 0 ≤ f ∧ f ≤ 1000; omega, by show (0 : Nat) ≤ 32; omega⟩⟩
theorem word_fits (f0 s0 f s : Int) (ms : List Int) : (wSt f0 s0 ms).fits (wPkt f s) = true := rfl
set_option maxHeartbeats 8000000 in
theorem law_CoreWord (first second a b : Int) (w : World) (lo0 : -9223372036854775808 ≤ first) (hi0 : first ≤ 9223372036854775807) (lo1 : -9223372036854775808 ≤ second) (hi1 : second ≤ 9223372036854775807) (lo2 : 0 ≤ a) (hi2 : a ≤ 4294967295) (lo3 : 0 ≤ b) (hi3 : b ≤ 4294967295) :
    Calls Try.prog 8 #[.int .i64 first, .int .i64 second, .int .u32 a, .int .u32 b] w fun r w' => r = .returned (.bool true) ∧ Below w.heap.size w w' := by
  by_cases hr : first < 1 ∨ 5 < first ∨ second < 1 ∨ 5 < second
  · obtain ⟨z1, d1⟩ : ∃ z, (decide (first < 1)) = z := ⟨_, rfl⟩
    obtain ⟨z2, d2⟩ : ∃ z, (decide (first > 5)) = z := ⟨_, rfl⟩
    obtain ⟨z3, d3⟩ : ∃ z, (decide (second < 1)) = z := ⟨_, rfl⟩
    obtain ⟨z4, d4⟩ : ∃ z, (decide (second > 5)) = z := ⟨_, rfl⟩
    have hz : (z1 || z2 || z3 || z4) = true := by
      rw [← d1, ← d2, ← d3, ← d4]
      simp only [Bool.or_eq_true, decide_eq_true_eq]
      omega
    have HZ := hide hz
    clear hr hz
    go_enter Try.func8, Try.ntmps8
    go_wp2_with fail
    refine Calls.mono (begun21 w) ?_
    rintro e w1 ⟨rfl, hb1⟩
    have HB1 := hide hb1
    clear hb1
    go_upto_region 4 with fail
    go_cut [32] (fun s32 wx => s32 = .bool true ∧ wx = w1)
    case first =>
      cases z1
      case true => go_wp2_with fail; go_meet; exact ⟨rfl, rfl⟩
      cases z2
      case true => go_wp2_with fail; go_meet; exact ⟨rfl, rfl⟩
      cases z3
      case true => go_wp2_with fail; go_meet; exact ⟨rfl, rfl⟩
      cases z4
      case true => go_wp2_with fail; go_meet; exact ⟨rfl, rfl⟩
      exact absurd HZ.out (by decide)
    case rest =>
    obtain ⟨rfl, rfl⟩ := hcut
    go_wp2_with fail
    go_ret
    exact ⟨rfl, HB1.out⟩
  · have d1 : decide (first < 1) = false := decide_eq_false (by omega)
    have d2 : decide (first > 5) = false := decide_eq_false (by omega)
    have d3 : decide (second < 1) = false := decide_eq_false (by omega)
    have d4 : decide (second > 5) = false := decide_eq_false (by omega)
    have hffirst : 1 ≤ first := by omega
    have hfsecond : 1 ≤ second := by omega
    have hf5 : first ≤ 5 ∧ second ≤ 5 := by omega
    have hsa : 0 ≤ a ∧ a < 4294967296 := by omega
    have hsb : 0 ≤ b ∧ b < 4294967296 := by omega
    clear hr
    go_enter Try.func8, Try.ntmps8
    go_wp2_with fail
    refine Calls.mono (begun21 w) ?_
    rintro e w1 ⟨rfl, hb1⟩
    have HB1 := hide hb1
    clear hb1
    go_upto_region 6 with fail
    clear d1 d2 d3 d4
    go_wp2_with fail
    refine Calls.mono (use_New wordCfg wordCfg_fine w1) ?_
    rintro r w2 ⟨x, p2, rfl, hc2⟩
    have H2 : Hid (HC w1.heap.size w1 w2 x p2 (wSt 0 0 [])) := hc2
    clear hc2
    go_wp2_with fail
    refine Calls.mono (ref_Packet (wPkt first a) (LiesB.nil w2 0 none) (Nat.zero_le _) (by omega) hsa) ?_
    rintro r w3 ⟨A3, n3, c3, rfl, ho3, hb3⟩
    have hn3 : n3 ≤ 100 := by have := ho3.len; have := Pkt.enc_short (wPkt first a); omega
    have HO3 := hide ho3
    have H3 := hide (H2.out.below hb3)
    clear ho3 hb3
    go_wp2_with fail
    refine Calls.mono (use_Receive_yes H3.out rfl (by show (0 : Nat) ≤ _; omega) (wPkt first a) (Pkt.enc_is (wPkt_may hffirst hf5.1) hsa) HO3.out.lies (Nat.le_refl _) HO3.out.cap (by omega) (R := 0) (by rw [if_pos (word_fits _ _ _ _ _)]) (S := wSt first a []) (by rw [if_pos (word_fits _ _ _ _ _)]; exact word_hear_ge hffirst (by omega))) ?_
    rintro r w4 ⟨rfl, p4, hc4, -⟩
    have H4 := hide hc4
    clear hc4
    go_wp2_with fail
    refine Calls.mono (ref_Packet (wPkt second b) (LiesB.nil w4 0 none) (Nat.zero_le _) (by omega) hsb) ?_
    rintro r w5 ⟨A5, n5, c5, rfl, ho5, hb5⟩
    have hn5 : n5 ≤ 100 := by have := ho5.len; have := Pkt.enc_short (wPkt second b); omega
    have HO5 := hide ho5
    have H5 := hide (H4.out.below hb5)
    clear ho5 hb5
    by_cases hge : second ≥ first
    · have d1 : decide (second ≥ first) = true := decide_eq_true hge
      have HNX : Hid ((wSt first a []).hear (wPkt second b) = wSt second b []) := word_hear_ge hfsecond hge
      clear hge
      go_wp2_with fail
      refine Calls.mono (use_Receive_yes H5.out rfl (by show (0 : Nat) ≤ _; omega) (wPkt second b) (Pkt.enc_is (wPkt_may hfsecond hf5.2) hsb) HO5.out.lies (Nat.le_refl _) HO5.out.cap (by omega) (R := 0) (by rw [if_pos (word_fits _ _ _ _ _)]) (S := wSt second b []) (by rw [if_pos (word_fits _ _ _ _ _)]; exact HNX.out)) ?_
      rintro r w8 ⟨rfl, p8, hc8, -⟩
      have H8 := hide hc8
      clear hc8
      go_wp2_with fail
      clear d1
      go_loopg [14] 5 (fun gg s14 wr => ∃ (k : Nat) (p : CP), k ≤ 5 ∧ gg = 5 - k ∧ s14 = .int .i64 ((k : Int) + 1) ∧ Hid (HC w1.heap.size w1 wr x p (wSt second b (wMarks second b k))))
      case atStart => exact ⟨0, p8, by omega, rfl, rfl, H8⟩
      case round =>
        obtain ⟨W1, hW1⟩ : ∃ W1, W1 = wr := ⟨_, rfl⟩
        subst hW1
        obtain ⟨k, p, hkm, rfl, rfl, H3⟩ := hrel
        by_cases hlt : k < 5
        · have d1 : decide ((k : Int) + 1 ≤ 5) = true := decide_eq_true (by omega)
          by_cases hkf : (k : Int) + 1 = second
          · have d2 : ((k : Int) + 1 == second) = true := by simp [hkf]
            have HNX : Hid ((wSt second b (wMarks second b k)).mark b = wSt second b (wMarks second b (k + 1))) := word_mark_eq hfsecond hkf (by omega)
            clear hkf
            go_wp2_with fail
            refine Calls.mono (use_Mark H3.out (by show (0 : Nat) ≤ _; omega) b hsb HNX.out) ?_
            rintro r w9 ⟨rfl, p9, hc9, -⟩
            have H9 := hide hc9
            clear hc9
            go_wp2_with fail
            go_roundg (5 - (k + 1))
            case measure => omega
            case rel => exact ⟨k + 1, p9, by omega, rfl, by go_num, H9⟩
          · have d2 : ((k : Int) + 1 == second) = false := by simp [hkf]
            have HNX : Hid ((wSt second b (wMarks second b k)).mark 7 = wSt second b (wMarks second b (k + 1))) := word_mark_ne hfsecond hkf (by omega)
            clear hkf
            go_wp2_with fail
            refine Calls.mono (use_Mark H3.out (by show (0 : Nat) ≤ _; omega) 7 (by omega) HNX.out) ?_
            rintro r w9 ⟨rfl, p9, hc9, -⟩
            have H9 := hide hc9
            clear hc9
            go_wp2_with fail
            go_roundg (5 - (k + 1))
            case measure => omega
            case rel => exact ⟨k + 1, p9, by omega, rfl, by go_num, H9⟩
        · obtain rfl : k = 5 := by omega
          have HML : Hid (((wSt second b (wMarks second b 5)).marks.length : Int) = 5) := by show (((wMarks second b 5).length : Nat) : Int) = 5; simp [wMarks]
          go_wp2_with fail
          refine Calls.mono (use_Events H3.out rfl) ?_
          rintro r w9 ⟨eA, ec, rfl, -, p9, hc9, -⟩
          have H9 := hide hc9
          clear hc9
          go_wp2_with fail
          refine Calls.mono (use_Marks H9.out HML.out) ?_
          rintro r w10 ⟨rfl, rfl⟩
          go_wp2_with fail
          go_ret
          exact ⟨rfl, Below_step HB1.out H9.out.bel⟩
    · have d1 : decide (second ≥ first) = false := decide_eq_false hge
      have HNX : Hid ((wSt first a []).hear (wPkt second b) = wSt first a []) := word_hear_lt hfsecond (by omega)
      clear hge
      go_wp2_with fail
      refine Calls.mono (use_Receive_yes H5.out rfl (by show (0 : Nat) ≤ _; omega) (wPkt second b) (Pkt.enc_is (wPkt_may hfsecond hf5.2) hsb) HO5.out.lies (Nat.le_refl _) HO5.out.cap (by omega) (R := 0) (by rw [if_pos (word_fits _ _ _ _ _)]) (S := wSt first a []) (by rw [if_pos (word_fits _ _ _ _ _)]; exact HNX.out)) ?_
      rintro r w8 ⟨rfl, p8, hc8, -⟩
      have H8 := hide hc8
      clear hc8
      go_wp2_with fail
      clear d1
      go_loopg [14] 5 (fun gg s14 wr => ∃ (k : Nat) (p : CP), k ≤ 5 ∧ gg = 5 - k ∧ s14 = .int .i64 ((k : Int) + 1) ∧ Hid (HC w1.heap.size w1 wr x p (wSt first a (wMarks first a k))))
      case atStart => exact ⟨0, p8, by omega, rfl, rfl, H8⟩
      case round =>
        obtain ⟨W1, hW1⟩ : ∃ W1, W1 = wr := ⟨_, rfl⟩
        subst hW1
        obtain ⟨k, p, hkm, rfl, rfl, H3⟩ := hrel
        by_cases hlt : k < 5
        · have d1 : decide ((k : Int) + 1 ≤ 5) = true := decide_eq_true (by omega)
          by_cases hkf : (k : Int) + 1 = first
          · have d2 : ((k : Int) + 1 == first) = true := by simp [hkf]
            have HNX : Hid ((wSt first a (wMarks first a k)).mark a = wSt first a (wMarks first a (k + 1))) := word_mark_eq hffirst hkf (by omega)
            clear hkf
            go_wp2_with fail
            refine Calls.mono (use_Mark H3.out (by show (0 : Nat) ≤ _; omega) a hsa HNX.out) ?_
            rintro r w9 ⟨rfl, p9, hc9, -⟩
            have H9 := hide hc9
            clear hc9
            go_wp2_with fail
            go_roundg (5 - (k + 1))
            case measure => omega
            case rel => exact ⟨k + 1, p9, by omega, rfl, by go_num, H9⟩
          · have d2 : ((k : Int) + 1 == first) = false := by simp [hkf]
            have HNX : Hid ((wSt first a (wMarks first a k)).mark 7 = wSt first a (wMarks first a (k + 1))) := word_mark_ne hffirst hkf (by omega)
            clear hkf
            go_wp2_with fail
            refine Calls.mono (use_Mark H3.out (by show (0 : Nat) ≤ _; omega) 7 (by omega) HNX.out) ?_
            rintro r w9 ⟨rfl, p9, hc9, -⟩
            have H9 := hide hc9
            clear hc9
            go_wp2_with fail
            go_roundg (5 - (k + 1))
            case measure => omega
            case rel => exact ⟨k + 1, p9, by omega, rfl, by go_num, H9⟩
        · obtain rfl : k = 5 := by omega
          have HML : Hid (((wSt first a (wMarks first a 5)).marks.length : Int) = 5) := by show (((wMarks first a 5).length : Nat) : Int) = 5; simp [wMarks]
          go_wp2_with fail
          refine Calls.mono (use_Events H3.out rfl) ?_
          rintro r w9 ⟨eA, ec, rfl, -, p9, hc9, -⟩
          have H9 := hide hc9
          clear hc9
          go_wp2_with fail
          refine Calls.mono (use_Marks H9.out HML.out) ?_
          rintro r w10 ⟨rfl, rfl⟩
          go_wp2_with fail
          go_ret
          exact ⟨rfl, Below_step HB1.out H9.out.bel⟩
end Go.Proofs.Ytbcgffgiifminaa
