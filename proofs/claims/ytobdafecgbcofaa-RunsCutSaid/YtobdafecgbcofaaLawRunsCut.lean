/-
  RunsCut: the walk.
-/
import Derived.Test.YtobdafecgbcofaaLaw14
import Derived.Test.YtobdafecgbcofaaRunsCutP
import Derived.Test.YtobdafecgbcofaaRegion
import Derived.Test.YtobdafecgbcofaaVal
import Derived.Test.YtobdafecgbcofaaOpen
namespace Go.Proofs.Ytobdafecgbcofaa
open Go.RowKit
set_option linter.unusedVariables false
theorem elem_int : Elem 33 3 (.int .i64 0) 8 := ⟨Try.underlying33, by kernel_rfl, rfl⟩
/-- The last value, as the code keeps it. -/
def lastI (rs : List (UInt8 × Nat)) : Int := match Runs.lastv none rs with | none => -1 | some x => (x.toNat : Int)
theorem lastI_eq {rs : List (UInt8 × Nat)} {z : UInt8} : (((z.toNat : Int) == lastI rs) = true) ↔ Runs.lastv none rs = some z := by
  unfold lastI
  rw [beq_iff_eq]
  constructor
  · intro h
    split at h
    · omega
    · rename_i x hx
      rw [hx]
      exact congrArg some (UInt8.toNat_inj.1 (by omega)).symm
  · intro h
    rw [h]
theorem lastI_snoc (rs : List (UInt8 × Nat)) (z : UInt8) (n : Nat) : lastI (rs ++ [(z, n)]) = (z.toNat : Int) := by unfold lastI; rw [Runs.lastv_snoc]
theorem ints_one (l : List Int) : ∀ u ∈ l.map (Value.int .i64), u.oneCell' = true := by
  intro u hu
  obtain ⟨c, _, rfl⟩ := List.mem_map.1 hu
  rfl
set_option maxHeartbeats 4000000 in
set_option maxRecDepth 20000 in
theorem law_RunsCut (A : Option Addr) (n c : Nat) (vs : List UInt8) (A2 : Option Addr) (n2 c2 : Nat) (ls : List Int) (cut : Int) (w : World) (hA : LiesB w w.heap.size A n vs) (hc : n ≤ c) (hcm : c ≤ maxLen)
    (hA2 : LiesI .i64 w w.heap.size A2 n2 ls) (hc2 : n2 ≤ c2) (hcm2 : c2 ≤ maxLen) (lo : -9223372036854775808 ≤ cut) (hi : cut ≤ 9223372036854775807) :
    Calls Try.prog 7 #[.slice A n c, .slice A2 n2 c2, .int .i64 cut] w fun e w' => e = .returned (.bool true) ∧ Below w.heap.size w w' := by
  have hn : n ≤ 9223372036854775807 := by simp only [maxLen] at *; omega
  have hn2 : n2 ≤ 9223372036854775807 := by simp only [maxLen] at *; omega
  have HA := hide hA
  have HA2 := hide hA2
  clear hA hA2 hcm hcm2
  go_enter Try.func7, Try.ntmps7
  go_wp2_with fail
  refine Calls.mono (begun14 _) ?_
  rintro e w1 ⟨rfl, hb1⟩
  have HB1 := hide hb1
  have hs1 := hb1.size
  clear hb1
  go_wp2_with fail
  go_loopg [8, 9, 10, 11] 8 (fun g sb se sl si wr => ∃ (i : Nat) (rs : List (UInt8 × Nat)) (A8 A9 : Option Addr) (c8 c9 : Nat) (n8 n9 : Nat) (L : Int), i ≤ 8 ∧ g = 8 - i ∧ si = .int .i64 i ∧ sl = .int .i64 L ∧ L = lastI rs ∧ rs.length ≤ i ∧ Runs.Alt none rs
    ∧ sb = .slice A8 n8 c8 ∧ se = .slice A9 n9 c9 ∧ OwnB wr w.heap.size A8 n8 c8 (Runs.flat rs) ∧ OwnV 3 wr w.heap.size A9 n9 c9 ((Runs.ends rs).map (Value.int .i64)) ∧ Below w.heap.size w wr)
  case atStart => exact ⟨0, [], none, none, 0, 0, 0, 0, -1, by omega, rfl, rfl, rfl, rfl, by simp, trivial, rfl, rfl, OwnB.nil _ _, OwnV.nil _ _ _, HB1.out⟩
  case round =>
    obtain ⟨W1, hW1⟩ : ∃ W1, W1 = wr := ⟨_, rfl⟩
    subst hW1
    obtain ⟨i, rs, A8, A9, c8, c9, n8, n9, L, hi8, rfl, rfl, rfl, hL, hrl, halt, rfl, rfl, hob, hoe, hbel⟩ := hrel
    have HL := hide hL
    have HALT := hide halt
    have HOB := hide hob
    have HOE := hide hoe
    have HB := hide hbel
    have hn8 : n8 ≤ 480 := by
      have h1 := Runs.alt_len rs none halt
      have h2 := hob.len
      omega
    have HN8 := hide hob.len
    have HN9 : Hid (n9 = rs.length) := by
      have h1 := hoe.len
      rw [List.length_map, Runs.ends_len] at h1
      exact h1.symm
    have hn9 : n9 ≤ 8 := by have := HN9.out; omega
    have hsz := hbel.size
    clear hL halt hob hoe hbel
    obtain ⟨go, hgo'⟩ : ∃ go, go = decide (i < n ∧ i < n2 ∧ i < 8) := ⟨_, rfl⟩
    have HGO := hide hgo'
    clear hgo'
    go_upto_region 8 with fail
    go_cut [34] from 21 to 73 (fun s wx => s = .bool go ∧ W1 = wx)
    case first =>
      by_cases h0 : i < n
      · by_cases h1 : i < n2
        · by_cases h2 : i < 8
          · have e : Hid (go = true) := by have := HGO.out; rw [decide_eq_true ⟨h0, h1, h2⟩] at this; exact this
            have d' : decide ((i : Int) < 8) = true := by simp; omega
            go_wp2
            go_meet
            rw [e.out]
            exact ⟨rfl, rfl⟩
          · have e : Hid (go = false) := by have := HGO.out; rw [decide_eq_false (by omega)] at this; exact this
            have d : decide (i < 8) = false := by simp; omega
            have d' : decide ((i : Int) < 8) = false := by simp; omega
            go_wp2
            go_meet
            rw [e.out]
            exact ⟨rfl, rfl⟩
        · have e : Hid (go = false) := by have := HGO.out; rw [decide_eq_false (by omega)] at this; exact this
          have d : decide (i < n2) = false := by simp; omega
          go_wp2
          go_meet
          rw [e.out]
          exact ⟨rfl, rfl⟩
      · have e : Hid (go = false) := by have := HGO.out; rw [decide_eq_false (by omega)] at this; exact this
        have d : decide (i < n) = false := by simp; omega
        go_wp2
        go_meet
        rw [e.out]
        exact ⟨rfl, rfl⟩
    case rest =>
      obtain ⟨rfl, rfl⟩ := hcut
      cases go with
      | true =>
        obtain ⟨h0, h1, h2⟩ := of_decide_eq_true HGO.out.symm
        have hLA := HA.out.below HB.out
        obtain ⟨b1, o1, hl1, rfl, -, hc1⟩ := hLA.at_ h0
        obtain ⟨b2, o2, hl2, rfl, hb2, hc2⟩ := (HA2.out.below HB.out).at_ h1
        have HLA := hide hLA
        obtain ⟨z, hz⟩ : ∃ z, z = vs[i] := ⟨_, rfl⟩
        obtain ⟨y, hy⟩ : ∃ y, y = ls[i] := ⟨_, rfl⟩
        rw [← hz] at hc1
        rw [← hy] at hc2
        have hzt := z.toNat_lt
        obtain ⟨t1, t2⟩ := tmod_lt y 60 (by omega)
        obtain ⟨N, hN⟩ : ∃ N : Nat, y.tmod 60 % 60 = (N : Int) := ⟨(y.tmod 60 % 60).toNat, by omega⟩
        have hN2 : (y.tmod 60 + 60) % 60 = (N : Int) := by omega
        have hN60 : N < 60 := by omega
        have HZ := hide hz
        have HN := hide hN
        clear hz hy hLA hN hN2
        go_upto_region 10 with fail
        go_cut [12] from 21 to 73 (fun s wx => s = .int .i64 (1 + (N : Int)) ∧ W1 = wx)
        case first =>
          go_wp2
          go_meet
          exact ⟨by rw [HN.out], rfl⟩
        case rest =>
        obtain ⟨rfl, rfl⟩ := hcut
        by_cases hsame : Runs.lastv none rs = some z
        · have d : ((z.toNat : Int) == L) = true := by rw [HL.out]; exact lastI_eq.2 hsame
          have d2 : ((L : Int) == (z.toNat : Int)) = true := by rw [beq_iff_eq] at d ⊢; exact d.symm
          clear hsame
          have D := hide d
          clear d2
          go_wp2
          go_roundg (8 - (i + 1))
          case measure => omega
          case rel => exact ⟨i + 1, rs, A8, A9, c8, c9, n8, n9, L, by omega, rfl, by go_num, by first | rfl | (rw [beq_iff_eq.1 D.out]), HL.out, by omega, HALT.out, rfl, rfl, HOB.out, HOE.out, HB.out⟩
        · have d : ((z.toNat : Int) == L) = false := by
            rw [← Bool.not_eq_true, HL.out]
            exact fun h => hsame (lastI_eq.1 h)
          have HS := hide hsame
          clear hsame
          go_wp2
          go_loopg [8, 13] (N + 1) (fun g sb sk wx => ∃ (k : Nat) (A3 : Option Addr) (c3 n3 : Nat), k ≤ N + 1 ∧ g = N + 1 - k ∧ n3 = n8 + k ∧ sk = .int .i64 k ∧ sb = .slice A3 n3 c3 ∧ OwnB wx w.heap.size A3 n3 c3 (Runs.flat rs ++ List.replicate k z) ∧ OwnV 3 wx w.heap.size A9 n9 c9 ((Runs.ends rs).map (Value.int .i64)) ∧ Below w.heap.size w wx)
          case atStart => exact ⟨0, A8, c8, n8, by omega, rfl, rfl, rfl, rfl, by simpa using HOB.out, HOE.out, HB.out⟩
          case round =>
            obtain ⟨W2, hW2⟩ : ∃ W2, W2 = wr := ⟨_, rfl⟩
            subst hW2
            obtain ⟨k, A3, c3, n3, hk, rfl, rfl, rfl, rfl, hob, hoe, hbel⟩ := hrel
            have HO3 := hide hob
            have HE3 := hide hoe
            have HB3 := hide hbel
            have hs3 := hbel.size
            have hap := hoe.apart (OwnV.of_B hob) (by decide)
            have HAP := hide hap
            clear hob hoe hap
            by_cases hkN : k < N + 1
            · obtain ⟨b1', o1', hl1', e1, -, hc1'⟩ := (HA.out.below HB3.out).at_ h0
              injection e1 with e1
              injection e1 with e1 e2
              subst e1 e2
              rw [← HZ.out] at hc1'
              clear hbel
              go_wp2_with (at_builtin; refine wpB_append3 rfl (.tmp 62) (.tmp 67) rfl w.heap.size A3 (n8 + k) c3 _ rfl (HO3.out.below (Below_new _ _)) _ _ 1 1 [z] rfl (LiesB.new _ _ _ _ _ _ rfl rfl) (n8 + k + 1) _ rfl rfl (by omega) (by simp; omega) ?_; intro A4 c4 w4 own4 k4 hk4)
              go_roundg (N + 1 - (k + 1))
              case measure => omega
              case rel => exact ⟨k + 1, A4, c4, n8 + k + 1, by omega, rfl, by omega, by go_num, rfl, by rw [List.append_assoc, ← List.replicate_succ'] at own4; exact own4, (HE3.out.below (Below_new _ _)).keeps k4 (fun j h1 h2 => HAP.out j h1 h2), HB3.out.trans (((Below_new _ _).mono hs3).trans (k4.belowOwn HO3.out (by simp; omega)))⟩
            · obtain rfl : k = N + 1 := by omega
              clear hbel
              go_wp2_with (at_builtin; refine wpV_append elem_int rfl (.tmp 69) (.tmp 72) rfl w.heap.size A9 n9 c9 _ rfl ((HE3.out.below (Below_new _ _))) _ _ 1 1 [.int .i64 ((n8 + (N + 1) : Nat) : Int)] rfl rfl (Lies.new _ _ _ _) (by simp [Value.oneCell']) (by omega) (n9 + 1) _ rfl rfl (by omega) (by omega) (by simp; omega) ?_; intro A4 c4 w4 own4 k4 hk4)
              go_roundg (8 - (i + 1))
              case measure => omega
              case rel => 
                refine ⟨i + 1, rs ++ [(z, N + 1)], A3, A4, c3, c4, n8 + (N + 1), n9 + 1, _, by omega, rfl, by go_num, rfl, (lastI_snoc _ _ _).symm, by simp; omega, Runs.alt_snoc _ _ _ _ HALT.out HS.out (by omega) (by omega), rfl, rfl, ?_, ?_, ?_⟩
                · rw [Runs.flat_snoc]
                  exact ((OwnV.of_B (HO3.out.below (Below_new _ _))).keeps k4 (fun j h1 h2 => HAP.out j h2 h1))
                · rw [Runs.ends_snoc, List.map_append, Runs.flat_snoc, List.length_append, HN8.out, List.length_replicate]
                  exact own4
                · exact HB3.out.trans (((Below_new _ _).mono hs3).trans (k4.belowV HE3.out (by simp; omega)))
      | false =>
        have HALT := HALT
        have hRn : rs.length ≤ 8 := by omega
        have hE := Runs.enc_flat rs none 0 HALT.out
        have hR := Runs.encR_len rs 0
        rw [← hE] at hR
        have HE := hide hE
        have HR := hide hR
        clear hE hR
        go_wp2_with fail
        refine Calls.mono (runs_Encode _ _ _ _ _ _ HOB.out.lies (Nat.le_refl _) (by omega)) ?_
        rintro e w3 ⟨A3, n3, c3, rfl, own3, hb3⟩
        have hn3 : n3 = 2 * n9 := by rw [← own3.len, HR.out, HN9.out]
        have hc3 := own3.cap
        have O3 := hide own3
        have HOB := hide (HOB.out.below hb3)
        have HOE := hide (HOE.out.below hb3)
        have HB3 := hide (Below_step HB.out hb3)
        have hn3i : (n3 : Int) = 2 * (n9 : Int) := by omega
        have dd : ((n3 : Int) != 2 * (n9 : Int)) = false := by simp; omega
        have dd2 : ((n3 : Int) == 2 * (n9 : Int)) = true := by simp; omega
        have Hn3 := hide hn3
        clear own3 hb3 hn3 hn3i
        by_cases q1 : cut < 0
        · have q2 : decide (cut < 0) = true := decide_eq_true q1
          go_wp2
          go_ret
          exact ⟨rfl, HB3.out⟩
        · have q2 : decide (cut < 0) = false := decide_eq_false q1
          obtain ⟨m, rfl⟩ : ∃ m : Nat, cut = (m : Int) := ⟨cut.toNat, by omega⟩
          by_cases q3 : n3 < m
          · have q4 : decide ((n3 : Int) < (m : Int)) = true := by simp; omega
            go_wp2
            go_ret
            exact ⟨rfl, HB3.out⟩
          · have q4 : decide ((n3 : Int) < (m : Int)) = false := by simp; omega
            have hL3 := (O3.out.lies.take m)
            rw [Nat.min_eq_left (by omega), HE.out] at hL3
            have L3 := hide hL3
            have hmc : m ≤ c3 := by omega
            clear hL3
            have hfl : (Runs.flat rs).length ≤ 480 := by have := Runs.alt_len rs none HALT.out; omega
            have hm16 : m ≤ 16 := by have := Hn3.out; omega
            by_cases hodd : m % 2 = 1
            · obtain ⟨j, hj⟩ : ∃ j, m = 2 * j + 1 := ⟨m / 2, by omega⟩
              have hD : Runs.dec 1000 true 0 [] ((Runs.encR 0 rs).take m) = ([], 1) := by
                rw [hj]
                exact Runs.dec_odd 1000 rs true 0 [] j HALT.out (by have := Hn3.out; have := HN9.out; omega) (by simp; omega)
              have HD := hide hD
              have o1 : ((m : Int) % 2 == 1) = true := by simp; omega
              have o2 : ((m : Int).tmod 2 == 1) = true := by rw [Int.tmod_eq_emod_of_nonneg (by omega)]; exact o1
              clear hD hj
              go_wp2_with fail
              refine Calls.mono (runs_Decode_v 1000 L3.out hmc (by have := HB3.out.size; omega) (by omega) (by omega) (by omega) (by omega) HD.out (.inl (by omega))) ?_
              rintro e w4 ⟨A4, n4, c4, rfl, own4, hb4⟩
              have hn4 : n4 = 0 := own4.len.symm
              subst hn4
              have HB4 := hide (Below_step HB3.out hb4)
              clear own4 hb4
              go_wp2_with fail
              go_ret
              exact ⟨rfl, HB4.out⟩
            · obtain ⟨j, hj⟩ : ∃ j, m = 2 * j := ⟨m / 2, by omega⟩
              have hD : Runs.dec 1000 true 0 [] ((Runs.encR 0 rs).take m) = (Runs.flat (rs.take j), 0) := by
                have h := Runs.flat_take_le rs j
                rw [hj, Runs.encR_take, ← Runs.enc_flat (rs.take j) none 0 (Runs.alt_take rs none HALT.out j), Runs.dec_enc0 _ _ (by omega), if_pos (by omega)]
              have HD := hide hD
              have o1 : ((m : Int) % 2 == 1) = false := by simp; omega
              have o2 : ((m : Int).tmod 2 == 1) = false := by rw [Int.tmod_eq_emod_of_nonneg (by omega)]; exact o1
              obtain ⟨K, hK⟩ : ∃ K, K = (Runs.flat (rs.take j)).length := ⟨_, rfl⟩
              have hK8 : K ≤ n8 := by have := Runs.flat_take_le rs j; have := HN8.out; omega
              have hc8 := HOB.out.cap
              have hKc : K ≤ c8 := by omega
              have hft := Runs.flat_take rs j
              rw [← hK] at hft
              have hL8 := HOB.out.lies.take K
              rw [Nat.min_eq_left hK8, hft] at hL8
              have L8 := hide hL8
              have hdiv : (m : Int) / 2 = (j : Int) := by omega
              have hdiv2 : (m : Int).tdiv 2 = (j : Int) := by rw [Int.tdiv_eq_ediv_of_nonneg (by omega)]; exact hdiv
              have HK := hide hK
              have HJ := hide hj
              have hjn : j ≤ n9 := by have := Hn3.out; omega
              clear hD hL8 hft hK hj
              go_wp2_with fail
              refine Calls.mono (runs_Decode_v 1000 L3.out hmc (by have := HB3.out.size; omega) (by omega) (by omega) (by omega) (by omega) HD.out (.inl (by omega))) ?_
              rintro e w4 ⟨A4, n4, c4, rfl, own4, hb4⟩
              have LX := own4.lies
              have LB := L8.out.below hb4
              have HOE4 := HOE.out.below hb4
              have HB4 := Below_step HB3.out hb4
              clear own4 hb4
              have e1 : (Runs.flat (rs.take j) == Runs.flat (rs.take j)) = true := by simp
              by_cases hj0 : j = 0
              · have hm0 : ¬ 0 < m := by have := HJ.out; omega
                have hK0 : K = 0 := by rw [HK.out, hj0]; rfl
                subst hK0
                clear HOE4
                go_wp2_with fail
                refine wp_region_noPanic ?_
                refine wp_region_held_drew (S := (fun w' => (convert 22 9 (.slice A4 n4 c4)).run Try.prog w' = .ok (.string (strOf (Runs.flat (rs.take j)))) w' ∧ (convert 22 9 (.slice A8 0 c8)).run Try.prog w' = .ok (.string (strOf (Runs.flat (rs.take j)))) w')) (by kernel_rfl) ⟨run_stringB LX.drew, run_stringB LB.drew⟩ (fun hHeld => ?_)
                refine wpAnyH_take (i := 0) (oi := ?_) (v := ?_) ?_ (by kernel_rfl) (by kernel_rfl) (by kernel_rfl) ?_ ?_ (by assumption) ?_
                rotate_left 2
                · (simp only [List.getElem?_toArray, List.getElem?_cons_zero]; rfl)
                · exact fun _ _ _ h => h
                · (refine Or.inl ⟨by rfl, ?_⟩; intro w hSw; (try dsimp only at hSw); go_simp <;> with_reducible rfl)
                try simp only [Act.put, List.setIfInBounds_toArray, List.set_cons_zero, List.set_cons_succ]
                refine wpAnyH_take (i := 1) (oi := ?_) (v := ?_) ?_ (by kernel_rfl) (by kernel_rfl) (by kernel_rfl) ?_ ?_ (by assumption) ?_
                rotate_left 2
                · (simp only [List.getElem?_toArray, List.getElem?_cons_succ, List.getElem?_cons_zero]; rfl)
                · exact fun _ _ _ h => h
                · (refine Or.inl ⟨by rfl, ?_⟩; intro w hSw; (try dsimp only at hSw); go_simp <;> with_reducible rfl)
                try simp only [Act.put, List.setIfInBounds_toArray, List.set_cons_zero, List.set_cons_succ]
                refine wpAnyH_take (i := 2) (oi := ?_) (v := ?_) ?_ (by kernel_rfl) (by kernel_rfl) (by kernel_rfl) ?_ ?_ (by assumption) ?_
                rotate_left 2
                · (simp only [List.getElem?_toArray, List.getElem?_cons_succ, List.getElem?_cons_zero]; rfl)
                · exact fun _ _ _ h => h
                · (refine Or.inl ⟨by rfl, ?_⟩; intro w hSw; (try dsimp only at hSw); go_simp <;> with_reducible rfl)
                try simp only [Act.put, List.setIfInBounds_toArray, List.set_cons_zero, List.set_cons_succ]
                refine wpAnyH_take (i := 3) (oi := ?_) (v := ?_) ?_ (by kernel_rfl) (by kernel_rfl) (by kernel_rfl) ?_ ?_ (by assumption) ?_
                rotate_left 2
                · (simp only [List.getElem?_toArray, List.getElem?_cons_succ, List.getElem?_cons_zero]; rfl)
                · exact fun _ _ _ h => h
                · (refine Or.inl ⟨by rfl, ?_⟩; intro w hSw; (try dsimp only at hSw); go_simp <;> with_reducible rfl)
                try simp only [Act.put, List.setIfInBounds_toArray, List.set_cons_zero, List.set_cons_succ]
                refine wpAnyH_take (i := 4) (oi := ?_) (v := ?_) ?_ (by kernel_rfl) (by kernel_rfl) (by kernel_rfl) ?_ ?_ (by assumption) ?_
                rotate_left 2
                · (simp only [List.getElem?_toArray, List.getElem?_cons_succ, List.getElem?_cons_zero]; rfl)
                · exact fun _ _ _ h => h
                · (refine Or.inl ⟨by rfl, ?_⟩; intro w hSw; (try dsimp only at hSw); go_simp <;> with_reducible rfl)
                try simp only [Act.put, List.setIfInBounds_toArray, List.set_cons_zero, List.set_cons_succ]
                refine wpAnyH_take (i := 5) (oi := ?_) (v := ?_) ?_ (by kernel_rfl) (by kernel_rfl) (by kernel_rfl) ?_ ?_ (by assumption) ?_
                rotate_left 2
                · (simp only [List.getElem?_toArray, List.getElem?_cons_succ, List.getElem?_cons_zero]; rfl)
                · exact fun _ _ _ h => h
                · (refine Or.inl ⟨by rfl, ?_⟩; intro w hSw; (try dsimp only at hSw); go_simp <;> with_reducible rfl)
                try simp only [Act.put, List.setIfInBounds_toArray, List.set_cons_zero, List.set_cons_succ]
                refine wpAnyH_take (i := 6) (oi := ?_) (v := ?_) ?_ (by kernel_rfl) (by kernel_rfl) (by kernel_rfl) ?_ ?_ (by assumption) ?_
                rotate_left 2
                · (simp only [List.getElem?_toArray, List.getElem?_cons_succ, List.getElem?_cons_zero]; rfl)
                · exact fun _ _ _ h => h
                · (refine Or.inl ⟨by rfl, ?_⟩; intro w hSw; (try dsimp only at hSw); go_simp <;> with_reducible rfl)
                try simp only [Act.put, List.setIfInBounds_toArray, List.set_cons_zero, List.set_cons_succ]
                refine wpAnyH_take (i := 7) (oi := ?_) (v := ?_) ?_ (by kernel_rfl) (by kernel_rfl) (by kernel_rfl) ?_ ?_ (by assumption) ?_
                rotate_left 2
                · (simp only [List.getElem?_toArray, List.getElem?_cons_succ, List.getElem?_cons_zero]; rfl)
                · exact fun _ _ _ h => h
                · (refine Or.inl ⟨by rfl, ?_⟩; intro w hSw; (try dsimp only at hSw); go_simp <;> with_reducible rfl)
                try simp only [Act.put, List.setIfInBounds_toArray, List.set_cons_zero, List.set_cons_succ]
                refine wpAnyH_take (i := 8) (oi := ?_) (v := ?_) ?_ (by kernel_rfl) (by kernel_rfl) (by kernel_rfl) ?_ ?_ (by assumption) ?_
                rotate_left 2
                · (simp only [List.getElem?_toArray, List.getElem?_cons_succ, List.getElem?_cons_zero]; rfl)
                · exact fun _ _ _ h => h
                · (refine Or.inl ⟨by rfl, ?_⟩; intro w hSw; (try dsimp only at hSw); go_simp <;> with_reducible rfl)
                try simp only [Act.put, List.setIfInBounds_toArray, List.set_cons_zero, List.set_cons_succ]
                refine wpAnyH_take (i := 9) (oi := ?_) (v := ?_) ?_ (by kernel_rfl) (by kernel_rfl) (by kernel_rfl) ?_ ?_ (by assumption) ?_
                rotate_left 2
                · (simp only [List.getElem?_toArray, List.getElem?_cons_succ, List.getElem?_cons_zero]; rfl)
                · exact fun _ _ _ h => h
                · (refine Or.inl ⟨by rfl, ?_⟩; intro w hSw; (try dsimp only at hSw); go_simp <;> with_reducible rfl)
                try simp only [Act.put, List.setIfInBounds_toArray, List.set_cons_zero, List.set_cons_succ]
                refine wpAnyH_take (i := 10) (oi := ?_) (v := ?_) ?_ (by kernel_rfl) (by kernel_rfl) (by kernel_rfl) ?_ ?_ (by assumption) ?_
                rotate_left 2
                · (simp only [List.getElem?_toArray, List.getElem?_cons_succ, List.getElem?_cons_zero]; rfl)
                · exact fun _ _ _ h => h
                · (refine Or.inl ⟨by rfl, ?_⟩; intro w hSw; (try dsimp only at hSw); go_simp <;> with_reducible rfl)
                try simp only [Act.put, List.setIfInBounds_toArray, List.set_cons_zero, List.set_cons_succ]
                refine wpAnyH_take (i := 11) (oi := ?_) (v := ?_) ?_ (by kernel_rfl) (by kernel_rfl) (by kernel_rfl) ?_ ?_ (by assumption) ?_
                rotate_left 2
                · (simp only [List.getElem?_toArray, List.getElem?_cons_succ, List.getElem?_cons_zero]; rfl)
                · exact fun _ _ _ h => h
                · (refine Or.inl ⟨by rfl, ?_⟩; intro w hSw; (try dsimp only at hSw); go_simp <;> with_reducible rfl)
                try simp only [Act.put, List.setIfInBounds_toArray, List.set_cons_zero, List.set_cons_succ]
                refine wpAnyH_done (by kernel_rfl) (NoPanic.normal ?_) _
                go_wp2_with fail
                go_ret
                exact ⟨by simp, HB4.drew⟩
              · have hm0 : 0 < m := by have := HJ.out; omega
                have hj1 : (0 : Int) ≤ (j : Int) - 1 := by omega
                have hj2 : (j : Int) - 1 < (n9 : Int) := by omega
                have hj3 : ((j : Int) - 1).toNat = j - 1 := by omega
                have hj4 : 1 ≤ (j : Int) := by omega
                obtain ⟨g9, rfl, _, _⟩ := HOE4.form (by omega)
                obtain ⟨hl9, hc9⟩ := HOE4.cell (j := j - 1) (by omega)
                rw [List.getElem_map, Runs.ends_at, show j - 1 + 1 = j by omega, ← HK.out] at hc9
                clear HOE4 hl9
                go_wp2_with fail
                refine wp_region_noPanic ?_
                refine wp_region_held_drew (S := (fun w' => (convert 22 9 (.slice A4 n4 c4)).run Try.prog w' = .ok (.string (strOf (Runs.flat (rs.take j)))) w' ∧ (convert 22 9 (.slice A8 K c8)).run Try.prog w' = .ok (.string (strOf (Runs.flat (rs.take j)))) w')) (by kernel_rfl) ⟨run_stringB LX.drew, run_stringB LB.drew⟩ (fun hHeld => ?_)
                refine wpAnyH_take (i := 0) (oi := ?_) (v := ?_) ?_ (by kernel_rfl) (by kernel_rfl) (by kernel_rfl) ?_ ?_ (by assumption) ?_
                rotate_left 2
                · (simp only [List.getElem?_toArray, List.getElem?_cons_zero]; rfl)
                · exact fun _ _ _ h => h
                · (refine Or.inl ⟨by rfl, ?_⟩; intro w hSw; (try dsimp only at hSw); go_simp <;> with_reducible rfl)
                try simp only [Act.put, List.setIfInBounds_toArray, List.set_cons_zero, List.set_cons_succ]
                refine wpAnyH_take (i := 1) (oi := ?_) (v := ?_) ?_ (by kernel_rfl) (by kernel_rfl) (by kernel_rfl) ?_ ?_ (by assumption) ?_
                rotate_left 2
                · (simp only [List.getElem?_toArray, List.getElem?_cons_succ, List.getElem?_cons_zero]; rfl)
                · exact fun _ _ _ h => h
                · (refine Or.inl ⟨by rfl, ?_⟩; intro w hSw; (try dsimp only at hSw); go_simp <;> with_reducible rfl)
                try simp only [Act.put, List.setIfInBounds_toArray, List.set_cons_zero, List.set_cons_succ]
                refine wpAnyH_take (i := 2) (oi := ?_) (v := ?_) ?_ (by kernel_rfl) (by kernel_rfl) (by kernel_rfl) ?_ ?_ (by assumption) ?_
                rotate_left 2
                · (simp only [List.getElem?_toArray, List.getElem?_cons_succ, List.getElem?_cons_zero]; rfl)
                · exact fun _ _ _ h => h
                · (refine Or.inl ⟨by rfl, ?_⟩; intro w hSw; (try dsimp only at hSw); go_simp <;> with_reducible rfl)
                try simp only [Act.put, List.setIfInBounds_toArray, List.set_cons_zero, List.set_cons_succ]
                refine wpAnyH_take (i := 3) (oi := ?_) (v := ?_) ?_ (by kernel_rfl) (by kernel_rfl) (by kernel_rfl) ?_ ?_ (by assumption) ?_
                rotate_left 2
                · (simp only [List.getElem?_toArray, List.getElem?_cons_succ, List.getElem?_cons_zero]; rfl)
                · exact fun _ _ _ h => h
                · (refine Or.inl ⟨by rfl, ?_⟩; intro w hSw; (try dsimp only at hSw); go_simp <;> with_reducible rfl)
                try simp only [Act.put, List.setIfInBounds_toArray, List.set_cons_zero, List.set_cons_succ]
                refine wpAnyH_take (i := 4) (oi := ?_) (v := ?_) ?_ (by kernel_rfl) (by kernel_rfl) (by kernel_rfl) ?_ ?_ (by assumption) ?_
                rotate_left 2
                · (simp only [List.getElem?_toArray, List.getElem?_cons_succ, List.getElem?_cons_zero]; rfl)
                · exact fun _ _ _ h => h
                · (refine Or.inl ⟨by rfl, ?_⟩; intro w hSw; (try dsimp only at hSw); go_simp <;> with_reducible rfl)
                try simp only [Act.put, List.setIfInBounds_toArray, List.set_cons_zero, List.set_cons_succ]
                refine wpAnyH_take (i := 5) (oi := ?_) (v := ?_) ?_ (by kernel_rfl) (by kernel_rfl) (by kernel_rfl) ?_ ?_ (by assumption) ?_
                rotate_left 2
                · (simp only [List.getElem?_toArray, List.getElem?_cons_succ, List.getElem?_cons_zero]; rfl)
                · exact fun _ _ _ h => h
                · (refine Or.inl ⟨by rfl, ?_⟩; intro w hSw; (try dsimp only at hSw); go_simp <;> with_reducible rfl)
                try simp only [Act.put, List.setIfInBounds_toArray, List.set_cons_zero, List.set_cons_succ]
                refine wpAnyH_take (i := 6) (oi := ?_) (v := ?_) ?_ (by kernel_rfl) (by kernel_rfl) (by kernel_rfl) ?_ ?_ (by assumption) ?_
                rotate_left 2
                · (simp only [List.getElem?_toArray, List.getElem?_cons_succ, List.getElem?_cons_zero]; rfl)
                · exact fun _ _ _ h => h
                · (refine Or.inl ⟨by rfl, ?_⟩; intro w hSw; (try dsimp only at hSw); go_simp <;> with_reducible rfl)
                try simp only [Act.put, List.setIfInBounds_toArray, List.set_cons_zero, List.set_cons_succ]
                refine wpAnyH_take (i := 7) (oi := ?_) (v := ?_) ?_ (by kernel_rfl) (by kernel_rfl) (by kernel_rfl) ?_ ?_ (by assumption) ?_
                rotate_left 2
                · (simp only [List.getElem?_toArray, List.getElem?_cons_succ, List.getElem?_cons_zero]; rfl)
                · exact fun _ _ _ h => h
                · (refine Or.inl ⟨by rfl, ?_⟩; intro w hSw; (try dsimp only at hSw); go_simp <;> with_reducible rfl)
                try simp only [Act.put, List.setIfInBounds_toArray, List.set_cons_zero, List.set_cons_succ]
                refine wpAnyH_take (i := 8) (oi := ?_) (v := ?_) ?_ (by kernel_rfl) (by kernel_rfl) (by kernel_rfl) ?_ ?_ (by assumption) ?_
                rotate_left 2
                · (simp only [List.getElem?_toArray, List.getElem?_cons_succ, List.getElem?_cons_zero]; rfl)
                · exact fun _ _ _ h => h
                · (refine Or.inl ⟨by rfl, ?_⟩; intro w hSw; (try dsimp only at hSw); go_simp <;> with_reducible rfl)
                try simp only [Act.put, List.setIfInBounds_toArray, List.set_cons_zero, List.set_cons_succ]
                refine wpAnyH_take (i := 9) (oi := ?_) (v := ?_) ?_ (by kernel_rfl) (by kernel_rfl) (by kernel_rfl) ?_ ?_ (by assumption) ?_
                rotate_left 2
                · (simp only [List.getElem?_toArray, List.getElem?_cons_succ, List.getElem?_cons_zero]; rfl)
                · exact fun _ _ _ h => h
                · (refine Or.inl ⟨by rfl, ?_⟩; intro w hSw; (try dsimp only at hSw); go_simp <;> with_reducible rfl)
                try simp only [Act.put, List.setIfInBounds_toArray, List.set_cons_zero, List.set_cons_succ]
                refine wpAnyH_take (i := 10) (oi := ?_) (v := ?_) ?_ (by kernel_rfl) (by kernel_rfl) (by kernel_rfl) ?_ ?_ (by assumption) ?_
                rotate_left 2
                · (simp only [List.getElem?_toArray, List.getElem?_cons_succ, List.getElem?_cons_zero]; rfl)
                · exact fun _ _ _ h => h
                · (refine Or.inl ⟨by rfl, ?_⟩; intro w hSw; (try dsimp only at hSw); go_simp <;> with_reducible rfl)
                try simp only [Act.put, List.setIfInBounds_toArray, List.set_cons_zero, List.set_cons_succ]
                refine wpAnyH_take (i := 11) (oi := ?_) (v := ?_) ?_ (by kernel_rfl) (by kernel_rfl) (by kernel_rfl) ?_ ?_ (by assumption) ?_
                rotate_left 2
                · (simp only [List.getElem?_toArray, List.getElem?_cons_succ, List.getElem?_cons_zero]; rfl)
                · exact fun _ _ _ h => h
                · (refine Or.inl ⟨by rfl, ?_⟩; intro w hSw; (try dsimp only at hSw); go_simp <;> with_reducible rfl)
                try simp only [Act.put, List.setIfInBounds_toArray, List.set_cons_zero, List.set_cons_succ]
                refine wpAnyH_done (by kernel_rfl) (NoPanic.normal ?_) _
                go_wp2_with fail
                go_ret
                exact ⟨by simp, HB4.drew⟩
end Go.Proofs.Ytobdafecgbcofaa
