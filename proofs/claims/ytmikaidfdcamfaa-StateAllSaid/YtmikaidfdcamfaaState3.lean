/-
  Page, With.
-/
import Derived.Test.YtmikaidfdcamfaaState2
import Derived.Test.YtmikaidfdcamfaaRegion
namespace Go.Proofs.Ytmikaidfdcamfaa
open Go.RowKit
set_option linter.unusedVariables false
def pageOf (l : List Int) (i : Int) : List Int := if 0 ≤ i ∧ i < 4 then (l.drop (8 * i.toNat)).take 8 else List.replicate 8 0
def withOf (l : List Int) (i : Int) (p : List Int) : List Int := if 0 ≤ i ∧ i < 4 then l.take (8 * i.toNat) ++ p ++ l.drop (8 * i.toNat + 8) else l
theorem pageOf_len (l : List Int) (i : Int) (h : l.length = 32) : (pageOf l i).length = 8 := by
  unfold pageOf
  split
  · rw [List.length_take, List.length_drop]; omega
  · rfl
theorem withOf_len (l : List Int) (i : Int) (p : List Int) (h : l.length = 32) (hp : p.length = 8) : (withOf l i p).length = 32 := by
  unfold withOf
  split
  · rw [List.length_append, List.length_append, List.length_take, List.length_drop]; omega
  · exact h
theorem ivs_take (l : List Int) (k : Nat) : (ivs l).take k = ivs (l.take k) := by simp [ivs, List.map_take]
theorem ivs_drop (l : List Int) (k : Nat) : (ivs l).drop k = ivs (l.drop k) := by simp [ivs, List.map_drop]
theorem ivs_append (l m : List Int) : ivs l ++ ivs m = ivs (l ++ m) := by simp [ivs]
set_option maxHeartbeats 1000000 in
set_option maxRecDepth 10000 in
theorem state_Page (l : List Int) (i : Int) (hl : l.length = 32) (w : World) (lo : -9223372036854775808 ≤ i) (hi : i ≤ 9223372036854775807) :
    Calls Try.prog 13 #[.agg (ivs l).toArray, .int .i64 i] w fun e w' => e = .returned (.agg (ivs (pageOf l i)).toArray) ∧ Below w.heap.size w w' := by
  obtain ⟨L, hL⟩ : ∃ L, L = ivs l := ⟨_, rfl⟩
  obtain ⟨R, hR⟩ : ∃ R, R = ivs (pageOf l i) := ⟨_, rfl⟩
  rw [← hL, ← hR]
  have HL := hide hL
  have HL32 : Hid (L.length = 32) := by rw [hL]; show (ivs l).length = 32; rw [ivs_len, hl]
  have HL1 : Hid (∀ u ∈ L, u.oneCell' = true) := by rw [hL]; exact ivs_one _
  have HR := hide hR
  clear hL hR
  go_enter Try.func13, Try.ntmps13
  go_upto_region 1 with fail
  go_cut [2, 4, 5] (fun s2 s4 s5 wx => ∃ g2 g4 g5, s2 = .pointer (some ⟨g2, 0, none⟩) ∧ s4 = .pointer (some ⟨g4, 0, none⟩) ∧ s5 = .pointer (some ⟨g5, 0, none⟩) ∧ Arr 26 wx g2 L ∧ Arr 35 wx g4 (ivs (List.replicate 8 0)) ∧ Arr 35 wx g5 (ivs (List.replicate 8 0)) ∧ w.heap.size ≤ g2 ∧ g2 < g4 ∧ g4 < g5 ∧ Below w.heap.size w wx)
  case first =>
    go_wp2
    go_meet
    refine ⟨w.heap.size, w.heap.size + 1, w.heap.size + 2, rfl, rfl, rfl, ?_, ?_, ?_, by omega, by omega, by omega, ?_⟩
    · exact ((Arr.new 26 w _ L (by simp)).belowN (Below_new _ _)).belowN (Below_new _ _)
    · have := Arr.new 35 (w.alloc (.cells L.toArray 26)) (ivs (List.replicate 8 0)).toArray (ivs (List.replicate 8 0)) (by simp)
      rw [World.size_alloc] at this
      exact this.belowN (Below_new _ _)
    · have := Arr.new 35 ((w.alloc (.cells L.toArray 26)).alloc (.cells (ivs (List.replicate 8 0)).toArray 35)) (ivs (List.replicate 8 0)).toArray (ivs (List.replicate 8 0)) (by simp)
      rw [World.size_alloc, World.size_alloc] at this
      exact this
    · exact Below_step (Below_step (Below_new _ _) (Below_new _ _)) (Below_new _ _)
  case rest =>
    obtain ⟨g2, g4, g5, rfl, rfl, rfl, ha2, ha4, ha5, hg2, hg4, hg5, hb⟩ := hcut
    have H2 := hide ha2
    have H4 := hide ha4
    have H5 := hide ha5
    have HB := hide hb
    have hsz := hb.size
    clear ha2 ha4 hb ha5
    obtain ⟨zs, hzs⟩ : ∃ zs, zs = ivs (List.replicate 8 0) := ⟨_, rfl⟩
    have HZ := hide hzs
    have HZ8 : Hid (zs.length = 8) := by rw [hzs]; rfl
    have HZ1 : Hid (∀ u ∈ zs, u.oneCell' = true) := by rw [hzs]; exact ivs_one _
    rw [← hzs] at H4 H5
    clear hzs
    have wr0 : IntKind.i64.wrap 0 = 0 := by decide
    have wr1 : IntKind.i64.wrap 8 = 8 := by decide
    have wr2 : IntKind.i64.wrap 16 = 16 := by decide
    have wr3 : IntKind.i64.wrap 24 = 24 := by decide
    by_cases hin : 0 ≤ i ∧ i < 4
    · have e1 : Hid (R = (L.drop (8 * i.toNat)).take 8) := by
        show R = _
        rw [HR.out, HL.out, pageOf, if_pos hin, ivs_drop, ivs_take]
      have hc : i = 0 ∨ i = 1 ∨ i = 2 ∨ i = 3 := by omega
      clear hin
      rcases hc with rfl | rfl | rfl | rfl
      all_goals
        go_wp2_with fail
        refine wp_region_noPanic ?_
        refine wp_region_held_drew (S := (fun _ => True)) (by kernel_rfl) trivial (fun hHeld => ?_)
        refine wpAnyH_take (i := 0) (oi := ?_) (v := ?_) ?_ (by kernel_rfl) (by kernel_rfl) (by kernel_rfl) ?_ ?_ (by assumption) ?_
        rotate_left 2
        · (simp only [List.getElem?_toArray, List.getElem?_cons_zero]; rfl)
        · exact fun _ _ _ h => h
        · (refine Or.inl ⟨by rfl, ?_⟩; intro w hSw; (try dsimp only at hSw); go_simp <;> with_reducible rfl)
        try simp only [Act.put, List.setIfInBounds_toArray, List.set_cons_zero, List.set_cons_succ]
        refine wpAnyH_take (i := 1) (oi := ?_) (v := ?_) ?_ (by kernel_rfl) (by kernel_rfl) (by kernel_rfl) ?_ ?_ (by assumption) ?_
        rotate_left 2
        · (simp only [List.getElem?_toArray, List.getElem?_cons_succ, List.getElem?_cons_zero]; rfl)
        · exact fun _ _ _ h => h
        · (refine Or.inl ⟨by rfl, ?_⟩; intro w hSw; (try dsimp only at hSw); go_simp <;> with_reducible rfl)
        try simp only [Act.put, List.setIfInBounds_toArray, List.set_cons_zero, List.set_cons_succ]
        refine wpAnyH_take (i := 2) (oi := ?_) (v := ?_) ?_ (by kernel_rfl) (by kernel_rfl) (by kernel_rfl) ?_ ?_ (by assumption) ?_
        rotate_left 2
        · (simp only [List.getElem?_toArray, List.getElem?_cons_succ, List.getElem?_cons_zero]; rfl)
        · exact fun _ _ _ h => h
        · (refine Or.inl ⟨by rfl, ?_⟩; intro w hSw; (try dsimp only at hSw); go_simp <;> with_reducible rfl)
        try simp only [Act.put, List.setIfInBounds_toArray, List.set_cons_zero, List.set_cons_succ]
        refine wpAnyH_take (i := 3) (oi := ?_) (v := ?_) ?_ (by kernel_rfl) (by kernel_rfl) (by kernel_rfl) ?_ ?_ (by assumption) ?_
        rotate_left 2
        · (simp only [List.getElem?_toArray, List.getElem?_cons_succ, List.getElem?_cons_zero]; rfl)
        · exact fun _ _ _ h => h
        · (refine Or.inl ⟨by rfl, ?_⟩; intro w hSw; (try dsimp only at hSw); go_simp <;> with_reducible rfl)
        try simp only [Act.put, List.setIfInBounds_toArray, List.set_cons_zero, List.set_cons_succ]
        refine wpAnyH_ready (rs := [4]) (by kernel_rfl) (by simp) ?_
        refine AllReadyH.cons (o := ?_) ?_ (fun K hK => ?_) AllReadyH.nil
        rotate_left 1
        · (simp only [List.getElem?_toArray, List.getElem?_cons_succ, List.getElem?_cons_zero]; rfl)
        refine step_copyA rfl (.tmp 12) (.tmp 15) 32 32 rfl 21 Try.underlying32 info_int32 g5 0 8 8 g2 _ _ _ rfl rfl 35 zs H5.out.drew 26 L H2.out.drew 8 rfl (by rw [HL32.out]; omega) (by rw [HZ8.out]; omega) HL1.out ?_
        intro w2 ha5 hk2 hs2
        refine hK.out _ _ trivial (fun hHeld => ?_)
        clear hK K
        try simp only [Act.put, List.setIfInBounds_toArray, List.set_cons_zero, List.set_cons_succ]
        refine wpAnyH_done (by kernel_rfl) (NoPanic.normal ?_) _
        simp only [List.take_zero, List.nil_append, List.drop_eq_nil_of_le (show zs.length ≤ 0 + 8 by rw [HZ8.out]; omega), List.append_nil] at ha5
        have HA5 : Hid (Arr 35 w2 g5 R) := by show Arr _ _ _ _; rw [e1.out]; exact ha5
        have HA4 := hide (H4.out.drew.keeps hk2 (by omega))
        have HB2 := hide (HB.out.drew.trans (hk2.below hsz (fun k hk => by omega)))
        have hsz2 := HB2.out.size
        have HR8 : Hid (R.length = 8) := by rw [e1.out]; show ((L.drop _).take 8).length = 8; rw [List.length_take, List.length_drop, HL32.out]; rfl
        have HR1 : Hid (∀ u ∈ R, u.oneCell' = true) := by rw [HR.out]; exact ivs_one _
        clear ha5 hk2 hs2
        go_wp2_with (first
          | (refine wpA_load rfl 35 (.tmp 5) rfl g5 rfl 35 R HA5.out 8 21 Try.underlying35 info_page HR8.out ?_)
          | (refine wpA_store rfl 35 (.tmp 4) (.tmp 17) rfl g4 R rfl rfl 35 zs HA4.out 8 info_page HZ8.out HR8.out HR1.out ?_; intro w3 ha3 hk3 hs3))
        exact bodyPost_ret (results_arr (fn := Try.f13) rfl rfl ha3 Try.underlying35 info_page HR8.out) rfl ⟨rfl, HB2.out.trans (hk3.below hsz2 (fun k hk => by omega))⟩
    · have HE : Hid (R = zs) := by
        show R = zs
        rw [HR.out, HZ.out, pageOf, if_neg hin]
      by_cases h0 : 0 ≤ i
      · have d1 : decide (i < 4) = false := by simp; omega
        clear hin
        go_wp2_with (first
          | (refine wpA_load rfl 35 (.tmp 5) rfl g5 rfl 35 zs H5.out 8 21 Try.underlying35 info_page HZ8.out ?_)
          | (refine wpA_store rfl 35 (.tmp 4) (.tmp 17) rfl g4 zs rfl rfl 35 zs H4.out 8 info_page HZ8.out HZ8.out HZ1.out ?_; intro w3 ha3 hk3 hs3))
        refine bodyPost_ret (results_arr (fn := Try.f13) rfl rfl ha3 Try.underlying35 info_page HZ8.out) rfl ?_
        rw [HE.out]
        exact ⟨rfl, HB.out.trans (hk3.below hsz (fun k hk => by omega))⟩
      · have d1 : decide (0 ≤ i) = false := by simp; omega
        clear hin
        go_wp2_with (first
          | (refine wpA_load rfl 35 (.tmp 5) rfl g5 rfl 35 zs H5.out 8 21 Try.underlying35 info_page HZ8.out ?_)
          | (refine wpA_store rfl 35 (.tmp 4) (.tmp 17) rfl g4 zs rfl rfl 35 zs H4.out 8 info_page HZ8.out HZ8.out HZ1.out ?_; intro w3 ha3 hk3 hs3))
        refine bodyPost_ret (results_arr (fn := Try.f13) rfl rfl ha3 Try.underlying35 info_page HZ8.out) rfl ?_
        rw [HE.out]
        exact ⟨rfl, HB.out.trans (hk3.below hsz (fun k hk => by omega))⟩

set_option maxHeartbeats 1000000 in
set_option maxRecDepth 10000 in
theorem state_With (l : List Int) (i : Int) (p : List Int) (hl : l.length = 32) (hp : p.length = 8) (w : World) (lo : -9223372036854775808 ≤ i) (hi : i ≤ 9223372036854775807) :
    Calls Try.prog 12 #[.agg (ivs l).toArray, .int .i64 i, .agg (ivs p).toArray] w fun e w' => e = .returned (.agg (ivs (withOf l i p)).toArray) ∧ Below w.heap.size w w' := by
  obtain ⟨L, hL⟩ : ∃ L, L = ivs l := ⟨_, rfl⟩
  obtain ⟨P, hP⟩ : ∃ P, P = ivs p := ⟨_, rfl⟩
  obtain ⟨R, hR⟩ : ∃ R, R = ivs (withOf l i p) := ⟨_, rfl⟩
  rw [← hL, ← hR, ← hP]
  have HL := hide hL
  have HP := hide hP
  have HL32 : Hid (L.length = 32) := by rw [hL]; show (ivs l).length = 32; rw [ivs_len, hl]
  have HP8 : Hid (P.length = 8) := by rw [hP]; show (ivs p).length = 8; rw [ivs_len, hp]
  have HR32 : Hid (R.length = 32) := by rw [hR]; show (ivs _).length = 32; rw [ivs_len, withOf_len _ _ _ hl hp]
  have HL1 : Hid (∀ u ∈ L, u.oneCell' = true) := by rw [hL]; exact ivs_one _
  have HP1 : Hid (∀ u ∈ P, u.oneCell' = true) := by rw [hP]; exact ivs_one _
  have HR1 : Hid (∀ u ∈ R, u.oneCell' = true) := by rw [hR]; exact ivs_one _
  have HR := hide hR
  clear hL hR hP
  go_enter Try.func12, Try.ntmps12
  go_upto_region 0 with fail
  go_cut [3, 5, 6] (fun s2 s5 s4 wx => ∃ g2 g5 g4, s2 = .pointer (some ⟨g2, 0, none⟩) ∧ s4 = .pointer (some ⟨g4, 0, none⟩) ∧ s5 = .pointer (some ⟨g5, 0, none⟩) ∧ Arr 26 wx g2 L ∧ Arr 26 wx g4 (ivs (List.replicate 32 0)) ∧ Arr 35 wx g5 P ∧ w.heap.size ≤ g2 ∧ g2 < g5 ∧ g5 < g4 ∧ Below w.heap.size w wx)
  case first =>
    go_wp2
    go_meet
    refine ⟨w.heap.size, w.heap.size + 1, w.heap.size + 2, rfl, rfl, rfl, ?_, ?_, ?_, by omega, by omega, by omega, ?_⟩
    · exact ((Arr.new 26 w _ L (by simp)).belowN (Below_new _ _)).belowN (Below_new _ _)
    · have := Arr.new 26 ((w.alloc (.cells L.toArray 26)).alloc (.cells P.toArray 35)) (ivs (List.replicate 32 0)).toArray (ivs (List.replicate 32 0)) (by simp)
      rw [World.size_alloc, World.size_alloc] at this
      exact this
    · have := Arr.new 35 (w.alloc (.cells L.toArray 26)) P.toArray P (by simp)
      rw [World.size_alloc] at this
      exact this.belowN (Below_new _ _)
    · exact Below_step (Below_step (Below_new _ _) (Below_new _ _)) (Below_new _ _)
  case rest =>
    obtain ⟨g2, g5, g4, rfl, rfl, rfl, ha2, ha4, ha5, hg2, hg4, hg5, hb⟩ := hcut
    have H2 := hide ha2
    have H4 := hide ha4
    have H5 := hide ha5
    have HB := hide hb
    have hsz := hb.size
    clear ha2 ha4 hb ha5
    obtain ⟨zs, hzs⟩ : ∃ zs, zs = ivs (List.replicate 32 0) := ⟨_, rfl⟩
    have HZ32 : Hid (zs.length = 32) := by rw [hzs]; rfl
    rw [← hzs] at H4
    clear hzs
    have wr0 : IntKind.i64.wrap 0 = 0 := by decide
    have wr1 : IntKind.i64.wrap 8 = 8 := by decide
    have wr2 : IntKind.i64.wrap 16 = 16 := by decide
    have wr3 : IntKind.i64.wrap 24 = 24 := by decide
    by_cases hin : 0 ≤ i ∧ i < 4
    · have e1 : Hid (R = L.take (8 * i.toNat) ++ P ++ L.drop (8 * i.toNat + 8)) := by
        show R = _
        rw [HR.out, HL.out, HP.out, withOf, if_pos hin, ivs_drop, ivs_take, ivs_append, ivs_append]
      have hc : i = 0 ∨ i = 1 ∨ i = 2 ∨ i = 3 := by omega
      clear hin
      rcases hc with rfl | rfl | rfl | rfl
      all_goals
        go_wp2_with fail
        refine wp_region_noPanic ?_
        refine wp_region_held_drew (S := (fun _ => True)) (by kernel_rfl) trivial (fun hHeld => ?_)
        refine wpAnyH_take (i := 0) (oi := ?_) (v := ?_) ?_ (by kernel_rfl) (by kernel_rfl) (by kernel_rfl) ?_ ?_ (by assumption) ?_
        rotate_left 2
        · (simp only [List.getElem?_toArray, List.getElem?_cons_zero]; rfl)
        · exact fun _ _ _ h => h
        · (refine Or.inl ⟨by rfl, ?_⟩; intro w hSw; (try dsimp only at hSw); go_simp <;> with_reducible rfl)
        try simp only [Act.put, List.setIfInBounds_toArray, List.set_cons_zero, List.set_cons_succ]
        refine wpAnyH_take (i := 1) (oi := ?_) (v := ?_) ?_ (by kernel_rfl) (by kernel_rfl) (by kernel_rfl) ?_ ?_ (by assumption) ?_
        rotate_left 2
        · (simp only [List.getElem?_toArray, List.getElem?_cons_succ, List.getElem?_cons_zero]; rfl)
        · exact fun _ _ _ h => h
        · (refine Or.inl ⟨by rfl, ?_⟩; intro w hSw; (try dsimp only at hSw); go_simp <;> with_reducible rfl)
        try simp only [Act.put, List.setIfInBounds_toArray, List.set_cons_zero, List.set_cons_succ]
        refine wpAnyH_take (i := 2) (oi := ?_) (v := ?_) ?_ (by kernel_rfl) (by kernel_rfl) (by kernel_rfl) ?_ ?_ (by assumption) ?_
        rotate_left 2
        · (simp only [List.getElem?_toArray, List.getElem?_cons_succ, List.getElem?_cons_zero]; rfl)
        · exact fun _ _ _ h => h
        · (refine Or.inl ⟨by rfl, ?_⟩; intro w hSw; (try dsimp only at hSw); go_simp <;> with_reducible rfl)
        try simp only [Act.put, List.setIfInBounds_toArray, List.set_cons_zero, List.set_cons_succ]
        refine wpAnyH_take (i := 3) (oi := ?_) (v := ?_) ?_ (by kernel_rfl) (by kernel_rfl) (by kernel_rfl) ?_ ?_ (by assumption) ?_
        rotate_left 2
        · (simp only [List.getElem?_toArray, List.getElem?_cons_succ, List.getElem?_cons_zero]; rfl)
        · exact fun _ _ _ h => h
        · (refine Or.inl ⟨by rfl, ?_⟩; intro w hSw; (try dsimp only at hSw); go_simp <;> with_reducible rfl)
        try simp only [Act.put, List.setIfInBounds_toArray, List.set_cons_zero, List.set_cons_succ]
        refine wpAnyH_ready (rs := [4]) (by kernel_rfl) (by simp) ?_
        refine AllReadyH.cons (o := ?_) ?_ (fun K hK => ?_) AllReadyH.nil
        rotate_left 1
        · (simp only [List.getElem?_toArray, List.getElem?_cons_succ, List.getElem?_cons_zero]; rfl)
        refine step_copyA rfl (.tmp 15) (.tmp 16) 32 32 rfl 21 Try.underlying32 info_int32 g2 _ _ _ g5 0 8 8 rfl rfl 26 L H2.out.drew 35 P H5.out.drew 8 rfl (by rw [HP8.out]; omega) (by rw [HL32.out]; omega) HP1.out ?_
        intro w2 ha5 hk2 hs2
        refine hK.out _ _ trivial (fun hHeld => ?_)
        clear hK K
        try simp only [Act.put, List.setIfInBounds_toArray, List.set_cons_zero, List.set_cons_succ]
        refine wpAnyH_done (by kernel_rfl) (NoPanic.normal ?_) _
        have HA5 : Hid (Arr 26 w2 g2 R) := by
          show Arr _ _ _ _
          rw [e1.out]
          have e3 : (P.drop 0).take 8 = P := by rw [List.drop_zero, List.take_of_length_le (by rw [HP8.out]; omega)]
          rw [e3] at ha5
          exact ha5
        have HA4 := hide (H4.out.drew.keeps hk2 (by omega))
        have HB2 := hide (HB.out.drew.trans (hk2.below hsz (fun k hk => by omega)))
        have hsz2 := HB2.out.size
        clear ha5 hk2 hs2
        go_wp2_with (first
          | (refine wpA_load rfl 26 (.tmp 3) rfl g2 rfl 26 R HA5.out 32 21 Try.underlying26 info_state HR32.out ?_)
          | (refine wpA_store rfl 26 (.tmp 6) (.tmp 18) rfl g4 R rfl rfl 26 zs HA4.out 32 info_state HZ32.out HR32.out HR1.out ?_; intro w3 ha3 hk3 hs3))
        exact bodyPost_ret (results_arr (fn := Try.f12) rfl rfl ha3 Try.underlying26 info_state HR32.out) rfl ⟨rfl, HB2.out.trans (hk3.below hsz2 (fun k hk => by omega))⟩
    · have HE : Hid (R = L) := by
        show R = L
        rw [HR.out, HL.out, withOf, if_neg hin]
      by_cases h0 : 0 ≤ i
      · have d1 : decide (i < 4) = false := by simp; omega
        clear hin
        go_wp2_with (first
          | (refine wpA_load rfl 26 (.tmp 3) rfl g2 rfl 26 L H2.out 32 21 Try.underlying26 info_state HL32.out ?_)
          | (refine wpA_store rfl 26 (.tmp 6) (.tmp 18) rfl g4 L rfl rfl 26 zs H4.out 32 info_state HZ32.out HL32.out HL1.out ?_; intro w3 ha3 hk3 hs3))
        refine bodyPost_ret (results_arr (fn := Try.f12) rfl rfl ha3 Try.underlying26 info_state HL32.out) rfl ?_
        rw [HE.out]
        exact ⟨rfl, HB.out.trans (hk3.below hsz (fun k hk => by omega))⟩
      · have d1 : decide (0 ≤ i) = false := by simp; omega
        clear hin
        go_wp2_with (first
          | (refine wpA_load rfl 26 (.tmp 3) rfl g2 rfl 26 L H2.out 32 21 Try.underlying26 info_state HL32.out ?_)
          | (refine wpA_store rfl 26 (.tmp 6) (.tmp 18) rfl g4 L rfl rfl 26 zs H4.out 32 info_state HZ32.out HL32.out HL1.out ?_; intro w3 ha3 hk3 hs3))
        refine bodyPost_ret (results_arr (fn := Try.f12) rfl rfl ha3 Try.underlying26 info_state HL32.out) rfl ?_
        rw [HE.out]
        exact ⟨rfl, HB.out.trans (hk3.below hsz (fun k hk => by omega))⟩
end Go.Proofs.Ytmikaidfdcamfaa
