/-
  StatePages: the walk.
-/
import Derived.Test.YtmikaidfdcamfaaLaw8
namespace Go.Proofs.Ytmikaidfdcamfaa
open Go.RowKit
set_option linter.unusedVariables false
/-- An array written whole, inside a region that draws. -/
theorem step_storeA {ops : Array Oper} {o : Oper} {a : Act} {w : World} {K : Act → World → Prop} {Q : Exit → Act → World → Prop} {E : Prop} (hgd : o.guard = none) (ty : TypeId) (x y : Operand) (ho : o.op = .store ty x y)
    (g : Nat) (l' : List Value) (hx : a.eval x = .pointer (some ⟨g, 0, none⟩)) (hy : a.eval y = .agg l'.toArray) (T : TypeId) (l : List Value) (hg : Arr T w g l) (n : Nat)
    (hi : (Try.prog.info? ty).map (·.size) = some n) (hn : l.length = n) (hn' : l'.length = n) (h1 : ∀ u ∈ l', u.oneCell' = true)
    (h : ∀ w', Arr T w' g l' → Keeps (fun k => k = g) w w' → w'.heap.size = w.heap.size → K (a.put o.dst undef) w') :
    if Region.wanted o (yielded ops a.tmps) = true then Oper.wp Try.prog o a w K Q else E := by
  have hw : Region.wanted o (yielded ops a.tmps) = true := by simp [Region.wanted, hgd]
  rw [if_pos hw]
  exact wp_store_row ty x y ho g l'.toArray hx hy T l.toArray hg (by rw [hi]; simp [hn']) (by simp [hn, hn']) (Array.all_eq_true_iff_forall_mem.2 fun v hv => h1 v (by simpa using hv))
    (h _ (setRow_heap w g _ _ T _ hg) ⟨rfl, rfl, rfl, by simp, fun k _ hk => setRow_other w g k _ hk⟩ (by simp))
/-- An array read whole, inside a region that draws. -/
theorem step_loadA {ops : Array Oper} {o : Oper} {a : Act} {w : World} {K : Act → World → Prop} {Q : Exit → Act → World → Prop} {E : Prop} (hgd : o.guard = none) (ty : TypeId) (x : Operand) (ho : o.op = .load ty x)
    (g : Nat) (hx : a.eval x = .pointer (some ⟨g, 0, none⟩)) (T : TypeId) (l : List Value) (hg : Arr T w g l) (n : Nat) (e : TypeId) (hu : Try.prog.underlying ty = some (.array n e))
    (hi : (Try.prog.info? ty).map (·.size) = some n) (hn : l.length = n) (h : K (a.put o.dst (.agg l.toArray)) w) :
    if Region.wanted o (yielded ops a.tmps) = true then Oper.wp Try.prog o a w K Q else E := by
  have hw : Region.wanted o (yielded ops a.tmps) = true := by simp [Region.wanted, hgd]
  rw [if_pos hw]
  exact wp_load_row ty x ho g hx T l.toArray (0, 0) _ hg hu rfl (by rw [hi]; simp [hn]) h
/-- What has been taken over, page by page, from behind. -/
def half (s : List Int) (k : Nat) : List Int := List.replicate (8 * k) 0 ++ s.drop (8 * k)
theorem half_len (s : List Int) (k : Nat) (h : s.length = 32) (hk : k ≤ 4) : (half s k).length = 32 := by simp [half]; omega
theorem half_step (s : List Int) (k : Nat) (h : s.length = 32) (hk : k < 4) : withOf (half s (k + 1)) (k : Int) (pageOf s (k : Int)) = half s k := by
  rw [withOf, if_pos (by omega), pageOf, if_pos (by omega), Int.toNat_natCast]
  unfold half
  have h1 : (List.replicate (8 * (k + 1)) (0 : Int) ++ s.drop (8 * (k + 1))).take (8 * k) = List.replicate (8 * k) 0 := by
    rw [List.take_append_of_le_length (by simp; omega), List.take_replicate]
    congr 1; omega
  have h2 : (List.replicate (8 * (k + 1)) (0 : Int) ++ s.drop (8 * (k + 1))).drop (8 * k + 8) = s.drop (8 * k + 8) := by
    rw [List.drop_append, List.drop_eq_nil_of_le (by simp; omega), List.nil_append, List.length_replicate, show 8 * k + 8 - 8 * (k + 1) = 0 by omega, List.drop_zero]
    congr 1
  rw [h1, h2, List.append_assoc]
  congr 1
  have := List.take_append_drop 8 (s.drop (8 * k))
  rw [List.drop_drop] at this
  exact this
theorem half_zero (s : List Int) : half s 0 = s := by simp [half]
theorem half_four (s : List Int) (h : s.length = 32) : half s 4 = List.replicate 32 0 := by
  unfold half
  rw [List.drop_eq_nil_of_le (by omega), List.append_nil]
set_option maxHeartbeats 1000000 in
set_option maxRecDepth 10000 in
theorem law_StatePages (A : Option Addr) (n c : Nat) (l : List Int) (w : World) (hA : LiesI .i32 w w.heap.size A n l) (hc : n ≤ c) (hm : c ≤ maxLen) :
    Calls Try.prog 4 #[.slice A n c] w fun e w' => e = .returned (.bool true) ∧ Below w.heap.size w w' := by
  have hn : n ≤ 9223372036854775807 := by simp only [maxLen] at *; omega
  obtain ⟨s, hs⟩ : ∃ s, s = ofL l := ⟨_, rfl⟩
  have hs32 : s.length = 32 := by rw [hs]; exact ofL_len l
  obtain ⟨S, hS⟩ : ∃ S, S = ivs s := ⟨_, rfl⟩
  have HSl : Hid (S = ivs (ofL l)) := by rw [← hs]; exact hS
  have HS := hide hS
  have HS32 : Hid (S.length = 32) := by rw [hS]; show (ivs s).length = 32; rw [ivs_len, hs32]
  have HS1 : Hid (∀ u ∈ S, u.oneCell' = true) := by rw [hS]; exact ivs_one _
  have Hs := hide hs
  have Hs32 := hide hs32
  have HA := hide hA
  clear hS hs hs32 hA hm
  go_enter Try.func4, Try.ntmps4
  go_wp2_with fail
  refine Calls.mono (begun8 _) ?_
  rintro e w1 ⟨rfl, hb1⟩
  have L1 := hide (HA.out.below hb1)
  have hs1 := hb1.size
  have HB1 := hide hb1
  clear hb1
  go_wp2_with fail
  refine Calls.mono (law8_Of _ _ _ _ _ _ L1.out hs1 hn) ?_
  rintro e w2 ⟨rfl, hb2⟩
  rw [← HSl.out]
  have HB2 := hide (Below_step HB1.out hb2)
  clear hb2
  go_upto_region 5 with (refine wpA_init rfl 26 (.tmp 4) (.tmp 11) rfl S rfl rfl 32 info_state rfl HS32.out HS1.out ?_; intro w3 ha3 hb3 hs3)
  have HB3 := hide (Below_step HB2.out hb3)
  have H3 := hide ha3
  have hg3 : w.heap.size ≤ w2.heap.size := HB2.out.size
  clear ha3 hb3 hs3
  simp only [Act.put]
  go_cut [5] (fun s5 wx => ∃ g5, s5 = .pointer (some ⟨g5, 0, none⟩) ∧ Arr 26 wx g5 (ivs (List.replicate 32 0)) ∧ Arr 26 wx w2.heap.size S ∧ w2.heap.size < g5 ∧ Below w.heap.size w wx)
  case first =>
    go_wp2
    go_meet
    exact ⟨w3.heap.size, rfl, Arr.new 26 w3 _ _ rfl, H3.out.belowN (Below_new _ _), H3.out.lt, Below_step HB3.out (Below_new _ _)⟩
  case rest =>
    obtain ⟨g5, rfl, ha5, ha3, hg5, hb⟩ := hcut
    have H5 := hide ha5
    have H3 := hide ha3
    have HB := hide hb
    clear ha5 ha3 hb
    go_wp2_with fail
    go_loopg [6] 4 (fun g i wr => ∃ k : Nat, k ≤ 4 ∧ g = k ∧ i = .int .i64 ((k : Int) - 1) ∧ Arr 26 wr g5 (ivs (half s k)) ∧ Arr 26 wr w2.heap.size S ∧ Below w.heap.size w wr)
    case atStart => exact ⟨4, by omega, rfl, rfl, by rw [half_four _ Hs32.out]; exact H5.out, H3.out, HB.out⟩
    case round =>
      obtain ⟨k, hk, rfl, rfl, ha5, ha3, hb⟩ := hrel
      obtain ⟨W1, hW1⟩ : ∃ W1, W1 = wr := ⟨_, rfl⟩
      subst hW1
      by_cases h0 : 0 < gk
      · obtain ⟨j, rfl⟩ : ∃ j, gk = j + 1 := ⟨gk - 1, by omega⟩
        have ej : ((j + 1 : Nat) : Int) - 1 = (j : Int) := by omega
        rw [ej]
        obtain ⟨T, hT⟩ : ∃ T, T = ivs (half s (j + 1)) := ⟨_, rfl⟩
        obtain ⟨P, hP⟩ : ∃ P, P = ivs (pageOf s (j : Int)) := ⟨_, rfl⟩
        obtain ⟨U, hU⟩ : ∃ U, U = ivs (half s j) := ⟨_, rfl⟩
        have HT := hide hT
        have HP := hide hP
        have HT32 : Hid (T.length = 32) := by rw [hT]; show (ivs _).length = 32; rw [ivs_len, half_len _ _ Hs32.out (by omega)]
        have HU := hide hU
        have HU32 : Hid (U.length = 32) := by rw [hU]; show (ivs _).length = 32; rw [ivs_len, half_len _ _ Hs32.out (by omega)]
        have HU1 : Hid (∀ u ∈ U, u.oneCell' = true) := by rw [hU]; exact ivs_one _
        have HUw : Hid (U = ivs (withOf (half s (j + 1)) (j : Int) (pageOf s (j : Int)))) := by rw [half_step _ _ Hs32.out (by omega)]; exact hU
        rw [← hT] at ha5
        clear hT hP hU ej
        go_wp2_with fail
        refine wp_region_noPanic ?_
        refine wp_region_held_drew (S := (Whole 26 w2.heap.size S)) (by kernel_rfl) (ha3.drew.whole 26 32 21 Try.underlying26 info_state HS32.out) (fun hHeld => ?_)
        refine wpAnyH_take (i := 1) (oi := ?_) (v := ?_) ?_ (by kernel_rfl) (by kernel_rfl) (by kernel_rfl) ?_ ?_ (by assumption) ?_
        rotate_left 2
        · (simp only [List.getElem?_toArray, List.getElem?_cons_succ, List.getElem?_cons_zero]; rfl)
        · exact fun _ _ _ h => h
        · (refine Or.inl ⟨by rfl, ?_⟩; intro w hSw; (try dsimp only at hSw); go_simp <;> with_reducible rfl)
        try simp only [Act.put, List.setIfInBounds_toArray, List.set_cons_zero, List.set_cons_succ]
        refine wpAnyH_take (i := 2) (oi := ?_) (v := .agg S.toArray) ?_ (by kernel_rfl) (by kernel_rfl) (by kernel_rfl) ?_ ?_ (by assumption) ?_
        rotate_left 1
        · (simp only [List.getElem?_toArray, List.getElem?_cons_succ, List.getElem?_cons_zero]; rfl)
        · exact fun _ _ _ h => h
        · (refine Or.inl ⟨by rfl, ?_⟩; intro w hSw; (try dsimp only at hSw); exact exec_whole (x := .tmp 4) hSw rfl rfl)
        try simp only [Act.put, List.setIfInBounds_toArray, List.set_cons_zero, List.set_cons_succ]
        refine wpAnyH_take (i := 3) (oi := ?_) (v := ?_) ?_ (by kernel_rfl) (by kernel_rfl) (by kernel_rfl) ?_ ?_ (by assumption) ?_
        rotate_left 2
        · (simp only [List.getElem?_toArray, List.getElem?_cons_succ, List.getElem?_cons_zero]; rfl)
        · exact fun _ _ _ h => h
        · (refine Or.inl ⟨by rfl, ?_⟩; intro w hSw; (try dsimp only at hSw); go_simp <;> with_reducible rfl)
        try simp only [Act.put, List.setIfInBounds_toArray, List.set_cons_zero, List.set_cons_succ]
        refine wpAnyH_ready (rs := [0, 4]) (by kernel_rfl) (by simp) ?_
        refine AllReadyH.cons (o := ?_) ?_ (fun K hK => ?_) ?_
        rotate_left 1
        · (simp only [List.getElem?_toArray, List.getElem?_cons_zero]; rfl)
        · refine step_loadA rfl 26 (.tmp 5) rfl g5 rfl 26 T ha5.drew 32 21 Try.underlying26 info_state HT32.out ?_
          refine hK.out _ _ (ha3.drew.whole 26 32 21 Try.underlying26 info_state HS32.out) (fun hHeld => ?_)
          clear hK K
          try simp only [Act.put, List.setIfInBounds_toArray, List.set_cons_zero, List.set_cons_succ]
          refine wpAnyH_ready (rs := [4]) (by kernel_rfl) (by simp) ?_
          refine AllReadyH.cons (o := ?_) ?_ (fun K hK => ?_) AllReadyH.nil
          rotate_left 1
          · (simp only [List.getElem?_toArray, List.getElem?_cons_succ, List.getElem?_cons_zero]; rfl)
          go_simp
          refine Calls.mono (state_Page_v HS.out Hs32.out HP.out _ (by omega) (by omega)) ?_
          rintro e w4 ⟨rfl, hb4⟩
          have ha5 := ha5.drew.belowN hb4
          have ha3 := ha3.drew.belowN hb4
          have hb := Below_step hb.drew hb4
          refine hK.out _ _ (ha3.whole 26 32 21 Try.underlying26 info_state HS32.out) (fun hHeld => ?_)
          clear hK K
          try simp only [Act.put, List.setIfInBounds_toArray, List.set_cons_zero, List.set_cons_succ]
          refine wpAnyH_ready (rs := [5]) (by kernel_rfl) (by simp) ?_
          refine AllReadyH.cons (o := ?_) ?_ (fun K hK => ?_) AllReadyH.nil
          rotate_left 1
          · (simp only [List.getElem?_toArray, List.getElem?_cons_succ, List.getElem?_cons_zero]; rfl)
          go_simp
          refine Calls.mono (state_With_v HT.out (half_len _ _ Hs32.out (by omega)) HP.out (pageOf_len _ _ Hs32.out) HUw.out _ (by omega) (by omega)) ?_
          rintro e w5 ⟨rfl, hb5⟩
          have ha5 := ha5.belowN hb5
          have ha3 := ha3.belowN hb5
          have hb := Below_step hb hb5
          refine hK.out _ _ (ha3.whole 26 32 21 Try.underlying26 info_state HS32.out) (fun hHeld => ?_)
          clear hK K
          try simp only [Act.put, List.setIfInBounds_toArray, List.set_cons_zero, List.set_cons_succ]
          refine wpAnyH_ready (rs := [6]) (by kernel_rfl) (by simp) ?_
          refine AllReadyH.cons (o := ?_) ?_ (fun K hK => ?_) AllReadyH.nil
          rotate_left 1
          · (simp only [List.getElem?_toArray, List.getElem?_cons_succ, List.getElem?_cons_zero]; rfl)
          refine step_storeA rfl 26 (.tmp 5) (.tmp 21) rfl g5 U rfl rfl 26 T ha5 32 info_state HT32.out HU32.out HU1.out ?_
          intro w6 ha6 hk6 hs6
          have ha3 := ha3.keeps hk6 (by omega)
          refine hK.out _ _ (ha3.whole 26 32 21 Try.underlying26 info_state HS32.out) (fun hHeld => ?_)
          clear hK K
          try simp only [Act.put]
          refine wpAnyH_done (by kernel_rfl) (NoPanic.normal ?_) _
          have HB6 := hide (hb.trans (hk6.below hb.size (fun k hk => by omega)))
          have H36 := hide ha3
          rw [HU.out] at ha6
          have H56 := hide ha6
          clear ha6 hk6 hs6 ha3 ha5 hb hb4 hb5
          go_wp2_with fail
          go_roundg j
          case measure => omega
          case rel => exact ⟨j, by omega, rfl, rfl, H56.out, H36.out, HB6.out⟩
        refine AllReadyH.cons (o := ?_) ?_ (fun K hK => ?_) ?_
        rotate_left 1
        · (simp only [List.getElem?_toArray, List.getElem?_cons_succ, List.getElem?_cons_zero]; rfl)
        · go_simp
          refine Calls.mono (state_Page_v HS.out Hs32.out HP.out _ (by omega) (by omega)) ?_
          rintro e w4 ⟨rfl, hb4⟩
          have ha5 := ha5.drew.belowN hb4
          have ha3 := ha3.drew.belowN hb4
          have hb := Below_step hb.drew hb4
          refine hK.out _ _ (ha3.whole 26 32 21 Try.underlying26 info_state HS32.out) (fun hHeld => ?_)
          clear hK K
          try simp only [Act.put, List.setIfInBounds_toArray, List.set_cons_zero, List.set_cons_succ]
          refine wpAnyH_ready (rs := [0]) (by kernel_rfl) (by simp) ?_
          refine AllReadyH.cons (o := ?_) ?_ (fun K hK => ?_) AllReadyH.nil
          rotate_left 1
          · (simp only [List.getElem?_toArray, List.getElem?_cons_zero]; rfl)
          refine step_loadA rfl 26 (.tmp 5) rfl g5 rfl 26 T ha5 32 21 Try.underlying26 info_state HT32.out ?_
          refine hK.out _ _ (ha3.whole 26 32 21 Try.underlying26 info_state HS32.out) (fun hHeld => ?_)
          clear hK K
          try simp only [Act.put, List.setIfInBounds_toArray, List.set_cons_zero, List.set_cons_succ]
          refine wpAnyH_ready (rs := [5]) (by kernel_rfl) (by simp) ?_
          refine AllReadyH.cons (o := ?_) ?_ (fun K hK => ?_) AllReadyH.nil
          rotate_left 1
          · (simp only [List.getElem?_toArray, List.getElem?_cons_succ, List.getElem?_cons_zero]; rfl)
          go_simp
          refine Calls.mono (state_With_v HT.out (half_len _ _ Hs32.out (by omega)) HP.out (pageOf_len _ _ Hs32.out) HUw.out _ (by omega) (by omega)) ?_
          rintro e w5 ⟨rfl, hb5⟩
          have ha5 := ha5.belowN hb5
          have ha3 := ha3.belowN hb5
          have hb := Below_step hb hb5
          refine hK.out _ _ (ha3.whole 26 32 21 Try.underlying26 info_state HS32.out) (fun hHeld => ?_)
          clear hK K
          try simp only [Act.put, List.setIfInBounds_toArray, List.set_cons_zero, List.set_cons_succ]
          refine wpAnyH_ready (rs := [6]) (by kernel_rfl) (by simp) ?_
          refine AllReadyH.cons (o := ?_) ?_ (fun K hK => ?_) AllReadyH.nil
          rotate_left 1
          · (simp only [List.getElem?_toArray, List.getElem?_cons_succ, List.getElem?_cons_zero]; rfl)
          refine step_storeA rfl 26 (.tmp 5) (.tmp 21) rfl g5 U rfl rfl 26 T ha5 32 info_state HT32.out HU32.out HU1.out ?_
          intro w6 ha6 hk6 hs6
          have ha3 := ha3.keeps hk6 (by omega)
          refine hK.out _ _ (ha3.whole 26 32 21 Try.underlying26 info_state HS32.out) (fun hHeld => ?_)
          clear hK K
          try simp only [Act.put]
          refine wpAnyH_done (by kernel_rfl) (NoPanic.normal ?_) _
          have HB6 := hide (hb.trans (hk6.below hb.size (fun k hk => by omega)))
          have H36 := hide ha3
          rw [HU.out] at ha6
          have H56 := hide ha6
          clear ha6 hk6 hs6 ha3 ha5 hb hb4 hb5
          go_wp2_with fail
          go_roundg j
          case measure => omega
          case rel => exact ⟨j, by omega, rfl, rfl, H56.out, H36.out, HB6.out⟩
        exact AllReadyH.nil
      · obtain rfl : gk = 0 := by omega
        rw [half_zero, ← HS.out] at ha5
        obtain ⟨Z, hZ⟩ : ∃ Z, Z = ivs (List.replicate 8 0) := ⟨_, rfl⟩
        have HZ4 : Hid (Z = ivs (pageOf s 4)) := by rw [pageOf, if_neg (by omega)]; exact hZ
        have HZ1 : Hid (Z = ivs (pageOf s (-1))) := by rw [pageOf, if_neg (by omega)]; exact hZ
        have i0 : ∀ w, (Instr.index 35 (.agg Z.toArray) (.int .i64 0)).run Try.prog w = .ok (.int .i32 0) w := by
          intro w; subst hZ
          exact run_indexA (k := .i64) Try.underlying35 info_int32 _ Try.underlying21 rfl (ivs (List.replicate 8 0)) 0 rfl (by decide) w
        have i7 : ∀ w, (Instr.index 35 (.agg Z.toArray) (.int .i64 7)).run Try.prog w = .ok (.int .i32 0) w := by
          intro w; subst hZ
          exact run_indexA (k := .i64) Try.underlying35 info_int32 _ Try.underlying21 rfl (ivs (List.replicate 8 0)) 7 rfl (by decide) w
        have I0 := hide i0
        have I7 := hide i7
        obtain ⟨P, hP⟩ : ∃ P, P = ivs (pageOf s 0) := ⟨_, rfl⟩
        have HP := hide hP
        have HSw : Hid (S = ivs (withOf s 4 (pageOf s 0))) := by rw [withOf, if_neg (by omega)]; exact HS.out
        have heq : ∀ w, (binOp .eql 37 (.agg S.toArray) (.agg S.toArray)).run Try.prog w = .ok (.bool true) w := by
          intro w
          have := run_eqlGame s s w Hs32.out Hs32.out
          rw [← HS.out] at this
          simpa using this
        have HEQ := hide heq
        have WW : Hid (∀ w', Arr 26 w' g5 S → Arr 26 w' w2.heap.size S → Whole 26 w2.heap.size S w' ∧ Whole 26 g5 S w') := fun w' h1 h2 => ⟨h2.whole 26 32 21 Try.underlying26 info_state HS32.out, h1.whole 26 32 21 Try.underlying26 info_state HS32.out⟩
        clear hZ i0 i7 hP heq h0
        go_wp2_with fail
        refine wp_region_noPanic ?_
        refine wp_region_held_drew (S := (fun w' => Whole 26 w2.heap.size S w' ∧ Whole 26 g5 S w')) (by kernel_rfl) (WW.out _ ha5.drew ha3.drew) (fun hHeld => ?_)
        refine wpAnyH_take (i := 0) (oi := ?_) (v := .agg S.toArray) ?_ (by kernel_rfl) (by kernel_rfl) (by kernel_rfl) ?_ ?_ (by assumption) ?_
        rotate_left 1
        · (simp only [List.getElem?_toArray, List.getElem?_cons_zero]; rfl)
        · exact fun _ _ _ h => h
        · (refine Or.inl ⟨by rfl, ?_⟩; intro w hSw; (try dsimp only at hSw); exact exec_whole (x := .tmp 4) hSw.1 rfl rfl)
        try simp only [Act.put, List.setIfInBounds_toArray, List.set_cons_zero, List.set_cons_succ]
        refine wpAnyH_take (i := 1) (oi := ?_) (v := .agg S.toArray) ?_ (by kernel_rfl) (by kernel_rfl) (by kernel_rfl) ?_ ?_ (by assumption) ?_
        rotate_left 1
        · (simp only [List.getElem?_toArray, List.getElem?_cons_succ, List.getElem?_cons_zero]; rfl)
        · exact fun _ _ _ h => h
        · (refine Or.inl ⟨by rfl, ?_⟩; intro w hSw; (try dsimp only at hSw); exact exec_whole (x := .tmp 5) hSw.2 rfl rfl)
        try simp only [Act.put, List.setIfInBounds_toArray, List.set_cons_zero, List.set_cons_succ]
        refine wpAnyH_take (i := 2) (oi := ?_) (v := ?_) ?_ (by kernel_rfl) (by kernel_rfl) (by kernel_rfl) ?_ ?_ (by assumption) ?_
        rotate_left 2
        · (simp only [List.getElem?_toArray, List.getElem?_cons_succ, List.getElem?_cons_zero]; rfl)
        · exact fun _ _ _ h => h
        · (refine Or.inl ⟨by rfl, ?_⟩; intro w hSw; (try dsimp only at hSw); have q := HEQ.out; go_simp <;> with_reducible rfl)
        try simp only [Act.put, List.setIfInBounds_toArray, List.set_cons_zero, List.set_cons_succ]
        refine wpAnyH_take (i := 3) (oi := ?_) (v := ?_) ?_ (by kernel_rfl) (by kernel_rfl) (by kernel_rfl) ?_ ?_ (by assumption) ?_
        rotate_left 2
        · (simp only [List.getElem?_toArray, List.getElem?_cons_succ, List.getElem?_cons_zero]; rfl)
        · exact fun _ _ _ h => h
        · (refine Or.inl ⟨by rfl, ?_⟩; intro w hSw; (try dsimp only at hSw); go_simp <;> with_reducible rfl)
        try simp only [Act.put, List.setIfInBounds_toArray, List.set_cons_zero, List.set_cons_succ]
        refine wpAnyH_take (i := 4) (oi := ?_) (v := .agg S.toArray) ?_ (by kernel_rfl) (by kernel_rfl) (by kernel_rfl) ?_ ?_ (by assumption) ?_
        rotate_left 1
        · (simp only [List.getElem?_toArray, List.getElem?_cons_succ, List.getElem?_cons_zero]; rfl)
        · exact fun _ _ _ h => h
        · (refine Or.inl ⟨by rfl, ?_⟩; intro w hSw; (try dsimp only at hSw); exact exec_whole (x := .tmp 4) hSw.1 rfl rfl)
        try simp only [Act.put, List.setIfInBounds_toArray, List.set_cons_zero, List.set_cons_succ]
        refine wpAnyH_ready (rs := [5]) (by kernel_rfl) (by simp) ?_
        refine AllReadyH.cons (o := ?_) ?_ (fun K hK => ?_) AllReadyH.nil
        rotate_left 1
        · (simp only [List.getElem?_toArray, List.getElem?_cons_succ, List.getElem?_cons_zero]; rfl)
        go_simp
        refine Calls.mono (state_Page_v HS.out Hs32.out HZ4.out _ (by omega) (by omega)) ?_
        rintro e w4 ⟨rfl, hb4⟩
        have ha5 := ha5.drew.belowN hb4
        have ha3 := ha3.drew.belowN hb4
        have hb := Below_step hb.drew hb4
        refine hK.out _ _ (WW.out _ ha5 ha3) (fun hHeld => ?_)
        clear hK K
        try simp only [Act.put, List.setIfInBounds_toArray, List.set_cons_zero, List.set_cons_succ]
        refine wpAnyH_take (i := 6) (oi := ?_) (v := ?_) ?_ (by kernel_rfl) (by kernel_rfl) (by kernel_rfl) ?_ ?_ (by assumption) ?_
        rotate_left 2
        · (simp only [List.getElem?_toArray, List.getElem?_cons_succ, List.getElem?_cons_zero]; rfl)
        · exact fun _ _ _ h => h
        · (refine Or.inl ⟨by rfl, ?_⟩; intro w hSw; (try dsimp only at hSw); have q := I0.out; go_simp <;> with_reducible rfl)
        try simp only [Act.put, List.setIfInBounds_toArray, List.set_cons_zero, List.set_cons_succ]
        refine wpAnyH_take (i := 7) (oi := ?_) (v := ?_) ?_ (by kernel_rfl) (by kernel_rfl) (by kernel_rfl) ?_ ?_ (by assumption) ?_
        rotate_left 2
        · (simp only [List.getElem?_toArray, List.getElem?_cons_succ, List.getElem?_cons_zero]; rfl)
        · exact fun _ _ _ h => h
        · (refine Or.inl ⟨by rfl, ?_⟩; intro w hSw; (try dsimp only at hSw); go_simp <;> with_reducible rfl)
        try simp only [Act.put, List.setIfInBounds_toArray, List.set_cons_zero, List.set_cons_succ]
        refine wpAnyH_take (i := 8) (oi := ?_) (v := ?_) ?_ (by kernel_rfl) (by kernel_rfl) (by kernel_rfl) ?_ ?_ (by assumption) ?_
        rotate_left 2
        · (simp only [List.getElem?_toArray, List.getElem?_cons_succ, List.getElem?_cons_zero]; rfl)
        · exact fun _ _ _ h => h
        · (refine Or.inl ⟨by rfl, ?_⟩; intro w hSw; (try dsimp only at hSw); go_simp <;> with_reducible rfl)
        try simp only [Act.put, List.setIfInBounds_toArray, List.set_cons_zero, List.set_cons_succ]
        refine wpAnyH_take (i := 9) (oi := ?_) (v := ?_) ?_ (by kernel_rfl) (by kernel_rfl) (by kernel_rfl) ?_ ?_ (by assumption) ?_
        rotate_left 2
        · (simp only [List.getElem?_toArray, List.getElem?_cons_succ, List.getElem?_cons_zero]; rfl)
        · exact fun _ _ _ h => h
        · (refine Or.inl ⟨by rfl, ?_⟩; intro w hSw; (try dsimp only at hSw); go_simp <;> with_reducible rfl)
        try simp only [Act.put, List.setIfInBounds_toArray, List.set_cons_zero, List.set_cons_succ]
        refine wpAnyH_take (i := 10) (oi := ?_) (v := .agg S.toArray) ?_ (by kernel_rfl) (by kernel_rfl) (by kernel_rfl) ?_ ?_ (by assumption) ?_
        rotate_left 1
        · (simp only [List.getElem?_toArray, List.getElem?_cons_succ, List.getElem?_cons_zero]; rfl)
        · exact fun _ _ _ h => h
        · (refine Or.inl ⟨by rfl, ?_⟩; intro w hSw; (try dsimp only at hSw); exact exec_whole (x := .tmp 4) hSw.1 rfl rfl)
        try simp only [Act.put, List.setIfInBounds_toArray, List.set_cons_zero, List.set_cons_succ]
        refine wpAnyH_ready (rs := [11]) (by kernel_rfl) (by simp) ?_
        refine AllReadyH.cons (o := ?_) ?_ (fun K hK => ?_) AllReadyH.nil
        rotate_left 1
        · (simp only [List.getElem?_toArray, List.getElem?_cons_succ, List.getElem?_cons_zero]; rfl)
        go_simp
        refine Calls.mono (state_Page_v HS.out Hs32.out HZ1.out _ (by omega) (by omega)) ?_
        rintro e w5 ⟨rfl, hb5⟩
        have ha5 := ha5.belowN hb5
        have ha3 := ha3.belowN hb5
        have hb := Below_step hb hb5
        refine hK.out _ _ (WW.out _ ha5 ha3) (fun hHeld => ?_)
        clear hK K
        try simp only [Act.put, List.setIfInBounds_toArray, List.set_cons_zero, List.set_cons_succ]
        refine wpAnyH_take (i := 12) (oi := ?_) (v := ?_) ?_ (by kernel_rfl) (by kernel_rfl) (by kernel_rfl) ?_ ?_ (by assumption) ?_
        rotate_left 2
        · (simp only [List.getElem?_toArray, List.getElem?_cons_succ, List.getElem?_cons_zero]; rfl)
        · exact fun _ _ _ h => h
        · (refine Or.inl ⟨by rfl, ?_⟩; intro w hSw; (try dsimp only at hSw); have q := I7.out; go_simp <;> with_reducible rfl)
        try simp only [Act.put, List.setIfInBounds_toArray, List.set_cons_zero, List.set_cons_succ]
        refine wpAnyH_take (i := 13) (oi := ?_) (v := ?_) ?_ (by kernel_rfl) (by kernel_rfl) (by kernel_rfl) ?_ ?_ (by assumption) ?_
        rotate_left 2
        · (simp only [List.getElem?_toArray, List.getElem?_cons_succ, List.getElem?_cons_zero]; rfl)
        · exact fun _ _ _ h => h
        · (refine Or.inl ⟨by rfl, ?_⟩; intro w hSw; (try dsimp only at hSw); go_simp <;> with_reducible rfl)
        try simp only [Act.put, List.setIfInBounds_toArray, List.set_cons_zero, List.set_cons_succ]
        refine wpAnyH_take (i := 14) (oi := ?_) (v := ?_) ?_ (by kernel_rfl) (by kernel_rfl) (by kernel_rfl) ?_ ?_ (by assumption) ?_
        rotate_left 2
        · (simp only [List.getElem?_toArray, List.getElem?_cons_succ, List.getElem?_cons_zero]; rfl)
        · exact fun _ _ _ h => h
        · (refine Or.inl ⟨by rfl, ?_⟩; intro w hSw; (try dsimp only at hSw); go_simp <;> with_reducible rfl)
        try simp only [Act.put, List.setIfInBounds_toArray, List.set_cons_zero, List.set_cons_succ]
        refine wpAnyH_take (i := 15) (oi := ?_) (v := ?_) ?_ (by kernel_rfl) (by kernel_rfl) (by kernel_rfl) ?_ ?_ (by assumption) ?_
        rotate_left 2
        · (simp only [List.getElem?_toArray, List.getElem?_cons_succ, List.getElem?_cons_zero]; rfl)
        · exact fun _ _ _ h => h
        · (refine Or.inl ⟨by rfl, ?_⟩; intro w hSw; (try dsimp only at hSw); go_simp <;> with_reducible rfl)
        try simp only [Act.put, List.setIfInBounds_toArray, List.set_cons_zero, List.set_cons_succ]
        refine wpAnyH_take (i := 16) (oi := ?_) (v := .agg S.toArray) ?_ (by kernel_rfl) (by kernel_rfl) (by kernel_rfl) ?_ ?_ (by assumption) ?_
        rotate_left 1
        · (simp only [List.getElem?_toArray, List.getElem?_cons_succ, List.getElem?_cons_zero]; rfl)
        · exact fun _ _ _ h => h
        · (refine Or.inl ⟨by rfl, ?_⟩; intro w hSw; (try dsimp only at hSw); exact exec_whole (x := .tmp 4) hSw.1 rfl rfl)
        try simp only [Act.put, List.setIfInBounds_toArray, List.set_cons_zero, List.set_cons_succ]
        refine wpAnyH_take (i := 17) (oi := ?_) (v := .agg S.toArray) ?_ (by kernel_rfl) (by kernel_rfl) (by kernel_rfl) ?_ ?_ (by assumption) ?_
        rotate_left 1
        · (simp only [List.getElem?_toArray, List.getElem?_cons_succ, List.getElem?_cons_zero]; rfl)
        · exact fun _ _ _ h => h
        · (refine Or.inl ⟨by rfl, ?_⟩; intro w hSw; (try dsimp only at hSw); exact exec_whole (x := .tmp 4) hSw.1 rfl rfl)
        try simp only [Act.put, List.setIfInBounds_toArray, List.set_cons_zero, List.set_cons_succ]
        refine wpAnyH_take (i := 20) (oi := ?_) (v := .agg S.toArray) ?_ (by kernel_rfl) (by kernel_rfl) (by kernel_rfl) ?_ ?_ (by assumption) ?_
        rotate_left 1
        · (simp only [List.getElem?_toArray, List.getElem?_cons_succ, List.getElem?_cons_zero]; rfl)
        · exact fun _ _ _ h => h
        · (refine Or.inl ⟨by rfl, ?_⟩; intro w hSw; (try dsimp only at hSw); exact exec_whole (x := .tmp 4) hSw.1 rfl rfl)
        try simp only [Act.put, List.setIfInBounds_toArray, List.set_cons_zero, List.set_cons_succ]
        refine wpAnyH_ready (rs := [18]) (by kernel_rfl) (by simp) ?_
        refine AllReadyH.cons (o := ?_) ?_ (fun K hK => ?_) AllReadyH.nil
        rotate_left 1
        · (simp only [List.getElem?_toArray, List.getElem?_cons_succ, List.getElem?_cons_zero]; rfl)
        go_simp
        refine Calls.mono (state_Page_v HS.out Hs32.out HP.out _ (by omega) (by omega)) ?_
        rintro e w6 ⟨rfl, hb6⟩
        have ha5 := ha5.belowN hb6
        have ha3 := ha3.belowN hb6
        have hb := Below_step hb hb6
        refine hK.out _ _ (WW.out _ ha5 ha3) (fun hHeld => ?_)
        clear hK K
        try simp only [Act.put, List.setIfInBounds_toArray, List.set_cons_zero, List.set_cons_succ]
        refine wpAnyH_ready (rs := [19]) (by kernel_rfl) (by simp) ?_
        refine AllReadyH.cons (o := ?_) ?_ (fun K hK => ?_) AllReadyH.nil
        rotate_left 1
        · (simp only [List.getElem?_toArray, List.getElem?_cons_succ, List.getElem?_cons_zero]; rfl)
        go_simp
        refine Calls.mono (state_With_v HS.out Hs32.out HP.out (pageOf_len _ _ Hs32.out) HSw.out _ (by omega) (by omega)) ?_
        rintro e w7 ⟨rfl, hb7⟩
        have ha5 := ha5.belowN hb7
        have ha3 := ha3.belowN hb7
        have hb := Below_step hb hb7
        refine hK.out _ _ (WW.out _ ha5 ha3) (fun hHeld => ?_)
        clear hK K
        try simp only [Act.put, List.setIfInBounds_toArray, List.set_cons_zero, List.set_cons_succ]
        refine wpAnyH_take (i := 21) (oi := ?_) (v := ?_) ?_ (by kernel_rfl) (by kernel_rfl) (by kernel_rfl) ?_ ?_ (by assumption) ?_
        rotate_left 2
        · (simp only [List.getElem?_toArray, List.getElem?_cons_succ, List.getElem?_cons_zero]; rfl)
        · exact fun _ _ _ h => h
        · (refine Or.inl ⟨by rfl, ?_⟩; intro w hSw; (try dsimp only at hSw); have q := HEQ.out; go_simp <;> with_reducible rfl)
        try simp only [Act.put, List.setIfInBounds_toArray, List.set_cons_zero, List.set_cons_succ]
        refine wpAnyH_take (i := 22) (oi := ?_) (v := ?_) ?_ (by kernel_rfl) (by kernel_rfl) (by kernel_rfl) ?_ ?_ (by assumption) ?_
        rotate_left 2
        · (simp only [List.getElem?_toArray, List.getElem?_cons_succ, List.getElem?_cons_zero]; rfl)
        · exact fun _ _ _ h => h
        · (refine Or.inl ⟨by rfl, ?_⟩; intro w hSw; (try dsimp only at hSw); go_simp <;> with_reducible rfl)
        try simp only [Act.put, List.setIfInBounds_toArray, List.set_cons_zero, List.set_cons_succ]
        refine wpAnyH_take (i := 23) (oi := ?_) (v := ?_) ?_ (by kernel_rfl) (by kernel_rfl) (by kernel_rfl) ?_ ?_ (by assumption) ?_
        rotate_left 2
        · (simp only [List.getElem?_toArray, List.getElem?_cons_succ, List.getElem?_cons_zero]; rfl)
        · exact fun _ _ _ h => h
        · (refine Or.inl ⟨by rfl, ?_⟩; intro w hSw; (try dsimp only at hSw); go_simp <;> with_reducible rfl)
        try simp only [Act.put, List.setIfInBounds_toArray, List.set_cons_zero, List.set_cons_succ]
        refine wpAnyH_done (by kernel_rfl) (NoPanic.normal ?_) _
        go_wp2_with fail
        go_ret
        exact ⟨rfl, hb⟩
end Go.Proofs.Ytmikaidfdcamfaa
