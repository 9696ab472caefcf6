/-
  PacketTwins: the walk.
-/
import Derived.Test.YtcjcmjkpfijhdaaLaw15
import Derived.Test.YtcjcmjkpfijhdaaOpenP
import Derived.Deep.CutBlock
namespace Go.Proofs.Ytcjcmjkpfijhdaa
open Go.RowKit
set_option linter.unusedVariables false
/-- What the second packet has become. -/
def Twin (w wx : World) (p : Pkt) (A : Option Addr) (m c : Nat) : Prop :=
  ∃ (q : Pkt) (A' : Option Addr) (n' c' : Nat), q.WF ∧ n' ≤ 41 ∧ Arr 25 wx (w.heap.size + 1) (q.row (.slice A' n' c')) ∧ Arr 25 wx w.heap.size (p.row (.slice A m c)) ∧
    LiesB wx wx.heap.size A' n' q.press ∧ LiesB wx w.heap.size A m p.press ∧ Below w.heap.size w wx
theorem Twin.step {w w3 : World} {p q : Pkt} {A A' : Option Addr} {m c n' c' j : Nat} {v : Value} (hw : q.WF) (ha : Arr 25 w3 (w.heap.size + 1) (p.row (.slice A m c))) (hs : (p.row (.slice A m c)).set j v = q.row (.slice A' n' c'))
    (hp : Arr 25 w3 w.heap.size (p.row (.slice A m c))) (hl : LiesB w3 w.heap.size A m p.press) (hb : Below w.heap.size w w3) (hn : n' ≤ 41) (hl' : LiesB (w3.setCell ⟨w.heap.size + 1, j, none⟩ v) (w3.setCell ⟨w.heap.size + 1, j, none⟩ v).heap.size A' n' q.press) : Twin w (w3.setCell ⟨w.heap.size + 1, j, none⟩ v) p A m c := by
  have hk := Keeps.setCell w3 ⟨w.heap.size + 1, j, none⟩ v
  have hb2 : Below w.heap.size w3 (w3.setCell ⟨w.heap.size + 1, j, none⟩ v) := hk.below hb.size fun k hk => by show k = w.heap.size + 1 → _; omega
  refine ⟨q, A', n', c', hw, hn, ?_, hp.keeps hk (by show ¬ _ = w.heap.size + 1; omega), ?_, hl.below hb2, hb.trans hb2⟩
  · have := ha.set j v
    rwa [hs] at this
  · exact hl'
theorem Twin.step0 {w w3 : World} {p q : Pkt} {A : Option Addr} {m c j : Nat} {v : Value} (hw : q.WF) (hpr : q.press = p.press) (ha : Arr 25 w3 (w.heap.size + 1) (p.row (.slice A m c))) (hs : (p.row (.slice A m c)).set j v = q.row (.slice A m c))
    (hp : Arr 25 w3 w.heap.size (p.row (.slice A m c))) (hl : LiesB w3 w.heap.size A m p.press) (hb : Below w.heap.size w w3) (hn : m ≤ 41) : Twin w (w3.setCell ⟨w.heap.size + 1, j, none⟩ v) p A m c :=
  Twin.step hw ha hs hp hl hb hn (by
    rw [hpr]
    exact (hl.below ((Keeps.setCell w3 ⟨w.heap.size + 1, j, none⟩ v).below hb.size fun k hk => by show k = w.heap.size + 1 → _; omega)).more (by rw [show (w3.setCell ⟨w.heap.size + 1, j, none⟩ v).heap.size = w3.heap.size from by simp [World.setCell]]; exact hb.size))
set_option maxHeartbeats 1000000 in
set_option maxRecDepth 10000 in
theorem law_PacketTwins (p : Pkt) (A : Option Addr) (n c : Nat) (p2 : Pkt) (A2 : Option Addr) (n2 c2 : Nat) (which : Int) (w : World) (hA : LiesB w w.heap.size A n p.press) (hc : n ≤ c) (hcm : c ≤ maxLen) (hwf : p.WF) (hin : p.Ints)
    (hA2 : LiesB w w.heap.size A2 n2 p2.press) (hc2 : n2 ≤ c2) (hcm2 : c2 ≤ maxLen) (hwf2 : p2.WF) (hin2 : p2.Ints) (lo : -9223372036854775808 ≤ which) (hi : which ≤ 9223372036854775807) :
    Calls Try.prog 8 #[p.val (.slice A n c), p2.val (.slice A2 n2 c2), .int .i64 which] w fun e w' => e = .returned (.bool true) ∧ Below w.heap.size w w' := by
  have HA := hide hA
  have HC := hide hc
  have HA2 := hide hA2
  have HC2 := hide hc2
  have HWF : Hid (p.cut 40).WF := hwf
  have HWF2 : Hid (p2.cut 40).WF := hwf2
  clear hA hc hcm hwf hin hA2 hc2 hcm2 hwf2 hin2
  go_enter Try.func8, Try.ntmps8
  go_upto_region 1 with fail
  generalize hw0 : World.alloc (World.alloc w _) _ = w0
  have HP0 : Hid (Arr 25 w0 w.heap.size (p.row (.slice A n c))) := by
    show Arr _ _ _ _; rw [← hw0]; exact (Arr.new 25 w _ (p.row (.slice A n c)) rfl).belowN (Below_new _ _)
  have HQ0 : Hid (Arr 25 w0 (w.heap.size + 1) (p2.row (.slice A2 n2 c2))) := by
    show Arr _ _ _ _; rw [← hw0, ← World.size_alloc w]; exact Arr.new 25 (w.alloc _) _ (p2.row (.slice A2 n2 c2)) rfl
  have HB0 : Hid (Below w.heap.size w w0) := by show Below _ _ _; rw [← hw0]; exact Below_step (Below_new w _) (Below_new _ _)
  clear hw0
  go_upto_region 2 with fail
  refine Calls.mono (begun15 _) ?_
  rintro e w1 ⟨rfl, hb1⟩
  have HP1 := hide (HP0.out.belowN hb1)
  have HQ1 := hide (HQ0.out.belowN hb1)
  have HB1 := hide (Below_step HB0.out hb1)
  clear hb1 HP0 HQ0 HB0
  go_upto_region 4 with fail
  obtain ⟨p', hp'⟩ : ∃ q, q = p.cut 40 := ⟨_, rfl⟩
  obtain ⟨q', hq'⟩ : ∃ q, q = p2.cut 40 := ⟨_, rfl⟩
  have HPR : Hid (p'.press = p.press.take 40) := by show _ = _; rw [hp']
  have HQR : Hid (q'.press = p2.press.take 40) := by show _ = _; rw [hq']
  have cut1 : Hid (∀ w, Calls Try.prog 11 #[p.val (.slice A n c)] w fun e w' => e = .returned (p'.val (.slice A (min 40 n) c)) ∧ Below w.heap.size w w') := by rw [hp']; exact fun w => law_Cut p HC.out
  have cut2 : Hid (∀ w, Calls Try.prog 11 #[p2.val (.slice A2 n2 c2)] w fun e w' => e = .returned (q'.val (.slice A2 (min 40 n2) c2)) ∧ Below w.heap.size w w') := by rw [hq']; exact fun w => law_Cut p2 HC2.out
  have hr9 : Hid ((p.row (.slice A n c)).length = 9) := rfl
  have hr9b : Hid ((p2.row (.slice A2 n2 c2)).length = 9) := rfl
  rw [← hp'] at HWF
  rw [← hq'] at HWF2
  clear hp' hq'
  go_cut [] (fun wx => Hid (Arr 25 wx w.heap.size (p'.row (.slice A (min 40 n) c))) ∧ Hid (Arr 25 wx (w.heap.size + 1) (q'.row (.slice A2 (min 40 n2) c2))) ∧ Hid (Below w.heap.size w wx))
  case first =>
    refine wp_region_noPanic ?_
    refine wp_region_held_drew (S := (fun _ => True)) (by kernel_rfl) trivial (fun hHeld => ?_)
    refine wpAnyH_ready (rs := [0, 2]) (by kernel_rfl) (by simp) ?_
    refine AllReadyH.cons (o := ?_) ?_ (fun K hK => ?_) ?_
    rotate_left 1
    · (simp only [List.getElem?_toArray, List.getElem?_cons_zero]; rfl)
    · (refine step_loadP rfl (.tmp 3) rfl w.heap.size rfl p (.slice A n c) HP1.out.drew ?_)
      refine hK.out _ _ trivial (fun hHeld => ?_)
      clear hK K
      try simp only [Act.put, List.setIfInBounds_toArray, List.set_cons_zero, List.set_cons_succ]
      refine wpAnyH_ready (rs := [1, 2]) (by kernel_rfl) (by simp) ?_
      refine AllReadyH.cons (o := ?_) ?_ (fun K hK => ?_) ?_
      rotate_left 1
      · (simp only [List.getElem?_toArray, List.getElem?_cons_succ, List.getElem?_cons_zero]; rfl)
      · go_simp
        refine Calls.mono (cut1.out _) ?_
        rintro e w2 ⟨rfl, hb2⟩
        have HP2 := HP1.out.drew.belowN hb2
        have HQ2 := HQ1.out.drew.belowN hb2
        have HB2 := Below_step HB1.out.drew hb2
        refine hK.out _ _ trivial (fun hHeld => ?_)
        clear hK K
        try simp only [Act.put, List.setIfInBounds_toArray, List.set_cons_zero, List.set_cons_succ]
        refine wpAnyH_ready (rs := [2]) (by kernel_rfl) (by simp) ?_
        refine AllReadyH.cons (o := ?_) ?_ (fun K hK => ?_) AllReadyH.nil
        rotate_left 1
        · (simp only [List.getElem?_toArray, List.getElem?_cons_succ, List.getElem?_cons_zero]; rfl)
        (refine step_loadP rfl (.tmp 4) rfl (w.heap.size + 1) rfl p2 (.slice A2 n2 c2) HQ2 ?_)
        refine hK.out _ _ trivial (fun hHeld => ?_)
        clear hK K
        try simp only [Act.put, List.setIfInBounds_toArray, List.set_cons_zero, List.set_cons_succ]
        refine wpAnyH_ready (rs := [3]) (by kernel_rfl) (by simp) ?_
        refine AllReadyH.cons (o := ?_) ?_ (fun K hK => ?_) AllReadyH.nil
        rotate_left 1
        · (simp only [List.getElem?_toArray, List.getElem?_cons_succ, List.getElem?_cons_zero]; rfl)
        go_simp
        refine Calls.mono (cut2.out _) ?_
        rintro e w3 ⟨rfl, hb3⟩
        have HP3 := HP2.belowN hb3
        have HQ3 := HQ2.belowN hb3
        have HB3 := Below_step HB2 hb3
        refine hK.out _ _ trivial (fun hHeld => ?_)
        clear hK K
        try simp only [Act.put, List.setIfInBounds_toArray, List.set_cons_zero, List.set_cons_succ]
        refine wpAnyH_ready (rs := [4]) (by kernel_rfl) (by simp) ?_
        refine AllReadyH.cons (o := ?_) ?_ (fun K hK => ?_) AllReadyH.nil
        rotate_left 1
        · (simp only [List.getElem?_toArray, List.getElem?_cons_succ, List.getElem?_cons_zero]; rfl)
        (refine step_putP rfl (.tmp 3) (.tmp 14) rfl w.heap.size rfl p' A (min 40 n) c rfl HP3 hr9.out ?_; intro w4 ha4 hk4 hs4)
        have HQ4 := HQ3.keeps hk4 (by omega)
        have HB4 := HB3.trans (hk4.below HB3.size (fun k hk => by omega))
        refine hK.out _ _ trivial (fun hHeld => ?_)
        clear hK K
        try simp only [Act.put]
        refine wpAnyH_ready (rs := [5]) (by kernel_rfl) (by simp) ?_
        refine AllReadyH.cons (o := ?_) ?_ (fun K hK => ?_) AllReadyH.nil
        rotate_left 1
        · (simp only [List.getElem?_toArray, List.getElem?_cons_succ, List.getElem?_cons_zero]; rfl)
        (refine step_putP rfl (.tmp 4) (.tmp 16) rfl (w.heap.size + 1) rfl q' A2 (min 40 n2) c2 rfl HQ4 hr9b.out ?_; intro w5 ha5 hk5 hs5)
        have HP5 := ha4.keeps hk5 (by omega)
        have HB5 := HB4.trans (hk5.below HB4.size (fun k hk => by omega))
        refine hK.out _ _ trivial (fun hHeld => ?_)
        clear hK K
        try simp only [Act.put]
        refine wpAnyH_done (by kernel_rfl) (NoPanic.normal ?_) _
        go_wp2_with fail
        go_meet
        exact ⟨HP5, ha5, HB5⟩
      refine AllReadyH.cons (o := ?_) ?_ (fun K hK => ?_) ?_
      rotate_left 1
      · (simp only [List.getElem?_toArray, List.getElem?_cons_succ, List.getElem?_cons_zero]; rfl)
      · (refine step_loadP rfl (.tmp 4) rfl (w.heap.size + 1) rfl p2 (.slice A2 n2 c2) HQ1.out.drew ?_)
        refine hK.out _ _ trivial (fun hHeld => ?_)
        clear hK K
        try simp only [Act.put, List.setIfInBounds_toArray, List.set_cons_zero, List.set_cons_succ]
        refine wpAnyH_ready (rs := [1]) (by kernel_rfl) (by simp) ?_
        refine AllReadyH.cons (o := ?_) ?_ (fun K hK => ?_) AllReadyH.nil
        rotate_left 1
        · (simp only [List.getElem?_toArray, List.getElem?_cons_succ, List.getElem?_cons_zero]; rfl)
        go_simp
        refine Calls.mono (cut1.out _) ?_
        rintro e w2 ⟨rfl, hb2⟩
        have HP2 := HP1.out.drew.belowN hb2
        have HQ2 := HQ1.out.drew.belowN hb2
        have HB2 := Below_step HB1.out.drew hb2
        refine hK.out _ _ trivial (fun hHeld => ?_)
        clear hK K
        try simp only [Act.put, List.setIfInBounds_toArray, List.set_cons_zero, List.set_cons_succ]
        refine wpAnyH_ready (rs := [3]) (by kernel_rfl) (by simp) ?_
        refine AllReadyH.cons (o := ?_) ?_ (fun K hK => ?_) AllReadyH.nil
        rotate_left 1
        · (simp only [List.getElem?_toArray, List.getElem?_cons_succ, List.getElem?_cons_zero]; rfl)
        go_simp
        refine Calls.mono (cut2.out _) ?_
        rintro e w3 ⟨rfl, hb3⟩
        have HP3 := HP2.belowN hb3
        have HQ3 := HQ2.belowN hb3
        have HB3 := Below_step HB2 hb3
        refine hK.out _ _ trivial (fun hHeld => ?_)
        clear hK K
        try simp only [Act.put, List.setIfInBounds_toArray, List.set_cons_zero, List.set_cons_succ]
        refine wpAnyH_ready (rs := [4]) (by kernel_rfl) (by simp) ?_
        refine AllReadyH.cons (o := ?_) ?_ (fun K hK => ?_) AllReadyH.nil
        rotate_left 1
        · (simp only [List.getElem?_toArray, List.getElem?_cons_succ, List.getElem?_cons_zero]; rfl)
        (refine step_putP rfl (.tmp 3) (.tmp 14) rfl w.heap.size rfl p' A (min 40 n) c rfl HP3 hr9.out ?_; intro w4 ha4 hk4 hs4)
        have HQ4 := HQ3.keeps hk4 (by omega)
        have HB4 := HB3.trans (hk4.below HB3.size (fun k hk => by omega))
        refine hK.out _ _ trivial (fun hHeld => ?_)
        clear hK K
        try simp only [Act.put]
        refine wpAnyH_ready (rs := [5]) (by kernel_rfl) (by simp) ?_
        refine AllReadyH.cons (o := ?_) ?_ (fun K hK => ?_) AllReadyH.nil
        rotate_left 1
        · (simp only [List.getElem?_toArray, List.getElem?_cons_succ, List.getElem?_cons_zero]; rfl)
        (refine step_putP rfl (.tmp 4) (.tmp 16) rfl (w.heap.size + 1) rfl q' A2 (min 40 n2) c2 rfl HQ4 hr9b.out ?_; intro w5 ha5 hk5 hs5)
        have HP5 := ha4.keeps hk5 (by omega)
        have HB5 := HB4.trans (hk5.below HB4.size (fun k hk => by omega))
        refine hK.out _ _ trivial (fun hHeld => ?_)
        clear hK K
        try simp only [Act.put]
        refine wpAnyH_done (by kernel_rfl) (NoPanic.normal ?_) _
        go_wp2_with fail
        go_meet
        exact ⟨HP5, ha5, HB5⟩
      exact AllReadyH.nil
    refine AllReadyH.cons (o := ?_) ?_ (fun K hK => ?_) ?_
    rotate_left 1
    · (simp only [List.getElem?_toArray, List.getElem?_cons_succ, List.getElem?_cons_zero]; rfl)
    · (refine step_loadP rfl (.tmp 4) rfl (w.heap.size + 1) rfl p2 (.slice A2 n2 c2) HQ1.out.drew ?_)
      refine hK.out _ _ trivial (fun hHeld => ?_)
      clear hK K
      try simp only [Act.put, List.setIfInBounds_toArray, List.set_cons_zero, List.set_cons_succ]
      refine wpAnyH_ready (rs := [0]) (by kernel_rfl) (by simp) ?_
      refine AllReadyH.cons (o := ?_) ?_ (fun K hK => ?_) AllReadyH.nil
      rotate_left 1
      · (simp only [List.getElem?_toArray, List.getElem?_cons_zero]; rfl)
      (refine step_loadP rfl (.tmp 3) rfl w.heap.size rfl p (.slice A n c) HP1.out.drew ?_)
      refine hK.out _ _ trivial (fun hHeld => ?_)
      clear hK K
      try simp only [Act.put, List.setIfInBounds_toArray, List.set_cons_zero, List.set_cons_succ]
      refine wpAnyH_ready (rs := [1]) (by kernel_rfl) (by simp) ?_
      refine AllReadyH.cons (o := ?_) ?_ (fun K hK => ?_) AllReadyH.nil
      rotate_left 1
      · (simp only [List.getElem?_toArray, List.getElem?_cons_succ, List.getElem?_cons_zero]; rfl)
      go_simp
      refine Calls.mono (cut1.out _) ?_
      rintro e w2 ⟨rfl, hb2⟩
      have HP2 := HP1.out.drew.belowN hb2
      have HQ2 := HQ1.out.drew.belowN hb2
      have HB2 := Below_step HB1.out.drew hb2
      refine hK.out _ _ trivial (fun hHeld => ?_)
      clear hK K
      try simp only [Act.put, List.setIfInBounds_toArray, List.set_cons_zero, List.set_cons_succ]
      refine wpAnyH_ready (rs := [3]) (by kernel_rfl) (by simp) ?_
      refine AllReadyH.cons (o := ?_) ?_ (fun K hK => ?_) AllReadyH.nil
      rotate_left 1
      · (simp only [List.getElem?_toArray, List.getElem?_cons_succ, List.getElem?_cons_zero]; rfl)
      go_simp
      refine Calls.mono (cut2.out _) ?_
      rintro e w3 ⟨rfl, hb3⟩
      have HP3 := HP2.belowN hb3
      have HQ3 := HQ2.belowN hb3
      have HB3 := Below_step HB2 hb3
      refine hK.out _ _ trivial (fun hHeld => ?_)
      clear hK K
      try simp only [Act.put, List.setIfInBounds_toArray, List.set_cons_zero, List.set_cons_succ]
      refine wpAnyH_ready (rs := [4]) (by kernel_rfl) (by simp) ?_
      refine AllReadyH.cons (o := ?_) ?_ (fun K hK => ?_) AllReadyH.nil
      rotate_left 1
      · (simp only [List.getElem?_toArray, List.getElem?_cons_succ, List.getElem?_cons_zero]; rfl)
      (refine step_putP rfl (.tmp 3) (.tmp 14) rfl w.heap.size rfl p' A (min 40 n) c rfl HP3 hr9.out ?_; intro w4 ha4 hk4 hs4)
      have HQ4 := HQ3.keeps hk4 (by omega)
      have HB4 := HB3.trans (hk4.below HB3.size (fun k hk => by omega))
      refine hK.out _ _ trivial (fun hHeld => ?_)
      clear hK K
      try simp only [Act.put]
      refine wpAnyH_ready (rs := [5]) (by kernel_rfl) (by simp) ?_
      refine AllReadyH.cons (o := ?_) ?_ (fun K hK => ?_) AllReadyH.nil
      rotate_left 1
      · (simp only [List.getElem?_toArray, List.getElem?_cons_succ, List.getElem?_cons_zero]; rfl)
      (refine step_putP rfl (.tmp 4) (.tmp 16) rfl (w.heap.size + 1) rfl q' A2 (min 40 n2) c2 rfl HQ4 hr9b.out ?_; intro w5 ha5 hk5 hs5)
      have HP5 := ha4.keeps hk5 (by omega)
      have HB5 := HB4.trans (hk5.below HB4.size (fun k hk => by omega))
      refine hK.out _ _ trivial (fun hHeld => ?_)
      clear hK K
      try simp only [Act.put]
      refine wpAnyH_done (by kernel_rfl) (NoPanic.normal ?_) _
      go_wp2_with fail
      go_meet
      exact ⟨HP5, ha5, HB5⟩
    exact AllReadyH.nil
  case rest =>
    obtain ⟨HP, HQ, HB⟩ := hcut
    clear HP1 HQ1 HB1 cut1 cut2 hr9 hr9b
    generalize wc = w2 at HP HQ HB ⊢
    have HL1 : Hid (LiesB w2 w.heap.size A (min 40 n) p'.press) := by show LiesB _ _ _ _ _; rw [HPR.out]; exact (HA.out.below HB.out).take 40
    have HL2 : Hid (LiesB w2 w.heap.size A2 (min 40 n2) q'.press) := by show LiesB _ _ _ _ _; rw [HQR.out]; exact (HA2.out.below HB.out).take 40
    obtain ⟨m, hm⟩ : ∃ m, m = min 40 n := ⟨_, rfl⟩
    obtain ⟨m2, hm2⟩ : ∃ m, m = min 40 n2 := ⟨_, rfl⟩
    rw [← hm] at HP HL1
    rw [← hm2] at HQ HL2
    have hm40 : m ≤ 40 := by omega
    have hm240 : m2 ≤ 40 := by omega
    clear hm hm2 HA HA2 HC HC2 HPR HQR
    obtain ⟨k, hk, hk0, hk5⟩ : ∃ k : Int, k = (which.tmod 6 + 6).tmod 6 ∧ 0 ≤ k ∧ k ≤ 5 := ⟨_, rfl, by have := tmod_lt which 6 (by omega); rw [Int.tmod_eq_emod_of_nonneg (by omega)]; omega, by have := tmod_lt which 6 (by omega); rw [Int.tmod_eq_emod_of_nonneg (by omega)]; omega⟩
    have HK := hide hk
    have T6 := tmod_lt which 6 (by omega)
    clear hk
    go_upto_region 5 with fail
    go_cut [20] (fun s wx => s = .int .i64 k ∧ w2 = wx)
    case first =>
      go_wp2_with fail
      go_meet
      exact ⟨by rw [HK.out, Int.tmod_eq_emod_of_nonneg (a := which.tmod 6 + 6) (by omega)], rfl⟩
    case rest =>
    obtain ⟨rfl, rfl⟩ := hcut
    clear T6 HK
    have HP1 : Hid (w.heap.size < w2.heap.size) := HP.out.lt
    have HQ1 : Hid (w.heap.size + 1 < w2.heap.size) := HQ.out.lt
    have hr9 : Hid ((q'.row (.slice A2 m2 c2)).length = 9) := rfl
    go_upto_block 0 with fail
    go_cut [] (fun wx => Hid (Twin w wx p' A m c))
    case first =>
      obtain rfl | rfl | rfl | rfl | rfl | rfl : k = 0 ∨ k = 1 ∨ k = 2 ∨ k = 3 ∨ k = 4 ∨ k = 5 := by omega
      · go_wp2_with fail
        go_meet
        exact ⟨q', A2, m2, c2, HWF2.out, by omega, HQ.out, HP.out, HL2.out.more HB.out.size, HL1.out, HB.out⟩
      · go_upto_region 8 with (first | (refine wpP_load rfl (.tmp 3) rfl w.heap.size rfl p' (.slice A m c) HP.out ?_) | (refine wpP_put rfl (.tmp 4) (.tmp 23) rfl (w.heap.size + 1) rfl p' A m c rfl HQ.out hr9.out ?_; intro w3 ha3 hk3 hs3))
        have hb3 : Below w.heap.size w2 w3 := hk3.below HB.out.size fun k hk => by omega
        have A3 := hide ha3
        have HP3 := hide (HP.out.keeps hk3 (by omega))
        have HL3 := hide (HL1.out.below hb3)
        have HB3 := hide (HB.out.trans hb3)
        have cj := ha3.cell (j := 6) (by simp)
        have fj := ha3.frozen 6
        simp only [List.getElem_cons_zero, List.getElem_cons_succ] at cj
        clear ha3 hk3 hs3 hb3
        go_wp2_with fail
        go_meet
        exact Twin.step0 (q := ⟨p'.kind, p'.src, p'.dst, p'.id, p'.first, p'.press, wrap64 (p'.ack + 1), p'.frame, p'.sum⟩) HWF.out rfl A3.out rfl HP3.out HL3.out HB3.out (by omega)
      · go_upto_region 11 with (first | (refine wpP_load rfl (.tmp 3) rfl w.heap.size rfl p' (.slice A m c) HP.out ?_) | (refine wpP_put rfl (.tmp 4) (.tmp 30) rfl (w.heap.size + 1) rfl p' A m c rfl HQ.out hr9.out ?_; intro w3 ha3 hk3 hs3))
        have hb3 : Below w.heap.size w2 w3 := hk3.below HB.out.size fun k hk => by omega
        have A3 := hide ha3
        have HP3 := hide (HP.out.keeps hk3 (by omega))
        have HL3 := hide (HL1.out.below hb3)
        have HB3 := hide (HB.out.trans hb3)
        have cj := ha3.cell (j := 8) (by simp)
        have fj := ha3.frozen 8
        simp only [List.getElem_cons_zero, List.getElem_cons_succ] at cj
        clear ha3 hk3 hs3 hb3
        go_wp2_with fail
        go_meet
        exact Twin.step0 (q := ⟨p'.kind, p'.src, p'.dst, p'.id, p'.first, p'.press, p'.ack, p'.frame, (p'.sum + 1) % 4294967296⟩) ⟨by show 0 ≤ (p'.sum + 1) % 4294967296; omega, by show (p'.sum + 1) % 4294967296 < 4294967296; omega⟩ rfl A3.out rfl HP3.out HL3.out HB3.out (by omega)
      · go_upto_region 14 with (first | (refine wpP_load rfl (.tmp 3) rfl w.heap.size rfl p' (.slice A m c) HP.out ?_) | (refine wpP_put rfl (.tmp 4) (.tmp 37) rfl (w.heap.size + 1) rfl p' A m c rfl HQ.out hr9.out ?_; intro w3 ha3 hk3 hs3))
        have hb3 : Below w.heap.size w2 w3 := hk3.below HB.out.size fun k hk => by omega
        have A3 := hide ha3
        have HP3 := hide (HP.out.keeps hk3 (by omega))
        have HL3 := hide (HL1.out.below hb3)
        have HB3 := hide (HB.out.trans hb3)
        have c5 := HP3.out.cell (j := 5) (by simp)
        simp only [List.getElem_cons_zero, List.getElem_cons_succ] at c5
        clear ha3 hk3 hs3 hb3
        have hnil := hide (OwnB.nil w3 w3.heap.size)
        have c5g := A3.out.cell (j := 5) (by simp)
        have f5g := A3.out.frozen 5
        simp only [List.getElem_cons_zero, List.getElem_cons_succ] at c5g
        have hG : Hid (∀ w', Below w3.heap.size w3 w' → w'.cell? ⟨w.heap.size + 1, 5, none⟩ = some (.slice A m c) ∧ w'.frozen? ⟨w.heap.size + 1, 5, none⟩ = false) := by
          show ∀ w', _
          intro w' hb
          have h1 := A3.out.belowN hb
          exact ⟨h1.cell (j := 5) (by simp), h1.frozen 5⟩
        go_wp2_with (at_builtin; first | (refine wpB_append3 rfl (.const (.slice none 0 0)) (.tmp 39) rfl w3.heap.size none 0 0 [] rfl hnil.out _ A m c p'.press rfl HL3.out m p'.press (by omega) (by simp) (by omega) (Nat.le_refl _) ?_; intro A4 c4 w4 own4 k4 hk4) | (refine wpB_append3 rfl (.tmp 40) (.tmp 41) rfl w3.heap.size A4 m c4 p'.press rfl (own4.below (Below_new _ _)) _ _ 1 1 [0] rfl (LiesB.new _ _ _ _ _ _ rfl rfl) (m + 1) _ rfl rfl (by omega) (by have := k4.size; simp; omega) ?_; intro A5 c5' w5 own5 k5 hk5; have hb5 : Below w3.heap.size w3 w5 := (k4.belowOwn hnil.out (Nat.le_refl _)).trans (((Below_new w4 _).mono k4.size).trans (k5.belowOwn own4 (by have := k4.size; simp; omega))); have ⟨c5q, f5q⟩ := hG.out w5 hb5))
        go_meet
        have hg1 : w.heap.size + 1 < w3.heap.size := A3.out.lt
        exact Twin.step (q := ⟨p'.kind, p'.src, p'.dst, p'.id, p'.first, p'.press ++ [0], p'.ack, p'.frame, p'.sum⟩) HWF.out (A3.out.belowN hb5) rfl (HP3.out.belowN hb5) (HL3.out.below (hb5.mono HB3.out.size)) (Below_step HB3.out hb5) (by omega)
          (own5.keeps (Keeps.setCell w5 ⟨w.heap.size + 1, 5, none⟩ _) (fun k hk => by have := (own5.blk k hk).1; show ¬ k = w.heap.size + 1; omega)).lies
      · go_upto_region 17 with (first | (refine wpP_load rfl (.tmp 3) rfl w.heap.size rfl p' (.slice A m c) HP.out ?_) | (refine wpP_put rfl (.tmp 4) (.tmp 46) rfl (w.heap.size + 1) rfl p' A m c rfl HQ.out hr9.out ?_; intro w3 ha3 hk3 hs3))
        have hb3 : Below w.heap.size w2 w3 := hk3.below HB.out.size fun k hk => by omega
        have A3 := hide ha3
        have HP3 := hide (HP.out.keeps hk3 (by omega))
        have HL3 := hide (HL1.out.below hb3)
        have HB3 := hide (HB.out.trans hb3)
        have cj := ha3.cell (j := 4) (by simp)
        have fj := ha3.frozen 4
        simp only [List.getElem_cons_zero, List.getElem_cons_succ] at cj
        clear ha3 hk3 hs3 hb3
        go_wp2_with fail
        go_meet
        exact Twin.step0 (q := ⟨p'.kind, p'.src, p'.dst, p'.id, wrap64 (p'.first + 1), p'.press, p'.ack, p'.frame, p'.sum⟩) HWF.out rfl A3.out rfl HP3.out HL3.out HB3.out (by omega)
      · go_wp2_with (first | (refine wpP_load rfl (.tmp 3) rfl w.heap.size rfl p' (.slice A m c) HP.out ?_) | (refine wpP_put rfl (.tmp 4) (.tmp 53) rfl (w.heap.size + 1) rfl p' A m c rfl HQ.out hr9.out ?_; intro w3 ha3 hk3 hs3))
        have hb3 : Below w.heap.size w2 w3 := hk3.below HB.out.size fun k hk => by omega
        have A3 := hide ha3
        have HP3 := hide (HP.out.keeps hk3 (by omega))
        have HL3 := hide (HL1.out.below hb3)
        have HB3 := hide (HB.out.trans hb3)
        clear ha3 hk3 hs3 hb3
        go_meet
        exact ⟨p', A, m, c, HWF.out, by omega, A3.out, HP3.out, HL3.out.more HB3.out.size, HL3.out, HB3.out⟩
    case rest =>
      obtain ⟨q, A3, n3, c3, hwq, hn3, hQ, hP, hl3, hl1, hb⟩ := hcut.out
      have HWQ := hide hwq
      have HQ := hide hQ
      have HP := hide hP
      have HL3 := hide hl3
      have HL1 := hide hl1
      have HB := hide hb
      clear hcut hwq hQ hP hl3 hl1 hb hk0 hk5 hr9 HP1 HQ1 HL2 HWF2 hm240
      go_upto_region 20 with fail
      go_cut [8, 9] (fun s8 s9 wx => ∃ A8 n8 c8 A9 n9 c9, s8 = .slice A8 n8 c8 ∧ s9 = .slice A9 n9 c9 ∧ Hid (OwnB wx w.heap.size A8 n8 c8 p'.enc) ∧ Hid (OwnB wx w.heap.size A9 n9 c9 q.enc) ∧ Hid (Arr 25 wx w.heap.size (p'.row (.slice A m c))) ∧ Hid (Arr 25 wx (w.heap.size + 1) (q.row (.slice A3 n3 c3))) ∧ Hid (LiesB wx w.heap.size A m p'.press) ∧ Hid (LiesB wx wx.heap.size A3 n3 q.press) ∧ Hid (Below w.heap.size w wx))
      case first =>
        refine wp_region_noPanic ?_
        refine wp_region_held_drew (S := (fun w' => WholeP w.heap.size (p'.val (.slice A m c)) w' ∧ WholeP (w.heap.size + 1) (q.val (.slice A3 n3 c3)) w')) (by kernel_rfl) ⟨HP.out.drew.wholeP, HQ.out.drew.wholeP⟩ (fun hHeld => ?_)
        refine wpAnyH_take (i := 0) (oi := ?_) (v := p'.val (.slice A m c)) ?_ (by kernel_rfl) (by kernel_rfl) (by kernel_rfl) ?_ ?_ (by assumption) ?_
        rotate_left 1
        · (simp only [List.getElem?_toArray, List.getElem?_cons_zero]; rfl)
        · exact fun _ _ _ h => h
        · (refine Or.inl ⟨by rfl, ?_⟩; intro w hSw; (try dsimp only at hSw); exact exec_wholeP (x := .tmp 3) hSw.1 rfl rfl)
        try simp only [Act.put, List.setIfInBounds_toArray, List.set_cons_zero, List.set_cons_succ]
        refine wpAnyH_take (i := 2) (oi := ?_) (v := q.val (.slice A3 n3 c3)) ?_ (by kernel_rfl) (by kernel_rfl) (by kernel_rfl) ?_ ?_ (by assumption) ?_
        rotate_left 1
        · (simp only [List.getElem?_toArray, List.getElem?_cons_succ, List.getElem?_cons_zero]; rfl)
        · exact fun _ _ _ h => h
        · (refine Or.inl ⟨by rfl, ?_⟩; intro w hSw; (try dsimp only at hSw); exact exec_wholeP (x := .tmp 4) hSw.2 rfl rfl)
        try simp only [Act.put, List.setIfInBounds_toArray, List.set_cons_zero, List.set_cons_succ]
        refine wpAnyH_ready (rs := [1]) (by kernel_rfl) (by simp) ?_
        refine AllReadyH.cons (o := ?_) ?_ (fun K hK => ?_) AllReadyH.nil
        rotate_left 1
        · (simp only [List.getElem?_toArray, List.getElem?_cons_succ, List.getElem?_cons_zero]; rfl)
        go_simp
        refine Calls.mono (packet_Encode p' (HL1.out.drew) HB.out.size (by omega) HWF.out) ?_
        rintro e w5 ⟨A5, n5, c5, rfl, own5, hb5, -⟩
        have HP5 := HP.out.drew.belowN hb5
        have HQ5 := HQ.out.drew.belowN hb5
        have HL15 := HL1.out.drew.below (hb5.mono HB.out.size)
        have HL35 := (HL3.out.drew.below hb5).more hb5.size
        have HB5 := Below_step HB.out.drew hb5
        refine hK.out _ _ ⟨HP5.wholeP, HQ5.wholeP⟩ (fun hHeld => ?_)
        clear hK K
        try simp only [Act.put, List.setIfInBounds_toArray, List.set_cons_zero, List.set_cons_succ]
        refine wpAnyH_ready (rs := [3]) (by kernel_rfl) (by simp) ?_
        refine AllReadyH.cons (o := ?_) ?_ (fun K hK => ?_) AllReadyH.nil
        rotate_left 1
        · (simp only [List.getElem?_toArray, List.getElem?_cons_succ, List.getElem?_cons_zero]; rfl)
        go_simp
        refine Calls.mono (packet_Encode q HL35 (Nat.le_refl _) (by omega) HWQ.out) ?_
        rintro e w6 ⟨A6, n6, c6, rfl, own6, hb6, -⟩
        have HP6 := HP5.belowN hb6
        have HQ6 := HQ5.belowN hb6
        have HL16 := HL15.below (hb6.mono HB5.size)
        have HL36 := (HL35.below hb6).more hb6.size
        have HB6 := Below_step HB5 hb6
        have own5 := (own5.below hb6)
        refine hK.out _ _ ⟨HP6.wholeP, HQ6.wholeP⟩ (fun hHeld => ?_)
        clear hK K
        try simp only [Act.put, List.setIfInBounds_toArray, List.set_cons_zero, List.set_cons_succ]
        refine wpAnyH_take (i := 4) (oi := ?_) (v := ?_) ?_ (by kernel_rfl) (by kernel_rfl) (by kernel_rfl) ?_ ?_ (by assumption) ?_
        rotate_left 2
        · (simp only [List.getElem?_toArray, List.getElem?_cons_succ, List.getElem?_cons_zero]; rfl)
        · exact fun _ _ _ h => h
        · (refine Or.inl ⟨by rfl, ?_⟩; intro w hSw; (try dsimp only at hSw); go_simp <;> with_reducible rfl)
        try simp only [Act.put, List.setIfInBounds_toArray, List.set_cons_zero, List.set_cons_succ]
        refine wpAnyH_take (i := 5) (oi := ?_) (v := ?_) ?_ (by kernel_rfl) (by kernel_rfl) (by kernel_rfl) ?_ ?_ (by assumption) ?_
        rotate_left 2
        · (simp only [List.getElem?_toArray, List.getElem?_cons_succ, List.getElem?_cons_zero]; rfl)
        · exact fun _ _ _ h => h
        · (refine Or.inl ⟨by rfl, ?_⟩; intro w hSw; (try dsimp only at hSw); go_simp <;> with_reducible rfl)
        try simp only [Act.put, List.setIfInBounds_toArray, List.set_cons_zero, List.set_cons_succ]
        refine wpAnyH_done (by kernel_rfl) (NoPanic.normal ?_) _
        go_wp2_with fail
        go_meet
        exact ⟨_, _, _, _, _, _, rfl, rfl, own5.base_le HB.out.size, own6.base_le HB5.size, HP6, HQ6, HL16, HL36, HB6⟩
      case rest =>
        clear HP HQ HL3 HL1 HB
        obtain ⟨A8, n8, c8, A9, n9, c9, rfl, rfl, O8, O9, HP, HQ, HL1, HL3, HB⟩ := hcut
        have hl8 := O8.out.len
        have hl9 := O9.out.len
        have HE : Hid (0 < n8 → 0 < n9 → (p'.enc == q.enc) = Pkt.eqb p' q) := by
          show _ → _ → _
          intro h8 h9
          have hm8 : p'.may = true := by
            cases h : p'.may
            · have := Pkt.enc_nil_iff.2 h; rw [this] at hl8; simp at hl8; omega
            · rfl
          have hm9 : q.may = true := by
            cases h : q.may
            · have := Pkt.enc_nil_iff.2 h; rw [this] at hl9; simp at hl9; omega
            · rfl
          by_cases h : p' = q
          · subst h; rw [Pkt.eqb_self]; simp
          · rw [Pkt.eqb_not h, beq_eq_false_iff_ne]
            intro he
            have i1 := Pkt.enc_is hm8 HWF.out
            rw [he] at i1
            exact h (Pkt.is_inj i1 (Pkt.enc_is hm9 HWQ.out))
        clear hl8 hl9
        go_upto_region 21 with fail
        by_cases h8 : n8 = 0
        · have d8 : ((n8 : Int) == 0) = true := by simp [h8]
          clear h8
          refine wp_region_noPanic ?_
          refine wp_region_held_drew (S := (fun _ => True)) (by kernel_rfl) trivial (fun hHeld => ?_)
          refine wpAnyH_take (i := 0) (oi := ?_) (v := ?_) ?_ (by kernel_rfl) (by kernel_rfl) (by kernel_rfl) ?_ ?_ (by assumption) ?_
          rotate_left 2
          · (simp only [List.getElem?_toArray, List.getElem?_cons_zero]; rfl)
          · exact fun _ _ _ h => h
          · (refine Or.inl ⟨by rfl, ?_⟩; intro w hSw; (try dsimp only at hSw); go_simp <;> with_reducible rfl)
          try simp only [Act.put, List.setIfInBounds_toArray, List.set_cons_zero, List.set_cons_succ]
          refine wpAnyH_take (i := 1) (oi := ?_) (v := ?_) ?_ (by kernel_rfl) (by kernel_rfl) (by kernel_rfl) ?_ ?_ (by assumption) ?_
          rotate_left 2
          · (simp only [List.getElem?_toArray, List.getElem?_cons_succ, List.getElem?_cons_zero]; rfl)
          · exact fun _ _ _ h => h
          · (refine Or.inl ⟨by rfl, ?_⟩; intro w hSw; (try dsimp only at hSw); go_simp <;> with_reducible rfl)
          try simp only [Act.put, List.setIfInBounds_toArray, List.set_cons_zero, List.set_cons_succ]
          refine wpAnyH_take (i := 2) (oi := ?_) (v := ?_) ?_ (by kernel_rfl) (by kernel_rfl) (by kernel_rfl) ?_ ?_ (by assumption) ?_
          rotate_left 2
          · (simp only [List.getElem?_toArray, List.getElem?_cons_succ, List.getElem?_cons_zero]; rfl)
          · exact fun _ _ _ h => h
          · (refine Or.inl ⟨by rfl, ?_⟩; intro w hSw; (try dsimp only at hSw); go_simp <;> with_reducible rfl)
          try simp only [Act.put, List.setIfInBounds_toArray, List.set_cons_zero, List.set_cons_succ]
          refine wpAnyH_take (i := 3) (oi := ?_) (v := ?_) ?_ (by kernel_rfl) (by kernel_rfl) (by kernel_rfl) ?_ ?_ (by assumption) ?_
          rotate_left 2
          · (simp only [List.getElem?_toArray, List.getElem?_cons_succ, List.getElem?_cons_zero]; rfl)
          · exact fun _ _ _ h => h
          · (refine Or.inl ⟨by rfl, ?_⟩; intro w hSw; (try dsimp only at hSw); go_simp <;> with_reducible rfl)
          try simp only [Act.put, List.setIfInBounds_toArray, List.set_cons_zero, List.set_cons_succ]
          refine wpAnyH_take (i := 4) (oi := ?_) (v := undef) ?_ (by kernel_rfl) (by kernel_rfl) (by kernel_rfl) ?_ ?_ (by assumption) ?_
          rotate_left 1
          · (simp only [List.getElem?_toArray, List.getElem?_cons_succ, List.getElem?_cons_zero]; rfl)
          · exact fun _ _ _ h => h
          · exact Or.inr ⟨by rfl, rfl⟩
          try simp only [Act.put, List.setIfInBounds_toArray, List.set_cons_zero, List.set_cons_succ]
          refine wpAnyH_take (i := 5) (oi := ?_) (v := undef) ?_ (by kernel_rfl) (by kernel_rfl) (by kernel_rfl) ?_ ?_ (by assumption) ?_
          rotate_left 1
          · (simp only [List.getElem?_toArray, List.getElem?_cons_succ, List.getElem?_cons_zero]; rfl)
          · exact fun _ _ _ h => h
          · exact Or.inr ⟨by rfl, rfl⟩
          try simp only [Act.put, List.setIfInBounds_toArray, List.set_cons_zero, List.set_cons_succ]
          refine wpAnyH_take (i := 6) (oi := ?_) (v := undef) ?_ (by kernel_rfl) (by kernel_rfl) (by kernel_rfl) ?_ ?_ (by assumption) ?_
          rotate_left 1
          · (simp only [List.getElem?_toArray, List.getElem?_cons_succ, List.getElem?_cons_zero]; rfl)
          · exact fun _ _ _ h => h
          · exact Or.inr ⟨by rfl, rfl⟩
          try simp only [Act.put, List.setIfInBounds_toArray, List.set_cons_zero, List.set_cons_succ]
          refine wpAnyH_take (i := 7) (oi := ?_) (v := ?_) ?_ (by kernel_rfl) (by kernel_rfl) (by kernel_rfl) ?_ ?_ (by assumption) ?_
          rotate_left 2
          · (simp only [List.getElem?_toArray, List.getElem?_cons_succ, List.getElem?_cons_zero]; rfl)
          · exact fun _ _ _ h => h
          · (refine Or.inl ⟨by rfl, ?_⟩; intro w hSw; (try dsimp only at hSw); go_simp <;> with_reducible rfl)
          try simp only [Act.put, List.setIfInBounds_toArray, List.set_cons_zero, List.set_cons_succ]
          refine wpAnyH_take (i := 8) (oi := ?_) (v := ?_) ?_ (by kernel_rfl) (by kernel_rfl) (by kernel_rfl) ?_ ?_ (by assumption) ?_
          rotate_left 2
          · (simp only [List.getElem?_toArray, List.getElem?_cons_succ, List.getElem?_cons_zero]; rfl)
          · exact fun _ _ _ h => h
          · (refine Or.inl ⟨by rfl, ?_⟩; intro w hSw; (try dsimp only at hSw); go_simp <;> with_reducible rfl)
          try simp only [Act.put, List.setIfInBounds_toArray, List.set_cons_zero, List.set_cons_succ]
          refine wpAnyH_take (i := 9) (oi := ?_) (v := undef) ?_ (by kernel_rfl) (by kernel_rfl) (by kernel_rfl) ?_ ?_ (by assumption) ?_
          rotate_left 1
          · (simp only [List.getElem?_toArray, List.getElem?_cons_succ, List.getElem?_cons_zero]; rfl)
          · exact fun _ _ _ h => h
          · exact Or.inr ⟨by rfl, rfl⟩
          try simp only [Act.put, List.setIfInBounds_toArray, List.set_cons_zero, List.set_cons_succ]
          refine wpAnyH_take (i := 10) (oi := ?_) (v := undef) ?_ (by kernel_rfl) (by kernel_rfl) (by kernel_rfl) ?_ ?_ (by assumption) ?_
          rotate_left 1
          · (simp only [List.getElem?_toArray, List.getElem?_cons_succ, List.getElem?_cons_zero]; rfl)
          · exact fun _ _ _ h => h
          · exact Or.inr ⟨by rfl, rfl⟩
          try simp only [Act.put, List.setIfInBounds_toArray, List.set_cons_zero, List.set_cons_succ]
          refine wpAnyH_take (i := 11) (oi := ?_) (v := undef) ?_ (by kernel_rfl) (by kernel_rfl) (by kernel_rfl) ?_ ?_ (by assumption) ?_
          rotate_left 1
          · (simp only [List.getElem?_toArray, List.getElem?_cons_succ, List.getElem?_cons_zero]; rfl)
          · exact fun _ _ _ h => h
          · exact Or.inr ⟨by rfl, rfl⟩
          try simp only [Act.put, List.setIfInBounds_toArray, List.set_cons_zero, List.set_cons_succ]
          refine wpAnyH_take (i := 12) (oi := ?_) (v := undef) ?_ (by kernel_rfl) (by kernel_rfl) (by kernel_rfl) ?_ ?_ (by assumption) ?_
          rotate_left 1
          · (simp only [List.getElem?_toArray, List.getElem?_cons_succ, List.getElem?_cons_zero]; rfl)
          · exact fun _ _ _ h => h
          · exact Or.inr ⟨by rfl, rfl⟩
          try simp only [Act.put, List.setIfInBounds_toArray, List.set_cons_zero, List.set_cons_succ]
          refine wpAnyH_take (i := 13) (oi := ?_) (v := undef) ?_ (by kernel_rfl) (by kernel_rfl) (by kernel_rfl) ?_ ?_ (by assumption) ?_
          rotate_left 1
          · (simp only [List.getElem?_toArray, List.getElem?_cons_succ, List.getElem?_cons_zero]; rfl)
          · exact fun _ _ _ h => h
          · exact Or.inr ⟨by rfl, rfl⟩
          try simp only [Act.put, List.setIfInBounds_toArray, List.set_cons_zero, List.set_cons_succ]
          refine wpAnyH_take (i := 14) (oi := ?_) (v := undef) ?_ (by kernel_rfl) (by kernel_rfl) (by kernel_rfl) ?_ ?_ (by assumption) ?_
          rotate_left 1
          · (simp only [List.getElem?_toArray, List.getElem?_cons_succ, List.getElem?_cons_zero]; rfl)
          · exact fun _ _ _ h => h
          · exact Or.inr ⟨by rfl, rfl⟩
          try simp only [Act.put, List.setIfInBounds_toArray, List.set_cons_zero, List.set_cons_succ]
          refine wpAnyH_take (i := 15) (oi := ?_) (v := undef) ?_ (by kernel_rfl) (by kernel_rfl) (by kernel_rfl) ?_ ?_ (by assumption) ?_
          rotate_left 1
          · (simp only [List.getElem?_toArray, List.getElem?_cons_succ, List.getElem?_cons_zero]; rfl)
          · exact fun _ _ _ h => h
          · exact Or.inr ⟨by rfl, rfl⟩
          try simp only [Act.put, List.setIfInBounds_toArray, List.set_cons_zero, List.set_cons_succ]
          refine wpAnyH_take (i := 16) (oi := ?_) (v := undef) ?_ (by kernel_rfl) (by kernel_rfl) (by kernel_rfl) ?_ ?_ (by assumption) ?_
          rotate_left 1
          · (simp only [List.getElem?_toArray, List.getElem?_cons_succ, List.getElem?_cons_zero]; rfl)
          · exact fun _ _ _ h => h
          · exact Or.inr ⟨by rfl, rfl⟩
          try simp only [Act.put, List.setIfInBounds_toArray, List.set_cons_zero, List.set_cons_succ]
          refine wpAnyH_take (i := 17) (oi := ?_) (v := undef) ?_ (by kernel_rfl) (by kernel_rfl) (by kernel_rfl) ?_ ?_ (by assumption) ?_
          rotate_left 1
          · (simp only [List.getElem?_toArray, List.getElem?_cons_succ, List.getElem?_cons_zero]; rfl)
          · exact fun _ _ _ h => h
          · exact Or.inr ⟨by rfl, rfl⟩
          try simp only [Act.put, List.setIfInBounds_toArray, List.set_cons_zero, List.set_cons_succ]
          refine wpAnyH_take (i := 18) (oi := ?_) (v := ?_) ?_ (by kernel_rfl) (by kernel_rfl) (by kernel_rfl) ?_ ?_ (by assumption) ?_
          rotate_left 2
          · (simp only [List.getElem?_toArray, List.getElem?_cons_succ, List.getElem?_cons_zero]; rfl)
          · exact fun _ _ _ h => h
          · (refine Or.inl ⟨by rfl, ?_⟩; intro w hSw; (try dsimp only at hSw); go_simp <;> with_reducible rfl)
          try simp only [Act.put, List.setIfInBounds_toArray, List.set_cons_zero, List.set_cons_succ]
          refine wpAnyH_take (i := 19) (oi := ?_) (v := ?_) ?_ (by kernel_rfl) (by kernel_rfl) (by kernel_rfl) ?_ ?_ (by assumption) ?_
          rotate_left 2
          · (simp only [List.getElem?_toArray, List.getElem?_cons_succ, List.getElem?_cons_zero]; rfl)
          · exact fun _ _ _ h => h
          · (refine Or.inl ⟨by rfl, ?_⟩; intro w hSw; (try dsimp only at hSw); go_simp <;> with_reducible rfl)
          try simp only [Act.put, List.setIfInBounds_toArray, List.set_cons_zero, List.set_cons_succ]
          refine wpAnyH_done (by kernel_rfl) (NoPanic.normal ?_) _
          go_wp2_with fail
          go_ret
          exact ⟨rfl, HB.out.drew⟩
        · have d8 : ((n8 : Int) == 0) = false := by simp [h8]
          by_cases h9 : n9 = 0
          · have d9 : ((n9 : Int) == 0) = true := by simp [h9]
            clear h8 h9
            refine wp_region_noPanic ?_
            refine wp_region_held_drew (S := (fun _ => True)) (by kernel_rfl) trivial (fun hHeld => ?_)
            refine wpAnyH_take (i := 0) (oi := ?_) (v := ?_) ?_ (by kernel_rfl) (by kernel_rfl) (by kernel_rfl) ?_ ?_ (by assumption) ?_
            rotate_left 2
            · (simp only [List.getElem?_toArray, List.getElem?_cons_zero]; rfl)
            · exact fun _ _ _ h => h
            · (refine Or.inl ⟨by rfl, ?_⟩; intro w hSw; (try dsimp only at hSw); go_simp <;> with_reducible rfl)
            try simp only [Act.put, List.setIfInBounds_toArray, List.set_cons_zero, List.set_cons_succ]
            refine wpAnyH_take (i := 1) (oi := ?_) (v := ?_) ?_ (by kernel_rfl) (by kernel_rfl) (by kernel_rfl) ?_ ?_ (by assumption) ?_
            rotate_left 2
            · (simp only [List.getElem?_toArray, List.getElem?_cons_succ, List.getElem?_cons_zero]; rfl)
            · exact fun _ _ _ h => h
            · (refine Or.inl ⟨by rfl, ?_⟩; intro w hSw; (try dsimp only at hSw); go_simp <;> with_reducible rfl)
            try simp only [Act.put, List.setIfInBounds_toArray, List.set_cons_zero, List.set_cons_succ]
            refine wpAnyH_take (i := 2) (oi := ?_) (v := ?_) ?_ (by kernel_rfl) (by kernel_rfl) (by kernel_rfl) ?_ ?_ (by assumption) ?_
            rotate_left 2
            · (simp only [List.getElem?_toArray, List.getElem?_cons_succ, List.getElem?_cons_zero]; rfl)
            · exact fun _ _ _ h => h
            · (refine Or.inl ⟨by rfl, ?_⟩; intro w hSw; (try dsimp only at hSw); go_simp <;> with_reducible rfl)
            try simp only [Act.put, List.setIfInBounds_toArray, List.set_cons_zero, List.set_cons_succ]
            refine wpAnyH_take (i := 3) (oi := ?_) (v := ?_) ?_ (by kernel_rfl) (by kernel_rfl) (by kernel_rfl) ?_ ?_ (by assumption) ?_
            rotate_left 2
            · (simp only [List.getElem?_toArray, List.getElem?_cons_succ, List.getElem?_cons_zero]; rfl)
            · exact fun _ _ _ h => h
            · (refine Or.inl ⟨by rfl, ?_⟩; intro w hSw; (try dsimp only at hSw); go_simp <;> with_reducible rfl)
            try simp only [Act.put, List.setIfInBounds_toArray, List.set_cons_zero, List.set_cons_succ]
            refine wpAnyH_take (i := 4) (oi := ?_) (v := ?_) ?_ (by kernel_rfl) (by kernel_rfl) (by kernel_rfl) ?_ ?_ (by assumption) ?_
            rotate_left 2
            · (simp only [List.getElem?_toArray, List.getElem?_cons_succ, List.getElem?_cons_zero]; rfl)
            · exact fun _ _ _ h => h
            · (refine Or.inl ⟨by rfl, ?_⟩; intro w hSw; (try dsimp only at hSw); go_simp <;> with_reducible rfl)
            try simp only [Act.put, List.setIfInBounds_toArray, List.set_cons_zero, List.set_cons_succ]
            refine wpAnyH_take (i := 5) (oi := ?_) (v := ?_) ?_ (by kernel_rfl) (by kernel_rfl) (by kernel_rfl) ?_ ?_ (by assumption) ?_
            rotate_left 2
            · (simp only [List.getElem?_toArray, List.getElem?_cons_succ, List.getElem?_cons_zero]; rfl)
            · exact fun _ _ _ h => h
            · (refine Or.inl ⟨by rfl, ?_⟩; intro w hSw; (try dsimp only at hSw); go_simp <;> with_reducible rfl)
            try simp only [Act.put, List.setIfInBounds_toArray, List.set_cons_zero, List.set_cons_succ]
            refine wpAnyH_take (i := 6) (oi := ?_) (v := ?_) ?_ (by kernel_rfl) (by kernel_rfl) (by kernel_rfl) ?_ ?_ (by assumption) ?_
            rotate_left 2
            · (simp only [List.getElem?_toArray, List.getElem?_cons_succ, List.getElem?_cons_zero]; rfl)
            · exact fun _ _ _ h => h
            · (refine Or.inl ⟨by rfl, ?_⟩; intro w hSw; (try dsimp only at hSw); go_simp <;> with_reducible rfl)
            try simp only [Act.put, List.setIfInBounds_toArray, List.set_cons_zero, List.set_cons_succ]
            refine wpAnyH_take (i := 7) (oi := ?_) (v := ?_) ?_ (by kernel_rfl) (by kernel_rfl) (by kernel_rfl) ?_ ?_ (by assumption) ?_
            rotate_left 2
            · (simp only [List.getElem?_toArray, List.getElem?_cons_succ, List.getElem?_cons_zero]; rfl)
            · exact fun _ _ _ h => h
            · (refine Or.inl ⟨by rfl, ?_⟩; intro w hSw; (try dsimp only at hSw); go_simp <;> with_reducible rfl)
            try simp only [Act.put, List.setIfInBounds_toArray, List.set_cons_zero, List.set_cons_succ]
            refine wpAnyH_take (i := 8) (oi := ?_) (v := ?_) ?_ (by kernel_rfl) (by kernel_rfl) (by kernel_rfl) ?_ ?_ (by assumption) ?_
            rotate_left 2
            · (simp only [List.getElem?_toArray, List.getElem?_cons_succ, List.getElem?_cons_zero]; rfl)
            · exact fun _ _ _ h => h
            · (refine Or.inl ⟨by rfl, ?_⟩; intro w hSw; (try dsimp only at hSw); go_simp <;> with_reducible rfl)
            try simp only [Act.put, List.setIfInBounds_toArray, List.set_cons_zero, List.set_cons_succ]
            refine wpAnyH_take (i := 9) (oi := ?_) (v := undef) ?_ (by kernel_rfl) (by kernel_rfl) (by kernel_rfl) ?_ ?_ (by assumption) ?_
            rotate_left 1
            · (simp only [List.getElem?_toArray, List.getElem?_cons_succ, List.getElem?_cons_zero]; rfl)
            · exact fun _ _ _ h => h
            · exact Or.inr ⟨by rfl, rfl⟩
            try simp only [Act.put, List.setIfInBounds_toArray, List.set_cons_zero, List.set_cons_succ]
            refine wpAnyH_take (i := 10) (oi := ?_) (v := undef) ?_ (by kernel_rfl) (by kernel_rfl) (by kernel_rfl) ?_ ?_ (by assumption) ?_
            rotate_left 1
            · (simp only [List.getElem?_toArray, List.getElem?_cons_succ, List.getElem?_cons_zero]; rfl)
            · exact fun _ _ _ h => h
            · exact Or.inr ⟨by rfl, rfl⟩
            try simp only [Act.put, List.setIfInBounds_toArray, List.set_cons_zero, List.set_cons_succ]
            refine wpAnyH_take (i := 11) (oi := ?_) (v := undef) ?_ (by kernel_rfl) (by kernel_rfl) (by kernel_rfl) ?_ ?_ (by assumption) ?_
            rotate_left 1
            · (simp only [List.getElem?_toArray, List.getElem?_cons_succ, List.getElem?_cons_zero]; rfl)
            · exact fun _ _ _ h => h
            · exact Or.inr ⟨by rfl, rfl⟩
            try simp only [Act.put, List.setIfInBounds_toArray, List.set_cons_zero, List.set_cons_succ]
            refine wpAnyH_take (i := 12) (oi := ?_) (v := undef) ?_ (by kernel_rfl) (by kernel_rfl) (by kernel_rfl) ?_ ?_ (by assumption) ?_
            rotate_left 1
            · (simp only [List.getElem?_toArray, List.getElem?_cons_succ, List.getElem?_cons_zero]; rfl)
            · exact fun _ _ _ h => h
            · exact Or.inr ⟨by rfl, rfl⟩
            try simp only [Act.put, List.setIfInBounds_toArray, List.set_cons_zero, List.set_cons_succ]
            refine wpAnyH_take (i := 13) (oi := ?_) (v := undef) ?_ (by kernel_rfl) (by kernel_rfl) (by kernel_rfl) ?_ ?_ (by assumption) ?_
            rotate_left 1
            · (simp only [List.getElem?_toArray, List.getElem?_cons_succ, List.getElem?_cons_zero]; rfl)
            · exact fun _ _ _ h => h
            · exact Or.inr ⟨by rfl, rfl⟩
            try simp only [Act.put, List.setIfInBounds_toArray, List.set_cons_zero, List.set_cons_succ]
            refine wpAnyH_take (i := 14) (oi := ?_) (v := undef) ?_ (by kernel_rfl) (by kernel_rfl) (by kernel_rfl) ?_ ?_ (by assumption) ?_
            rotate_left 1
            · (simp only [List.getElem?_toArray, List.getElem?_cons_succ, List.getElem?_cons_zero]; rfl)
            · exact fun _ _ _ h => h
            · exact Or.inr ⟨by rfl, rfl⟩
            try simp only [Act.put, List.setIfInBounds_toArray, List.set_cons_zero, List.set_cons_succ]
            refine wpAnyH_take (i := 15) (oi := ?_) (v := undef) ?_ (by kernel_rfl) (by kernel_rfl) (by kernel_rfl) ?_ ?_ (by assumption) ?_
            rotate_left 1
            · (simp only [List.getElem?_toArray, List.getElem?_cons_succ, List.getElem?_cons_zero]; rfl)
            · exact fun _ _ _ h => h
            · exact Or.inr ⟨by rfl, rfl⟩
            try simp only [Act.put, List.setIfInBounds_toArray, List.set_cons_zero, List.set_cons_succ]
            refine wpAnyH_take (i := 16) (oi := ?_) (v := undef) ?_ (by kernel_rfl) (by kernel_rfl) (by kernel_rfl) ?_ ?_ (by assumption) ?_
            rotate_left 1
            · (simp only [List.getElem?_toArray, List.getElem?_cons_succ, List.getElem?_cons_zero]; rfl)
            · exact fun _ _ _ h => h
            · exact Or.inr ⟨by rfl, rfl⟩
            try simp only [Act.put, List.setIfInBounds_toArray, List.set_cons_zero, List.set_cons_succ]
            refine wpAnyH_take (i := 17) (oi := ?_) (v := undef) ?_ (by kernel_rfl) (by kernel_rfl) (by kernel_rfl) ?_ ?_ (by assumption) ?_
            rotate_left 1
            · (simp only [List.getElem?_toArray, List.getElem?_cons_succ, List.getElem?_cons_zero]; rfl)
            · exact fun _ _ _ h => h
            · exact Or.inr ⟨by rfl, rfl⟩
            try simp only [Act.put, List.setIfInBounds_toArray, List.set_cons_zero, List.set_cons_succ]
            refine wpAnyH_take (i := 18) (oi := ?_) (v := ?_) ?_ (by kernel_rfl) (by kernel_rfl) (by kernel_rfl) ?_ ?_ (by assumption) ?_
            rotate_left 2
            · (simp only [List.getElem?_toArray, List.getElem?_cons_succ, List.getElem?_cons_zero]; rfl)
            · exact fun _ _ _ h => h
            · (refine Or.inl ⟨by rfl, ?_⟩; intro w hSw; (try dsimp only at hSw); go_simp <;> with_reducible rfl)
            try simp only [Act.put, List.setIfInBounds_toArray, List.set_cons_zero, List.set_cons_succ]
            refine wpAnyH_take (i := 19) (oi := ?_) (v := ?_) ?_ (by kernel_rfl) (by kernel_rfl) (by kernel_rfl) ?_ ?_ (by assumption) ?_
            rotate_left 2
            · (simp only [List.getElem?_toArray, List.getElem?_cons_succ, List.getElem?_cons_zero]; rfl)
            · exact fun _ _ _ h => h
            · (refine Or.inl ⟨by rfl, ?_⟩; intro w hSw; (try dsimp only at hSw); go_simp <;> with_reducible rfl)
            try simp only [Act.put, List.setIfInBounds_toArray, List.set_cons_zero, List.set_cons_succ]
            refine wpAnyH_done (by kernel_rfl) (NoPanic.normal ?_) _
            go_wp2_with fail
            go_ret
            exact ⟨rfl, HB.out.drew⟩
          · have d9 : ((n9 : Int) == 0) = false := by simp [h9]
            obtain ⟨r, hr⟩ : ∃ r, r = Pkt.eqb p' q := ⟨_, rfl⟩
            have hrr := HE.out (by omega) (by omega)
            rw [← hr] at hrr
            have HR := hide hr
            have hrr2 : (r == r) = true := by simp
            clear h8 h9 HE hr
            refine wp_region_noPanic ?_
            refine wp_region_held_drew (S := (fun w' => Reads A8 n8 c8 p'.enc w' ∧ Reads A9 n9 c9 q.enc w' ∧ WholeP w.heap.size (p'.val (.slice A m c)) w' ∧ WholeP (w.heap.size + 1) (q.val (.slice A3 n3 c3)) w')) (by kernel_rfl) ⟨run_stringB O8.out.lies.drew, run_stringB O9.out.lies.drew, HP.out.drew.wholeP, HQ.out.drew.wholeP⟩ (fun hHeld => ?_)
            refine wpAnyH_take (i := 0) (oi := ?_) (v := ?_) ?_ (by kernel_rfl) (by kernel_rfl) (by kernel_rfl) ?_ ?_ (by assumption) ?_
            rotate_left 2
            · (simp only [List.getElem?_toArray, List.getElem?_cons_zero]; rfl)
            · exact fun _ _ _ h => h
            · (refine Or.inl ⟨by rfl, ?_⟩; intro w hSw; (try dsimp only at hSw); go_simp <;> with_reducible rfl)
            try simp only [Act.put, List.setIfInBounds_toArray, List.set_cons_zero, List.set_cons_succ]
            refine wpAnyH_take (i := 1) (oi := ?_) (v := ?_) ?_ (by kernel_rfl) (by kernel_rfl) (by kernel_rfl) ?_ ?_ (by assumption) ?_
            rotate_left 2
            · (simp only [List.getElem?_toArray, List.getElem?_cons_succ, List.getElem?_cons_zero]; rfl)
            · exact fun _ _ _ h => h
            · (refine Or.inl ⟨by rfl, ?_⟩; intro w hSw; (try dsimp only at hSw); go_simp <;> with_reducible rfl)
            try simp only [Act.put, List.setIfInBounds_toArray, List.set_cons_zero, List.set_cons_succ]
            refine wpAnyH_take (i := 2) (oi := ?_) (v := ?_) ?_ (by kernel_rfl) (by kernel_rfl) (by kernel_rfl) ?_ ?_ (by assumption) ?_
            rotate_left 2
            · (simp only [List.getElem?_toArray, List.getElem?_cons_succ, List.getElem?_cons_zero]; rfl)
            · exact fun _ _ _ h => h
            · (refine Or.inl ⟨by rfl, ?_⟩; intro w hSw; (try dsimp only at hSw); go_simp <;> with_reducible rfl)
            try simp only [Act.put, List.setIfInBounds_toArray, List.set_cons_zero, List.set_cons_succ]
            refine wpAnyH_take (i := 3) (oi := ?_) (v := ?_) ?_ (by kernel_rfl) (by kernel_rfl) (by kernel_rfl) ?_ ?_ (by assumption) ?_
            rotate_left 2
            · (simp only [List.getElem?_toArray, List.getElem?_cons_succ, List.getElem?_cons_zero]; rfl)
            · exact fun _ _ _ h => h
            · (refine Or.inl ⟨by rfl, ?_⟩; intro w hSw; (try dsimp only at hSw); go_simp <;> with_reducible rfl)
            try simp only [Act.put, List.setIfInBounds_toArray, List.set_cons_zero, List.set_cons_succ]
            refine wpAnyH_take (i := 4) (oi := ?_) (v := ?_) ?_ (by kernel_rfl) (by kernel_rfl) (by kernel_rfl) ?_ ?_ (by assumption) ?_
            rotate_left 2
            · (simp only [List.getElem?_toArray, List.getElem?_cons_succ, List.getElem?_cons_zero]; rfl)
            · exact fun _ _ _ h => h
            · (refine Or.inl ⟨by rfl, ?_⟩; intro w hSw; (try dsimp only at hSw); go_simp <;> with_reducible rfl)
            try simp only [Act.put, List.setIfInBounds_toArray, List.set_cons_zero, List.set_cons_succ]
            refine wpAnyH_take (i := 5) (oi := ?_) (v := ?_) ?_ (by kernel_rfl) (by kernel_rfl) (by kernel_rfl) ?_ ?_ (by assumption) ?_
            rotate_left 2
            · (simp only [List.getElem?_toArray, List.getElem?_cons_succ, List.getElem?_cons_zero]; rfl)
            · exact fun _ _ _ h => h
            · (refine Or.inl ⟨by rfl, ?_⟩; intro w hSw; (try dsimp only at hSw); go_simp <;> with_reducible rfl)
            try simp only [Act.put, List.setIfInBounds_toArray, List.set_cons_zero, List.set_cons_succ]
            refine wpAnyH_take (i := 6) (oi := ?_) (v := ?_) ?_ (by kernel_rfl) (by kernel_rfl) (by kernel_rfl) ?_ ?_ (by assumption) ?_
            rotate_left 2
            · (simp only [List.getElem?_toArray, List.getElem?_cons_succ, List.getElem?_cons_zero]; rfl)
            · exact fun _ _ _ h => h
            · (refine Or.inl ⟨by rfl, ?_⟩; intro w hSw; (try dsimp only at hSw); go_simp <;> with_reducible rfl)
            try simp only [Act.put, List.setIfInBounds_toArray, List.set_cons_zero, List.set_cons_succ]
            refine wpAnyH_take (i := 7) (oi := ?_) (v := ?_) ?_ (by kernel_rfl) (by kernel_rfl) (by kernel_rfl) ?_ ?_ (by assumption) ?_
            rotate_left 2
            · (simp only [List.getElem?_toArray, List.getElem?_cons_succ, List.getElem?_cons_zero]; rfl)
            · exact fun _ _ _ h => h
            · (refine Or.inl ⟨by rfl, ?_⟩; intro w hSw; (try dsimp only at hSw); go_simp <;> with_reducible rfl)
            try simp only [Act.put, List.setIfInBounds_toArray, List.set_cons_zero, List.set_cons_succ]
            refine wpAnyH_take (i := 8) (oi := ?_) (v := ?_) ?_ (by kernel_rfl) (by kernel_rfl) (by kernel_rfl) ?_ ?_ (by assumption) ?_
            rotate_left 2
            · (simp only [List.getElem?_toArray, List.getElem?_cons_succ, List.getElem?_cons_zero]; rfl)
            · exact fun _ _ _ h => h
            · (refine Or.inl ⟨by rfl, ?_⟩; intro w hSw; (try dsimp only at hSw); go_simp <;> with_reducible rfl)
            try simp only [Act.put, List.setIfInBounds_toArray, List.set_cons_zero, List.set_cons_succ]
            refine wpAnyH_take (i := 9) (oi := ?_) (v := ?_) ?_ (by kernel_rfl) (by kernel_rfl) (by kernel_rfl) ?_ ?_ (by assumption) ?_
            rotate_left 2
            · (simp only [List.getElem?_toArray, List.getElem?_cons_succ, List.getElem?_cons_zero]; rfl)
            · exact fun _ _ _ h => h
            · (refine Or.inl ⟨by rfl, ?_⟩; intro w hSw; (try dsimp only at hSw); go_simp <;> with_reducible rfl)
            try simp only [Act.put, List.setIfInBounds_toArray, List.set_cons_zero, List.set_cons_succ]
            refine wpAnyH_take (i := 10) (oi := ?_) (v := ?_) ?_ (by kernel_rfl) (by kernel_rfl) (by kernel_rfl) ?_ ?_ (by assumption) ?_
            rotate_left 2
            · (simp only [List.getElem?_toArray, List.getElem?_cons_succ, List.getElem?_cons_zero]; rfl)
            · exact fun _ _ _ h => h
            · (refine Or.inl ⟨by rfl, ?_⟩; intro w hSw; (try dsimp only at hSw); have q1 := hSw.1; unfold Reads at q1; go_simp <;> with_reducible rfl)
            try simp only [Act.put, List.setIfInBounds_toArray, List.set_cons_zero, List.set_cons_succ]
            refine wpAnyH_take (i := 11) (oi := ?_) (v := ?_) ?_ (by kernel_rfl) (by kernel_rfl) (by kernel_rfl) ?_ ?_ (by assumption) ?_
            rotate_left 2
            · (simp only [List.getElem?_toArray, List.getElem?_cons_succ, List.getElem?_cons_zero]; rfl)
            · exact fun _ _ _ h => h
            · (refine Or.inl ⟨by rfl, ?_⟩; intro w hSw; (try dsimp only at hSw); go_simp <;> with_reducible rfl)
            try simp only [Act.put, List.setIfInBounds_toArray, List.set_cons_zero, List.set_cons_succ]
            refine wpAnyH_take (i := 12) (oi := ?_) (v := ?_) ?_ (by kernel_rfl) (by kernel_rfl) (by kernel_rfl) ?_ ?_ (by assumption) ?_
            rotate_left 2
            · (simp only [List.getElem?_toArray, List.getElem?_cons_succ, List.getElem?_cons_zero]; rfl)
            · exact fun _ _ _ h => h
            · (refine Or.inl ⟨by rfl, ?_⟩; intro w hSw; (try dsimp only at hSw); have q1 := hSw.2.1; unfold Reads at q1; go_simp <;> with_reducible rfl)
            try simp only [Act.put, List.setIfInBounds_toArray, List.set_cons_zero, List.set_cons_succ]
            refine wpAnyH_take (i := 13) (oi := ?_) (v := ?_) ?_ (by kernel_rfl) (by kernel_rfl) (by kernel_rfl) ?_ ?_ (by assumption) ?_
            rotate_left 2
            · (simp only [List.getElem?_toArray, List.getElem?_cons_succ, List.getElem?_cons_zero]; rfl)
            · exact fun _ _ _ h => h
            · (refine Or.inl ⟨by rfl, ?_⟩; intro w hSw; (try dsimp only at hSw); go_simp <;> with_reducible rfl)
            try simp only [Act.put, List.setIfInBounds_toArray, List.set_cons_zero, List.set_cons_succ]
            refine wpAnyH_take (i := 14) (oi := ?_) (v := p'.val (.slice A m c)) ?_ (by kernel_rfl) (by kernel_rfl) (by kernel_rfl) ?_ ?_ (by assumption) ?_
            rotate_left 1
            · (simp only [List.getElem?_toArray, List.getElem?_cons_succ, List.getElem?_cons_zero]; rfl)
            · exact fun _ _ _ h => h
            · (refine Or.inl ⟨by rfl, ?_⟩; intro w hSw; (try dsimp only at hSw); exact exec_wholeP (x := .tmp 3) hSw.2.2.1 rfl rfl)
            try simp only [Act.put, List.setIfInBounds_toArray, List.set_cons_zero, List.set_cons_succ]
            refine wpAnyH_take (i := 15) (oi := ?_) (v := q.val (.slice A3 n3 c3)) ?_ (by kernel_rfl) (by kernel_rfl) (by kernel_rfl) ?_ ?_ (by assumption) ?_
            rotate_left 1
            · (simp only [List.getElem?_toArray, List.getElem?_cons_succ, List.getElem?_cons_zero]; rfl)
            · exact fun _ _ _ h => h
            · (refine Or.inl ⟨by rfl, ?_⟩; intro w hSw; (try dsimp only at hSw); exact exec_wholeP (x := .tmp 4) hSw.2.2.2 rfl rfl)
            try simp only [Act.put, List.setIfInBounds_toArray, List.set_cons_zero, List.set_cons_succ]
            refine wpAnyH_ready (rs := [16]) (by kernel_rfl) (by simp) ?_
            refine AllReadyH.cons (o := ?_) ?_ (fun K hK => ?_) AllReadyH.nil
            rotate_left 1
            · (simp only [List.getElem?_toArray, List.getElem?_cons_succ, List.getElem?_cons_zero]; rfl)
            go_simp
            refine Calls.mono (ref_EqPacket p' q HL1.out.drew HL3.out.drew HB.out.size (Nat.le_refl _) HR.out) ?_
            rintro e w6 ⟨rfl, hb6⟩
            have HB6 := Below_step HB.out.drew hb6
            refine hK.out _ _ ⟨run_stringB (O8.out.drew.below hb6).lies, run_stringB (O9.out.drew.below hb6).lies, (HP.out.drew.belowN hb6).wholeP, (HQ.out.drew.belowN hb6).wholeP⟩ (fun hHeld => ?_)
            clear hK K
            try simp only [Act.put, List.setIfInBounds_toArray, List.set_cons_zero, List.set_cons_succ]
            refine wpAnyH_take (i := 17) (oi := ?_) (v := ?_) ?_ (by kernel_rfl) (by kernel_rfl) (by kernel_rfl) ?_ ?_ (by assumption) ?_
            rotate_left 2
            · (simp only [List.getElem?_toArray, List.getElem?_cons_succ, List.getElem?_cons_zero]; rfl)
            · exact fun _ _ _ h => h
            · (refine Or.inl ⟨by rfl, ?_⟩; intro w hSw; (try dsimp only at hSw); go_simp <;> with_reducible rfl)
            try simp only [Act.put, List.setIfInBounds_toArray, List.set_cons_zero, List.set_cons_succ]
            refine wpAnyH_take (i := 18) (oi := ?_) (v := ?_) ?_ (by kernel_rfl) (by kernel_rfl) (by kernel_rfl) ?_ ?_ (by assumption) ?_
            rotate_left 2
            · (simp only [List.getElem?_toArray, List.getElem?_cons_succ, List.getElem?_cons_zero]; rfl)
            · exact fun _ _ _ h => h
            · (refine Or.inl ⟨by rfl, ?_⟩; intro w hSw; (try dsimp only at hSw); go_simp <;> with_reducible rfl)
            try simp only [Act.put, List.setIfInBounds_toArray, List.set_cons_zero, List.set_cons_succ]
            refine wpAnyH_take (i := 19) (oi := ?_) (v := ?_) ?_ (by kernel_rfl) (by kernel_rfl) (by kernel_rfl) ?_ ?_ (by assumption) ?_
            rotate_left 2
            · (simp only [List.getElem?_toArray, List.getElem?_cons_succ, List.getElem?_cons_zero]; rfl)
            · exact fun _ _ _ h => h
            · (refine Or.inl ⟨by rfl, ?_⟩; intro w hSw; (try dsimp only at hSw); go_simp <;> with_reducible rfl)
            try simp only [Act.put, List.setIfInBounds_toArray, List.set_cons_zero, List.set_cons_succ]
            refine wpAnyH_done (by kernel_rfl) (NoPanic.normal ?_) _
            go_wp2_with fail
            go_ret
            exact ⟨by simp, HB6⟩
end Go.Proofs.Ytcjcmjkpfijhdaa
