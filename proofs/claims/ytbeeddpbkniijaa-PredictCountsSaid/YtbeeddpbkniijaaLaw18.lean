/-
  Law 18: Cut, Of, begun.
-/
import Derived.Test.YtbeeddpbkniijaaPredRank
import Derived.Test.YtbeeddpbkniijaaPredChain
import Derived.Test.YtbeeddpbkniijaaLaw18A
namespace Go.Proofs.Ytbeeddpbkniijaa
open Go.RowKit
set_option maxRecDepth 10000
set_option linter.unusedVariables false
open Prd
theorem all_values {p : UInt8 → Prop} (h : ∀ n, n < 256 → p (UInt8.ofNat n)) : ∀ x, p x := fun x => by
  have := h x.toNat x.toNat_lt
  simpa using this
theorem begun_a : (By.rank ⟨2, 1, []⟩ [1, 2, 1, 2, 1]).take 3 = [2, 1, 0] :=
  By.rank_prefix (p := [2, 1, 0]) (by unfold Srt.Sorted; decide +kernel) (all_values (by decide +kernel))
theorem begun_b : (By.rank ⟨1, 0, []⟩ [1, 2, 1, 2, 1]).take 2 = [1, 0] :=
  By.rank_prefix (p := [1, 0]) (by unfold Srt.Sorted; decide +kernel) (all_values (by decide +kernel))
theorem begun_c : (By.rank ⟨3, 0, [9]⟩ [1, 2, 1, 2, 1]).take 2 = [9, 1] :=
  By.rank_prefix (p := [9, 1]) (by unfold Srt.Sorted; decide +kernel) (all_values (by decide +kernel))
theorem begun_d : By.chain ⟨2, 1, []⟩ 3 [1, 2, 1, 2, 1] = [2, 1, 2] := by
  have f1 : (2 : UInt8) = By.first ⟨2, 1, []⟩ [1, 2, 1, 2, 1] := By.first_unique (all_values (by decide +kernel))
  have f2 : (1 : UInt8) = By.first ⟨2, 1, []⟩ [1, 2, 1, 2, 1, 2] := By.first_unique (all_values (by decide +kernel))
  have f3 : (2 : UInt8) = By.first ⟨2, 1, []⟩ [1, 2, 1, 2, 1, 2, 1] := By.first_unique (all_values (by decide +kernel))
  simp only [By.chain, ← f1, List.cons_append, List.nil_append, ← f2, ← f3]
set_option maxHeartbeats 4000000 in
set_option maxRecDepth 10000 in
theorem begun18 (w : World) : Calls Try.prog 11 #[] w fun e w' => e = .returned (.bool true) ∧ Below w.heap.size w w' := by
  obtain ⟨past, hp⟩ : ∃ past : List UInt8, past = [1, 2, 1, 2, 1] := ⟨_, rfl⟩
  have HP := hide hp
  clear hp
  go_enter Try.func11, Try.ntmps11
  go_upto_region 3 with fail
  generalize hw0 : World.alloc (World.alloc w _) _ = w0
  have T0 : Hid (LiesB w0 w0.heap.size (some ⟨w.heap.size, 0, none⟩) 5 past ∧ Arr 29 w0 (w.heap.size + 1) ((⟨2, 1, []⟩ : By).row (.slice none 0 0)) ∧ Below w.heap.size w w0) := by
    have b1 := LiesB.new w #[.int .u8 1, .int .u8 2, .int .u8 1, .int .u8 2, .int .u8 1] 5 (0, 0) [1, 2, 1, 2, 1] 5 rfl rfl
    have B1 := Below_new w (.cells #[.int .u8 1, .int .u8 2, .int .u8 1, .int .u8 2, .int .u8 1] 5)
    have s1 := World.size_alloc w (.cells #[.int .u8 1, .int .u8 2, .int .u8 1, .int .u8 2, .int .u8 1] 5)
    have a2 := Arr.new 29 (World.alloc w (.cells #[.int .u8 1, .int .u8 2, .int .u8 1, .int .u8 2, .int .u8 1] 5)) #[.int .i64 2, .int .i64 1, .slice none 0 0] _ rfl
    have B2 := Below_new (World.alloc w (.cells #[.int .u8 1, .int .u8 2, .int .u8 1, .int .u8 2, .int .u8 1] 5)) (.cells #[.int .i64 2, .int .i64 1, .slice none 0 0] 29)
    rw [s1] at a2
    show _ ∧ _
    rw [← hw0, HP.out]
    refine ⟨(b1.below (B2.mono (by rw [s1]; exact Nat.le_refl _))).more ?_, a2, Below_step B1 B2⟩
    rw [World.size_alloc, s1]; omega
  have hs0 : w.heap.size + 1 < w0.heap.size := T0.out.2.1.lt
  clear hw0
  go_wp2_with (refine wpY_load rfl (.tmp 2) rfl (w.heap.size + 1) rfl ⟨2, 1, []⟩ (.slice none 0 0) T0.out.2.1 ?_)
  refine Calls.mono (pred_Rank ⟨2, 1, []⟩ none 0 0 _ 5 5 w0.heap.size past 3 w0 T0.out.1 (LiesB.nil _ _ _) (Nat.le_refl _) (Nat.le_refl _) (by omega)) ?_
  rintro e w1 ⟨A1, n1, c1, rfl, l1, k1, hb1⟩
  rw [if_pos (by decide +kernel), show (min (max (3 : Int) 0) 256).toNat = 3 by decide, HP.out, begun_a] at l1
  have L1 := hide l1
  have B1 := hide hb1
  have hs1 := hb1.size
  clear l1 hb1
  go_wp2_with fail
  refine Calls.mono (pred_Rank ⟨1, 0, []⟩ none 0 0 _ 5 5 w0.heap.size past 2 w1 (T0.out.1.below B1.out) (LiesB.nil _ _ _) hs1 (Nat.le_refl _) (by omega)) ?_
  rintro e w2 ⟨A2, n2, c2, rfl, l2, k2, hb2⟩
  rw [if_pos (by decide +kernel), show (min (max (2 : Int) 0) 256).toNat = 2 by decide, HP.out, begun_b] at l2
  have L2 := hide l2
  have B2 := hide (Below_step B1.out hb2)
  have L1 := hide ((L1.out.below hb2).more hb2.size)
  have hs2 := hb2.size
  clear l2 hb2 B1
  go_upto_region 5 with fail
  have t3 := LiesB.new w2 #[.int .u8 9] 5 (0, 0) [9] 1 rfl rfl
  have b3 := Below_new w2 (.cells #[.int .u8 9] 5)
  have p3 := ((T0.out.1.below B2.out).below (b3.mono (by omega))).more (show w0.heap.size ≤ w2.heap.size + 1 by omega)
  have T3 := hide t3
  have B3 := hide b3
  have P3 := hide p3
  clear t3 b3 p3
  go_wp2_with fail
  refine Calls.mono (pred_Rank ⟨3, 0, [9]⟩ _ 1 1 _ 5 5 (w2.heap.size + 1) past 2 _ P3.out T3.out (by simp) (Nat.le_refl _) (by omega)) ?_
  rintro e w4 ⟨A4, n4, c4, rfl, l4, k4, hb4⟩
  rw [if_pos (by decide +kernel), show (min (max (2 : Int) 0) 256).toNat = 2 by decide, HP.out, begun_c] at l4
  rw [World.size_alloc] at hb4
  have L4 := hide l4
  have hb24 : Below w2.heap.size w2 w4 := B3.out.trans (hb4.mono (by omega))
  have B4 := hide (Below_step B2.out hb24)
  have L2 := hide ((L2.out.below hb24).more hb24.size)
  have L1 := hide ((L1.out.below hb24).more hb24.size)
  have hs4 := hb24.size
  clear l4 hb4 hb24 T3 B3 P3 B2
  have HA4 := hide (T0.out.2.1.below B4.out hs0)
  go_wp2_with (refine wpY_load rfl (.tmp 2) rfl (w.heap.size + 1) rfl ⟨2, 1, []⟩ (.slice none 0 0) HA4.out ?_)
  refine Calls.mono (pred_May ⟨2, 1, []⟩ none 0 0 w4 rfl) ?_
  rintro e w5 ⟨rfl, hb5⟩
  rw [show (By.may ⟨2, 1, []⟩) = true by decide +kernel]
  have B5 := hide (Below_step B4.out hb5)
  have L1 := hide ((L1.out.below hb5).more hb5.size)
  have L2 := hide ((L2.out.below hb5).more hb5.size)
  have L4 := hide ((L4.out.below hb5).more hb5.size)
  have hs5 := hb5.size
  clear hb5 HA4 B4
  go_wp2_with fail
  refine Calls.mono (pred_May ⟨0, 0, []⟩ none 0 0 w5 rfl) ?_
  rintro e w6 ⟨rfl, hb6⟩
  rw [show (By.may ⟨0, 0, []⟩) = false by decide +kernel]
  have B6 := hide (Below_step B5.out hb6)
  have L1 := hide ((L1.out.below hb6).more hb6.size)
  have L2 := hide ((L2.out.below hb6).more hb6.size)
  have L4 := hide ((L4.out.below hb6).more hb6.size)
  have hs6 := hb6.size
  clear hb6 B5
  have HA6 := hide (T0.out.2.1.below B6.out hs0)
  go_wp2_with fail
  rw [run_stringB L1.out]
  go_wp2_with fail
  rw [run_stringB L2.out]
  go_wp2_with fail
  rw [run_stringB L4.out]
  go_wp2_with (refine wpYG_load rfl (.tmp 2) rfl (w.heap.size + 1) rfl ⟨2, 1, []⟩ (.slice none 0 0) HA6.out ?_)
  refine Calls.mono (pred_Chain ⟨2, 1, []⟩ none 0 0 _ 5 5 w0.heap.size past 3 w6 (T0.out.1.below B6.out) (LiesB.nil _ _ _) B6.out.size (Nat.le_refl _) (by omega)) ?_
  rintro e w7 ⟨A7, n7, c7, rfl, l7, k7, hb7⟩
  rw [if_pos (by decide +kernel), show (min (max (3 : Int) 0) 1000).toNat = 3 by decide, HP.out, begun_d] at l7
  have L7 := hide l7
  have B7 := hide (T0.out.2.2.trans ((Below_step B6.out hb7).mono (by omega)))
  clear l7 hb7
  go_wp2_with fail
  rw [run_stringB L7.out]
  go_wp2_with fail
  go_ret
  exact ⟨rfl, B7.out⟩
end Go.Proofs.Ytbeeddpbkniijaa
