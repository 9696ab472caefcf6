/-
  PredictOrder: the walk. (its opening printed by wip/mk18.py)
-/
import Derived.Test.YtbeeddpbkniijaaLaw18B
import Derived.Test.YtbeeddpbkniijaaOpenB
import Derived.Deep.QuietTactic
import Derived.BigQuiet
namespace Go.Proofs.Ytbeeddpbkniijaa
open Go.RowKit
set_option linter.unusedVariables false
open Prd
set_option maxHeartbeats 4000000 in
set_option maxRecDepth 10000 in
theorem law_PredictOrder (b0 : By) (A0 : Option Addr) (n0 c0 : Nat) (A : Option Addr) (n c : Nat) (l : List UInt8) (ki : Int) (w : World) (hT : LiesB w w.heap.size A0 n0 b0.table) (hc0 : n0 ≤ c0) (hcm0 : c0 ≤ maxLen) (hik : Is64 b0.kind) (hio : Is64 b0.order) (hA : LiesB w w.heap.size A n l) (hc : n ≤ c) (hcm : c ≤ maxLen) (lo : -9223372036854775808 ≤ ki) (hi : ki ≤ 9223372036854775807) :
    Calls Try.prog 4 #[b0.val (.slice A0 n0 c0), .slice A n c, .int .i64 ki] w fun e w' => e = .returned (.bool true) ∧ Below w.heap.size w w' := by
  have HA := hide hA
  have HT0 := hide hT
  clear hA hcm hT hcm0
  rw [show b0.val (.slice A0 n0 c0) = .agg #[.int .i64 b0.kind, .int .i64 b0.order, .slice A0 n0 c0] from rfl]
  go_enter Try.func4, Try.ntmps4
  go_upto_region 1 with fail
  generalize hw0 : World.alloc w _ = w0
  have hA0 : Arr 24 w0 w.heap.size (b0.row (.slice A0 n0 c0)) := by rw [← hw0]; exact Arr.new 24 w _ _ rfl
  have HB0 : Hid (Below w.heap.size w w0) := by show Below _ _ _; rw [← hw0]; exact Below_new w _
  have hsz0 : w.heap.size < w0.heap.size := hA0.lt
  have HA0 := hide hA0
  clear hw0 hA0
  go_wp2_with fail
  refine Calls.mono (begun18 w0) ?_
  rintro e w1 ⟨rfl, hb1⟩
  have HB1 := hide (Below_step HB0.out hb1)
  have HA1 := hide (HA0.out.belowN hb1)
  have hs1 := hb1.size
  clear hb1 HA0 HB0
  go_wp2_with (refine wpZ_load rfl (.tmp 3) rfl w.heap.size rfl b0 (.slice A0 n0 c0) HA1.out ?_)
  refine Calls.mono (law_Cut b0 A0 n0 c0 w1 hc0) ?_
  rintro e w2 ⟨rfl, hb2⟩
  have HB2 := hide (Below_step HB1.out hb2)
  have HA2 := hide (HA1.out.belowN hb2)
  have hs2 := hb2.size
  clear hb2 HA1 HB1
  obtain ⟨b, hb⟩ : ∃ b : By, b = b0.cut 40 := ⟨_, rfl⟩
  obtain ⟨m, hm⟩ : ∃ m, m = min 60 n := ⟨_, rfl⟩
  obtain ⟨q, hq⟩ : ∃ q, q = min 40 n0 := ⟨_, rfl⟩
  rw [show b0.val (.slice A0 (min 40 n0) c0) = b.val (.slice A0 q c0) by rw [hb, hq]; rfl]
  have hm60 : m ≤ 60 := by omega
  have hmc : m ≤ c := by omega
  have hq40 : q ≤ 40 := by omega
  have hqc : q ≤ c0 := by omega
  have HCU := hide (And.intro hb (And.intro hm hq))
  clear hb hm hq
  go_wp2_with fail
  refine Calls.mono (law_Short A n c 60 60 w2 hc rfl (by omega)) ?_
  rintro e w3 ⟨rfl, rfl⟩
  rw [← HCU.out.2.1]
  go_upto_region 5 with (refine wpZ_store rfl (.tmp 3) (.tmp 16) rfl w.heap.size b A0 q c0 rfl rfl b0 (.slice A0 n0 c0) HA2.out ?_; intro w4 ha4 hk4 hs4)
  have HA4 := hide ha4
  have HB4 := hide (HB2.out.trans (hk4.below (by omega) (fun k hk => by omega)))
  have hsz4 : w.heap.size < w4.heap.size := by omega
  have HP : Hid (LiesB w4 w.heap.size A m (l.take 60)) := by
    have := (HA.out.below HB4.out).take 60
    rwa [← HCU.out.2.1] at this
  have HQ : Hid (LiesB w4 w.heap.size A0 q b.table) := by
    have := (HT0.out.below HB4.out).take 40
    rw [HCU.out.1]
    rwa [← HCU.out.2.2] at this
  obtain ⟨past, hp⟩ : ∃ p, p = l.take 60 := ⟨_, rfl⟩
  rw [← hp] at HP
  clear ha4 hk4 hs4 hp HA HT0 HCU HA2 HB2 hs1 hs2
  go_wp2_with (refine wpZ_load rfl (.tmp 3) rfl w.heap.size rfl b (.slice A0 q c0) HA4.out ?_)
  refine Calls.mono (ref_MayBy b A0 q c0 w4 HQ.out.len) ?_
  rintro e w5 ⟨rfl, hb5⟩
  have HB5 := hide (Below_step HB4.out hb5)
  have HA5 := hide (HA4.out.belowN hb5)
  have HP5 := hide (HP.out.below (hb5.mono (Nat.le_of_lt hsz4)))
  have HQ5 := hide (HQ.out.below (hb5.mono (Nat.le_of_lt hsz4)))
  have hsz5 := HB5.out.size
  clear hb5 HA4 HB4 HP HQ hsz4
  cases hm : b.may
  · go_wp2_with fail
    go_ret
    exact ⟨rfl, HB5.out⟩
  have HM := hide hm
  clear hm
  by_cases h0 : ki < 0
  · have d0 : decide (ki < 0) = true := decide_eq_true h0
    go_wp2_with fail
    go_ret
    exact ⟨rfl, HB5.out⟩
  have d0 : decide (ki < 0) = false := decide_eq_false h0
  by_cases h1 : ki > 256
  · have d1 : decide (ki > 256) = true := decide_eq_true h1
    go_wp2_with fail
    go_ret
    exact ⟨rfl, HB5.out⟩
  have d1 : decide (ki > 256) = false := decide_eq_false h1
  obtain ⟨k, rfl⟩ : ∃ k : Nat, ki = (k : Int) := ⟨ki.toNat, by omega⟩
  have hk : k ≤ 256 := by omega
  clear lo hi h0 h1
  obtain ⟨R, hR⟩ : ∃ R, R = b.rank past := ⟨_, rfl⟩
  have HR := hide hR
  have HRL : Hid (R.length = 256) := by show _ = _; rw [hR]; exact b.rank_len past
  clear hR
  go_wp2_with (refine wpZ_load rfl (.tmp 3) rfl w.heap.size rfl b (.slice A0 q c0) HA5.out ?_)
  refine Calls.mono (law_Of b A0 q c0 w5) ?_
  rintro e w6 ⟨rfl, hb6⟩
  have HB6 := hide (Below_step HB5.out hb6)
  have HA6 := hide (HA5.out.belowN hb6)
  have HP6 := hide (HP5.out.below (hb6.mono hsz5))
  have HQ6 := hide (HQ5.out.below (hb6.mono hsz5))
  have hsz6 := HB6.out.size
  clear hb6 HA5 HB5 HP5 HQ5 hsz5
  go_wp2_with fail
  refine Calls.mono (pred_Rank b A0 q c0 A m c w.heap.size past 256 w6 HP6.out HQ6.out hsz6 hmc (by omega)) ?_
  rintro e w7 ⟨A7, n7, c7, rfl, l7, k7, hb7⟩
  rw [if_pos HM.out, ← HR.out, show (min (max (256 : Int) 0) 256).toNat = 256 by decide, List.take_of_length_le (Nat.le_of_eq HRL.out)] at l7
  obtain rfl : n7 = 256 := by have := l7.len; rw [HRL.out] at this; omega
  have L7 := hide l7
  have HB7 := hide (Below_step HB6.out hb7)
  have HA7 := hide (HA6.out.belowN hb7)
  have HP7 := hide (HP6.out.below (hb7.mono hsz6))
  have HQ7 := hide (HQ6.out.below (hb7.mono hsz6))
  have hsz7 := HB7.out.size
  clear l7 hb7 HA6 HB6 HP6 HQ6 hsz6
  go_wp2_with (refine wpZ_load rfl (.tmp 3) rfl w.heap.size rfl b (.slice A0 q c0) HA7.out ?_)
  refine Calls.mono (law_Of b A0 q c0 w7) ?_
  rintro e w8 ⟨rfl, hb8⟩
  have HB8 := hide (Below_step HB7.out hb8)
  have HP8 := hide (HP7.out.below (hb8.mono hsz7))
  have HQ8 := hide (HQ7.out.below (hb8.mono hsz7))
  have L8 := hide ((L7.out.below hb8).more hb8.size)
  have hsz8 := HB8.out.size
  clear hb8 HA7 HB7 HP7 HQ7 hsz7 L7
  go_wp2_with fail
  refine Calls.mono (pred_Rank b A0 q c0 A m c w.heap.size past k w8 HP8.out HQ8.out hsz8 hmc (by omega)) ?_
  rintro e w9 ⟨A9, n9, c9, rfl, l9, k9, hb9⟩
  rw [if_pos HM.out, ← HR.out, show (min (max (k : Int) 0) 256).toNat = k by omega] at l9
  obtain rfl : n9 = k := by have := l9.len; rw [List.length_take, HRL.out] at this; omega
  have HB9 := hide (Below_step HB8.out hb9)
  have L79 := hide ((L8.out.below hb9).more hb9.size)
  have L7 : LiesB w9 w9.heap.size A7 n9 (R.take n9) := by
    have := L79.out.take n9
    rwa [Nat.min_eq_left hk] at this
  obtain ⟨T, hT⟩ : ∃ T, T = R.take n9 := ⟨_, rfl⟩
  rw [← hT] at L7 l9
  have hs1 := fun j => run_stringB (c := c7) (L7.drewN j)
  have hs2 := fun j => run_stringB (c := c9) (l9.drewN j)
  have hTT : (T != T) = false := by simp
  have hnn : ((n9 : Int) != (n9 : Int)) = false := by simp
  have hkc : n9 ≤ c7 := by omega
  clear hb9 HB8 HP8 HQ8 hsz8 L8 l9 L7 hT
  go_wp2_with fail
  go_quiet (fail)
  go_wp2_with fail
  rw [zero_b]
  go_upto_region 12 with fail
  generalize hw10 : World.alloc (w9.drewN nq) _ = w10
  obtain ⟨gs, hgs⟩ : ∃ g, g = w9.heap.size := ⟨_, rfl⟩
  have T10 : Hid (Arr 35 w10 gs (bl fun _ => false) ∧ LiesB w10 gs A7 256 R ∧ Below w.heap.size w w10) := by
    show _ ∧ _
    rw [← hw10, hgs]
    exact ⟨Arr.new 35 (w9.drewN nq) _ _ rfl, (L79.out.drewN nq).below (Below_new (w9.drewN nq) _), Below_step (Below_drewN HB9.out nq) (Below_new (w9.drewN nq) _)⟩
  rw [← hgs]
  have hgw : w.heap.size ≤ gs := by rw [hgs]; exact HB9.out.size
  have hg10 : gs < w10.heap.size := T10.out.1.lt
  clear hw10 hgs L79 HB9 hs1 hs2
  go_wp2_with fail
  go_loopg [11] 256 (fun gg s wr => ∃ i : Nat, i ≤ 256 ∧ gg = 256 - i ∧ s = .int .i64 (i : Int) ∧ Hid (Arr 35 wr gs (bl fun x => decide (x ∈ R.take i))) ∧ Hid (Keeps (fun k => k = gs) w10 wr))
  case atStart => exact ⟨0, by omega, rfl, rfl, by show Arr _ _ _ _; simpa using T10.out.1, Keeps.refl _ _⟩
  case round =>
    obtain ⟨W1, hW1⟩ : ∃ W1, W1 = wr := ⟨_, rfl⟩
    subst hW1
    obtain ⟨i, hi, rfl, rfl, HS, HK⟩ := hrel
    by_cases hlt : i < 256
    · have hb := HK.out.below (B := gs) (by omega) (fun k hk => by omega)
      obtain ⟨bl, off, hlp, rfl, -, hcp⟩ := (T10.out.2.1.below hb).at_ hlt
      obtain ⟨x, hx⟩ : ∃ x, x = R[i] := ⟨_, rfl⟩
      rw [← hx] at hcp
      have hx256 : x.toNat < 256 := x.toNat_lt
      have hxi : (x.toNat : Int) < 256 := by omega
      have hi256 : (i : Int) < 256 := by omega
      have hni : ¬ x ∈ R.take i := by
        rw [hx, List.mem_iff_getElem]
        rintro ⟨j, hj, e⟩
        rw [List.length_take] at hj
        rw [List.getElem_take] at e
        have hs := (b.rank_sorted past)
        rw [← HR.out] at hs
        have := hs.idx (i := j) (j := i) (by omega) hlp
        rw [List.getD_eq_getElem?_getD, List.getElem?_eq_getElem (by omega), List.getD_eq_getElem?_getD, List.getElem?_eq_getElem hlp] at this
        simp only [Option.getD_some, e] at this
        omega
      have hti : R.take (i + 1) = R.take i ++ [x] := by rw [hx]; exact (List.take_append_getElem hlp).symm
      have cb := HS.out.bcell x
      rw [decide_eq_false hni] at cb
      have fb := HS.out.frozen x.toNat
      have KS : Keeps (fun g => g = gs) W1 (W1.setCell ⟨gs, x.toNat, none⟩ (.bool true)) := Keeps.setCell W1 ⟨gs, x.toNat, none⟩ _
      have HS2 : Hid (Arr 35 (W1.setCell ⟨gs, x.toNat, none⟩ (.bool true)) gs (Go.Proofs.Ytbeeddpbkniijaa.bl fun x => decide (x ∈ R.take (i + 1)))) := by
        have h1 := HS.out.set x.toNat (.bool true)
        rw [bl_set] at h1
        have e : (fun y => decide (y ∈ R.take i) || decide (y = x)) = fun y => decide (y ∈ R.take (i + 1)) := by
          funext y; rw [hti]; simp
        rw [e] at h1
        exact h1
      have HK2 := hide (HK.out.trans KS (fun _ _ h => h))
      clear hx hni hti KS hb
      go_wp2_with fail
      go_roundg (256 - (i + 1))
      case measure => omega
      case rel => exact ⟨i + 1, by omega, rfl, by go_num, HS2, HK2⟩
    · obtain rfl : i = 256 := by omega
      go_wp2_with fail
      go_ret
      exact ⟨rfl, T10.out.2.2.trans (HK.out.below (by omega) (fun k hk => by omega))⟩
end Go.Proofs.Ytbeeddpbkniijaa
