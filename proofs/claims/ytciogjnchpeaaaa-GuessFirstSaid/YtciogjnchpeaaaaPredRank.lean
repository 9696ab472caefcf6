/-
  The program's order of all values.
-/
import Derived.Test.YtciogjnchpeaaaaPredCmp
import Derived.Test.YtciogjnchpeaaaaKeepB
namespace Go.Proofs.Ytciogjnchpeaaaa
open Go.RowKit
set_option maxRecDepth 10000
set_option linter.unusedVariables false
open Prd
theorem asc_take_succ {v : Nat} (h : v < 256) : asc.take (v + 1) = asc.take v ++ [UInt8.ofNat v] := by
  have hl : v < asc.length := by rw [asc_len]; exact h
  rw [List.take_succ_eq_append_getElem hl]
  congr 2
  have := asc_getD h
  rw [List.getD_eq_getElem?_getD, List.getElem?_eq_getElem hl] at this
  exact this
set_option maxHeartbeats 4000000 in
set_option maxRecDepth 10000 in
theorem pred_Rank (b : By) (A0 : Option Addr) (n0 c0 : Nat) (A : Option Addr) (n c B : Nat) (past : List UInt8) (ki : Int) (w : World) (hA : LiesB w B A n past) (hT : LiesB w B A0 n0 b.table) (hB : B ≤ w.heap.size) (hnc : n ≤ c) (hn : n ≤ 1000000) :
    Calls Try.prog 22 #[b.val (.slice A0 n0 c0), .slice A n c, .int .i64 ki] w fun e w' => ∃ A' n' c', e = .returned (.slice A' n' c') ∧ LiesB w' w'.heap.size A' n' (if b.may = true then (b.rank past).take (min (max ki 0) 256).toNat else []) ∧ n' ≤ c' ∧ Below w.heap.size w w' := by
  have HA := hide hA
  have HTB := hide hT
  clear hA hT
  obtain ⟨R, hR⟩ : ∃ R, R = (if b.may = true then (b.rank past).take (min (max ki 0) 256).toNat else []) := ⟨_, rfl⟩
  rw [← hR]
  have HR := hide hR
  clear hR
  rw [show b.val (.slice A0 n0 c0) = .agg #[.int .i64 b.kind, .int .i64 b.order, .slice A0 n0 c0] from rfl]
  go_enter Try.func22, Try.ntmps22
  go_upto_region 1 with fail
  generalize hw0 : World.alloc w _ = w0
  have hA0 : Arr 39 w0 w.heap.size (b.row (.slice A0 n0 c0)) := by rw [← hw0]; exact Arr.new 39 w _ _ rfl
  have HB0 : Hid (Below w.heap.size w w0) := by show Below _ _ _; rw [← hw0]; exact Below_new w _
  have HA0 := hide hA0
  have hsz0 : w.heap.size < w0.heap.size := hA0.lt
  clear hw0 hA0
  go_wp2_with (refine wpY_load rfl (.tmp 3) rfl w.heap.size rfl b (.slice A0 n0 c0) HA0.out ?_)
  refine Calls.mono (pred_May b A0 n0 c0 w0 (HTB.out.len)) ?_
  rintro e w1 ⟨rfl, hb1⟩
  have HB1 := hide (Below_step HB0.out hb1)
  have HA1 := hide (HA0.out.belowN hb1)
  have hs1 := hb1.size
  clear hb1 HA0
  cases hm : b.may
  · have HRn : Hid (R = []) := by show _ = _; rw [HR.out, hm]; rfl
    go_wp2_with fail
    go_ret
    exact ⟨none, 0, 0, rfl, by rw [HRn.out]; exact LiesB.nil _ _ _, Nat.le_refl _, HB1.out⟩
  · have HF := hide (By.may_facts hm)
    have HMM := hide hm
    go_wp2_with (refine wpY_load rfl (.tmp 3) rfl w.heap.size rfl b (.slice A0 n0 c0) HA1.out ?_)
    refine Calls.mono (pred_weights b A0 n0 c0 A n c B past w1 (HA.out.below (HB1.out.mono hB)) (by omega) hnc hn (fun _ => ⟨HF.out.2.1, by have := HF.out; omega⟩)) ?_
    rintro e w2 ⟨rfl, hb2⟩
    have HB2 := hide (Below_step HB1.out hb2)
    have HA2 := hide (HA1.out.belowN hb2)
    have hs2 := hb2.size
    obtain ⟨f, hf⟩ : ∃ f, f = b.wgt past := ⟨_, rfl⟩
    rw [← hf]
    have HFW := hide hf
    clear hb2 HA1 hf hm
    go_wp2_with fail
    rw [zero_w]
    go_wp2_with (first
      | (refine wpA_init rfl 67 (.tmp 7) (.tmp 17) rfl (wl f) rfl rfl 256 info_w (by simp [wl_len]) (wl_len f) (wl_one f) ?_; intro w3 ha3 hb3 hs3)
      | (refine wpY_load rfl (.tmp 3) rfl w.heap.size rfl b (.slice A0 n0 c0) (HA2.out.belowN hb3) ?_))
    have HB3 := hide (Below_step HB2.out hb3)
    have HA3 := hide (HA2.out.belowN hb3)
    have HW3 := hide ha3
    obtain ⟨gw, hgw⟩ : ∃ g, g = w2.heap.size := ⟨_, rfl⟩
    rw [← hgw] at HW3 ⊢
    have hgw2 : w.heap.size < gw := by omega
    have hs3' : w2.heap.size ≤ w3.heap.size := hb3.size
    clear ha3 hb3 HA2 hgw
    refine Calls.mono (pred_first b A0 n0 c0 A n c B past w3 (HA.out.below (HB3.out.mono hB)) (HTB.out.below (HB3.out.mono hB)) (by omega) hnc hn HMM.out) ?_
    rintro e w4 ⟨rfl, hb4⟩
    have HB4 := hide (Below_step HB3.out hb4)
    have HA4 := hide (HA3.out.belowN hb4)
    have HW4 := hide (HW3.out.belowN hb4)
    have hs4 := hb4.size
    have hgw4 : gw < w4.heap.size := HW4.out.lt
    clear hb4 HA3 HW3
    obtain ⟨d, hd⟩ : ∃ d, d = b.first past := ⟨_, rfl⟩
    rw [← hd]
    have HD := hide hd
    clear hd
    go_wp2_with fail
    refine Calls.mono (pred_last A n c B past w4 (HA.out.below (HB4.out.mono hB)) hn) ?_
    rintro e w5 ⟨rfl, rfl⟩
    obtain ⟨e0, he0⟩ : ∃ e0, e0 = endB past := ⟨_, rfl⟩
    rw [← he0]
    have HE0 := hide he0
    clear he0
    go_upto_region 5 with fail
    generalize hw5 : World.alloc (World.alloc w4 _) _ = w5
    have T5 : Hid (Arr 5 w5 w4.heap.size [.int .u8 (d.toNat : Int)] ∧ Arr 5 w5 (w4.heap.size + 1) [.int .u8 (e0.toNat : Int)] ∧ Arr 39 w5 w.heap.size (b.row (.slice A0 n0 c0)) ∧ Arr 67 w5 gw (wl f) ∧ Below w.heap.size w w5) := by
      have a1 := Arr.new 5 w4 #[.int .u8 (d.toNat : Int)] _ rfl
      have b1 := Below_new w4 (.cells #[.int .u8 (d.toNat : Int)] 5)
      have s1 := World.size_alloc w4 (.cells #[.int .u8 (d.toNat : Int)] 5)
      have a2 := Arr.new 5 (World.alloc w4 (.cells #[.int .u8 (d.toNat : Int)] 5)) #[.int .u8 (e0.toNat : Int)] _ rfl
      have b2 := Below_new (World.alloc w4 (.cells #[.int .u8 (d.toNat : Int)] 5)) (.cells #[.int .u8 (e0.toNat : Int)] 5)
      rw [s1] at a2
      show _ ∧ _
      rw [← hw5]
      exact ⟨a1.belowN b2, a2, (HA4.out.belowN b1).belowN b2, (HW4.out.belowN b1).belowN b2, Below_step (Below_step HB4.out b1) b2⟩
    have hs5 : w4.heap.size + 1 < w5.heap.size := T5.out.2.1.lt
    clear hw5 HA4 HW4
    go_wp2_with fail
    go_loopg [10, 11, 23] 256 (fun gg s10 s11 s23 wr => ∃ (v : Nat) (A' : Option Addr) (c' : Nat), v ≤ 256 ∧ gg = 256 - v ∧ s23 = .int .i64 (v : Int) ∧ s10 = .slice A' v c' ∧ Hid (OwnB wr w5.heap.size A' v c' (asc.take v)) ∧ Hid (Below w5.heap.size w5 wr))
    case atStart => exact ⟨0, none, 0, by omega, rfl, rfl, rfl, OwnB.nil _ _, Below.refl _ _⟩
    case round =>
      obtain ⟨v, A', c', hv, rfl, rfl, rfl, HO, HB⟩ := hrel
      have hsr := HB.out.size
      by_cases hlt : v < 256
      · obtain ⟨x, hx⟩ : ∃ x, x = UInt8.ofNat v := ⟨_, rfl⟩
        have hxv : (x.toNat : Int) = (v : Int) := by rw [hx, UInt8.toNat_ofNat_of_lt' hlt]
        have hasc : asc.take v ++ [x] = asc.take (v + 1) := by rw [asc_take_succ hlt, hx]
        have HX := hide hxv
        have HASC := hide hasc
        clear hx hxv hasc
        go_wp2_with (at_builtin; refine wpB_append3 rfl (.tmp 26) (.tmp 29) rfl w5.heap.size A' v c' _ rfl (HO.out.below (Below_new _ _)) _ _ 1 1 [x] rfl (LiesB.new _ _ _ _ _ _ rfl (by simp [bv]; have := HX.out; omega)) (v + 1) _ rfl HASC.out (by omega) (by simp; omega) ?_; intro A3 c3 w3 own3 k3 hk3)
        go_roundg (256 - (v + 1))
        case measure => omega
        case rel => exact ⟨v + 1, A3, c3, by omega, rfl, by go_num, rfl, own3, HB.out.trans (((Below_new _ _).mono hsr).trans (k3.belowOwn HO.out (by simp; omega)))⟩
      · obtain rfl : v = 256 := by omega
        obtain ⟨g, rfl, hg1, hg2⟩ := HO.out.form (by omega)
        have HO2 : Hid (OwnB wr w5.heap.size (some ⟨g, 0, none⟩) 256 c' asc) := by
          have := HO.out
          rwa [List.take_of_length_le (by rw [asc_len]; exact Nat.le_refl _)] at this
        have HC : Hid (CmpOK (b.key past) g (.pointer (some ⟨w4.heap.size, 0, none⟩)) (.pointer (some ⟨w4.heap.size + 1, 0, none⟩)) (.pointer (some ⟨w.heap.size, 0, none⟩)) (.pointer (some ⟨gw, 0, none⟩)) wr) := by
          intro W hW x y hyx
          obtain ⟨t1, t2, t3, t4, t5⟩ := T5.out
          have hb := HB.out
          refine pred_cmp (by rw [HA.out.len]; exact hn) ?_ ?_ ((t3.below hb (by omega)).keeps hW (by omega)) ?_ x y hyx
          · rw [← HD.out]; exact (t1.below hb (by omega)).keeps hW (by omega)
          · rw [← HE0.out]; exact (t2.below hb (by omega)).keeps hW (by omega)
          · rw [← HFW.out]; exact (t4.below hb (by omega)).keeps hW (by omega)
        go_wp2_with fail
        refine Calls.mono (sort_stableFunc (b.key_inj past) (by omega) (by omega) HO2.out asc_asc HC.out) ?_
        rintro e w6 ⟨rfl, l', own6, hp6, hs6, k6⟩
        have hrk : l' = b.rank past := By.rank_unique hp6 hs6
        rw [hrk] at own6
        have HO6 := hide own6
        have hcc := own6.cap
        have HB6 : Hid (Below w.heap.size w w6) := by
          show Below _ _ _
          have h1 : Below w5.heap.size w5 w6 := HB.out.trans (k6.below hsr (fun k hk => by omega))
          exact T5.out.2.2.2.2.trans (h1.mono (by omega))
        clear own6 hp6 hs6 k6 hrk
        obtain ⟨M, hM⟩ : ∃ M : Nat, min (max ki 0) 256 = (M : Int) := ⟨(min (max ki 0) 256).toNat, by omega⟩
        have hM2 : M ≤ 256 := by omega
        have HR2 : Hid (R = (b.rank past).take M) := by show _ = _; rw [HR.out, if_pos HMM.out, hM, Int.toNat_natCast]
        have hMc : M ≤ c' := by omega
        go_wp2_with fail
        go_ret
        refine ⟨_, _, _, rfl, ?_, hMc, HB6.out⟩
        rw [HR2.out]
        have := HO6.out.lies.take M
        rwa [Nat.min_eq_left hM2] at this
end Go.Proofs.Ytciogjnchpeaaaa
