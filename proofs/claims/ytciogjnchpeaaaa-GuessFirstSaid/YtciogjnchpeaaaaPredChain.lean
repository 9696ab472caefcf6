/-
  The program's chain.
-/
import Derived.Test.YtciogjnchpeaaaaPredFirst
import Derived.Test.YtciogjnchpeaaaaKeepB
import Derived.Lib.SliceRun
namespace Go.Proofs.Ytciogjnchpeaaaa
open Go.RowKit
set_option maxRecDepth 10000
set_option linter.unusedVariables false
open Prd
set_option maxHeartbeats 1000000 in
theorem slices_Clone (A : Option Addr) (n c B : Nat) (l : List UInt8) (w : World) (hA : LiesB w B A n l) (hB : B ≤ w.heap.size) (hn : n ≤ 1000000) :
    Calls Try.prog 46 #[.slice A n c] w fun e w' => ∃ A' c', e = .returned (.slice A' n c') ∧ OwnB w' w.heap.size A' n c' l ∧ Below w.heap.size w w' := by
  have HA := hide hA
  clear hA
  cases A with
  | none =>
    have hl : l = [] := by
      by_cases h : l = []
      · exact h
      · obtain ⟨b, off, h1, _⟩ := HA.out.2 (by simpa using h)
        cases h1
    subst hl
    obtain rfl : n = 0 := HA.out.len.symm
    go_enter Try.func46, Try.ntmps46
    go_wp2_with fail
    rw [Go.Lib.run_eql_slice_nil _ _ _ _ _ _ _ _ Try.underlying23]
    go_wp2_with fail
    go_ret
    exact ⟨none, 0, rfl, OwnB.nil _ _, Below.refl _ _⟩
  | some a =>
    go_enter Try.func46, Try.ntmps46
    go_wp2_with fail
    rw [Go.Lib.run_eql_slice_nil _ _ _ _ _ _ _ _ Try.underlying23]
    go_wp2_with (at_builtin; refine wpB_append3 rfl (.tmp 5) (.tmp 6) rfl w.heap.size _ 0 0 [] rfl (OwnB.new w #[] 0 [] rfl (by simp [maxLen]) rfl) B (some a) n c l rfl (HA.out.below ((Below_new w _).mono hB)) n l (by omega) (by simp) (by omega) (by simp) ?_; intro A3 c3 w3 own3 k3 hk3)
    go_ret
    exact ⟨A3, c3, rfl, own3, (Below_new w _).trans (k3.belowOwn (OwnB.new w #[] 0 [] rfl (by simp [maxLen]) rfl) (by simp))⟩
set_option maxHeartbeats 4000000 in
set_option maxRecDepth 10000 in
theorem pred_Chain (b : By) (A0 : Option Addr) (n0 c0 : Nat) (A : Option Addr) (n c B : Nat) (past : List UInt8) (ni : Int) (w : World) (hA : LiesB w B A n past) (hT : LiesB w B A0 n0 b.table) (hB : B ≤ w.heap.size) (hnc : n ≤ c) (hn : n ≤ 900000) :
    Calls Try.prog 40 #[b.val (.slice A0 n0 c0), .slice A n c, .int .i64 ni] w fun e w' => ∃ A' n' c', e = .returned (.slice A' n' c') ∧ LiesB w' w'.heap.size A' n' (if b.may = true then b.chain (min (max ni 0) 1000).toNat past else []) ∧ n' ≤ c' ∧ Below w.heap.size w w' := by
  have HA := hide hA
  have HTB := hide hT
  clear hA hT
  obtain ⟨R, hR⟩ : ∃ R, R = (if b.may = true then b.chain (min (max ni 0) 1000).toNat past else []) := ⟨_, rfl⟩
  rw [← hR]
  have HR := hide hR
  clear hR
  rw [show b.val (.slice A0 n0 c0) = .agg #[.int .i64 b.kind, .int .i64 b.order, .slice A0 n0 c0] from rfl]
  go_enter Try.func40, Try.ntmps40
  go_upto_region 1 with fail
  generalize hw0 : World.alloc w _ = w0
  have hA0 : Arr 39 w0 w.heap.size (b.row (.slice A0 n0 c0)) := by rw [← hw0]; exact Arr.new 39 w _ _ rfl
  have HB0 : Hid (Below w.heap.size w w0) := by show Below _ _ _; rw [← hw0]; exact Below_new w _
  have HA0 := hide hA0
  have hsz0 : w.heap.size < w0.heap.size := hA0.lt
  clear hw0 hA0
  go_wp2_with (refine wpY_load rfl (.tmp 3) rfl w.heap.size rfl b (.slice A0 n0 c0) HA0.out ?_)
  refine Calls.mono (pred_May b A0 n0 c0 w0 (HTB.out.len)) ?_
  rintro e w1 ⟨rfl, hb1⟩
  have HB1 := hide (Below_step HB0.out hb1)
  have HA1 := hide (HA0.out.belowN hb1)
  have hs1 := hb1.size
  clear hb1 HA0
  cases hm : b.may
  · have HRn : Hid (R = []) := by show _ = _; rw [HR.out, hm]; rfl
    go_wp2_with fail
    go_ret
    exact ⟨none, 0, 0, rfl, by rw [HRn.out]; exact LiesB.nil _ _ _, Nat.le_refl _, HB1.out⟩
  · have HMM := hide hm
    obtain ⟨M, hM⟩ : ∃ M : Nat, min (max ni 0) 1000 = (M : Int) := ⟨(min (max ni 0) 1000).toNat, by omega⟩
    have hM2 : M ≤ 1000 := by omega
    have HR2 : Hid (R = b.chain M past) := by show _ = _; rw [HR.out, if_pos hm, hM, Int.toNat_natCast]
    clear hm
    go_wp2_with fail
    refine Calls.mono (slices_Clone A n c B past w1 (HA.out.below (HB1.out.mono hB)) (by omega) (by omega)) ?_
    rintro e w2 ⟨A2, c2, rfl, own2, hb2⟩
    have HO2 := hide own2
    have HB2 := hide hb2
    clear own2 hb2
    go_wp2_with fail
    go_loopg [7, 16] M (fun gg s7 s16 wr => ∃ (i : Nat) (A' : Option Addr) (c' : Nat), i ≤ M ∧ gg = M - i ∧ s16 = .int .i64 (i : Int) ∧ s7 = .slice A' (n + i) c' ∧ Hid (OwnB wr w1.heap.size A' (n + i) c' (past ++ b.chain i past)) ∧ Hid (Below w1.heap.size w1 wr))
    case atStart => exact ⟨0, A2, c2, by omega, rfl, rfl, rfl, by rw [show b.chain 0 past = [] from rfl, List.append_nil]; exact HO2.out, HB2.out⟩
    case round =>
      obtain ⟨i, A', c', hi, rfl, rfl, rfl, HO, HB⟩ := hrel
      have hsr := HB.out.size
      have hcap := HO.out.cap
      by_cases hlt : i < M
      · have HAr := hide (HA1.out.belowN HB.out)
        obtain ⟨L, hL⟩ : ∃ L, L = past ++ b.chain i past := ⟨_, rfl⟩
        have HLL := hide hL
        rw [← hL] at HO
        have HL2 : Hid (past ++ b.chain (i + 1) past = L ++ [b.first L]) := by show _ = _; rw [By.chain_succ, hL]; simp
        have HTr : Hid (LiesB wr wr.heap.size A0 n0 b.table) := by
          have h1 := HTB.out.below (HB1.out.mono hB)
          exact (h1.below (HB.out.mono (by omega))).more (by omega)
        clear hL
        go_wp2_with (refine wpY_load rfl (.tmp 3) rfl w.heap.size rfl b (.slice A0 n0 c0) HAr.out ?_)
        refine Calls.mono (pred_first b A0 n0 c0 A' (n + i) c' wr.heap.size L wr HO.out.lies HTr.out (Nat.le_refl _) hcap (by omega) HMM.out) ?_
        rintro e w3 ⟨rfl, hb3⟩
        obtain ⟨x, hx⟩ : ∃ x, x = b.first L := ⟨_, rfl⟩
        rw [← hx] at HL2 ⊢
        have HO3 := hide (HO.out.below hb3)
        have HB3 := hide (HB.out.trans (hb3.mono hsr))
        have hs3 := hb3.size
        clear hx hb3
        go_wp2_with (at_builtin; refine wpB_append3 rfl (.tmp 18) (.tmp 22) rfl w1.heap.size A' (n + i) c' _ rfl (HO3.out.below (Below_new _ _)) _ _ 1 1 [x] rfl (LiesB.new _ _ _ _ _ _ rfl rfl) (n + (i + 1)) _ (by omega) HL2.out.symm (by omega) (by simp; omega) ?_; intro A4 c4 w4 own4 k4 hk4)
        go_roundg (M - (i + 1))
        case measure => omega
        case rel => exact ⟨i + 1, A4, c4, by omega, rfl, by go_num, rfl, own4, HB3.out.trans (((Below_new _ _).mono (by omega)).trans (k4.belowOwn HO3.out (by simp; omega)))⟩
      · obtain rfl : i = M := by omega
        have hle : n ≤ n + i := by omega
        have hcut := hide (HO.out.lies.cut (k := n) hcap)
        have HD : Hid ((past ++ b.chain i past).drop n = R) := by
          show _ = _
          rw [HR2.out, List.drop_left' HA.out.len]
        have HBF := hide (HB1.out.trans (HB.out.mono (by omega)))
        have hcc : i ≤ c' - n := by omega
        go_wp2_with fail
        go_ret
        refine ⟨_, _, _, rfl, ?_, hcc, HBF.out⟩
        rw [← HD.out]
        have := hcut.out
        rwa [show n + i - n = i by omega] at this
end Go.Proofs.Ytciogjnchpeaaaa
