/-
  The document's chain.
-/
import Derived.Test.YtciogjnchpeaaaaPredRefRank
namespace Go.Proofs.Ytciogjnchpeaaaa
open Go.RowKit
set_option maxRecDepth 10000
set_option linter.unusedVariables false
open Prd
theorem By.rank_one (b : By) (L : List UInt8) : (b.rank L).take 1 = [b.first L] := by
  have h := b.rank_len L
  unfold By.first
  cases hr : b.rank L with
  | nil => rw [hr] at h; simp at h
  | cons x r => rfl
/-- Two slices beside one another. -/
structure Beside (w0 : Nat) (w : World) (A1 : Option Addr) (n1 c1 : Nat) (l1 : List UInt8) (A2 : Option Addr) (n2 c2 : Nat) (l2 : List UInt8) : Prop where
  one : OwnB w w0 A1 n1 c1 l1
  two : OwnB w w0 A2 n2 c2 l2
  apart : ∀ k, some k = (Value.slice A1 n1 c1).ownBlock → some k ≠ (Value.slice A2 n2 c2).ownBlock
theorem Beside.below {w0 : Nat} {w w' : World} {A1 A2 : Option Addr} {n1 c1 n2 c2 : Nat} {l1 l2 : List UInt8} (h : Beside w0 w A1 n1 c1 l1 A2 n2 c2 l2) (hb : Below w.heap.size w w') : Beside w0 w' A1 n1 c1 l1 A2 n2 c2 l2 := ⟨h.one.below hb, h.two.below hb, h.apart⟩
theorem Beside.swap {w0 : Nat} {w : World} {A1 A2 : Option Addr} {n1 c1 n2 c2 : Nat} {l1 l2 : List UInt8} (h : Beside w0 w A1 n1 c1 l1 A2 n2 c2 l2) : Beside w0 w A2 n2 c2 l2 A1 n1 c1 l1 := ⟨h.two, h.one, fun k h1 h2 => h.apart k h2 h1⟩
theorem Beside.grow {w0 : Nat} {w w' : World} {A1 A2 A3 : Option Addr} {n1 c1 n2 c2 n3 c3 : Nat} {l1 l2 l3 : List UInt8} (h : Beside w0 w A1 n1 c1 l1 A2 n2 c2 l2) (own : OwnB w' w0 A3 n3 c3 l3) (k : Keeps (Mine A1 n1 c1) w w')
    (hk : (Value.slice A3 n3 c3).ownBlock = (Value.slice A1 n1 c1).ownBlock ∨ (Value.slice A3 n3 c3).ownBlock = some w.heap.size) : Beside w0 w' A3 n3 c3 l3 A2 n2 c2 l2 := by
  refine ⟨own, h.two.keeps k fun j hj hm => h.apart j hm hj, fun j h1 h2 => ?_⟩
  rcases hk with hk | hk
  · exact h.apart j (by rw [← hk]; exact h1) h2
  · rw [hk] at h1
    injection h1 with h1
    have := (h.two.blk j h2).2
    omega
set_option maxHeartbeats 4000000 in
set_option maxRecDepth 10000 in
theorem ref_Chain (b : By) (A0 : Option Addr) (n0 c0 : Nat) (A : Option Addr) (n c B : Nat) (past : List UInt8) (ni : Int) (w : World) (hA : LiesB w B A n past) (hT : LiesB w B A0 n0 b.table) (hB : B ≤ w.heap.size) (hnc : n ≤ c) (hn : n ≤ 900000) :
    Calls Try.prog 31 #[b.val (.slice A0 n0 c0), .slice A n c, .int .i64 ni] w fun e w' => ∃ A' n' c', e = .returned (.slice A' n' c') ∧ OwnB w' w.heap.size A' n' c' (if b.may = true then b.chain (min (max ni 0) 1000).toNat past else []) ∧ Below w.heap.size w w' := by
  have HA := hide hA
  have HTB := hide hT
  clear hA hT
  obtain ⟨R, hR⟩ : ∃ R, R = (if b.may = true then b.chain (min (max ni 0) 1000).toNat past else []) := ⟨_, rfl⟩
  rw [← hR]
  have HR := hide hR
  clear hR
  rw [show b.val (.slice A0 n0 c0) = .agg #[.int .i64 b.kind, .int .i64 b.order, .slice A0 n0 c0] from rfl]
  go_enter Try.func31, Try.ntmps31
  go_upto_region 1 with fail
  generalize hw0 : World.alloc w _ = w0
  have hA0 : Arr 25 w0 w.heap.size (b.row (.slice A0 n0 c0)) := by rw [← hw0]; exact Arr.new 25 w _ _ rfl
  have HB0 : Hid (Below w.heap.size w w0) := by show Below _ _ _; rw [← hw0]; exact Below_new w _
  have HA0 := hide hA0
  have hsz0 : w.heap.size < w0.heap.size := hA0.lt
  clear hw0 hA0
  go_wp2_with (refine wpZ_load rfl (.tmp 3) rfl w.heap.size rfl b (.slice A0 n0 c0) HA0.out ?_)
  refine Calls.mono (ref_MayBy b A0 n0 c0 w0 (HTB.out.len)) ?_
  rintro e w1 ⟨rfl, hb1⟩
  have HB1 := hide (Below_step HB0.out hb1)
  have HA1 := hide (HA0.out.belowN hb1)
  have hs1 := hb1.size
  clear hb1 HA0
  cases hm : b.may
  · have HRn : Hid (R = []) := by show _ = _; rw [HR.out, hm]; rfl
    go_wp2_with fail
    go_ret
    exact ⟨none, 0, 0, rfl, by rw [HRn.out]; exact OwnB.nil _ _, HB1.out⟩
  · have HMM := hide hm
    obtain ⟨M, hM⟩ : ∃ M : Nat, min (max ni 0) 1000 = (M : Int) := ⟨(min (max ni 0) 1000).toNat, by omega⟩
    have hM2 : M ≤ 1000 := by omega
    have HR2 : Hid (R = b.chain M past) := by show _ = _; rw [HR.out, if_pos hm, hM, Int.toNat_natCast]
    have HMI := hide hM
    have hnil := hide (OwnB.nil w1 w1.heap.size)
    clear hm hM
    go_wp2_with (at_builtin; refine wpB_append3 rfl (.const (.slice none 0 0)) (.tmp 14) rfl w1.heap.size none 0 0 [] rfl hnil.out B A n c past rfl (HA.out.below (HB1.out.mono hB)) n past (by omega) (by simp) (by omega) (Nat.le_refl _) ?_; intro A2 c2 w2 own2 k2 hk2)
    have HB2 := hide (k2.belowOwn hnil.out (Nat.le_refl _))
    have HS2 : Hid (Beside w1.heap.size w2 A2 n c2 past none 0 0 []) := ⟨own2, OwnB.nil _ _, fun k _ h => by cases h⟩
    clear own2 k2 hk2 hnil
    go_loopg [7, 8, 9, 10] M (fun gg s7 s8 s9 s10 wr => ∃ (i : Nat) (A1 : Option Addr) (c1 : Nat) (A2 : Option Addr) (c2 : Nat), i ≤ M ∧ gg = M - i ∧ s9 = .int .i64 (i : Int) ∧ s7 = .slice A1 (n + i) c1 ∧ s8 = .slice A2 i c2 ∧ Hid (Beside w1.heap.size wr A1 (n + i) c1 (past ++ b.chain i past) A2 i c2 (b.chain i past)) ∧ Hid (Below w1.heap.size w1 wr))
    case atStart => exact ⟨0, A2, c2, none, 0, by omega, rfl, rfl, rfl, rfl, by rw [show b.chain 0 past = [] from rfl, List.append_nil]; exact HS2.out, HB2.out⟩
    case round =>
      obtain ⟨i, A1, c1, A2, c2, hi, rfl, rfl, rfl, rfl, HS, HB⟩ := hrel
      have hsr := HB.out.size
      have hcap := HS.out.one.cap
      by_cases hlt : i < M
      · have d1 : decide ((i : Int) < ni) = true := decide_eq_true (by have := HMI.out; omega)
        have d2 : decide ((i : Int) < 1000) = true := decide_eq_true (by omega)
        have HAr := hide (HA1.out.belowN HB.out)
        obtain ⟨L, hL⟩ : ∃ L, L = past ++ b.chain i past := ⟨_, rfl⟩
        rw [← hL] at HS
        have HL2 : Hid (past ++ b.chain (i + 1) past = L ++ [b.first L] ∧ b.chain (i + 1) past = b.chain i past ++ [b.first L]) := by
          refine ⟨by rw [By.chain_succ, hL]; simp, by rw [By.chain_succ, hL]⟩
        have HTr : Hid (LiesB wr wr.heap.size A0 n0 b.table) := by
          have h1 := HTB.out.below (HB1.out.mono hB)
          exact (h1.below (HB.out.mono (by omega))).more (by omega)
        clear hL
        go_wp2_with (refine wpZ_load rfl (.tmp 3) rfl w.heap.size rfl b (.slice A0 n0 c0) HAr.out ?_)
        refine Calls.mono (ref_Rank b A0 n0 c0 A1 (n + i) c1 wr.heap.size L 1 wr HS.out.one.lies HTr.out (Nat.le_refl _) hcap (by omega)) ?_
        rintro e w3 ⟨Ar, nr, cr, rfl, own3, hb3⟩
        rw [if_pos HMM.out, show (min (max (1 : Int) 0) 256).toNat = 1 by decide, By.rank_one] at own3
        obtain rfl : nr = 1 := own3.len.symm
        obtain ⟨gr, rfl, hgr1, hgr2⟩ := own3.form (by omega)
        obtain ⟨x, hx⟩ : ∃ x, x = b.first L := ⟨_, rfl⟩
        rw [← hx] at HL2 own3
        have cr0 : w3.cell? ⟨gr, 0, none⟩ = some (.int .u8 (x.toNat : Int)) := by
          obtain ⟨hl, hc⟩ := own3.cell (j := 0) (by omega)
          simpa using hc
        have HO3 := hide own3
        have HS3 := hide (HS.out.below hb3)
        have HB3 := hide (HB.out.trans (hb3.mono hsr))
        have hs3 := hb3.size
        have hb3r : ∀ j, some j = (Value.slice A1 (n + i) c1).ownBlock → j < wr.heap.size := fun j hj => (HS.out.one.blk j hj).2
        have HBR := hide hb3r
        clear hx hb3 own3 hb3r
        have X0 := Below_new w3 (.cells #[Value.int IntKind.u8 ↑x.toNat] 5)
        have X1 := HS3.out.one.below X0
        have X2 := LiesB.new w3 #[Value.int IntKind.u8 ↑x.toNat] 5 (0, 0) [x] 1 rfl rfl
        have X3 : w1.heap.size ≤ (w3.alloc (.cells #[Value.int IntKind.u8 ↑x.toNat] 5)).heap.size := by simp; omega
        go_upto_region 10 with (at_builtin; refine wpB_append3 rfl (.tmp 28) (.tmp 32) rfl w1.heap.size A1 (n + i) c1 _ rfl X1 _ _ 1 1 [x] rfl X2 (n + (i + 1)) _ (by omega) HL2.out.1.symm (by omega) X3 ?_; intro A4 c4 w4 own4 k4 hk4)
        have HS4 := hide ((HS3.out.below X0).grow own4 k4 hk4)
        have HB4 := hide ((HB3.out.trans (X0.mono (by omega))).trans (k4.belowOwn X1 X3))
        have hs4 := k4.size
        have cr4 : w4.cell? ⟨gr, 0, none⟩ = some (.int .u8 (x.toNat : Int)) := by
          have h1 := (HO3.out.below X0).keeps k4 (fun j hj hm => by
            have := HBR.out j hm
            have := (HO3.out.blk j hj).1
            omega)
          obtain ⟨hl, hc⟩ := h1.cell (j := 0) (by omega)
          simpa using hc
        rw [World.size_alloc] at hs4
        clear X0 X1 X2 X3 own4 k4 hk4 cr0
        have X0 := Below_new w4 (.cells #[Value.int IntKind.u8 ↑x.toNat] 5)
        have X1 := HS4.out.two.below X0
        have X2 := LiesB.new w4 #[Value.int IntKind.u8 ↑x.toNat] 5 (0, 0) [x] 1 rfl rfl
        have X3 : w1.heap.size ≤ (w4.alloc (.cells #[Value.int IntKind.u8 ↑x.toNat] 5)).heap.size := by simp; omega
        go_wp2_with (at_builtin; refine wpB_append3 rfl (.tmp 34) (.tmp 38) rfl w1.heap.size A2 i c2 _ rfl X1 _ _ 1 1 [x] rfl X2 (i + 1) _ rfl HL2.out.2.symm (by omega) X3 ?_; intro A5 c5 w5 own5 k5 hk5)
        have HS5 := hide ((HS4.out.below X0).swap.grow own5 k5 hk5).swap
        have HB5 := hide ((HB4.out.trans (X0.mono (by omega))).trans (k5.belowOwn X1 X3))
        clear X0 X1 X2 X3 own5 k5 hk5 cr4
        go_wp2_with fail
        go_roundg (M - (i + 1))
        case measure => omega
        case rel => exact ⟨i + 1, A4, c4, A5, c5, by omega, rfl, by go_num, rfl, rfl, HS5, HB5⟩
      · obtain rfl : i = M := by omega
        have HBF := hide (HB1.out.trans (HB.out.mono (by omega)))
        have HOF : Hid (OwnB wr w.heap.size A2 i c2 R) := by
          show OwnB _ _ _ _ _ _
          rw [HR2.out]
          exact HS.out.two.base_le (by omega)
        by_cases h1 : (i : Int) < ni
        · have d1 : decide ((i : Int) < ni) = true := decide_eq_true h1
          have d2 : decide ((i : Int) < 1000) = false := decide_eq_false (by have := HMI.out; omega)
          go_wp2_with fail
          go_ret
          exact ⟨A2, i, c2, rfl, HOF.out, HBF.out⟩
        · have d1 : decide ((i : Int) < ni) = false := decide_eq_false h1
          go_wp2_with fail
          go_ret
          exact ⟨A2, i, c2, rfl, HOF.out, HBF.out⟩
end Go.Proofs.Ytciogjnchpeaaaa
