/-
  quintainlaw15.tells; Sealed.
-/
import Derived.Test.YtcjcmjkpfijhdaaPktUn
import Derived.Test.YtcjcmjkpfijhdaaLaw15
namespace Go.Proofs.Ytcjcmjkpfijhdaa
open Go.RowKit
set_option linter.unusedVariables false
theorem ref_Unpacket_yes (p : Pkt) {A : Option Addr} {n c B : Nat} {b : List UInt8} {w : World} (h : Pkt.Is b p) (hA : LiesB w B A n b) (hB : B ≤ w.heap.size) (hnc : n ≤ c) (hn : n ≤ 1000000) :
    Calls Try.prog 35 #[.slice A n c] w fun e w' => ∃ A' n' c', e = .returned (.tuple #[p.val (.slice A' n' c'), .bool true]) ∧ LiesB w' w'.heap.size A' n' p.press ∧ Below w.heap.size w w' := by
  refine (ref_Unpacket hA hB hnc hn).mono ?_
  rintro e w' ⟨hs, hb⟩
  cases hs with
  | yes q A n c h2 hl => obtain rfl := Pkt.is_inj h h2; exact ⟨A, n, c, rfl, hl, hb⟩
  | no q A n c h2 => exact absurd h (h2 p)
theorem ref_Unpacket_no {A : Option Addr} {n c B : Nat} {b : List UInt8} {w : World} (h : ∀ p, ¬ Pkt.Is b p) (hA : LiesB w B A n b) (hB : B ≤ w.heap.size) (hnc : n ≤ c) (hn : n ≤ 1000000) :
    Calls Try.prog 35 #[.slice A n c] w fun e w' => ∃ (q : Pkt) (A' : Option Addr) (n' c' : Nat), e = .returned (.tuple #[q.val (.slice A' n' c'), .bool false]) ∧ Below w.heap.size w w' := by
  refine (ref_Unpacket hA hB hnc hn).mono ?_
  rintro e w' ⟨hs, hb⟩
  cases hs with
  | yes q A n c h2 hl => exact absurd h2 (h q)
  | no q A n c h2 => exact ⟨q, A, n, c, rfl, hb⟩
set_option maxHeartbeats 1000000 in
set_option maxRecDepth 10000 in
theorem law_tells {A : Option Addr} {n c B : Nat} {b : List UInt8} {w : World} (hA : LiesB w B A n b) (hB : B ≤ w.heap.size) (hnc : n ≤ c) (hn : n ≤ 1000000) :
    Calls Try.prog 18 #[.slice A n c] w fun e w' => e = .returned (.bool true) ∧ Below w.heap.size w w' := by
  have HA := hide hA
  have HBB := hide hB
  clear hA hB
  by_cases hy : ∃ p, Pkt.Is b p
  · obtain ⟨p, hp⟩ := hy
    have HP := hide hp
    have HEQ : Hid (true = Pkt.eqb p p) := (Pkt.eqb_self p).symm
    clear hp
    go_enter Try.func18, Try.ntmps18
    go_wp2_with fail
    refine Calls.mono (packet_Decode_yes p HP.out HA.out HBB.out hnc hn) ?_
    rintro e w1 ⟨A1, n1, c1, rfl, l1, hc1, hn1, hb1⟩
    have HB1 := hide hb1
    have L1 := hide l1
    clear l1 hb1
    go_upto_region 2 with fail
    generalize hw2 : World.alloc w1 _ = w2
    have hb2 : Below w1.heap.size w1 w2 := by rw [← hw2]; exact Below_new w1 _
    have HP2 : Hid (Arr 25 w2 w1.heap.size (p.row (.slice A1 n1 c1))) := by show Arr _ _ _ _; rw [← hw2]; exact Arr.new 25 w1 _ _ rfl
    have HB2 := hide (Below_step HB1.out hb2)
    have L2 := hide ((L1.out.below hb2).more hb2.size)
    clear hw2 hb2
    go_wp2_with fail
    refine Calls.mono (ref_Unpacket_yes p HP.out (HA.out.below (HB2.out.mono HBB.out)) (Nat.le_trans HBB.out HB2.out.size) hnc hn) ?_
    rintro e w3 ⟨A3, n3, c3, rfl, l3, hb3⟩
    have HP3 := hide (HP2.out.belowN hb3)
    have HB3 := hide (Below_step HB2.out hb3)
    have L3 := hide ((L2.out.below hb3).more hb3.size)
    have M3 := hide l3
    clear l3 hb3
    go_upto_region 3 with fail
    generalize hw4 : World.alloc w3 _ = w4
    have hb4 : Below w3.heap.size w3 w4 := by rw [← hw4]; exact Below_new w3 _
    have HQ4 : Hid (Arr 25 w4 w3.heap.size (p.row (.slice A3 n3 c3))) := by show Arr _ _ _ _; rw [← hw4]; exact Arr.new 25 w3 _ _ rfl
    have HP4 := hide (HP3.out.belowN hb4)
    have HB4 := hide (Below_step HB3.out hb4)
    have L4 := hide ((L3.out.below hb4).more hb4.size)
    have M4 := hide ((M3.out.below hb4).more hb4.size)
    clear hw4 hb4
    go_wp2_with (first | (refine wpPG_load rfl (.tmp 3) rfl w1.heap.size rfl p (.slice A1 n1 c1) HP4.out ?_) | (refine wpPG_load rfl (.tmp 5) rfl w3.heap.size rfl p (.slice A3 n3 c3) HQ4.out ?_))
    refine Calls.mono (ref_EqPacket p p L4.out M4.out (Nat.le_refl _) (Nat.le_refl _) HEQ.out) ?_
    rintro e w5 ⟨rfl, hb5⟩
    have HB5 := hide (Below_step HB4.out hb5)
    clear hb5
    go_wp2_with fail
    go_ret
    exact ⟨rfl, HB5.out⟩
  · have HNO : Hid (∀ p, ¬ Pkt.Is b p) := fun p hp => hy ⟨p, hp⟩
    clear hy
    go_enter Try.func18, Try.ntmps18
    go_wp2_with fail
    refine Calls.mono (packet_Decode_no HNO.out HA.out HBB.out hnc hn) ?_
    rintro e w1 ⟨rfl, hb1⟩
    have HB1 := hide hb1
    clear hb1
    go_upto_region 2 with fail
    generalize hw2 : World.alloc w1 _ = w2
    have hb2 : Below w1.heap.size w1 w2 := by rw [← hw2]; exact Below_new w1 _
    have HP2 : Hid (Arr 25 w2 w1.heap.size (Pkt.zero.row (.slice none 0 0))) := by show Arr _ _ _ _; rw [← hw2]; exact Arr.new 25 w1 _ _ rfl
    have HB2 := hide (Below_step HB1.out hb2)
    clear hw2 hb2
    go_wp2_with fail
    refine Calls.mono (ref_Unpacket_no HNO.out (HA.out.below (HB2.out.mono HBB.out)) (Nat.le_trans HBB.out HB2.out.size) hnc hn) ?_
    rintro e w3 ⟨q, A3, n3, c3, rfl, hb3⟩
    have HP3 := hide (HP2.out.belowN hb3)
    have HB3 := hide (Below_step HB2.out hb3)
    clear hb3
    go_upto_region 3 with fail
    generalize hw4 : World.alloc w3 _ = w4
    have hb4 : Below w3.heap.size w3 w4 := by rw [← hw4]; exact Below_new w3 _
    have HP4 := hide (HP3.out.belowN hb4)
    have HB4 := hide (Below_step HB3.out hb4)
    clear hw4 hb4
    have c0 := HP4.out.cell (j := 0) (by simp)
    have c5 := HP4.out.cell (j := 5) (by simp)
    simp only [List.getElem_cons_zero, List.getElem_cons_succ] at c0 c5
    have hz : Pkt.zero.kind = 0 := rfl
    rw [hz] at c0
    go_wp2_with fail
    go_ret
    exact ⟨rfl, HB4.out⟩
set_option maxHeartbeats 1000000 in
set_option maxRecDepth 10000 in
theorem ref_Sealed {A : Option Addr} {n c B : Nat} {b : List UInt8} {w : World} (hA : LiesB w B A n b) (hB : B ≤ w.heap.size) (hn : n ≤ 100000) :
    Calls Try.prog 20 #[.slice A n c] w fun e w' => ∃ A' n' c', e = .returned (.slice A' n' c') ∧ OwnB w' w.heap.size A' n' c' (Pkt.sealB b) ∧ Below w.heap.size w w' := by
  have HA := hide hA
  have HBB := hide hB
  have hnil := hide (OwnB.nil w w.heap.size)
  obtain ⟨s, hs⟩ : ∃ s, s = ((Crc.sum b).toNat : Int) := ⟨_, rfl⟩
  have HS := hide hs
  have hs0 : 0 ≤ s := by omega
  have hs1 : s < 4294967296 := by have := (Crc.sum b).isLt; omega
  clear hA hB hs
  go_enter Try.func20, Try.ntmps20
  go_wp2_with (at_builtin; refine wpB_append3 rfl (.const (.slice none 0 0)) (.tmp 3) rfl w.heap.size none 0 0 [] rfl hnil.out _ A n c b rfl HA.out n b (by omega) (by simp) (by omega) (Nat.le_refl _) ?_; intro A4 c4 w4 own4 k4 hk4)
  have hb4 : Below w.heap.size w w4 := k4.belowOwn hnil.out (Nat.le_refl _)
  refine Calls.mono (ref_Sum_v (HA.out.below (hb4.mono HBB.out)) (by omega) HS.out) ?_
  rintro e w5 ⟨rfl, rfl⟩
  have HO4 := hide own4
  have HB4 := hide hb4
  clear own4 hb4 k4 hk4
  go_wp2_with fail
  refine Calls.mono (ref_Four_v hs0 hs1 rfl) ?_
  rintro e w6 ⟨A6, n6, c6, rfl, own6, hb6⟩
  have HO6 := hide (HO4.out.below hb6)
  have HB6 := hide (Below_step HB4.out hb6)
  have L6 := hide own6.lies
  have hl6 := own6.len
  rw [be32_length] at hl6
  subst hl6
  clear own6 hb6
  go_wp2_with (at_builtin; refine wpB_append3 rfl (.tmp 4) (.tmp 7) rfl w.heap.size A4 n c4 b rfl HO6.out _ A6 4 c6 (be32 s) rfl L6.out (n + 4) _ rfl rfl (by omega) HB6.out.size ?_; intro A7 c7 w7 own7 k7 hk7)
  have HB7 := hide (HB6.out.trans (k7.belowOwn HO6.out HB6.out.size))
  have HO7 := hide own7
  clear own7 k7 hk7
  go_ret
  exact ⟨_, _, _, rfl, by rw [Pkt.sealB, ← HS.out]; exact HO7.out, HB7.out⟩
end Go.Proofs.Ytcjcmjkpfijhdaa
