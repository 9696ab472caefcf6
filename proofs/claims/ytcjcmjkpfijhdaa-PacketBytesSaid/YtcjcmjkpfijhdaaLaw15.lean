/-
  quintainlaw15.begun: one packet.
-/
import Derived.Test.YtcjcmjkpfijhdaaPktCut
import Derived.Test.YtcjcmjkpfijhdaaPktDec
namespace Go.Proofs.Ytcjcmjkpfijhdaa
open Go.RowKit
set_option linter.unusedVariables false
def Pkt.one : Pkt := ⟨1, 1, 0, 9, 3, [4, 4], 5, 2, 77⟩
theorem Pkt.one_may : Pkt.one.may = true := by decide
theorem Pkt.zero_may : Pkt.zero.may = false := by decide
theorem Pkt.one_wf : Pkt.one.WF := ⟨by decide, by decide⟩
theorem Pkt.one_enc : ∃ t, Pkt.one.enc = 1 :: 1 :: 0 :: 18 :: t ∧ 5 ≤ t.length := by
  have hp : Var.put (Var.zig 9) = [18] := by rw [show Var.zig 9 = 18 from by decide, Var.put_small (by omega)]; rfl
  rw [Pkt.enc, if_pos Pkt.one_may, Pkt.sealB, Pkt.body, Pkt.tail, if_pos (by rfl)]
  show ∃ t, (Pkt.byte 1 :: Pkt.byte 1 :: Pkt.byte 0 :: (Var.put (Var.zig 9) ++ _)) ++ _ = _ ∧ _
  rw [hp]
  refine ⟨_, rfl, ?_⟩
  have : 1 ≤ (Var.put (Var.zig 3)).length := by
    cases e : Var.put (Var.zig 3) with
    | nil => exact absurd e (Var.put_ne _)
    | cons => simp
  show 5 ≤ ((Var.put (Var.zig 3) ++ _) ++ be32 _).length
  rw [List.length_append, List.length_append, be32_length]
  omega
theorem Pkt.one_cut : ∀ p, ¬ Pkt.Is (Pkt.one.enc.drop 1) p := by
  intro p hp
  obtain ⟨t, ht, -⟩ := Pkt.one_enc
  rw [ht] at hp
  obtain ⟨-, k, s, d, t', e, -, -, d1, -⟩ := Pkt.is_head hp
  simp only [List.drop_succ_cons, List.drop_zero, List.cons.injEq] at e
  obtain ⟨-, -, rfl, -⟩ := e
  have := (Pkt.may_iff.1 hp.1).dst
  have h18 : ((18 : UInt8).toNat : Int) = 18 := rfl
  omega
set_option maxHeartbeats 1000000 in
set_option maxRecDepth 10000 in
theorem begun15 (w : World) :
    Calls Try.prog 10 #[] w fun e w' => e = .returned (.bool true) ∧ Below w.heap.size w w' := by
  obtain ⟨bs, hbs⟩ : ∃ b, b = Pkt.one.enc := ⟨_, rfl⟩
  have hlen : 9 ≤ bs.length := by obtain ⟨t, ht, hl⟩ := Pkt.one_enc; rw [hbs, ht]; simp; omega
  have HBS := hide hbs
  clear hbs
  have HB0 := hide (Below_new w (.cells #[.int .u8 4, .int .u8 4] 5))
  have HL0 := hide (LiesB.new w #[.int .u8 4, .int .u8 4] 5 (0, 0) [4, 4] 2 rfl rfl)
  have HZ0 : Hid ((w.alloc (.cells #[.int .u8 4, .int .u8 4] 5)).heap.size = w.heap.size + 1) := World.size_alloc _ _
  go_enter Try.func10, Try.ntmps10
  go_upto_region 2 with fail
  generalize World.alloc w _ = wx at HB0 HL0 HZ0 ⊢
  have HP1 : Hid (Arr 25 (wx.alloc (.cells (Pkt.one.row (.slice (some ⟨w.heap.size, 0, none⟩) 2 2)).toArray 25)) (w.heap.size + 1) (Pkt.one.row (.slice (some ⟨w.heap.size, 0, none⟩) 2 2))) := by show Arr _ _ _ _; rw [← HZ0.out]; exact Arr.new 25 wx _ _ rfl
  have HB1 := hide (Below_step HB0.out (Below_new wx (.cells (Pkt.one.row (.slice (some ⟨w.heap.size, 0, none⟩) 2 2)).toArray 25)))
  have HL1 := hide ((HL0.out.below ((Below_new wx (.cells (Pkt.one.row (.slice (some ⟨w.heap.size, 0, none⟩) 2 2)).toArray 25)).mono (by rw [HZ0.out]; omega))))
  simp only [Pkt.row, Pkt.one] at HP1 HB1 HL1
  have HZ1 : Hid (w.heap.size + 1 ≤ (World.alloc wx (.cells (Pkt.one.row (.slice (some ⟨w.heap.size, 0, none⟩) 2 2)).toArray 25)).heap.size) := by show _ ≤ _; rw [World.size_alloc, HZ0.out]; omega
  simp only [Pkt.row, Pkt.one] at HZ1
  generalize World.alloc wx _ = w1 at HP1 HB1 HL1 HZ1 ⊢
  clear HB0 HL0 HZ0
  have HMO : Hid (true = Pkt.one.may) := Pkt.one_may.symm
  have HMZ : Hid (false = Pkt.zero.may) := Pkt.zero_may.symm
  go_wp2_with (refine wpP_load rfl (.tmp 1) rfl (w.heap.size + 1) rfl Pkt.one (.slice (some ⟨w.heap.size, 0, none⟩) 2 2) HP1.out ?_)
  refine Calls.mono (packet_Encode Pkt.one HL1.out HZ1.out (by omega) Pkt.one_wf) ?_
  rintro e w2 ⟨A2, n2, c2, rfl, own2, hb2, -⟩
  rw [← HBS.out] at own2
  have hl2 := own2.len
  have hn2 : 9 ≤ n2 := by omega
  have d1 : ((n2 : Int) == 0) = false := by simp; omega
  have d2 : decide (8 < (n2 : Int)) = true := by simp; omega
  have hcap2 := own2.cap
  have O2 := hide own2
  have HP2 := hide (HP1.out.belowN hb2)
  have HB2 := hide (Below_step HB1.out hb2)
  have HL2 := hide (HL1.out.below (hb2.mono HZ1.out))
  have HZ2 : Hid (w.heap.size + 1 ≤ w2.heap.size) := Nat.le_trans HZ1.out hb2.size
  have HS2 := hide hl2
  clear own2 hb2 HP1 HB1 HL1 HZ1 hl2
  have d3 : (1 : Int) ≤ n2 := by omega
  go_wp2_with fail
  have HIS : Hid (Pkt.Is bs Pkt.one) := by show Pkt.Is _ _; rw [HBS.out]; exact Pkt.enc_is Pkt.one_may Pkt.one_wf
  have HNO : Hid (∀ p, ¬ Pkt.Is (bs.drop 1) p) := by show ∀ p, _; rw [HBS.out]; exact Pkt.one_cut
  have hn3 : n2 ≤ 100 := by have := Pkt.enc_short Pkt.one; have := HS2.out; rw [HBS.out] at this; omega
  refine Calls.mono (packet_Decode_yes Pkt.one HIS.out O2.out.lies (Nat.le_refl _) hcap2 (by omega)) ?_
  rintro e w3 ⟨A3, n3, c3, rfl, l3, hc3, hn3', hb3⟩
  have O3 := hide (O2.out.below hb3)
  have L3 := hide l3
  have HP3 := hide (HP2.out.belowN hb3)
  have HB3 := hide (Below_step HB2.out hb3)
  have HL3 := hide (HL2.out.below (hb3.mono HZ2.out))
  have HZ3 : Hid (w.heap.size + 1 ≤ w3.heap.size) := Nat.le_trans HZ2.out hb3.size
  clear l3 hb3 HP2 HB2 HL2 HZ2 O2
  go_upto_region 6 with fail
  generalize hw4 : World.alloc w3 _ = w4
  have HQ4 : Hid (Arr 25 w4 w3.heap.size (Pkt.one.row (.slice A3 n3 c3))) := by show Arr _ _ _ _; rw [← hw4]; exact Arr.new 25 w3 _ _ rfl
  have hb4 : Below w3.heap.size w3 w4 := by rw [← hw4]; exact Below_new w3 _
  have O4 := hide (O3.out.below hb4)
  have L4 := hide (L3.out.below hb4)
  have HP4 := hide (HP3.out.belowN hb4)
  have HB4 := hide (Below_step HB3.out hb4)
  have HL4 := hide (HL3.out.below (hb4.mono HZ3.out))
  have HZ4 : Hid (w.heap.size + 1 ≤ w4.heap.size) := Nat.le_trans HZ3.out hb4.size
  have HX4 : Hid (w3.heap.size ≤ w4.heap.size) := hb4.size
  clear hb4 hw4 HP3 HB3 HL3 HZ3 O3 L3
  go_wp2_with fail
  refine Calls.mono (packet_Decode_no HNO.out (O4.out.lies.cut hcap2) (Nat.le_refl _) (by omega) (by omega)) ?_
  rintro e w5 ⟨rfl, hb5⟩
  have O5 := hide (O4.out.below hb5)
  have L5 := hide (L4.out.below (hb5.mono HX4.out))
  have HP5 := hide (HP4.out.belowN hb5)
  have HQ5 := hide (HQ4.out.belowN hb5)
  have HB5 := hide (Below_step HB4.out hb5)
  have HL5 := hide (HL4.out.below (hb5.mono HZ4.out))
  have HZ5 : Hid (w.heap.size + 1 ≤ w5.heap.size) := Nat.le_trans HZ4.out hb5.size
  have HX5 : Hid (w3.heap.size ≤ w5.heap.size) := Nat.le_trans HX4.out hb5.size
  clear hb5 HP4 HB4 HL4 HZ4 HX4 O4 L4 HQ4
  go_upto_region 7 with fail
  generalize hw6 : World.alloc w5 _ = w6
  have hb6 : Below w5.heap.size w5 w6 := by rw [← hw6]; exact Below_new w5 _
  have L6 := hide (L5.out.below (hb6.mono HX5.out))
  have HP6 := hide (HP5.out.belowN hb6)
  have HQ6 := hide (HQ5.out.belowN hb6)
  have HB6 := hide (Below_step HB5.out hb6)
  have HL6 := hide (HL5.out.below (hb6.mono HZ5.out))
  have HZ6 : Hid (w.heap.size + 1 ≤ w6.heap.size) := Nat.le_trans HZ5.out hb6.size
  have HX6 : Hid (w3.heap.size ≤ w6.heap.size) := Nat.le_trans HX5.out hb6.size
  clear hb6 hw6 HP5 HB5 HL5 HZ5 HX5 O5 L5 HQ5
  go_wp2_with (refine wpP_load rfl (.tmp 1) rfl (w.heap.size + 1) rfl Pkt.one (.slice (some ⟨w.heap.size, 0, none⟩) 2 2) HP6.out ?_)
  refine Calls.mono (packet_May Pkt.one (n := 2) rfl (by omega) HMO.out) ?_
  rintro e w7 ⟨rfl, hb7⟩
  go_wp2_with fail
  refine Calls.mono (packet_May Pkt.zero (n := 0) rfl (by omega) HMZ.out) ?_
  rintro e w8 ⟨rfl, hb8⟩
  have hb8 := Below_step hb7 hb8
  have L8 := hide (L6.out.below (hb8.mono HX6.out))
  have HP8 := hide (HP6.out.belowN hb8)
  have HQ8 := hide (HQ6.out.belowN hb8)
  have HB8 := hide (Below_step HB6.out hb8)
  have HL8 := hide (HL6.out.below (hb8.mono HZ6.out))
  have HZ8 : Hid (w.heap.size + 1 ≤ w8.heap.size) := Nat.le_trans HZ6.out hb8.size
  have HX8 : Hid (w3.heap.size ≤ w8.heap.size) := Nat.le_trans HX6.out hb8.size
  have HEQ : Hid (true = Pkt.eqb Pkt.one Pkt.one) := (Pkt.eqb_self Pkt.one).symm
  clear hb8 hb7 HP6 HB6 HL6 HZ6 HX6 L6 HQ6
  go_wp2_with (first | (refine wpPG_load rfl (.tmp 1) rfl (w.heap.size + 1) rfl Pkt.one (.slice (some ⟨w.heap.size, 0, none⟩) 2 2) HP8.out ?_) | (refine wpPG_load rfl (.tmp 3) rfl w3.heap.size rfl Pkt.one (.slice A3 n3 c3) HQ8.out ?_))
  refine Calls.mono (ref_EqPacket Pkt.one Pkt.one HL8.out L8.out HZ8.out HX8.out HEQ.out) ?_
  rintro e w9 ⟨rfl, hb9⟩
  go_wp2_with fail
  go_ret
  exact ⟨rfl, Below_step HB8.out hb9⟩
end Go.Proofs.Ytcjcmjkpfijhdaa
