/-
  PacketEach: the walk.
-/
import Derived.Test.YtcjcmjkpfijhdaaLaw15
import Derived.Test.YtcjcmjkpfijhdaaOpenP
import Derived.Test.YtcjcmjkpfijhdaaPktSpoil
namespace Go.Proofs.Ytcjcmjkpfijhdaa
open Go.RowKit
set_option linter.unusedVariables false
set_option maxHeartbeats 1000000 in
set_option maxRecDepth 10000 in
theorem law_PacketEach (p : Pkt) (A : Option Addr) (n c : Nat) (x : Int) (w : World) (hA : LiesB w w.heap.size A n p.press) (hc : n ≤ c) (hcm : c ≤ maxLen) (hwf : p.WF) (hin : p.Ints) (lo : 0 ≤ x) (hi : x ≤ 255) :
    Calls Try.prog 7 #[p.val (.slice A n c), .int .u8 x] w fun e w' => e = .returned (.bool true) ∧ Below w.heap.size w w' := by
  obtain ⟨d, rfl⟩ : ∃ d : UInt8, x = (d.toNat : Int) := ⟨UInt8.ofNat x.toNat, by rw [UInt8.toNat_ofNat_of_lt' (by show x.toNat < 256; omega)]; omega⟩
  have HA := hide hA
  have HC := hide hc
  have HWF : Hid (p.cut 40).WF := hwf
  have HP0 : Hid (Arr 25 (w.alloc (.cells (p.row (.slice A n c)).toArray 25)) w.heap.size (p.row (.slice A n c))) := Arr.new 25 w _ _ rfl
  have HB0 : Hid (Below w.heap.size w (w.alloc (.cells (p.row (.slice A n c)).toArray 25))) := Below_new _ _
  clear hA hc hcm hwf hin lo hi
  go_enter Try.func7, Try.ntmps7
  go_upto_region 1 with fail
  generalize World.alloc w _ = w0 at HP0 HB0 ⊢
  go_upto_region 2 with fail
  refine Calls.mono (begun15 _) ?_
  rintro e w1 ⟨rfl, hb1⟩
  have HP1 := hide (HP0.out.belowN hb1)
  have HB1 := hide (Below_step HB0.out hb1)
  clear hb1 HP0 HB0
  go_wp2_with (refine wpP_load rfl (.tmp 2) rfl w.heap.size rfl p (.slice A n c) HP1.out ?_)
  refine Calls.mono (law_Cut p HC.out) ?_
  rintro e w2 ⟨rfl, hb2⟩
  have HP2 := hide (HP1.out.belowN hb2)
  have HB2 := hide (Below_step HB1.out hb2)
  have hrow : Hid ((p.row (.slice A n c)).length = 9) := rfl
  clear hb2 HP1 HB1
  obtain ⟨q, hq⟩ : ∃ q, q = p.cut 40 := ⟨_, rfl⟩
  have HPR : Hid (q.press = p.press.take 40) := by show _ = _; rw [hq]
  rw [← hq] at HWF ⊢
  clear hq
  go_upto_region 5 with (refine wpP_put rfl (.tmp 2) (.tmp 15) rfl w.heap.size rfl q A (min 40 n) c rfl HP2.out hrow.out ?_; intro w3 ha3 hk3 hs3)
  have HP3 := hide ha3
  have HB3 := hide (HB2.out.trans (hk3.below HB2.out.size (fun k hk => by omega)))
  have HL3 : Hid (LiesB w3 w.heap.size A (min 40 n) q.press) := by show LiesB _ _ _ _ _; rw [HPR.out]; exact (HA.out.below HB3.out).take 40
  clear ha3 hk3 hs3 HP2 HB2
  go_wp2_with (refine wpP_load rfl (.tmp 2) rfl w.heap.size rfl q (.slice A (min 40 n) c) HP3.out ?_)
  refine Calls.mono (ref_Packet q HL3.out HB3.out.size (by omega) HWF.out) ?_
  rintro e w4 ⟨A4, n4, c4, rfl, own4, hb4⟩
  have HB4 := hide (Below_step HB3.out hb4)
  obtain ⟨b, hb⟩ : ∃ b, b = q.enc := ⟨_, rfl⟩
  rw [← hb] at own4
  have O4 := hide own4
  have HBE := hide hb
  have HN4 := hide own4.len
  have hn100 : n4 ≤ 100 := by have := Pkt.enc_short q; have := own4.len; rw [hb] at this; omega
  have HZ4 : Hid (w.heap.size ≤ w3.heap.size) := HB3.out.size
  clear own4 hb4 HP3 HB3 HL3 hb
  by_cases h0 : d = 0
  · subst h0
    go_wp2_with fail
    go_ret
    exact ⟨rfl, HB4.out⟩
  have d0 : ((d.toNat : Int) == 0) = false := by
    rw [beq_eq_false_iff_ne]
    intro h
    exact h0 (UInt8.toNat_inj.1 (by show d.toNat = 0; omega))
  have HD := hide h0
  clear h0
  go_wp2_with fail
  go_loopg [7] n4 (fun g s wr => ∃ i : Nat, i ≤ n4 ∧ g = n4 - i ∧ s = .int .i64 i ∧ Hid (OwnB wr w3.heap.size A4 n4 c4 b) ∧ Hid (Below w.heap.size w wr))
  case atStart => exact ⟨0, by omega, rfl, rfl, O4, HB4⟩
  case round =>
    obtain ⟨i, hi, rfl, rfl, HO, HB⟩ := hrel
    by_cases hlt : i < n4
    · have hnil := hide (OwnB.nil wr wr.heap.size)
      go_upto_region 12 with (at_builtin; refine wpB_append3 rfl (.const (.slice none 0 0)) (.tmp 26) rfl wr.heap.size none 0 0 [] rfl hnil.out _ A4 n4 c4 b rfl HO.out.lies n4 b (by omega) (by simp) (by omega) (Nat.le_refl _) ?_; intro A5 c5 w5 own5 k5 hk5)
      have HB5 := hide (Below_step HB.out (k5.belowOwn hnil.out (Nat.le_refl _)))
      have HO5 := hide (HO.out.below (k5.belowOwn hnil.out (Nat.le_refl _)))
      obtain ⟨g5, rfl, hg5, hg5'⟩ := own5.form (by omega)
      obtain ⟨hib, hcell⟩ := own5.cell hlt
      have hfr := own5.frozen i
      obtain ⟨z, hz⟩ : ∃ z, z = b[i] := ⟨_, rfl⟩
      rw [← hz] at hcell
      have HZ := hide hz
      have hx := bits_xor8 z d
      obtain ⟨y, hy⟩ : ∃ y, y = z ^^^ d := ⟨_, rfl⟩
      rw [← hy] at hx
      have HY := hide hy
      clear hy
      have HO5b := hide own5
      have HG5 := hide hg5
      have hcap5 := own5.cap
      clear hz own5 k5 hk5 hnil hg5
      go_upto_region 13 with fail
      have O6 : Hid (OwnB (w5.setCell ⟨g5, i, none⟩ (.int .u8 (y.toNat : Int))) wr.heap.size (some ⟨g5, 0, none⟩) n4 c5 (b.set i y)) := HO5b.out.store i y
      have KK := Keeps.setCell w5 ⟨g5, i, none⟩ (.int .u8 (y.toNat : Int))
      have HO6 : Hid (OwnB (w5.setCell ⟨g5, i, none⟩ (.int .u8 (y.toNat : Int))) w3.heap.size A4 n4 c4 b) := by
        refine HO5.out.keeps KK fun k hk => ?_
        have := (HO.out.blk k hk).2
        have := HG5.out
        show ¬ k = g5
        omega
      have HB6 : Hid (Below w.heap.size w (w5.setCell ⟨g5, i, none⟩ (.int .u8 (y.toNat : Int)))) := HB5.out.trans (KK.below HB5.out.size fun k hk => by have := HG5.out; have := HB.out.size; show ¬ k = g5; omega)
      generalize World.setCell w5 _ _ = w6 at O6 HO6 HB6 ⊢
      have HNO : Hid (∀ q', ¬ Pkt.Is (b.set i y) q') := by
        show ∀ q', _
        intro q'
        have hm : q.may = true := by
          cases hm : q.may
          · have := Pkt.enc_nil_iff.2 hm
            rw [← HBE.out] at this
            rw [this] at hib; simp at hib
          · rfl
        have := Pkt.enc_is hm HWF.out
        rw [← HBE.out] at this
        have := Pkt.spoilt this i hib d HD.out q'
        rwa [← HZ.out, ← HY.out] at this
      clear hcell hfr hx HO5 HO5b KK HB5
      go_wp2_with fail
      refine Calls.mono (packet_Decode_no HNO.out O6.out.lies (Nat.le_refl _) hcap5 (by omega)) ?_
      rintro e w7 ⟨rfl, hb7⟩
      have HO7 := hide (HO6.out.below hb7)
      have HB7 := hide (Below_step HB6.out hb7)
      clear hb7 O6 HO6 HB6
      go_upto_region 14 with fail
      generalize hw8 : World.alloc w7 _ = w8
      have hb8 : Below w7.heap.size w7 w8 := by rw [← hw8]; exact Below_new w7 _
      have HO8 := hide (HO7.out.below hb8)
      have HB8 := hide (Below_step HB7.out hb8)
      clear hb8 hw8 HO7 HB7
      go_wp2_with fail
      go_roundg (n4 - (i + 1))
      case measure => omega
      case rel => exact ⟨i + 1, by omega, rfl, by go_num, HO8, HB8⟩
    · obtain rfl : i = n4 := by omega
      go_wp2_with fail
      go_ret
      exact ⟨rfl, HB.out⟩
end Go.Proofs.Ytcjcmjkpfijhdaa
