/-
  PacketEnds: the walk.
-/
import Derived.Test.YtcjcmjkpfijhdaaLaw15
namespace Go.Proofs.Ytcjcmjkpfijhdaa
open Go.RowKit
set_option linter.unusedVariables false
set_option maxHeartbeats 1000000 in
set_option maxRecDepth 10000 in
theorem law_PacketEnds (kind src dst id first n ack frame : Int) (w : World) (lo0 : -9223372036854775808 ≤ kind) (hi0 : kind ≤ 9223372036854775807) (lo1 : -9223372036854775808 ≤ src) (hi1 : src ≤ 9223372036854775807)
    (lo2 : -9223372036854775808 ≤ dst) (hi2 : dst ≤ 9223372036854775807) (lo3 : -9223372036854775808 ≤ id) (hi3 : id ≤ 9223372036854775807) (lo4 : -9223372036854775808 ≤ first) (hi4 : first ≤ 9223372036854775807)
    (lo5 : -9223372036854775808 ≤ n) (hi5 : n ≤ 9223372036854775807) (lo6 : -9223372036854775808 ≤ ack) (hi6 : ack ≤ 9223372036854775807) (lo7 : -9223372036854775808 ≤ frame) (hi7 : frame ≤ 9223372036854775807) :
    Calls Try.prog 5 #[.int .i64 kind, .int .i64 src, .int .i64 dst, .int .i64 id, .int .i64 first, .int .i64 n, .int .i64 ack, .int .i64 frame] w fun e w' => e = .returned (.bool true) ∧ Below w.heap.size w w' := by
  clear lo0 hi0 lo1 hi1 lo2 hi2 lo3 hi3 lo4 hi4 lo6 hi6 lo7 hi7
  by_cases h1 : n < 0
  · have d1 : decide (n < 0) = true := by simp; omega
    clear h1
    go_enter Try.func5, Try.ntmps5
    go_wp2_with ((with_reducible refine Calls.mono (begun15 _) ?_); rintro e w1 ⟨rfl, hb1⟩)
    go_ret
    exact ⟨rfl, hb1⟩
  have d1 : decide (n < 0) = false := by simp; omega
  by_cases h2 : 40 < n
  · have d2 : decide (40 < n) = true := by simp; omega
    clear h2
    go_enter Try.func5, Try.ntmps5
    go_wp2_with ((with_reducible refine Calls.mono (begun15 _) ?_); rintro e w1 ⟨rfl, hb1⟩)
    go_ret
    exact ⟨rfl, hb1⟩
  have d2 : decide (40 < n) = false := by simp; omega
  obtain ⟨k, rfl⟩ : ∃ k : Nat, n = (k : Int) := ⟨n.toNat, by omega⟩
  have hk : k ≤ 40 := by omega
  obtain ⟨p, hp⟩ : ∃ p : Pkt, p = ⟨kind, src, dst, id, first, List.replicate k 0, ack, frame, 0⟩ := ⟨_, rfl⟩
  have HWF : Hid p.WF := by show p.WF; rw [hp]; exact ⟨by show (0 : Int) ≤ 0; decide, by show (0 : Int) < 4294967296; decide⟩
  have HPR : Hid (p.press = List.replicate k 0) := by show _ = _; rw [hp]
  have HR : Hid (∀ v, p.row v = [.int .i64 kind, .int .i64 src, .int .i64 dst, .int .i64 id, .int .i64 first, v, .int .i64 ack, .int .i64 frame, .int .u32 0]) := by show ∀ v, _; intro v; rw [hp]
  clear h1 h2 hp lo5 hi5
  obtain ⟨r, hr⟩ : ∃ r, r = p.may := ⟨_, rfl⟩
  have HM := hide hr
  clear hr
  go_enter Try.func5, Try.ntmps5
  go_upto_region 6 with ((with_reducible refine Calls.mono (begun15 _) ?_); rintro e w1 ⟨rfl, hb1⟩)
  have HB1 := hide hb1
  clear hb1
  go_upto_region 7 with (refine wpB_make rfl (.tmp 34) (.tmp 34) rfl w1.heap.size k k k rfl rfl rfl rfl (by omega) (Nat.le_refl _) ?_; intro g w2 own2 hb2 _)
  have HB2 := hide (Below_step HB1.out hb2)
  have O2 := hide own2
  clear own2 hb2
  generalize hw3 : World.alloc w2 _ = w3
  have HP3 : Hid (Arr 25 w3 w2.heap.size (p.row (.slice (some ⟨g, 0, none⟩) k k))) := by show Arr _ _ _ _; rw [← hw3, HR.out]; exact Arr.new 25 w2 _ _ rfl
  have hb3 : Below w2.heap.size w2 w3 := by rw [← hw3]; exact Below_new w2 _
  have HB3 := hide (Below_step HB2.out hb3)
  have O3 := hide (O2.out.below hb3)
  clear hw3 hb3
  have HLK : Hid (p.press.length = k) := by show _ = _; rw [HPR.out]; simp
  go_wp2_with (refine wpP_load rfl (.tmp 18) rfl w2.heap.size rfl p (.slice (some ⟨g, 0, none⟩) k k) HP3.out ?_)
  refine Calls.mono (ref_MayPacket p HLK.out (by omega) HM.out) ?_
  rintro e w4 ⟨rfl, hb4⟩
  have HB4 := hide (Below_step HB3.out hb4)
  have O4 := hide (O3.out.below hb4)
  have HP4 := hide (HP3.out.belowN hb4)
  clear hb4
  go_wp2_with (refine wpP_load rfl (.tmp 18) rfl w2.heap.size rfl p (.slice (some ⟨g, 0, none⟩) k k) HP4.out ?_)
  refine Calls.mono (packet_May p HLK.out (by omega) HM.out) ?_
  rintro e w5 ⟨rfl, hb5⟩
  have HB5 := hide (Below_step HB4.out hb5)
  have O5 := hide (O4.out.below hb5)
  have HP5 := hide (HP4.out.belowN hb5)
  clear hb5
  cases r
  · go_wp2_with (refine wpPG_load rfl (.tmp 18) rfl w2.heap.size rfl p (.slice (some ⟨g, 0, none⟩) k k) HP5.out ?_)
    refine Calls.mono (packet_Encode p (by rw [HPR.out]; exact O5.out.lies) (Nat.le_refl _) (by omega) HWF.out) ?_
    rintro e w6 ⟨A6, n6, c6, rfl, own6, hb6, hnil⟩
    obtain ⟨rfl, rfl, rfl⟩ := hnil HM.out.symm
    have HB6 := hide (Below_step HB5.out hb6)
    clear own6 hb6 hnil
    go_wp2_with fail
    go_ret
    exact ⟨rfl, HB6.out⟩
  · go_wp2_with (refine wpPG_load rfl (.tmp 18) rfl w2.heap.size rfl p (.slice (some ⟨g, 0, none⟩) k k) HP5.out ?_)
    refine Calls.mono (packet_Encode p (by rw [HPR.out]; exact O5.out.lies) (Nat.le_refl _) (by omega) HWF.out) ?_
    rintro e w6 ⟨A6, n6, c6, rfl, own6, hb6, hnil⟩
    have hpos : 0 < n6 := by
      rcases Nat.eq_zero_or_pos n6 with h | h
      · have := own6.len; rw [h] at this
        have := Pkt.enc_nil_iff.1 (List.eq_nil_of_length_eq_zero this)
        rw [← HM.out] at this; cases this
      · exact h
    have d6 : decide ((0 : Int) < (n6 : Int)) = true := by simp; omega
    have d7 : decide (0 < n6) = true := by simp; omega
    have HB6 := hide (Below_step HB5.out hb6)
    clear own6 hb6 hnil
    go_wp2_with fail
    go_ret
    exact ⟨rfl, HB6.out⟩
end Go.Proofs.Ytcjcmjkpfijhdaa
