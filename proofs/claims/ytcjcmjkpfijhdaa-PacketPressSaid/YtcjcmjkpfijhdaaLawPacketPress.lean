/-
  PacketPress: the walk.
-/
import Derived.Test.YtcjcmjkpfijhdaaLaw15
namespace Go.Proofs.Ytcjcmjkpfijhdaa
open Go.RowKit
set_option linter.unusedVariables false
theorem Pkt.no_nil (p : Pkt) : ¬ Pkt.Is [] p := fun h => by have := (Pkt.is_head h).1; simp at this
set_option maxHeartbeats 1000000 in
set_option maxRecDepth 10000 in
theorem law_PacketPress (A : Option Addr) (n c : Nat) (l : List UInt8) (first : Int) (w : World) (hA : LiesB w w.heap.size A n l) (hc : n ≤ c) (hcm : c ≤ maxLen) (lo : -9223372036854775808 ≤ first) (hi : first ≤ 9223372036854775807) :
    Calls Try.prog 9 #[.slice A n c, .int .i64 first] w fun e w' => e = .returned (.bool true) ∧ Below w.heap.size w w' := by
  have hl := hA.len
  have HA := hide hA
  have hn : n ≤ 9223372036854775807 := by simp only [maxLen] at *; omega
  clear hA hcm
  by_cases h1 : n > 40
  · have d1 : decide (40 < (n : Int)) = true := by simp; omega
    clear hl h1
    go_enter Try.func9, Try.ntmps9
    go_wp2_with ((with_reducible refine Calls.mono (begun15 _) ?_); rintro e w1 ⟨rfl, hb1⟩)
    go_ret
    exact ⟨rfl, hb1⟩
  have d1 : decide (40 < (n : Int)) = false := by simp; omega
  by_cases h2 : first < 0
  · have d2 : decide (first < 0) = true := by simp; omega
    clear hl h1 h2
    go_enter Try.func9, Try.ntmps9
    go_wp2_with ((with_reducible refine Calls.mono (begun15 _) ?_); rintro e w1 ⟨rfl, hb1⟩)
    go_ret
    exact ⟨rfl, hb1⟩
  have d2 : decide (first < 0) = false := by simp; omega
  by_cases h3 : 1000 < first
  · have d3 : decide (1000 < first) = true := by simp; omega
    clear hl h1 h2 h3
    go_enter Try.func9, Try.ntmps9
    go_wp2_with ((with_reducible refine Calls.mono (begun15 _) ?_); rintro e w1 ⟨rfl, hb1⟩)
    go_ret
    exact ⟨rfl, hb1⟩
  have d3 : decide (1000 < first) = false := by simp; omega
  obtain ⟨p, hp⟩ : ∃ p : Pkt, p = ⟨1, 3, 4, 0, first, l, 0, 0, 0⟩ := ⟨_, rfl⟩
  have HP := hide hp
  have HWF : Hid p.WF := by show p.WF; rw [hp]; exact ⟨by show (0 : Int) ≤ 0; decide, by show (0 : Int) < 4294967296; decide⟩
  have HMY : Hid (n ≤ 32 → p.may = true) := fun h => by
    rw [hp]
    exact Pkt.may_iff.2 ⟨⟨by show (0 : Int) ≤ 3; decide, by show (3 : Int) ≤ 7; decide⟩, ⟨by show (0 : Int) ≤ 4; decide, by show (4 : Int) ≤ 7; decide⟩, by show (3 : Int) ≠ 4; decide, ⟨by show (0 : Int) ≤ 0; decide, by show (0 : Int) ≤ _; decide⟩, .inl ⟨rfl, ⟨by show 0 ≤ first; omega, by show first ≤ 1000; omega⟩, ⟨by show (0 : Int) ≤ 0; decide, by show (0 : Int) ≤ 1000; decide⟩, ⟨by show (0 : Int) ≤ 0; decide, by show (0 : Int) ≤ 1000; decide⟩, by show l.length ≤ 32; omega⟩⟩
  have HMN : Hid (32 < n → p.may = false) := fun h => by
    rw [← Bool.not_eq_true, hp]
    intro hm
    rcases (Pkt.may_iff.1 hm).kind with h' | h'
    · have := h'.2.2.2.2; simp only at this; omega
    · have := h'.1; simp only at this; omega
  have hrow : p.row (.slice A n c) = [.int .i64 1, .int .i64 3, .int .i64 4, .int .i64 0, .int .i64 first, .slice A n c, .int .i64 0, .int .i64 0, .int .u32 0] := by rw [hp]
  have HR := hide hrow
  have HPR : Hid (p.press = l) := by show _ = _; rw [hp]
  have HF : Hid (p.first = first) := by show _ = _; rw [hp]
  have hn40 : n ≤ 40 := by omega
  clear h1 h2 h3 hp hrow
  go_enter Try.func9, Try.ntmps9
  go_upto_region 7 with ((with_reducible refine Calls.mono (begun15 _) ?_); rintro e w1 ⟨rfl, hb1⟩)
  generalize hw2 : World.alloc w1 _ = w2
  have HP2 : Hid (Arr 25 w2 w1.heap.size (p.row (.slice A n c))) := by show Arr _ _ _ _; rw [← hw2, HR.out]; exact Arr.new 25 w1 _ _ rfl
  have hb2 : Below w1.heap.size w1 w2 := by rw [← hw2]; exact Below_new w1 _
  have HB2 := hide (Below_step hb1 hb2)
  have HA2 := hide (HA.out.below HB2.out)
  have HZ2 : Hid (w.heap.size ≤ w2.heap.size) := HB2.out.size
  clear hb1 hb2 hw2
  go_wp2_with (refine wpP_load rfl (.tmp 6) rfl w1.heap.size rfl p (.slice A n c) HP2.out ?_)
  refine Calls.mono (packet_Encode p (by rw [HPR.out]; exact HA2.out) HZ2.out (by omega) HWF.out) ?_
  rintro e w3 ⟨A3, n3, c3, rfl, own3, hb3, -⟩
  have HL3 := hide own3.len
  have HC3 := hide own3.cap
  have L3 := hide own3.lies
  have HB3 := hide (Below_step HB2.out hb3)
  have HA3 := hide (HA.out.below HB3.out)
  have h100 : n3 ≤ 100 := by have := Pkt.enc_short p; have := HL3.out; omega
  clear own3 hb3
  by_cases h32 : n ≤ 32
  · have HIS := hide (Pkt.enc_is (HMY.out h32) HWF.out)
    have d4 : decide (32 < (n : Int)) = false := by simp; omega
    clear h32
    go_wp2_with fail
    refine Calls.mono (packet_Decode_yes p HIS.out L3.out (Nat.le_refl _) HC3.out (by omega)) ?_
    rintro e w4 ⟨A4, n4, c4, rfl, l4, hc4, hn4', hb4⟩
    rw [HPR.out] at l4
    have L4 := hide l4
    have HB4 := hide (Below_step HB3.out hb4)
    clear l4 hb4
    go_upto_region 8 with fail
    generalize hw5 : World.alloc w4 _ = w5
    have HP5 : Hid (Arr 25 w5 w4.heap.size (p.row (.slice A4 n4 c4))) := by show Arr _ _ _ _; rw [← hw5]; exact Arr.new 25 w4 _ _ rfl
    have hb5 : Below w4.heap.size w4 w5 := by rw [← hw5]; exact Below_new w4 _
    have L5 := hide (L4.out.below hb5)
    have HB5 := hide (Below_step HB4.out hb5)
    have HA5 := hide (HA.out.below HB5.out)
    clear hb5 hw5
    have c4' := HP5.out.cell (j := 4) (by simp)
    have c5' := HP5.out.cell (j := 5) (by simp)
    simp only [List.getElem_cons_zero, List.getElem_cons_succ] at c4' c5'
    rw [HF.out] at c4'
    go_wp2_with fail
    rw [run_stringB L5.out]
    go_wp2_with fail
    rw [run_stringB HA5.out]
    go_wp2_with fail
    go_ret
    exact ⟨rfl, HB5.out⟩
  · have HE : Hid (p.enc = []) := Pkt.enc_nil_iff.2 (HMN.out (by omega))
    have HNO : Hid (∀ q, ¬ Pkt.Is p.enc q) := fun q => by rw [HE.out]; exact Pkt.no_nil q
    have d4 : decide (32 < (n : Int)) = true := by simp; omega
    clear h32
    go_wp2_with fail
    refine Calls.mono (packet_Decode_no HNO.out L3.out (Nat.le_refl _) HC3.out (by omega)) ?_
    rintro e w4 ⟨rfl, hb4⟩
    have HB4 := hide (Below_step HB3.out hb4)
    clear hb4
    go_wp2_with fail
    go_ret
    exact ⟨rfl, Below_step HB4.out (Below_new _ _)⟩
end Go.Proofs.Ytcjcmjkpfijhdaa
