/-
  PacketShort: the walk.
-/
import Derived.Test.YtcjcmjkpfijhdaaLaw15
import Derived.Test.YtcjcmjkpfijhdaaOpenP
namespace Go.Proofs.Ytcjcmjkpfijhdaa
open Go.RowKit
set_option linter.unusedVariables false
set_option maxHeartbeats 1000000 in
set_option maxRecDepth 10000 in
theorem law_PacketShort (p : Pkt) (A : Option Addr) (n c : Nat) (A2 : Option Addr) (n2 c2 : Nat) (l : List UInt8) (w : World) (hA : LiesB w w.heap.size A n p.press) (hc : n ≤ c) (hcm : c ≤ maxLen) (hwf : p.WF) (hin : p.Ints)
    (hA2 : LiesB w w.heap.size A2 n2 l) (hc2 : n2 ≤ c2) (hcm2 : c2 ≤ maxLen) :
    Calls Try.prog 6 #[p.val (.slice A n c), .slice A2 n2 c2] w fun e w' => e = .returned (.bool true) ∧ Below w.heap.size w w' := by
  have hn : n2 ≤ 9223372036854775807 := by simp only [maxLen] at *; omega
  have HA := hide hA2
  have HW := hide hwf
  have HC2 := hide hc2
  clear hA hc hcm hin hA2 hcm2 hwf hc2
  obtain ⟨m, hm⟩ : ∃ m, m = min 40 n2 := ⟨_, rfl⟩
  obtain ⟨q, hq⟩ : ∃ q : Pkt, q = { p with press := l.take 40 } := ⟨_, rfl⟩
  have HQ : Hid (∀ v, p.row v = [.int .i64 q.kind, .int .i64 q.src, .int .i64 q.dst, .int .i64 q.id, .int .i64 q.first, v, .int .i64 q.ack, .int .i64 q.frame, .int .u32 q.sum]) := by show ∀ v, _; rw [hq]; intro v; rfl
  have HPR : Hid (q.press = l.take 40) := by show _ = _; rw [hq]
  have HWF : Hid q.WF := by show q.WF; rw [hq]; exact HW.out
  have HM := hide hm
  have hm40 : m ≤ 40 := by omega
  have hlq : (q.enc.length : Int) ≤ 100 := by have := Pkt.enc_short q; omega
  have HV : Hid (p.val (.slice A n c) = .agg #[.int .i64 q.kind, .int .i64 q.src, .int .i64 q.dst, .int .i64 q.id, .int .i64 q.first, .slice A n c, .int .i64 q.ack, .int .i64 q.frame, .int .u32 q.sum]) := by show _ = _; rw [hq]
  rw [HV.out]
  clear hq hm
  go_enter Try.func6, Try.ntmps6
  go_upto_region 2 with fail
  generalize hw0 : World.alloc w _ = w0
  have HP0 : Hid (Arr 25 w0 w.heap.size (q.row (.slice A n c))) := by show Arr _ _ _ _; rw [← hw0]; exact Arr.new 25 w _ _ rfl
  have HB0 : Hid (Below w.heap.size w w0) := by show Below _ _ _; rw [← hw0]; exact Below_new w _
  clear hw0
  refine Calls.mono (begun15 _) ?_
  rintro e w1 ⟨rfl, hb1⟩
  have HP1 := hide (HP0.out.belowN hb1)
  have HB1 := hide (Below_step HB0.out hb1)
  clear hb1
  have f5 := HP1.out.frozen 5
  have c5 := HP1.out.cell (j := 5) (by simp)
  simp only [List.getElem_cons_zero, List.getElem_cons_succ] at c5
  have hlt := HP1.out.lt
  have HTT : Hid (w.heap.size < w1.heap.size) := hlt
  go_upto_if 11 with fail
  go_cut [1] (fun s wx => s = .slice A2 m c2 ∧ w1 = wx)
  case first =>
    by_cases h : 40 < n2
    · have d1 : decide (40 < (n2 : Int)) = true := by simp; omega
      have hcc : 40 ≤ c2 := by have := HC2.out; omega
      obtain rfl : m = 40 := by have := HM.out; omega
      go_wp2_with fail
      go_meet
      exact ⟨rfl, rfl⟩
    · have d1 : decide (40 < (n2 : Int)) = false := by simp; omega
      obtain rfl : m = n2 := by have := HM.out; omega
      go_wp2_with fail
      go_meet
      exact ⟨rfl, rfl⟩
  case rest =>
  obtain ⟨rfl, rfl⟩ := hcut
  go_upto_region 7 with fail
  have HP2 := hide (HP1.out.set 5 (.slice A2 m c2))
  have HB2 := hide (HB1.out.trans ((Keeps.setCell w1 ⟨w.heap.size, 5, none⟩ (.slice A2 m c2)).below HB1.out.size (fun k hk => by show ¬ k = w.heap.size; omega)))
  simp only [List.set_cons_succ, List.set_cons_zero] at HP2
  generalize World.setCell w1 _ _ = w2 at HP2 HB2 ⊢
  have HL2 : Hid (LiesB w2 w.heap.size A2 m q.press) := by
    show LiesB _ _ _ _ _
    have := (HA.out.below HB2.out).take 40
    rw [HPR.out, HM.out]
    exact this
  clear f5 c5 hlt HTT HP1 HB1
  go_wp2_with (refine wpP_load rfl (.tmp 2) rfl w.heap.size rfl q (.slice A2 m c2) HP2.out ?_)
  refine Calls.mono (packet_Encode q HL2.out HB2.out.size (by omega) HWF.out) ?_
  rintro e w3 ⟨A3, n3, c3, rfl, own3, hb3, -⟩
  have d5 : decide ((n3 : Int) ≤ 100) = true := by have := own3.len; simp; omega
  have HB3 := hide (Below_step HB2.out hb3)
  clear own3 hb3
  go_wp2_with fail
  go_ret
  exact ⟨rfl, HB3.out⟩
end Go.Proofs.Ytcjcmjkpfijhdaa
