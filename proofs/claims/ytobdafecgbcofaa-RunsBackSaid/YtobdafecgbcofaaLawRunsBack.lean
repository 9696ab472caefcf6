/-
  RunsBack: the walk.
-/
import Derived.Test.YtobdafecgbcofaaLaw14
import Derived.Deep.DeepCutAuto
namespace Go.Proofs.Ytobdafecgbcofaa
open Go.RowKit
set_option linter.unusedVariables false
set_option maxHeartbeats 2000000 in
set_option maxRecDepth 10000 in
theorem law_RunsBack (A : Option Addr) (n c : Nat) (b : List UInt8) (most : Int) (w : World) (hA : LiesB w w.heap.size A n b) (hc : n ≤ c) (_ : c ≤ maxLen)
    (lo : -9223372036854775808 ≤ most) (hi : most ≤ 9223372036854775807) :
    Calls Try.prog 3 #[.slice A n c, .int .i64 most] w fun e w' => e = .returned (.bool true) ∧ Below w.heap.size w w' := by
  obtain ⟨m, hm⟩ : ∃ m, m = min 200 n := ⟨_, rfl⟩
  obtain ⟨b', hb'⟩ : ∃ l, l = b.take 200 := ⟨_, rfl⟩
  have hl1 : m ≤ 200 := by omega
  have hb0 := hA.take 200
  rw [← hm, ← hb'] at hb0
  have Hm := hide hm
  have Hlen := hide hb0.len
  clear hA hb' hm
  go_enter Try.func3, Try.ntmps3
  go_wp2_with fail
  refine Calls.mono (begun14 _) ?_
  rintro e w1 ⟨rfl, hb1⟩
  have L1 := hide (hb0.below hb1)
  have hs1 := hb1.size
  have HB1 := hide hb1
  clear hb0 hb1
  go_wp2_with fail
  refine Calls.mono (law_Short _ _ _ _ 200 _ hc (by omega) (by omega)) ?_
  rintro e w2 ⟨rfl, rfl⟩
  rw [← Hm.out]
  go_wp2_with fail
  refine Calls.mono (runs_Encode _ _ _ _ _ _ L1.out hs1 (by omega)) ?_
  rintro e w2 ⟨A2, n2, c2, rfl, own2, hb2⟩
  have hn2 := Runs.enc_len 200 0 b' (by rw [Hlen.out]; omega) (by rw [Hlen.out]; omega)
  rw [own2.len, Hlen.out] at hn2
  have hc2 := own2.cap
  have L2 := hide (L1.out.below (hb2.mono hs1))
  have HB2 := hide (Below_step HB1.out hb2)
  have Own2 := hide own2
  have hs2 := HB2.out.size
  clear own2 hb2
  go_upto_region 6 with fail
  go_cut [21] (fun s wx => s = .bool false ∧ LiesB wx w.heap.size A m b' ∧ OwnB wx w1.heap.size A2 n2 c2 (Runs.enc 0 b') ∧ Below w.heap.size w wx)
  case first =>
    have HB := HB2.out.drew
    have L0 := Own2.out.lies.drew
    have LO := Own2.out.drew
    have LL := L2.out.drew
    go_region_with (first
      | (go_at_call 11; (refine Calls.mono (ref_Runs _ _ _ _ _ _ LL hs2 (by omega)) ?_); rintro e w4 ⟨A4, n4, c4, rfl, own4, hb4⟩; have L4 := own4.lies; have L0 := L0.below hb4; have HB := Below_step HB hb4; have LO := LO.below hb4; have LL := LL.below (hb4.mono hs2))
      | (rw [run_stringB L4]) | (rw [run_stringB L0]))
    all_goals
      go_wp2_with fail
      go_meet
      exact ⟨by simp, LL, LO, HB⟩
  case rest =>
    obtain ⟨rfl, LL, LO, HB⟩ := hcut
    have HLL := hide LL
    have HLO := hide LO
    have HHB := hide HB
    have hs3 := HB.size
    clear LL LO HB
    obtain ⟨M, hM⟩ : ∃ M : Nat, max most 0 = (M : Int) := ⟨(max most 0).toNat, by omega⟩
    have hR := Runs.dec_enc0 M b' (by rw [Hlen.out]; omega)
    rw [Hlen.out] at hR
    by_cases hcase : m ≤ M
    · rw [if_pos hcase] at hR
      have HR := hide hR
      have HM := hide hM
      have d1 : ¬ max 0 most < (m : Int) := by omega
      clear hR hM
      go_wp2_with fail
      refine Calls.mono (runs_Decode_v M HLO.out.lies hc2 (Nat.le_refl _) (by omega) lo hi HM.out HR.out (.inr ⟨rfl, by rw [Hlen.out]; omega⟩)) ?_
      rintro e w3 ⟨A3, n3, c3, rfl, own3, hb3⟩
      have LL := HLL.out.below (hb3.mono hs3)
      have HB := hide (Below_step HHB.out hb3)
      clear hb3
      go_wp2_with fail
      rw [run_stringB own3.lies]
      go_wp2_with fail
      rw [run_stringB LL]
      go_wp2_with fail
      go_ret
      exact ⟨by simp, HB.out⟩
    · rw [if_neg hcase] at hR
      have HR := hide hR
      have HM := hide hM
      have d1 : max 0 most < (m : Int) := by omega
      clear hR
      go_wp2_with fail
      refine Calls.mono (runs_Decode_v M HLO.out.lies hc2 (Nat.le_refl _) (by omega) lo hi HM.out HR.out (.inl (by omega))) ?_
      rintro e w3 ⟨A3, n3, c3, rfl, own3, hb3⟩
      have hn3 : n3 = 0 := own3.len.symm
      subst hn3
      have HB := hide (Below_step HHB.out hb3)
      clear hb3 own3
      go_wp2_with fail
      go_ret
      exact ⟨rfl, HB.out⟩
end Go.Proofs.Ytobdafecgbcofaa
