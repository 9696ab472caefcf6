/-
  quintainlaw14.begun: two runs.
-/
import Derived.Test.YtobdafecgbcofaaRunsLaws
import Derived.Test.YtobdafecgbcofaaUnruns
import Derived.Test.YtobdafecgbcofaaRunsEnc
import Derived.Test.YtobdafecgbcofaaRunsRef
import Derived.Test.YtobdafecgbcofaaShort
import Derived.Test.YtobdafecgbcofaaStr
namespace Go.Proofs.Ytobdafecgbcofaa
open Go.RowKit
set_option linter.unusedVariables false
/-- Decode, its answer handed over. -/
theorem runs_Decode_v {A : Option Addr} {n c B : Nat} {l x : List UInt8} {most e : Int} (M : Nat) {w : World} (hA : LiesB w B A n l) (hnc : n ≤ c) (hB : B ≤ w.heap.size) (hn : n ≤ 1000000)
    (lo : -9223372036854775808 ≤ most) (hi : most ≤ 9223372036854775807) (hM : max most 0 = (M : Int)) (hR : Runs.dec M true 0 [] l = (x, e)) (room : M ≤ 1000000 ∨ (e = 0 ∧ x.length ≤ 1000000)) :
    Calls Try.prog 12 #[.slice A n c, .int .i64 most] w fun en w' => ∃ A' n' c', en = .returned (.tuple #[.slice A' n' c', .int .i64 e]) ∧ OwnB w' w.heap.size A' n' c' x ∧ Below w.heap.size w w' := 
  runs_Decode A n c B l most M w hA hnc hB hn lo hi hM (x, e) hR room

set_option maxHeartbeats 1000000 in
set_option maxRecDepth 10000 in
theorem begun14 (w : World) :
    Calls Try.prog 8 #[] w fun e w' => e = .returned (.bool true) ∧ Below w.heap.size w w' := by
  have hb0 := hide (Below_new w (.cells #[.int .u8 5, .int .u8 5, .int .u8 7] 5))
  go_enter Try.func8, Try.ntmps8
  go_wp2_with fail
  refine Calls.mono (runs_Encode _ _ _ _ [5, 5, 7] _ (LiesB.new w _ _ _ _ 3 rfl rfl) (by simp) (by omega)) ?_
  rintro e w1 ⟨A1, n1, c1, rfl, own1, hb1⟩
  rw [Runs.enc_557] at own1
  have hn1 : n1 = 4 := own1.len.symm
  subst hn1
  have HB1 := hide (Below_step hb0.out hb1)
  have O1 := hide own1
  have C1 := own1.cap
  clear own1 hb1
  have C1' : 4 ≤ c1 := C1
  clear C1
  go_wp2_with fail
  refine Calls.mono (runs_Decode_v (l := [4, 5, 2, 2]) (x := [5, 5, 7]) (e := 0) 3 O1.out.lies C1' (Nat.le_refl _) (by omega) (by omega) (by omega) (by omega) Runs.dec_b3 (.inl (by omega))) ?_
  rintro e w2 ⟨A2, n2, c2, rfl, own2, hb2⟩
  have HB2 := hide (Below_step HB1.out hb2)
  have O1 := hide (O1.out.below hb2)
  have O2 := hide own2
  clear own2 hb2
  go_wp2_with fail
  refine Calls.mono (runs_Decode_v (l := [4, 5, 2, 2]) (x := []) (e := 4) 2 O1.out.lies C1' (Nat.le_refl _) (by omega) (by omega) (by omega) (by omega) Runs.dec_b2 (.inl (by omega))) ?_
  rintro e w3 ⟨A3, n3, c3, rfl, own3, hb3⟩
  have HB3 := hide (Below_step HB2.out hb3)
  have O1 := hide (O1.out.below hb3)
  have O2 := hide (O2.out.below hb3)
  have B3 := hide (Below_new w3 (.cells #[.int .u8 2] 5))
  clear own3 hb3
  go_wp2_with fail
  refine Calls.mono (runs_Decode_v (l := [2]) (x := []) (e := 1) 9 (LiesB.new w3 _ _ _ _ 1 rfl rfl) (by omega) (by simp) (by omega) (by omega) (by omega) (by omega) Runs.dec_b9 (.inl (by omega))) ?_
  rintro e w4 ⟨A4, n4, c4, rfl, own4, hb4⟩
  have HB4 := hide (Below_step HB3.out (Below_step B3.out hb4))
  have O1 := hide ((O1.out.below B3.out).below hb4)
  have O2 := hide ((O2.out.below B3.out).below hb4)
  clear own4 hb4
  go_wp2_with fail
  rw [run_stringB O1.out.lies]
  go_wp2_with fail
  rw [run_stringB O2.out.lies]
  go_wp2_with fail
  go_ret
  exact ⟨rfl, HB4.out⟩
end Go.Proofs.Ytobdafecgbcofaa
