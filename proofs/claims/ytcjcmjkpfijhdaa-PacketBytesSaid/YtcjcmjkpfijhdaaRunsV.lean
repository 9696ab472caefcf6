/-
  runs.Decode, its answer handed over.
-/
import Derived.Test.YtcjcmjkpfijhdaaRunsLaws
import Derived.Test.YtcjcmjkpfijhdaaRunsDecW
namespace Go.Proofs.Ytcjcmjkpfijhdaa
open Go.RowKit
set_option linter.unusedVariables false
/-- Decode, its answer handed over. -/
theorem runs_Decode_v {A : Option Addr} {n c B : Nat} {l x : List UInt8} {most e : Int} (M : Nat) {w : World} (hA : LiesB w B A n l) (hnc : n ≤ c) (hB : B ≤ w.heap.size) (hn : n ≤ 1000000)
    (lo : -9223372036854775808 ≤ most) (hi : most ≤ 9223372036854775807) (hM : max most 0 = (M : Int)) (hR : Runs.dec M true 0 [] l = (x, e)) (room : M ≤ 1000000 ∨ (e = 0 ∧ x.length ≤ 1000000)) :
    Calls Try.prog 33 #[.slice A n c, .int .i64 most] w fun en w' => ∃ A' n' c', en = .returned (.tuple #[.slice A' n' c', .int .i64 e]) ∧ OwnB w' w.heap.size A' n' c' x ∧ Below w.heap.size w w' := 
  runs_Decode A n c B l most M w hA hnc hB hn lo hi hM (x, e) hR room

end Go.Proofs.Ytcjcmjkpfijhdaa
