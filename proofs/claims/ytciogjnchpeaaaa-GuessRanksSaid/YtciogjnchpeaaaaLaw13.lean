/-
  quintainlaw13.begun: three frames.
-/
import Derived.Test.YtciogjnchpeaaaaFrom
import Derived.Test.YtciogjnchpeaaaaLineV
import Derived.Test.YtciogjnchpeaaaaStr
namespace Go.Proofs.Ytciogjnchpeaaaa
open Go.RowKit
set_option maxRecDepth 10000
set_option linter.unusedVariables false

theorem line_From_v (p : Nat) (g : Option Nat) (l r : List UInt8) (f n : Int) (m : Nat) (w : World) (h : LineAt w p g l) (h1 : -9223372036854775808 ≤ f) (h2 : f ≤ 9223372036854775807) (h3 : -9223372036854775808 ≤ n) (h4 : n ≤ 9223372036854775807)
    (hr : fromLine l f n = r) (hm : r.length = m) :
    Calls Try.prog 39 #[.pointer (some ⟨p, 0, none⟩), .int .i64 f, .int .i64 n] w fun e w' =>
      ∃ A c, e = .returned (.slice A m c) ∧ OwnB w' w.heap.size A m c r ∧ Below w.heap.size w w' := by
  subst hr hm
  exact line_From p g l f n w h h1 h2 h3 h4
theorem line_All_v (p : Nat) (g : Option Nat) (l : List UInt8) (m : Nat) (w : World) (h : LineAt w p g l) (hm : l.length = m) :
    Calls Try.prog 27 #[.pointer (some ⟨p, 0, none⟩)] w fun e w' =>
      ∃ A c, e = .returned (.slice A m c) ∧ OwnB w' w.heap.size A m c l ∧ Below w.heap.size w w' := by
  subst hm
  exact line_All p g l w h
end Go.Proofs.Ytciogjnchpeaaaa
