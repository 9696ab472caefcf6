/-
  Regions that draw their order: a narrower condition from a place on.
-/
import Derived.Test.YtciogjnchpeaaaaStr
import Derived.Deep.RegionHeld3
import Derived.Deep.DeepCutAuto
namespace Go.Proofs.Ytciogjnchpeaaaa
open Go.RowKit
set_option maxRecDepth 10000
theorem wpAnyH_mono {P : Program} {ops : Array Oper} {Q : Exit → Act → World → Prop} {md : Region.Mode} {S S' : World → Prop} (hs : ∀ w, S' w → S w) :
    ∀ (fuel : Nat) (listed : Array Bool) (a : Act) (w : World), wpAnyH P md ops Q S' fuel listed a w → wpAnyH P md ops Q S fuel listed a w
  | 0, _, _, _, h => h
  | fuel + 1, _, _, _, h => ⟨h.1, fun i hi => wpOp_mono (fun a' w' h' => ⟨hs _ h'.1, wpAnyH_mono hs fuel _ a' w' h'.2⟩) (h.2 i hi)⟩
/-- The slice '.slice A n c' is read as the string of the bytes l. -/
def Reads (A : Option Addr) (n c : Nat) (l : List UInt8) (w : World) : Prop := (convert 23 9 (.slice A n c)).run Try.prog w = .ok (.string (strOf l)) w
theorem LiesB.reads {w : World} {B : Nat} {A : Option Addr} {n c : Nat} {l : List UInt8} (h : LiesB w B A n l) : Reads A n c l w := run_stringB h
end Go.Proofs.Ytciogjnchpeaaaa
