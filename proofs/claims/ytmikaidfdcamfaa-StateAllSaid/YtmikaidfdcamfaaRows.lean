/-
  No cell of these rows narrows 'for every input' (looked for: loops, veiled, ifaces, maps, wideKeys, modest, calm, conditions, laid).
  DERIVED. THE GIVEN ROWS OF THIS SEAT. 4 by the template 'for every input the law returns true; each argument reads behind the call as it read before'; 0 by the template 'total and deterministic' (their statements: YtmikaidfdcamfaaTotals.lean).
  GIVEN WITH THE SEED: the statements are not yours to turn. If you find one false, say at which input.
  Laid BY PROGRAM, IN A SANDBOX (cutbox-rows.mjs): the forced cells as the released guide's own fill.sh prints them over the translation 615c50ca5dc957cc… (all of the seat's roots in one cut). By AI agents, Wed Nov 11 2026. No macro, syntax, notation, axiom, sorry.
-/
import Derived.Test.YtmikaidfdcamfaaChecked
import GoSem.Claim
import GoSem.ClaimJoined
import GoSem.ClaimMapViews
import Derived.JoinedTies
import Derived.KernelRfl
namespace Go.Proofs.Ytmikaidfdcamfaa
/- THE CELL 'sum', in the pinned program and in every row, IS THE sha256 OF THE DUMP (.gsa) THAT YtmikaidfdcamfaaProg.lean LOADS. Nothing in Lean hashes anything: it is a label: what it is worth is what the hold of that sum in a sandbox is worth. -/
noncomputable def Try.pinned : Pinned := { name := "ytmikaidfdcamfaa", sum := "615c50ca5dc957ccd046ca6565480b20947f2b3890d36badd24b946bd229bd7b", checked := Try.checked }
namespace Rows
def none {H : Type} : Left H := { results := [], args := [] }

/-- 'quintainlaw8.StateBytes': WHATEVER THE INPUT: true; the input reads as it did. -/
def stateBytesSpec : ChangeSpec := { name := "stateBytes", fn := fun _ => fun
  | [d] => { results := [.lit (.bool true)], args := [d] }
  | _ => none }
def stateBytesRow : OpenClaim := { program := "ytmikaidfdcamfaa", sum := "615c50ca5dc957ccd046ca6565480b20947f2b3890d36badd24b946bd229bd7b", func := "quintain/quintainlaw8.StateBytes", spec := "stateBytes", apart := false }
def StateBytesSaid : Prop := stateBytesRow.holds Try.pinned (OpenSpec.ofChange stateBytesSpec)

/-- ITS FALSE NEIGHBOUR: 'it returns false'. Refute it at one input. -/
def stateBytesWrong : ChangeSpec := { name := "stateBytes", fn := fun _ => fun
  | [d] => { results := [.lit (.bool false)], args := [d] }
  | _ => none }
def StateBytesWrongFalsely : Prop := stateBytesRow.holds Try.pinned (OpenSpec.ofChange stateBytesWrong)

/-- 'quintainlaw8.StatePages': WHATEVER THE INPUT: true; the input reads as it did. -/
def statePagesSpec : ChangeSpec := { name := "statePages", fn := fun _ => fun
  | [d] => { results := [.lit (.bool true)], args := [d] }
  | _ => none }
def statePagesRow : OpenClaim := { program := "ytmikaidfdcamfaa", sum := "615c50ca5dc957ccd046ca6565480b20947f2b3890d36badd24b946bd229bd7b", func := "quintain/quintainlaw8.StatePages", spec := "statePages", apart := false }
def StatePagesSaid : Prop := statePagesRow.holds Try.pinned (OpenSpec.ofChange statePagesSpec)

/-- ITS FALSE NEIGHBOUR: 'it returns false'. Refute it at one input. -/
def statePagesWrong : ChangeSpec := { name := "statePages", fn := fun _ => fun
  | [d] => { results := [.lit (.bool false)], args := [d] }
  | _ => none }
def StatePagesWrongFalsely : Prop := statePagesRow.holds Try.pinned (OpenSpec.ofChange statePagesWrong)

/-- 'quintainlaw8.StateAll': WHATEVER THE INPUT: true; the input reads as it did. -/
def stateAllSpec : ChangeSpec := { name := "stateAll", fn := fun _ => fun
  | [d1, d2, d3] => { results := [.lit (.bool true)], args := [d1, d2, d3] }
  | _ => none }
def stateAllRow : OpenClaim := { program := "ytmikaidfdcamfaa", sum := "615c50ca5dc957ccd046ca6565480b20947f2b3890d36badd24b946bd229bd7b", func := "quintain/quintainlaw8.StateAll", spec := "stateAll", apart := false }
def StateAllSaid : Prop := stateAllRow.holds Try.pinned (OpenSpec.ofChange stateAllSpec)

/-- ITS FALSE NEIGHBOUR: 'it returns false'. Refute it at one input. -/
def stateAllWrong : ChangeSpec := { name := "stateAll", fn := fun _ => fun
  | [d1, d2, d3] => { results := [.lit (.bool false)], args := [d1, d2, d3] }
  | _ => none }
def StateAllWrongFalsely : Prop := stateAllRow.holds Try.pinned (OpenSpec.ofChange stateAllWrong)

/-- 'quintainlaw8.StateTwins': WHATEVER THE INPUT: true; the input reads as it did. -/
def stateTwinsSpec : ChangeSpec := { name := "stateTwins", fn := fun _ => fun
  | [d1, d2, d3] => { results := [.lit (.bool true)], args := [d1, d2, d3] }
  | _ => none }
def stateTwinsRow : OpenClaim := { program := "ytmikaidfdcamfaa", sum := "615c50ca5dc957ccd046ca6565480b20947f2b3890d36badd24b946bd229bd7b", func := "quintain/quintainlaw8.StateTwins", spec := "stateTwins", apart := false }
def StateTwinsSaid : Prop := stateTwinsRow.holds Try.pinned (OpenSpec.ofChange stateTwinsSpec)

/-- ITS FALSE NEIGHBOUR: 'it returns false'. Refute it at one input. -/
def stateTwinsWrong : ChangeSpec := { name := "stateTwins", fn := fun _ => fun
  | [d1, d2, d3] => { results := [.lit (.bool false)], args := [d1, d2, d3] }
  | _ => none }
def StateTwinsWrongFalsely : Prop := stateTwinsRow.holds Try.pinned (OpenSpec.ofChange stateTwinsWrong)

/- THE SECOND FORM. 'bulk': how many values and letters a reading holds, each counted each time it is reached (what is shared counts as often as it is met; a slice's spare places count too). A statement '..UptoSaid' is the law's where the arguments, and the package variables that the reading takes, are together of bulk at most 1048576: NARROWER than '..Said'. Prove '..Said' where nothing that the law and all that it calls make is longer than what came in: it says more and counts as full. Else prove '..UptoSaid'. A law counts once. -/
mutual
def uptoBulk {H : Type} : DataW H → Nat
  | .lit (.string bytes) => bytes.length + 1
  | .lit _ => 1
  | .nil => 1
  | .ptr d => uptoBulk d + 1
  | .slice elems spare => uptoBulkAll elems + uptoBulkAll spare + 1
  | .agg parts => uptoBulkAll parts + 1
  | .iface _ d => uptoBulk d + 1
  | .map entries => uptoBulkEntries entries + 1
  | .held _ => 1
def uptoBulkAll {H : Type} : List (DataW H) → Nat
  | [] => 0
  | d :: r => uptoBulk d + uptoBulkAll r
def uptoBulkEntries {H : Type} : List (Lit × DataW H) → Nat
  | [] => 0
  | x :: r => uptoBulkEntry x + uptoBulkEntries r
def uptoBulkEntry {H : Type} : Lit × DataW H → Nat
  | (.string bytes, d) => bytes.length + uptoBulk d + 1
  | (_, d) => uptoBulk d + 1
 end
def uptoSmall : (H : Type) → List (DataW H) → Bool := fun _ ds => decide (uptoBulkAll ds ≤ 1048576)
def OpenSpec.upto (s : _root_.Go.ChangeSpec) : _root_.Go.OpenSpec := { _root_.Go.OpenSpec.ofChange s with cond := some uptoSmall }

/-- 'quintainlaw8.StateBytes', WHERE WHAT IT READS IS OF BULK AT MOST 1048576: true; the input reads as it did. -/
def stateBytesUptoRow : OpenClaim := { program := "ytmikaidfdcamfaa", sum := "615c50ca5dc957ccd046ca6565480b20947f2b3890d36badd24b946bd229bd7b", func := "quintain/quintainlaw8.StateBytes", spec := "stateBytes", apart := false, narrowed := true }
def StateBytesUptoSaid : Prop := stateBytesUptoRow.holds Try.pinned (OpenSpec.upto stateBytesSpec)

/-- 'quintainlaw8.StatePages', WHERE WHAT IT READS IS OF BULK AT MOST 1048576: true; the input reads as it did. -/
def statePagesUptoRow : OpenClaim := { program := "ytmikaidfdcamfaa", sum := "615c50ca5dc957ccd046ca6565480b20947f2b3890d36badd24b946bd229bd7b", func := "quintain/quintainlaw8.StatePages", spec := "statePages", apart := false, narrowed := true }
def StatePagesUptoSaid : Prop := statePagesUptoRow.holds Try.pinned (OpenSpec.upto statePagesSpec)

/-- 'quintainlaw8.StateAll', WHERE WHAT IT READS IS OF BULK AT MOST 1048576: true; the input reads as it did. -/
def stateAllUptoRow : OpenClaim := { program := "ytmikaidfdcamfaa", sum := "615c50ca5dc957ccd046ca6565480b20947f2b3890d36badd24b946bd229bd7b", func := "quintain/quintainlaw8.StateAll", spec := "stateAll", apart := false, narrowed := true }
def StateAllUptoSaid : Prop := stateAllUptoRow.holds Try.pinned (OpenSpec.upto stateAllSpec)

/-- 'quintainlaw8.StateTwins', WHERE WHAT IT READS IS OF BULK AT MOST 1048576: true; the input reads as it did. -/
def stateTwinsUptoRow : OpenClaim := { program := "ytmikaidfdcamfaa", sum := "615c50ca5dc957ccd046ca6565480b20947f2b3890d36badd24b946bd229bd7b", func := "quintain/quintainlaw8.StateTwins", spec := "stateTwins", apart := false, narrowed := true }
def StateTwinsUptoSaid : Prop := stateTwinsUptoRow.holds Try.pinned (OpenSpec.upto stateTwinsSpec)

end Rows
end Go.Proofs.Ytmikaidfdcamfaa
