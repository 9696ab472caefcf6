/-
  No cell of these rows narrows 'for every input' (looked for: loops, veiled, ifaces, maps, wideKeys, modest, calm, conditions, laid).
  DERIVED. THE GIVEN ROWS OF THIS SEAT. 4 by the template 'for every input the law returns true; each argument reads behind the call as it read before'; 0 by the template 'total and deterministic' (their statements: YtbdhochdakihbaaTotals.lean).
  GIVEN WITH THE SEED: the statements are not yours to turn. If you find one false, say at which input.
  Laid BY PROGRAM, IN A SANDBOX (cutbox-rows.mjs): the forced cells as the released guide's own fill.sh prints them over the translation 783a8a87fca2c7f3… (all of the seat's roots in one cut). By AI agents, Wed Nov 11 2026. No macro, syntax, notation, axiom, sorry.
-/
import Derived.Test.YtbdhochdakihbaaChecked
import GoSem.Claim
import GoSem.ClaimJoined
import GoSem.ClaimMapViews
import Derived.JoinedTies
import Derived.KernelRfl
namespace Go.Proofs.Ytbdhochdakihbaa
/- THE CELL 'sum', in the pinned program and in every row, IS THE sha256 OF THE DUMP (.gsa) THAT YtbdhochdakihbaaProg.lean LOADS. Nothing in Lean hashes anything: it is a label: what it is worth is what the hold of that sum in a sandbox is worth. -/
noncomputable def Try.pinned : Pinned := { name := "ytbdhochdakihbaa", sum := "783a8a87fca2c7f3aecca1a0c0cbe6590abc871bea7892f23683e643523fbcc3", checked := Try.checked }
namespace Rows
def none {H : Type} : Left H := { results := [], args := [] }

/-- 'quintainlaw17.QueueNone': WHATEVER THE INPUT: true; the input reads as it did. -/
def queueNoneSpec : ChangeSpec := { name := "queueNone", fn := fun _ => fun
  | [] => { results := [.lit (.bool true)], args := [] }
  | _ => none }
def queueNoneRow : OpenClaim := { program := "ytbdhochdakihbaa", sum := "783a8a87fca2c7f3aecca1a0c0cbe6590abc871bea7892f23683e643523fbcc3", func := "quintain/quintainlaw17.QueueNone", spec := "queueNone", apart := false }
def QueueNoneSaid : Prop := queueNoneRow.holds Try.pinned (OpenSpec.ofChange queueNoneSpec)

/-- ITS FALSE NEIGHBOUR: 'it returns false'. Refute it at one input. -/
def queueNoneWrong : ChangeSpec := { name := "queueNone", fn := fun _ => fun
  | [] => { results := [.lit (.bool false)], args := [] }
  | _ => none }
def QueueNoneWrongFalsely : Prop := queueNoneRow.holds Try.pinned (OpenSpec.ofChange queueNoneWrong)

/-- 'quintainlaw17.QueueAll': WHATEVER THE INPUT: true; the input reads as it did. -/
def queueAllSpec : ChangeSpec := { name := "queueAll", fn := fun _ => fun
  | [d1, d2, d3, d4] => { results := [.lit (.bool true)], args := [d1, d2, d3, d4] }
  | _ => none }
def queueAllRow : OpenClaim := { program := "ytbdhochdakihbaa", sum := "783a8a87fca2c7f3aecca1a0c0cbe6590abc871bea7892f23683e643523fbcc3", func := "quintain/quintainlaw17.QueueAll", spec := "queueAll", apart := false }
def QueueAllSaid : Prop := queueAllRow.holds Try.pinned (OpenSpec.ofChange queueAllSpec)

/-- ITS FALSE NEIGHBOUR: 'it returns false'. Refute it at one input. -/
def queueAllWrong : ChangeSpec := { name := "queueAll", fn := fun _ => fun
  | [d1, d2, d3, d4] => { results := [.lit (.bool false)], args := [d1, d2, d3, d4] }
  | _ => none }
def QueueAllWrongFalsely : Prop := queueAllRow.holds Try.pinned (OpenSpec.ofChange queueAllWrong)

/-- 'quintainlaw17.QueueFront': WHATEVER THE INPUT: true; the input reads as it did. -/
def queueFrontSpec : ChangeSpec := { name := "queueFront", fn := fun _ => fun
  | [d1, d2] => { results := [.lit (.bool true)], args := [d1, d2] }
  | _ => none }
def queueFrontRow : OpenClaim := { program := "ytbdhochdakihbaa", sum := "783a8a87fca2c7f3aecca1a0c0cbe6590abc871bea7892f23683e643523fbcc3", func := "quintain/quintainlaw17.QueueFront", spec := "queueFront", apart := false }
def QueueFrontSaid : Prop := queueFrontRow.holds Try.pinned (OpenSpec.ofChange queueFrontSpec)

/-- ITS FALSE NEIGHBOUR: 'it returns false'. Refute it at one input. -/
def queueFrontWrong : ChangeSpec := { name := "queueFront", fn := fun _ => fun
  | [d1, d2] => { results := [.lit (.bool false)], args := [d1, d2] }
  | _ => none }
def QueueFrontWrongFalsely : Prop := queueFrontRow.holds Try.pinned (OpenSpec.ofChange queueFrontWrong)

/-- 'quintainlaw17.QueueJoint': WHATEVER THE INPUT: true; the input reads as it did. -/
def queueJointSpec : ChangeSpec := { name := "queueJoint", fn := fun _ => fun
  | [d1, d2, d3] => { results := [.lit (.bool true)], args := [d1, d2, d3] }
  | _ => none }
def queueJointRow : OpenClaim := { program := "ytbdhochdakihbaa", sum := "783a8a87fca2c7f3aecca1a0c0cbe6590abc871bea7892f23683e643523fbcc3", func := "quintain/quintainlaw17.QueueJoint", spec := "queueJoint", apart := false }
def QueueJointSaid : Prop := queueJointRow.holds Try.pinned (OpenSpec.ofChange queueJointSpec)

/-- ITS FALSE NEIGHBOUR: 'it returns false'. Refute it at one input. -/
def queueJointWrong : ChangeSpec := { name := "queueJoint", fn := fun _ => fun
  | [d1, d2, d3] => { results := [.lit (.bool false)], args := [d1, d2, d3] }
  | _ => none }
def QueueJointWrongFalsely : Prop := queueJointRow.holds Try.pinned (OpenSpec.ofChange queueJointWrong)

/- THE SECOND FORM. 'bulk': how many values and letters a reading holds, each counted each time it is reached (what is shared counts as often as it is met; a slice's spare places count too). A statement '..UptoSaid' is the law's where the arguments, and the package variables that the reading takes, are together of bulk at most 1048576: NARROWER than '..Said'. Prove '..Said' where nothing that the law and all that it calls make is longer than what came in: it says more and counts as full. Else prove '..UptoSaid'. A law counts once. -/
mutual
def uptoBulk {H : Type} : DataW H → Nat
  | .lit (.string bytes) => bytes.length + 1
  | .lit _ => 1
  | .nil => 1
  | .ptr d => uptoBulk d + 1
  | .slice elems spare => uptoBulkAll elems + uptoBulkAll spare + 1
  | .agg parts => uptoBulkAll parts + 1
  | .iface _ d => uptoBulk d + 1
  | .map entries => uptoBulkEntries entries + 1
  | .held _ => 1
def uptoBulkAll {H : Type} : List (DataW H) → Nat
  | [] => 0
  | d :: r => uptoBulk d + uptoBulkAll r
def uptoBulkEntries {H : Type} : List (Lit × DataW H) → Nat
  | [] => 0
  | x :: r => uptoBulkEntry x + uptoBulkEntries r
def uptoBulkEntry {H : Type} : Lit × DataW H → Nat
  | (.string bytes, d) => bytes.length + uptoBulk d + 1
  | (_, d) => uptoBulk d + 1
 end
def uptoSmall : (H : Type) → List (DataW H) → Bool := fun _ ds => decide (uptoBulkAll ds ≤ 1048576)
def OpenSpec.upto (s : _root_.Go.ChangeSpec) : _root_.Go.OpenSpec := { _root_.Go.OpenSpec.ofChange s with cond := some uptoSmall }

/-- 'quintainlaw17.QueueNone', WHERE WHAT IT READS IS OF BULK AT MOST 1048576: true; the input reads as it did. -/
def queueNoneUptoRow : OpenClaim := { program := "ytbdhochdakihbaa", sum := "783a8a87fca2c7f3aecca1a0c0cbe6590abc871bea7892f23683e643523fbcc3", func := "quintain/quintainlaw17.QueueNone", spec := "queueNone", apart := false, narrowed := true }
def QueueNoneUptoSaid : Prop := queueNoneUptoRow.holds Try.pinned (OpenSpec.upto queueNoneSpec)

/-- 'quintainlaw17.QueueAll', WHERE WHAT IT READS IS OF BULK AT MOST 1048576: true; the input reads as it did. -/
def queueAllUptoRow : OpenClaim := { program := "ytbdhochdakihbaa", sum := "783a8a87fca2c7f3aecca1a0c0cbe6590abc871bea7892f23683e643523fbcc3", func := "quintain/quintainlaw17.QueueAll", spec := "queueAll", apart := false, narrowed := true }
def QueueAllUptoSaid : Prop := queueAllUptoRow.holds Try.pinned (OpenSpec.upto queueAllSpec)

/-- 'quintainlaw17.QueueFront', WHERE WHAT IT READS IS OF BULK AT MOST 1048576: true; the input reads as it did. -/
def queueFrontUptoRow : OpenClaim := { program := "ytbdhochdakihbaa", sum := "783a8a87fca2c7f3aecca1a0c0cbe6590abc871bea7892f23683e643523fbcc3", func := "quintain/quintainlaw17.QueueFront", spec := "queueFront", apart := false, narrowed := true }
def QueueFrontUptoSaid : Prop := queueFrontUptoRow.holds Try.pinned (OpenSpec.upto queueFrontSpec)

/-- 'quintainlaw17.QueueJoint', WHERE WHAT IT READS IS OF BULK AT MOST 1048576: true; the input reads as it did. -/
def queueJointUptoRow : OpenClaim := { program := "ytbdhochdakihbaa", sum := "783a8a87fca2c7f3aecca1a0c0cbe6590abc871bea7892f23683e643523fbcc3", func := "quintain/quintainlaw17.QueueJoint", spec := "queueJoint", apart := false, narrowed := true }
def QueueJointUptoSaid : Prop := queueJointUptoRow.holds Try.pinned (OpenSpec.upto queueJointSpec)

end Rows
end Go.Proofs.Ytbdhochdakihbaa
