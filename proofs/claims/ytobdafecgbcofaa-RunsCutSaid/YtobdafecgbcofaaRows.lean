/-
  No cell of these rows narrows 'for every input' (looked for: loops, veiled, ifaces, maps, wideKeys, modest, calm, conditions, laid).
  DERIVED. THE GIVEN ROWS OF THIS SEAT. 5 by the template 'for every input the law returns true; each argument reads behind the call as it read before'; 0 by the template 'total and deterministic' (their statements: YtobdafecgbcofaaTotals.lean).
  GIVEN WITH THE SEED: the statements are not yours to turn. If you find one false, say at which input.
  Laid BY PROGRAM, IN A SANDBOX (cutbox-rows.mjs): the forced cells as the released guide's own fill.sh prints them over the translation df8c546ed3b44f67… (all of the seat's roots in one cut). By AI agents, Wed Nov 11 2026. No macro, syntax, notation, axiom, sorry.
-/
import Derived.Test.YtobdafecgbcofaaChecked
import GoSem.Claim
import GoSem.ClaimJoined
import GoSem.ClaimMapViews
import Derived.JoinedTies
import Derived.KernelRfl
namespace Go.Proofs.Ytobdafecgbcofaa
/- THE CELL 'sum', in the pinned program and in every row, IS THE sha256 OF THE DUMP (.gsa) THAT YtobdafecgbcofaaProg.lean LOADS. Nothing in Lean hashes anything: it is a label: what it is worth is what the hold of that sum in a sandbox is worth. -/
noncomputable def Try.pinned : Pinned := { name := "ytobdafecgbcofaa", sum := "df8c546ed3b44f677a9fa15751cfbc409bf68d5bb8ccbfab1f956ed1b11f1c38", checked := Try.checked }
namespace Rows
def none {H : Type} : Left H := { results := [], args := [] }

/-- 'quintainlaw14.RunsBack': WHATEVER THE INPUT: true; the input reads as it did. -/
def runsBackSpec : ChangeSpec := { name := "runsBack", fn := fun _ => fun
  | [d1, d2] => { results := [.lit (.bool true)], args := [d1, d2] }
  | _ => none }
def runsBackRow : OpenClaim := { program := "ytobdafecgbcofaa", sum := "df8c546ed3b44f677a9fa15751cfbc409bf68d5bb8ccbfab1f956ed1b11f1c38", func := "quintain/quintainlaw14.RunsBack", spec := "runsBack", apart := false }
def RunsBackSaid : Prop := runsBackRow.holds Try.pinned (OpenSpec.ofChange runsBackSpec)

/-- ITS FALSE NEIGHBOUR: 'it returns false'. Refute it at one input. -/
def runsBackWrong : ChangeSpec := { name := "runsBack", fn := fun _ => fun
  | [d1, d2] => { results := [.lit (.bool false)], args := [d1, d2] }
  | _ => none }
def RunsBackWrongFalsely : Prop := runsBackRow.holds Try.pinned (OpenSpec.ofChange runsBackWrong)

/-- 'quintainlaw14.RunsAny': WHATEVER THE INPUT: true; the input reads as it did. -/
def runsAnySpec : ChangeSpec := { name := "runsAny", fn := fun _ => fun
  | [d1, d2, d3, d4, d5] => { results := [.lit (.bool true)], args := [d1, d2, d3, d4, d5] }
  | _ => none }
def runsAnyRow : OpenClaim := { program := "ytobdafecgbcofaa", sum := "df8c546ed3b44f677a9fa15751cfbc409bf68d5bb8ccbfab1f956ed1b11f1c38", func := "quintain/quintainlaw14.RunsAny", spec := "runsAny", apart := false }
def RunsAnySaid : Prop := runsAnyRow.holds Try.pinned (OpenSpec.ofChange runsAnySpec)

/-- ITS FALSE NEIGHBOUR: 'it returns false'. Refute it at one input. -/
def runsAnyWrong : ChangeSpec := { name := "runsAny", fn := fun _ => fun
  | [d1, d2, d3, d4, d5] => { results := [.lit (.bool false)], args := [d1, d2, d3, d4, d5] }
  | _ => none }
def RunsAnyWrongFalsely : Prop := runsAnyRow.holds Try.pinned (OpenSpec.ofChange runsAnyWrong)

/-- 'quintainlaw14.RunsLong': WHATEVER THE INPUT: true; the input reads as it did. -/
def runsLongSpec : ChangeSpec := { name := "runsLong", fn := fun _ => fun
  | [d1, d2] => { results := [.lit (.bool true)], args := [d1, d2] }
  | _ => none }
def runsLongRow : OpenClaim := { program := "ytobdafecgbcofaa", sum := "df8c546ed3b44f677a9fa15751cfbc409bf68d5bb8ccbfab1f956ed1b11f1c38", func := "quintain/quintainlaw14.RunsLong", spec := "runsLong", apart := false }
def RunsLongSaid : Prop := runsLongRow.holds Try.pinned (OpenSpec.ofChange runsLongSpec)

/-- ITS FALSE NEIGHBOUR: 'it returns false'. Refute it at one input. -/
def runsLongWrong : ChangeSpec := { name := "runsLong", fn := fun _ => fun
  | [d1, d2] => { results := [.lit (.bool false)], args := [d1, d2] }
  | _ => none }
def RunsLongWrongFalsely : Prop := runsLongRow.holds Try.pinned (OpenSpec.ofChange runsLongWrong)

/-- 'quintainlaw14.RunsTwins': WHATEVER THE INPUT: true; the input reads as it did. -/
def runsTwinsSpec : ChangeSpec := { name := "runsTwins", fn := fun _ => fun
  | [d1, d2] => { results := [.lit (.bool true)], args := [d1, d2] }
  | _ => none }
def runsTwinsRow : OpenClaim := { program := "ytobdafecgbcofaa", sum := "df8c546ed3b44f677a9fa15751cfbc409bf68d5bb8ccbfab1f956ed1b11f1c38", func := "quintain/quintainlaw14.RunsTwins", spec := "runsTwins", apart := false }
def RunsTwinsSaid : Prop := runsTwinsRow.holds Try.pinned (OpenSpec.ofChange runsTwinsSpec)

/-- ITS FALSE NEIGHBOUR: 'it returns false'. Refute it at one input. -/
def runsTwinsWrong : ChangeSpec := { name := "runsTwins", fn := fun _ => fun
  | [d1, d2] => { results := [.lit (.bool false)], args := [d1, d2] }
  | _ => none }
def RunsTwinsWrongFalsely : Prop := runsTwinsRow.holds Try.pinned (OpenSpec.ofChange runsTwinsWrong)

/-- 'quintainlaw14.RunsCut': WHATEVER THE INPUT: true; the input reads as it did. -/
def runsCutSpec : ChangeSpec := { name := "runsCut", fn := fun _ => fun
  | [d1, d2, d3] => { results := [.lit (.bool true)], args := [d1, d2, d3] }
  | _ => none }
def runsCutRow : OpenClaim := { program := "ytobdafecgbcofaa", sum := "df8c546ed3b44f677a9fa15751cfbc409bf68d5bb8ccbfab1f956ed1b11f1c38", func := "quintain/quintainlaw14.RunsCut", spec := "runsCut", apart := false }
def RunsCutSaid : Prop := runsCutRow.holds Try.pinned (OpenSpec.ofChange runsCutSpec)

/-- ITS FALSE NEIGHBOUR: 'it returns false'. Refute it at one input. -/
def runsCutWrong : ChangeSpec := { name := "runsCut", fn := fun _ => fun
  | [d1, d2, d3] => { results := [.lit (.bool false)], args := [d1, d2, d3] }
  | _ => none }
def RunsCutWrongFalsely : Prop := runsCutRow.holds Try.pinned (OpenSpec.ofChange runsCutWrong)

/- THE SECOND FORM. 'bulk': how many values and letters a reading holds, each counted each time it is reached (what is shared counts as often as it is met; a slice's spare places count too). A statement '..UptoSaid' is the law's where the arguments, and the package variables that the reading takes, are together of bulk at most 1048576: NARROWER than '..Said'. Prove '..Said' where nothing that the law and all that it calls make is longer than what came in: it says more and counts as full. Else prove '..UptoSaid'. A law counts once. -/
mutual
def uptoBulk {H : Type} : DataW H → Nat
  | .lit (.string bytes) => bytes.length + 1
  | .lit _ => 1
  | .nil => 1
  | .ptr d => uptoBulk d + 1
  | .slice elems spare => uptoBulkAll elems + uptoBulkAll spare + 1
  | .agg parts => uptoBulkAll parts + 1
  | .iface _ d => uptoBulk d + 1
  | .map entries => uptoBulkEntries entries + 1
  | .held _ => 1
def uptoBulkAll {H : Type} : List (DataW H) → Nat
  | [] => 0
  | d :: r => uptoBulk d + uptoBulkAll r
def uptoBulkEntries {H : Type} : List (Lit × DataW H) → Nat
  | [] => 0
  | x :: r => uptoBulkEntry x + uptoBulkEntries r
def uptoBulkEntry {H : Type} : Lit × DataW H → Nat
  | (.string bytes, d) => bytes.length + uptoBulk d + 1
  | (_, d) => uptoBulk d + 1
 end
def uptoSmall : (H : Type) → List (DataW H) → Bool := fun _ ds => decide (uptoBulkAll ds ≤ 1048576)
def OpenSpec.upto (s : _root_.Go.ChangeSpec) : _root_.Go.OpenSpec := { _root_.Go.OpenSpec.ofChange s with cond := some uptoSmall }

/-- 'quintainlaw14.RunsBack', WHERE WHAT IT READS IS OF BULK AT MOST 1048576: true; the input reads as it did. -/
def runsBackUptoRow : OpenClaim := { program := "ytobdafecgbcofaa", sum := "df8c546ed3b44f677a9fa15751cfbc409bf68d5bb8ccbfab1f956ed1b11f1c38", func := "quintain/quintainlaw14.RunsBack", spec := "runsBack", apart := false, narrowed := true }
def RunsBackUptoSaid : Prop := runsBackUptoRow.holds Try.pinned (OpenSpec.upto runsBackSpec)

/-- 'quintainlaw14.RunsAny', WHERE WHAT IT READS IS OF BULK AT MOST 1048576: true; the input reads as it did. -/
def runsAnyUptoRow : OpenClaim := { program := "ytobdafecgbcofaa", sum := "df8c546ed3b44f677a9fa15751cfbc409bf68d5bb8ccbfab1f956ed1b11f1c38", func := "quintain/quintainlaw14.RunsAny", spec := "runsAny", apart := false, narrowed := true }
def RunsAnyUptoSaid : Prop := runsAnyUptoRow.holds Try.pinned (OpenSpec.upto runsAnySpec)

/-- 'quintainlaw14.RunsLong', WHERE WHAT IT READS IS OF BULK AT MOST 1048576: true; the input reads as it did. -/
def runsLongUptoRow : OpenClaim := { program := "ytobdafecgbcofaa", sum := "df8c546ed3b44f677a9fa15751cfbc409bf68d5bb8ccbfab1f956ed1b11f1c38", func := "quintain/quintainlaw14.RunsLong", spec := "runsLong", apart := false, narrowed := true }
def RunsLongUptoSaid : Prop := runsLongUptoRow.holds Try.pinned (OpenSpec.upto runsLongSpec)

/-- 'quintainlaw14.RunsTwins', WHERE WHAT IT READS IS OF BULK AT MOST 1048576: true; the input reads as it did. -/
def runsTwinsUptoRow : OpenClaim := { program := "ytobdafecgbcofaa", sum := "df8c546ed3b44f677a9fa15751cfbc409bf68d5bb8ccbfab1f956ed1b11f1c38", func := "quintain/quintainlaw14.RunsTwins", spec := "runsTwins", apart := false, narrowed := true }
def RunsTwinsUptoSaid : Prop := runsTwinsUptoRow.holds Try.pinned (OpenSpec.upto runsTwinsSpec)

/-- 'quintainlaw14.RunsCut', WHERE WHAT IT READS IS OF BULK AT MOST 1048576: true; the input reads as it did. -/
def runsCutUptoRow : OpenClaim := { program := "ytobdafecgbcofaa", sum := "df8c546ed3b44f677a9fa15751cfbc409bf68d5bb8ccbfab1f956ed1b11f1c38", func := "quintain/quintainlaw14.RunsCut", spec := "runsCut", apart := false, narrowed := true }
def RunsCutUptoSaid : Prop := runsCutUptoRow.holds Try.pinned (OpenSpec.upto runsCutSpec)

end Rows
end Go.Proofs.Ytobdafecgbcofaa
