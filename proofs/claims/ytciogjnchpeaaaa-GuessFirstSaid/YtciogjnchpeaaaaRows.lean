/-
  No cell of these rows narrows 'for every input' (looked for: loops, veiled, ifaces, maps, wideKeys, modest, calm, conditions, laid).
  DERIVED. THE GIVEN ROWS OF THIS SEAT. 5 by the template 'for every input the law returns true; each argument reads behind the call as it read before'; 0 by the template 'total and deterministic' (their statements: YtciogjnchpeaaaaTotals.lean).
  GIVEN WITH THE SEED: the statements are not yours to turn. If you find one false, say at which input.
  Laid BY PROGRAM, IN A SANDBOX (cutbox-rows.mjs): the forced cells as the released guide's own fill.sh prints them over the translation 417fd0d5935dcd57… (all of the seat's roots in one cut). By AI agents, Wed Nov 11 2026. No macro, syntax, notation, axiom, sorry.
-/
import Derived.Test.YtciogjnchpeaaaaChecked
import GoSem.Claim
import GoSem.ClaimJoined
import GoSem.ClaimMapViews
import Derived.JoinedTies
import Derived.KernelRfl
namespace Go.Proofs.Ytciogjnchpeaaaa
/- THE CELL 'sum', in the pinned program and in every row, IS THE sha256 OF THE DUMP (.gsa) THAT YtciogjnchpeaaaaProg.lean LOADS. Nothing in Lean hashes anything: it is a label: what it is worth is what the hold of that sum in a sandbox is worth. -/
noncomputable def Try.pinned : Pinned := { name := "ytciogjnchpeaaaa", sum := "417fd0d5935dcd57fe9a14407c6f7633541735895ae82aff1f1cbb63661c4d9f", checked := Try.checked }
namespace Rows
def none {H : Type} : Left H := { results := [], args := [] }

/-- 'quintainlaw19.GuessAhead': WHATEVER THE INPUT: true; the input reads as it did. -/
def guessAheadSpec : ChangeSpec := { name := "guessAhead", fn := fun _ => fun
  | [d1, d2, d3, d4, d5, d6] => { results := [.lit (.bool true)], args := [d1, d2, d3, d4, d5, d6] }
  | _ => none }
def guessAheadRow : OpenClaim := { program := "ytciogjnchpeaaaa", sum := "417fd0d5935dcd57fe9a14407c6f7633541735895ae82aff1f1cbb63661c4d9f", func := "quintain/quintainlaw19.GuessAhead", spec := "guessAhead", unfollowed := true, recurses := true, apart := false }
def GuessAheadSaid : Prop := guessAheadRow.holds Try.pinned (OpenSpec.ofChange guessAheadSpec)

/-- ITS FALSE NEIGHBOUR: 'it returns false'. Refute it at one input. -/
def guessAheadWrong : ChangeSpec := { name := "guessAhead", fn := fun _ => fun
  | [d1, d2, d3, d4, d5, d6] => { results := [.lit (.bool false)], args := [d1, d2, d3, d4, d5, d6] }
  | _ => none }
def GuessAheadWrongFalsely : Prop := guessAheadRow.holds Try.pinned (OpenSpec.ofChange guessAheadWrong)

/-- 'quintainlaw19.GuessKnown': WHATEVER THE INPUT: true; the input reads as it did. -/
def guessKnownSpec : ChangeSpec := { name := "guessKnown", fn := fun _ => fun
  | [d1, d2, d3, d4] => { results := [.lit (.bool true)], args := [d1, d2, d3, d4] }
  | _ => none }
def guessKnownRow : OpenClaim := { program := "ytciogjnchpeaaaa", sum := "417fd0d5935dcd57fe9a14407c6f7633541735895ae82aff1f1cbb63661c4d9f", func := "quintain/quintainlaw19.GuessKnown", spec := "guessKnown", unfollowed := true, recurses := true, apart := false }
def GuessKnownSaid : Prop := guessKnownRow.holds Try.pinned (OpenSpec.ofChange guessKnownSpec)

/-- ITS FALSE NEIGHBOUR: 'it returns false'. Refute it at one input. -/
def guessKnownWrong : ChangeSpec := { name := "guessKnown", fn := fun _ => fun
  | [d1, d2, d3, d4] => { results := [.lit (.bool false)], args := [d1, d2, d3, d4] }
  | _ => none }
def GuessKnownWrongFalsely : Prop := guessKnownRow.holds Try.pinned (OpenSpec.ofChange guessKnownWrong)

/-- 'quintainlaw19.GuessRanks': WHATEVER THE INPUT: true; the input reads as it did. -/
def guessRanksSpec : ChangeSpec := { name := "guessRanks", fn := fun _ => fun
  | [d1, d2, d3, d4] => { results := [.lit (.bool true)], args := [d1, d2, d3, d4] }
  | _ => none }
def guessRanksRow : OpenClaim := { program := "ytciogjnchpeaaaa", sum := "417fd0d5935dcd57fe9a14407c6f7633541735895ae82aff1f1cbb63661c4d9f", func := "quintain/quintainlaw19.GuessRanks", spec := "guessRanks", unfollowed := true, recurses := true, apart := false }
def GuessRanksSaid : Prop := guessRanksRow.holds Try.pinned (OpenSpec.ofChange guessRanksSpec)

/-- ITS FALSE NEIGHBOUR: 'it returns false'. Refute it at one input. -/
def guessRanksWrong : ChangeSpec := { name := "guessRanks", fn := fun _ => fun
  | [d1, d2, d3, d4] => { results := [.lit (.bool false)], args := [d1, d2, d3, d4] }
  | _ => none }
def GuessRanksWrongFalsely : Prop := guessRanksRow.holds Try.pinned (OpenSpec.ofChange guessRanksWrong)

/-- 'quintainlaw19.GuessMore': WHATEVER THE INPUT: true; the input reads as it did. -/
def guessMoreSpec : ChangeSpec := { name := "guessMore", fn := fun _ => fun
  | [d1, d2, d3, d4, d5] => { results := [.lit (.bool true)], args := [d1, d2, d3, d4, d5] }
  | _ => none }
def guessMoreRow : OpenClaim := { program := "ytciogjnchpeaaaa", sum := "417fd0d5935dcd57fe9a14407c6f7633541735895ae82aff1f1cbb63661c4d9f", func := "quintain/quintainlaw19.GuessMore", spec := "guessMore", unfollowed := true, recurses := true, apart := false }
def GuessMoreSaid : Prop := guessMoreRow.holds Try.pinned (OpenSpec.ofChange guessMoreSpec)

/-- ITS FALSE NEIGHBOUR: 'it returns false'. Refute it at one input. -/
def guessMoreWrong : ChangeSpec := { name := "guessMore", fn := fun _ => fun
  | [d1, d2, d3, d4, d5] => { results := [.lit (.bool false)], args := [d1, d2, d3, d4, d5] }
  | _ => none }
def GuessMoreWrongFalsely : Prop := guessMoreRow.holds Try.pinned (OpenSpec.ofChange guessMoreWrong)

/-- 'quintainlaw19.GuessFirst': WHATEVER THE INPUT: true; the input reads as it did. -/
def guessFirstSpec : ChangeSpec := { name := "guessFirst", fn := fun _ => fun
  | [d1, d2, d3, d4] => { results := [.lit (.bool true)], args := [d1, d2, d3, d4] }
  | _ => none }
def guessFirstRow : OpenClaim := { program := "ytciogjnchpeaaaa", sum := "417fd0d5935dcd57fe9a14407c6f7633541735895ae82aff1f1cbb63661c4d9f", func := "quintain/quintainlaw19.GuessFirst", spec := "guessFirst", unfollowed := true, recurses := true, apart := false }
def GuessFirstSaid : Prop := guessFirstRow.holds Try.pinned (OpenSpec.ofChange guessFirstSpec)

/-- ITS FALSE NEIGHBOUR: 'it returns false'. Refute it at one input. -/
def guessFirstWrong : ChangeSpec := { name := "guessFirst", fn := fun _ => fun
  | [d1, d2, d3, d4] => { results := [.lit (.bool false)], args := [d1, d2, d3, d4] }
  | _ => none }
def GuessFirstWrongFalsely : Prop := guessFirstRow.holds Try.pinned (OpenSpec.ofChange guessFirstWrong)

/- THE SECOND FORM. 'bulk': how many values and letters a reading holds, each counted each time it is reached (what is shared counts as often as it is met; a slice's spare places count too). A statement '..UptoSaid' is the law's where the arguments, and the package variables that the reading takes, are together of bulk at most 1048576: NARROWER than '..Said'. Prove '..Said' where nothing that the law and all that it calls make is longer than what came in: it says more and counts as full. Else prove '..UptoSaid'. A law counts once. -/
mutual
def uptoBulk {H : Type} : DataW H → Nat
  | .lit (.string bytes) => bytes.length + 1
  | .lit _ => 1
  | .nil => 1
  | .ptr d => uptoBulk d + 1
  | .slice elems spare => uptoBulkAll elems + uptoBulkAll spare + 1
  | .agg parts => uptoBulkAll parts + 1
  | .iface _ d => uptoBulk d + 1
  | .map entries => uptoBulkEntries entries + 1
  | .held _ => 1
def uptoBulkAll {H : Type} : List (DataW H) → Nat
  | [] => 0
  | d :: r => uptoBulk d + uptoBulkAll r
def uptoBulkEntries {H : Type} : List (Lit × DataW H) → Nat
  | [] => 0
  | x :: r => uptoBulkEntry x + uptoBulkEntries r
def uptoBulkEntry {H : Type} : Lit × DataW H → Nat
  | (.string bytes, d) => bytes.length + uptoBulk d + 1
  | (_, d) => uptoBulk d + 1
 end
def uptoSmall : (H : Type) → List (DataW H) → Bool := fun _ ds => decide (uptoBulkAll ds ≤ 1048576)
def OpenSpec.upto (s : _root_.Go.ChangeSpec) : _root_.Go.OpenSpec := { _root_.Go.OpenSpec.ofChange s with cond := some uptoSmall }

/-- 'quintainlaw19.GuessAhead', WHERE WHAT IT READS IS OF BULK AT MOST 1048576: true; the input reads as it did. -/
def guessAheadUptoRow : OpenClaim := { program := "ytciogjnchpeaaaa", sum := "417fd0d5935dcd57fe9a14407c6f7633541735895ae82aff1f1cbb63661c4d9f", func := "quintain/quintainlaw19.GuessAhead", spec := "guessAhead", unfollowed := true, recurses := true, apart := false, narrowed := true }
def GuessAheadUptoSaid : Prop := guessAheadUptoRow.holds Try.pinned (OpenSpec.upto guessAheadSpec)

/-- 'quintainlaw19.GuessKnown', WHERE WHAT IT READS IS OF BULK AT MOST 1048576: true; the input reads as it did. -/
def guessKnownUptoRow : OpenClaim := { program := "ytciogjnchpeaaaa", sum := "417fd0d5935dcd57fe9a14407c6f7633541735895ae82aff1f1cbb63661c4d9f", func := "quintain/quintainlaw19.GuessKnown", spec := "guessKnown", unfollowed := true, recurses := true, apart := false, narrowed := true }
def GuessKnownUptoSaid : Prop := guessKnownUptoRow.holds Try.pinned (OpenSpec.upto guessKnownSpec)

/-- 'quintainlaw19.GuessRanks', WHERE WHAT IT READS IS OF BULK AT MOST 1048576: true; the input reads as it did. -/
def guessRanksUptoRow : OpenClaim := { program := "ytciogjnchpeaaaa", sum := "417fd0d5935dcd57fe9a14407c6f7633541735895ae82aff1f1cbb63661c4d9f", func := "quintain/quintainlaw19.GuessRanks", spec := "guessRanks", unfollowed := true, recurses := true, apart := false, narrowed := true }
def GuessRanksUptoSaid : Prop := guessRanksUptoRow.holds Try.pinned (OpenSpec.upto guessRanksSpec)

/-- 'quintainlaw19.GuessMore', WHERE WHAT IT READS IS OF BULK AT MOST 1048576: true; the input reads as it did. -/
def guessMoreUptoRow : OpenClaim := { program := "ytciogjnchpeaaaa", sum := "417fd0d5935dcd57fe9a14407c6f7633541735895ae82aff1f1cbb63661c4d9f", func := "quintain/quintainlaw19.GuessMore", spec := "guessMore", unfollowed := true, recurses := true, apart := false, narrowed := true }
def GuessMoreUptoSaid : Prop := guessMoreUptoRow.holds Try.pinned (OpenSpec.upto guessMoreSpec)

/-- 'quintainlaw19.GuessFirst', WHERE WHAT IT READS IS OF BULK AT MOST 1048576: true; the input reads as it did. -/
def guessFirstUptoRow : OpenClaim := { program := "ytciogjnchpeaaaa", sum := "417fd0d5935dcd57fe9a14407c6f7633541735895ae82aff1f1cbb63661c4d9f", func := "quintain/quintainlaw19.GuessFirst", spec := "guessFirst", unfollowed := true, recurses := true, apart := false, narrowed := true }
def GuessFirstUptoSaid : Prop := guessFirstUptoRow.holds Try.pinned (OpenSpec.upto guessFirstSpec)

end Rows
end Go.Proofs.Ytciogjnchpeaaaa
