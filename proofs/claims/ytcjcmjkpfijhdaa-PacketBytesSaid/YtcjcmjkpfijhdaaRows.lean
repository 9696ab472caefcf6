/-
  No cell of these rows narrows 'for every input' (looked for: loops, veiled, ifaces, maps, wideKeys, modest, calm, conditions, laid).
  DERIVED. THE GIVEN ROWS OF THIS SEAT. 7 by the template 'for every input the law returns true; each argument reads behind the call as it read before'; 0 by the template 'total and deterministic' (their statements: YtcjcmjkpfijhdaaTotals.lean).
  GIVEN WITH THE SEED: the statements are not yours to turn. If you find one false, say at which input.
  Laid BY PROGRAM, IN A SANDBOX (cutbox-rows.mjs): the forced cells as the released guide's own fill.sh prints them over the translation 9b9b35cc0f627cd4… (all of the seat's roots in one cut). By AI agents, Wed Nov 11 2026. No macro, syntax, notation, axiom, sorry.
-/
import Derived.Test.YtcjcmjkpfijhdaaChecked
import GoSem.Claim
import GoSem.ClaimJoined
import GoSem.ClaimMapViews
import Derived.JoinedTies
import Derived.KernelRfl
namespace Go.Proofs.Ytcjcmjkpfijhdaa
/- THE CELL 'sum', in the pinned program and in every row, IS THE sha256 OF THE DUMP (.gsa) THAT YtcjcmjkpfijhdaaProg.lean LOADS. Nothing in Lean hashes anything: it is a label: what it is worth is what the hold of that sum in a sandbox is worth. -/
noncomputable def Try.pinned : Pinned := { name := "ytcjcmjkpfijhdaa", sum := "9b9b35cc0f627cd4b329bd48f6ec49a818888c66aac53d97fb8da15fa2d872c1", checked := Try.checked }
namespace Rows
def none {H : Type} : Left H := { results := [], args := [] }

/-- 'quintainlaw15.PacketBytes': WHATEVER THE INPUT: true; the input reads as it did. -/
def packetBytesSpec : ChangeSpec := { name := "packetBytes", fn := fun _ => fun
  | [d1, d2, d3, d4] => { results := [.lit (.bool true)], args := [d1, d2, d3, d4] }
  | _ => none }
def packetBytesRow : OpenClaim := { program := "ytcjcmjkpfijhdaa", sum := "9b9b35cc0f627cd4b329bd48f6ec49a818888c66aac53d97fb8da15fa2d872c1", func := "quintain/quintainlaw15.PacketBytes", spec := "packetBytes", apart := false }
def PacketBytesSaid : Prop := packetBytesRow.holds Try.pinned (OpenSpec.ofChange packetBytesSpec)

/-- ITS FALSE NEIGHBOUR: 'it returns false'. Refute it at one input. -/
def packetBytesWrong : ChangeSpec := { name := "packetBytes", fn := fun _ => fun
  | [d1, d2, d3, d4] => { results := [.lit (.bool false)], args := [d1, d2, d3, d4] }
  | _ => none }
def PacketBytesWrongFalsely : Prop := packetBytesRow.holds Try.pinned (OpenSpec.ofChange packetBytesWrong)

/-- 'quintainlaw15.PacketAny': WHATEVER THE INPUT: true; the input reads as it did. -/
def packetAnySpec : ChangeSpec := { name := "packetAny", fn := fun _ => fun
  | [d] => { results := [.lit (.bool true)], args := [d] }
  | _ => none }
def packetAnyRow : OpenClaim := { program := "ytcjcmjkpfijhdaa", sum := "9b9b35cc0f627cd4b329bd48f6ec49a818888c66aac53d97fb8da15fa2d872c1", func := "quintain/quintainlaw15.PacketAny", spec := "packetAny", apart := false }
def PacketAnySaid : Prop := packetAnyRow.holds Try.pinned (OpenSpec.ofChange packetAnySpec)

/-- ITS FALSE NEIGHBOUR: 'it returns false'. Refute it at one input. -/
def packetAnyWrong : ChangeSpec := { name := "packetAny", fn := fun _ => fun
  | [d] => { results := [.lit (.bool false)], args := [d] }
  | _ => none }
def PacketAnyWrongFalsely : Prop := packetAnyRow.holds Try.pinned (OpenSpec.ofChange packetAnyWrong)

/-- 'quintainlaw15.PacketEnds': WHATEVER THE INPUT: true; the input reads as it did. -/
def packetEndsSpec : ChangeSpec := { name := "packetEnds", fn := fun _ => fun
  | [d1, d2, d3, d4, d5, d6, d7, d8] => { results := [.lit (.bool true)], args := [d1, d2, d3, d4, d5, d6, d7, d8] }
  | _ => none }
def packetEndsRow : OpenClaim := { program := "ytcjcmjkpfijhdaa", sum := "9b9b35cc0f627cd4b329bd48f6ec49a818888c66aac53d97fb8da15fa2d872c1", func := "quintain/quintainlaw15.PacketEnds", spec := "packetEnds", apart := false }
def PacketEndsSaid : Prop := packetEndsRow.holds Try.pinned (OpenSpec.ofChange packetEndsSpec)

/-- ITS FALSE NEIGHBOUR: 'it returns false'. Refute it at one input. -/
def packetEndsWrong : ChangeSpec := { name := "packetEnds", fn := fun _ => fun
  | [d1, d2, d3, d4, d5, d6, d7, d8] => { results := [.lit (.bool false)], args := [d1, d2, d3, d4, d5, d6, d7, d8] }
  | _ => none }
def PacketEndsWrongFalsely : Prop := packetEndsRow.holds Try.pinned (OpenSpec.ofChange packetEndsWrong)

/-- 'quintainlaw15.PacketShort': WHATEVER THE INPUT: true; the input reads as it did. -/
def packetShortSpec : ChangeSpec := { name := "packetShort", fn := fun _ => fun
  | [d1, d2] => { results := [.lit (.bool true)], args := [d1, d2] }
  | _ => none }
def packetShortRow : OpenClaim := { program := "ytcjcmjkpfijhdaa", sum := "9b9b35cc0f627cd4b329bd48f6ec49a818888c66aac53d97fb8da15fa2d872c1", func := "quintain/quintainlaw15.PacketShort", spec := "packetShort", apart := false }
def PacketShortSaid : Prop := packetShortRow.holds Try.pinned (OpenSpec.ofChange packetShortSpec)

/-- ITS FALSE NEIGHBOUR: 'it returns false'. Refute it at one input. -/
def packetShortWrong : ChangeSpec := { name := "packetShort", fn := fun _ => fun
  | [d1, d2] => { results := [.lit (.bool false)], args := [d1, d2] }
  | _ => none }
def PacketShortWrongFalsely : Prop := packetShortRow.holds Try.pinned (OpenSpec.ofChange packetShortWrong)

/-- 'quintainlaw15.PacketEach': WHATEVER THE INPUT: true; the input reads as it did. -/
def packetEachSpec : ChangeSpec := { name := "packetEach", fn := fun _ => fun
  | [d1, d2] => { results := [.lit (.bool true)], args := [d1, d2] }
  | _ => none }
def packetEachRow : OpenClaim := { program := "ytcjcmjkpfijhdaa", sum := "9b9b35cc0f627cd4b329bd48f6ec49a818888c66aac53d97fb8da15fa2d872c1", func := "quintain/quintainlaw15.PacketEach", spec := "packetEach", apart := false }
def PacketEachSaid : Prop := packetEachRow.holds Try.pinned (OpenSpec.ofChange packetEachSpec)

/-- ITS FALSE NEIGHBOUR: 'it returns false'. Refute it at one input. -/
def packetEachWrong : ChangeSpec := { name := "packetEach", fn := fun _ => fun
  | [d1, d2] => { results := [.lit (.bool false)], args := [d1, d2] }
  | _ => none }
def PacketEachWrongFalsely : Prop := packetEachRow.holds Try.pinned (OpenSpec.ofChange packetEachWrong)

/-- 'quintainlaw15.PacketTwins': WHATEVER THE INPUT: true; the input reads as it did. -/
def packetTwinsSpec : ChangeSpec := { name := "packetTwins", fn := fun _ => fun
  | [d1, d2, d3] => { results := [.lit (.bool true)], args := [d1, d2, d3] }
  | _ => none }
def packetTwinsRow : OpenClaim := { program := "ytcjcmjkpfijhdaa", sum := "9b9b35cc0f627cd4b329bd48f6ec49a818888c66aac53d97fb8da15fa2d872c1", func := "quintain/quintainlaw15.PacketTwins", spec := "packetTwins", apart := false }
def PacketTwinsSaid : Prop := packetTwinsRow.holds Try.pinned (OpenSpec.ofChange packetTwinsSpec)

/-- ITS FALSE NEIGHBOUR: 'it returns false'. Refute it at one input. -/
def packetTwinsWrong : ChangeSpec := { name := "packetTwins", fn := fun _ => fun
  | [d1, d2, d3] => { results := [.lit (.bool false)], args := [d1, d2, d3] }
  | _ => none }
def PacketTwinsWrongFalsely : Prop := packetTwinsRow.holds Try.pinned (OpenSpec.ofChange packetTwinsWrong)

/-- 'quintainlaw15.PacketPress': WHATEVER THE INPUT: true; the input reads as it did. -/
def packetPressSpec : ChangeSpec := { name := "packetPress", fn := fun _ => fun
  | [d1, d2] => { results := [.lit (.bool true)], args := [d1, d2] }
  | _ => none }
def packetPressRow : OpenClaim := { program := "ytcjcmjkpfijhdaa", sum := "9b9b35cc0f627cd4b329bd48f6ec49a818888c66aac53d97fb8da15fa2d872c1", func := "quintain/quintainlaw15.PacketPress", spec := "packetPress", apart := false }
def PacketPressSaid : Prop := packetPressRow.holds Try.pinned (OpenSpec.ofChange packetPressSpec)

/-- ITS FALSE NEIGHBOUR: 'it returns false'. Refute it at one input. -/
def packetPressWrong : ChangeSpec := { name := "packetPress", fn := fun _ => fun
  | [d1, d2] => { results := [.lit (.bool false)], args := [d1, d2] }
  | _ => none }
def PacketPressWrongFalsely : Prop := packetPressRow.holds Try.pinned (OpenSpec.ofChange packetPressWrong)

/- THE SECOND FORM. 'bulk': how many values and letters a reading holds, each counted each time it is reached (what is shared counts as often as it is met; a slice's spare places count too). A statement '..UptoSaid' is the law's where the arguments, and the package variables that the reading takes, are together of bulk at most 1048576: NARROWER than '..Said'. Prove '..Said' where nothing that the law and all that it calls make is longer than what came in: it says more and counts as full. Else prove '..UptoSaid'. A law counts once. -/
mutual
def uptoBulk {H : Type} : DataW H → Nat
  | .lit (.string bytes) => bytes.length + 1
  | .lit _ => 1
  | .nil => 1
  | .ptr d => uptoBulk d + 1
  | .slice elems spare => uptoBulkAll elems + uptoBulkAll spare + 1
  | .agg parts => uptoBulkAll parts + 1
  | .iface _ d => uptoBulk d + 1
  | .map entries => uptoBulkEntries entries + 1
  | .held _ => 1
def uptoBulkAll {H : Type} : List (DataW H) → Nat
  | [] => 0
  | d :: r => uptoBulk d + uptoBulkAll r
def uptoBulkEntries {H : Type} : List (Lit × DataW H) → Nat
  | [] => 0
  | x :: r => uptoBulkEntry x + uptoBulkEntries r
def uptoBulkEntry {H : Type} : Lit × DataW H → Nat
  | (.string bytes, d) => bytes.length + uptoBulk d + 1
  | (_, d) => uptoBulk d + 1
 end
def uptoSmall : (H : Type) → List (DataW H) → Bool := fun _ ds => decide (uptoBulkAll ds ≤ 1048576)
def OpenSpec.upto (s : _root_.Go.ChangeSpec) : _root_.Go.OpenSpec := { _root_.Go.OpenSpec.ofChange s with cond := some uptoSmall }

/-- 'quintainlaw15.PacketBytes', WHERE WHAT IT READS IS OF BULK AT MOST 1048576: true; the input reads as it did. -/
def packetBytesUptoRow : OpenClaim := { program := "ytcjcmjkpfijhdaa", sum := "9b9b35cc0f627cd4b329bd48f6ec49a818888c66aac53d97fb8da15fa2d872c1", func := "quintain/quintainlaw15.PacketBytes", spec := "packetBytes", apart := false, narrowed := true }
def PacketBytesUptoSaid : Prop := packetBytesUptoRow.holds Try.pinned (OpenSpec.upto packetBytesSpec)

/-- 'quintainlaw15.PacketAny', WHERE WHAT IT READS IS OF BULK AT MOST 1048576: true; the input reads as it did. -/
def packetAnyUptoRow : OpenClaim := { program := "ytcjcmjkpfijhdaa", sum := "9b9b35cc0f627cd4b329bd48f6ec49a818888c66aac53d97fb8da15fa2d872c1", func := "quintain/quintainlaw15.PacketAny", spec := "packetAny", apart := false, narrowed := true }
def PacketAnyUptoSaid : Prop := packetAnyUptoRow.holds Try.pinned (OpenSpec.upto packetAnySpec)

/-- 'quintainlaw15.PacketEnds', WHERE WHAT IT READS IS OF BULK AT MOST 1048576: true; the input reads as it did. -/
def packetEndsUptoRow : OpenClaim := { program := "ytcjcmjkpfijhdaa", sum := "9b9b35cc0f627cd4b329bd48f6ec49a818888c66aac53d97fb8da15fa2d872c1", func := "quintain/quintainlaw15.PacketEnds", spec := "packetEnds", apart := false, narrowed := true }
def PacketEndsUptoSaid : Prop := packetEndsUptoRow.holds Try.pinned (OpenSpec.upto packetEndsSpec)

/-- 'quintainlaw15.PacketShort', WHERE WHAT IT READS IS OF BULK AT MOST 1048576: true; the input reads as it did. -/
def packetShortUptoRow : OpenClaim := { program := "ytcjcmjkpfijhdaa", sum := "9b9b35cc0f627cd4b329bd48f6ec49a818888c66aac53d97fb8da15fa2d872c1", func := "quintain/quintainlaw15.PacketShort", spec := "packetShort", apart := false, narrowed := true }
def PacketShortUptoSaid : Prop := packetShortUptoRow.holds Try.pinned (OpenSpec.upto packetShortSpec)

/-- 'quintainlaw15.PacketEach', WHERE WHAT IT READS IS OF BULK AT MOST 1048576: true; the input reads as it did. -/
def packetEachUptoRow : OpenClaim := { program := "ytcjcmjkpfijhdaa", sum := "9b9b35cc0f627cd4b329bd48f6ec49a818888c66aac53d97fb8da15fa2d872c1", func := "quintain/quintainlaw15.PacketEach", spec := "packetEach", apart := false, narrowed := true }
def PacketEachUptoSaid : Prop := packetEachUptoRow.holds Try.pinned (OpenSpec.upto packetEachSpec)

/-- 'quintainlaw15.PacketTwins', WHERE WHAT IT READS IS OF BULK AT MOST 1048576: true; the input reads as it did. -/
def packetTwinsUptoRow : OpenClaim := { program := "ytcjcmjkpfijhdaa", sum := "9b9b35cc0f627cd4b329bd48f6ec49a818888c66aac53d97fb8da15fa2d872c1", func := "quintain/quintainlaw15.PacketTwins", spec := "packetTwins", apart := false, narrowed := true }
def PacketTwinsUptoSaid : Prop := packetTwinsUptoRow.holds Try.pinned (OpenSpec.upto packetTwinsSpec)

/-- 'quintainlaw15.PacketPress', WHERE WHAT IT READS IS OF BULK AT MOST 1048576: true; the input reads as it did. -/
def packetPressUptoRow : OpenClaim := { program := "ytcjcmjkpfijhdaa", sum := "9b9b35cc0f627cd4b329bd48f6ec49a818888c66aac53d97fb8da15fa2d872c1", func := "quintain/quintainlaw15.PacketPress", spec := "packetPress", apart := false, narrowed := true }
def PacketPressUptoSaid : Prop := packetPressUptoRow.holds Try.pinned (OpenSpec.upto packetPressSpec)

end Rows
end Go.Proofs.Ytcjcmjkpfijhdaa
