/-
  No cell of these rows narrows 'for every input' (looked for: loops, veiled, ifaces, maps, wideKeys, modest, calm, conditions, laid).
  DERIVED. THE GIVEN ROWS OF THIS SEAT. 9 by the template 'for every input the law returns true; each argument reads behind the call as it read before'; 0 by the template 'total and deterministic' (their statements: YtcibhngcpihecaaTotals.lean).
  GIVEN WITH THE SEED: the statements are not yours to turn. If you find one false, say at which input.
  Laid BY PROGRAM, IN A SANDBOX (cutbox-rows.mjs): the forced cells as the released guide's own fill.sh prints them over the translation bcae51711dc4a670… (all of the seat's roots in one cut). By AI agents, Wed Nov 11 2026. No macro, syntax, notation, axiom, sorry.
-/
import Derived.Test.YtcibhngcpihecaaChecked
import GoSem.Claim
import GoSem.ClaimJoined
import GoSem.ClaimMapViews
import Derived.JoinedTies
import Derived.KernelRfl
namespace Go.Proofs.Ytcibhngcpihecaa
/- THE CELL 'sum', in the pinned program and in every row, IS THE sha256 OF THE DUMP (.gsa) THAT YtcibhngcpihecaaProg.lean LOADS. Nothing in Lean hashes anything: it is a label: what it is worth is what the hold of that sum in a sandbox is worth. -/
noncomputable def Try.pinned : Pinned := { name := "ytcibhngcpihecaa", sum := "bcae51711dc4a67081cb0805e2b2980d48dd3c52495a6985a920249626634cb1", checked := Try.checked }
namespace Rows
def none {H : Type} : Left H := { results := [], args := [] }

/-- 'quintainlaw3.CrcAll': WHATEVER THE INPUT: true; the input reads as it did. -/
def crcAllSpec : ChangeSpec := { name := "crcAll", fn := fun _ => fun
  | [d1, d2] => { results := [.lit (.bool true)], args := [d1, d2] }
  | _ => none }
def crcAllRow : OpenClaim := { program := "ytcibhngcpihecaa", sum := "bcae51711dc4a67081cb0805e2b2980d48dd3c52495a6985a920249626634cb1", func := "quintain/quintainlaw3.CrcAll", spec := "crcAll", apart := false }
def CrcAllSaid : Prop := crcAllRow.holds Try.pinned (OpenSpec.ofChange crcAllSpec)

/-- ITS FALSE NEIGHBOUR: 'it returns false'. Refute it at one input. -/
def crcAllWrong : ChangeSpec := { name := "crcAll", fn := fun _ => fun
  | [d1, d2] => { results := [.lit (.bool false)], args := [d1, d2] }
  | _ => none }
def CrcAllWrongFalsely : Prop := crcAllRow.holds Try.pinned (OpenSpec.ofChange crcAllWrong)

/-- 'quintainlaw3.CrcBurst': WHATEVER THE INPUT: true; the input reads as it did. -/
def crcBurstSpec : ChangeSpec := { name := "crcBurst", fn := fun _ => fun
  | [d1, d2, d3] => { results := [.lit (.bool true)], args := [d1, d2, d3] }
  | _ => none }
def crcBurstRow : OpenClaim := { program := "ytcibhngcpihecaa", sum := "bcae51711dc4a67081cb0805e2b2980d48dd3c52495a6985a920249626634cb1", func := "quintain/quintainlaw3.CrcBurst", spec := "crcBurst", apart := false }
def CrcBurstSaid : Prop := crcBurstRow.holds Try.pinned (OpenSpec.ofChange crcBurstSpec)

/-- ITS FALSE NEIGHBOUR: 'it returns false'. Refute it at one input. -/
def crcBurstWrong : ChangeSpec := { name := "crcBurst", fn := fun _ => fun
  | [d1, d2, d3] => { results := [.lit (.bool false)], args := [d1, d2, d3] }
  | _ => none }
def CrcBurstWrongFalsely : Prop := crcBurstRow.holds Try.pinned (OpenSpec.ofChange crcBurstWrong)

/-- 'quintainlaw3.CrcThree': WHATEVER THE INPUT: true; the input reads as it did. -/
def crcThreeSpec : ChangeSpec := { name := "crcThree", fn := fun _ => fun
  | [d1, d2, d3] => { results := [.lit (.bool true)], args := [d1, d2, d3] }
  | _ => none }
def crcThreeRow : OpenClaim := { program := "ytcibhngcpihecaa", sum := "bcae51711dc4a67081cb0805e2b2980d48dd3c52495a6985a920249626634cb1", func := "quintain/quintainlaw3.CrcThree", spec := "crcThree", apart := false }
def CrcThreeSaid : Prop := crcThreeRow.holds Try.pinned (OpenSpec.ofChange crcThreeSpec)

/-- ITS FALSE NEIGHBOUR: 'it returns false'. Refute it at one input. -/
def crcThreeWrong : ChangeSpec := { name := "crcThree", fn := fun _ => fun
  | [d1, d2, d3] => { results := [.lit (.bool false)], args := [d1, d2, d3] }
  | _ => none }
def CrcThreeWrongFalsely : Prop := crcThreeRow.holds Try.pinned (OpenSpec.ofChange crcThreeWrong)

/-- 'quintainlaw3.CrcMany': WHATEVER THE INPUT: true; the input reads as it did. -/
def crcManySpec : ChangeSpec := { name := "crcMany", fn := fun _ => fun
  | [d1, d2] => { results := [.lit (.bool true)], args := [d1, d2] }
  | _ => none }
def crcManyRow : OpenClaim := { program := "ytcibhngcpihecaa", sum := "bcae51711dc4a67081cb0805e2b2980d48dd3c52495a6985a920249626634cb1", func := "quintain/quintainlaw3.CrcMany", spec := "crcMany", apart := false }
def CrcManySaid : Prop := crcManyRow.holds Try.pinned (OpenSpec.ofChange crcManySpec)

/-- ITS FALSE NEIGHBOUR: 'it returns false'. Refute it at one input. -/
def crcManyWrong : ChangeSpec := { name := "crcMany", fn := fun _ => fun
  | [d1, d2] => { results := [.lit (.bool false)], args := [d1, d2] }
  | _ => none }
def CrcManyWrongFalsely : Prop := crcManyRow.holds Try.pinned (OpenSpec.ofChange crcManyWrong)

/-- 'quintainlaw4.WordAll': WHATEVER THE INPUT: true; the input reads as it did. -/
def wordAllSpec : ChangeSpec := { name := "wordAll", fn := fun _ => fun
  | [d1, d2, d3, d4] => { results := [.lit (.bool true)], args := [d1, d2, d3, d4] }
  | _ => none }
def wordAllRow : OpenClaim := { program := "ytcibhngcpihecaa", sum := "bcae51711dc4a67081cb0805e2b2980d48dd3c52495a6985a920249626634cb1", func := "quintain/quintainlaw4.WordAll", spec := "wordAll", apart := false }
def WordAllSaid : Prop := wordAllRow.holds Try.pinned (OpenSpec.ofChange wordAllSpec)

/-- ITS FALSE NEIGHBOUR: 'it returns false'. Refute it at one input. -/
def wordAllWrong : ChangeSpec := { name := "wordAll", fn := fun _ => fun
  | [d1, d2, d3, d4] => { results := [.lit (.bool false)], args := [d1, d2, d3, d4] }
  | _ => none }
def WordAllWrongFalsely : Prop := wordAllRow.holds Try.pinned (OpenSpec.ofChange wordAllWrong)

/-- 'quintainlaw4.WordRing': WHATEVER THE INPUT: true; the input reads as it did. -/
def wordRingSpec : ChangeSpec := { name := "wordRing", fn := fun _ => fun
  | [d1, d2, d3] => { results := [.lit (.bool true)], args := [d1, d2, d3] }
  | _ => none }
def wordRingRow : OpenClaim := { program := "ytcibhngcpihecaa", sum := "bcae51711dc4a67081cb0805e2b2980d48dd3c52495a6985a920249626634cb1", func := "quintain/quintainlaw4.WordRing", spec := "wordRing", apart := false }
def WordRingSaid : Prop := wordRingRow.holds Try.pinned (OpenSpec.ofChange wordRingSpec)

/-- ITS FALSE NEIGHBOUR: 'it returns false'. Refute it at one input. -/
def wordRingWrong : ChangeSpec := { name := "wordRing", fn := fun _ => fun
  | [d1, d2, d3] => { results := [.lit (.bool false)], args := [d1, d2, d3] }
  | _ => none }
def WordRingWrongFalsely : Prop := wordRingRow.holds Try.pinned (OpenSpec.ofChange wordRingWrong)

/-- 'quintainlaw4.WordDiv': WHATEVER THE INPUT: true; the input reads as it did. -/
def wordDivSpec : ChangeSpec := { name := "wordDiv", fn := fun _ => fun
  | [d1, d2] => { results := [.lit (.bool true)], args := [d1, d2] }
  | _ => none }
def wordDivRow : OpenClaim := { program := "ytcibhngcpihecaa", sum := "bcae51711dc4a67081cb0805e2b2980d48dd3c52495a6985a920249626634cb1", func := "quintain/quintainlaw4.WordDiv", spec := "wordDiv", apart := false }
def WordDivSaid : Prop := wordDivRow.holds Try.pinned (OpenSpec.ofChange wordDivSpec)

/-- ITS FALSE NEIGHBOUR: 'it returns false'. Refute it at one input. -/
def wordDivWrong : ChangeSpec := { name := "wordDiv", fn := fun _ => fun
  | [d1, d2] => { results := [.lit (.bool false)], args := [d1, d2] }
  | _ => none }
def WordDivWrongFalsely : Prop := wordDivRow.holds Try.pinned (OpenSpec.ofChange wordDivWrong)

/-- 'quintainlaw4.WordMod': WHATEVER THE INPUT: true; the input reads as it did. -/
def wordModSpec : ChangeSpec := { name := "wordMod", fn := fun _ => fun
  | [d1, d2, d3] => { results := [.lit (.bool true)], args := [d1, d2, d3] }
  | _ => none }
def wordModRow : OpenClaim := { program := "ytcibhngcpihecaa", sum := "bcae51711dc4a67081cb0805e2b2980d48dd3c52495a6985a920249626634cb1", func := "quintain/quintainlaw4.WordMod", spec := "wordMod", apart := false }
def WordModSaid : Prop := wordModRow.holds Try.pinned (OpenSpec.ofChange wordModSpec)

/-- ITS FALSE NEIGHBOUR: 'it returns false'. Refute it at one input. -/
def wordModWrong : ChangeSpec := { name := "wordMod", fn := fun _ => fun
  | [d1, d2, d3] => { results := [.lit (.bool false)], args := [d1, d2, d3] }
  | _ => none }
def WordModWrongFalsely : Prop := wordModRow.holds Try.pinned (OpenSpec.ofChange wordModWrong)

/-- 'quintainlaw4.WordOrder': WHATEVER THE INPUT: true; the input reads as it did. -/
def wordOrderSpec : ChangeSpec := { name := "wordOrder", fn := fun _ => fun
  | [d1, d2] => { results := [.lit (.bool true)], args := [d1, d2] }
  | _ => none }
def wordOrderRow : OpenClaim := { program := "ytcibhngcpihecaa", sum := "bcae51711dc4a67081cb0805e2b2980d48dd3c52495a6985a920249626634cb1", func := "quintain/quintainlaw4.WordOrder", spec := "wordOrder", apart := false }
def WordOrderSaid : Prop := wordOrderRow.holds Try.pinned (OpenSpec.ofChange wordOrderSpec)

/-- ITS FALSE NEIGHBOUR: 'it returns false'. Refute it at one input. -/
def wordOrderWrong : ChangeSpec := { name := "wordOrder", fn := fun _ => fun
  | [d1, d2] => { results := [.lit (.bool false)], args := [d1, d2] }
  | _ => none }
def WordOrderWrongFalsely : Prop := wordOrderRow.holds Try.pinned (OpenSpec.ofChange wordOrderWrong)

/- THE SECOND FORM. 'bulk': how many values and letters a reading holds, each counted each time it is reached (what is shared counts as often as it is met; a slice's spare places count too). A statement '..UptoSaid' is the law's where the arguments, and the package variables that the reading takes, are together of bulk at most 1048576: NARROWER than '..Said'. Prove '..Said' where nothing that the law and all that it calls make is longer than what came in: it says more and counts as full. Else prove '..UptoSaid'. A law counts once. -/
mutual
def uptoBulk {H : Type} : DataW H → Nat
  | .lit (.string bytes) => bytes.length + 1
  | .lit _ => 1
  | .nil => 1
  | .ptr d => uptoBulk d + 1
  | .slice elems spare => uptoBulkAll elems + uptoBulkAll spare + 1
  | .agg parts => uptoBulkAll parts + 1
  | .iface _ d => uptoBulk d + 1
  | .map entries => uptoBulkEntries entries + 1
  | .held _ => 1
def uptoBulkAll {H : Type} : List (DataW H) → Nat
  | [] => 0
  | d :: r => uptoBulk d + uptoBulkAll r
def uptoBulkEntries {H : Type} : List (Lit × DataW H) → Nat
  | [] => 0
  | x :: r => uptoBulkEntry x + uptoBulkEntries r
def uptoBulkEntry {H : Type} : Lit × DataW H → Nat
  | (.string bytes, d) => bytes.length + uptoBulk d + 1
  | (_, d) => uptoBulk d + 1
 end
def uptoSmall : (H : Type) → List (DataW H) → Bool := fun _ ds => decide (uptoBulkAll ds ≤ 1048576)
def OpenSpec.upto (s : _root_.Go.ChangeSpec) : _root_.Go.OpenSpec := { _root_.Go.OpenSpec.ofChange s with cond := some uptoSmall }

/-- 'quintainlaw3.CrcAll', WHERE WHAT IT READS IS OF BULK AT MOST 1048576: true; the input reads as it did. -/
def crcAllUptoRow : OpenClaim := { program := "ytcibhngcpihecaa", sum := "bcae51711dc4a67081cb0805e2b2980d48dd3c52495a6985a920249626634cb1", func := "quintain/quintainlaw3.CrcAll", spec := "crcAll", apart := false, narrowed := true }
def CrcAllUptoSaid : Prop := crcAllUptoRow.holds Try.pinned (OpenSpec.upto crcAllSpec)

/-- 'quintainlaw3.CrcBurst', WHERE WHAT IT READS IS OF BULK AT MOST 1048576: true; the input reads as it did. -/
def crcBurstUptoRow : OpenClaim := { program := "ytcibhngcpihecaa", sum := "bcae51711dc4a67081cb0805e2b2980d48dd3c52495a6985a920249626634cb1", func := "quintain/quintainlaw3.CrcBurst", spec := "crcBurst", apart := false, narrowed := true }
def CrcBurstUptoSaid : Prop := crcBurstUptoRow.holds Try.pinned (OpenSpec.upto crcBurstSpec)

/-- 'quintainlaw3.CrcThree', WHERE WHAT IT READS IS OF BULK AT MOST 1048576: true; the input reads as it did. -/
def crcThreeUptoRow : OpenClaim := { program := "ytcibhngcpihecaa", sum := "bcae51711dc4a67081cb0805e2b2980d48dd3c52495a6985a920249626634cb1", func := "quintain/quintainlaw3.CrcThree", spec := "crcThree", apart := false, narrowed := true }
def CrcThreeUptoSaid : Prop := crcThreeUptoRow.holds Try.pinned (OpenSpec.upto crcThreeSpec)

/-- 'quintainlaw3.CrcMany', WHERE WHAT IT READS IS OF BULK AT MOST 1048576: true; the input reads as it did. -/
def crcManyUptoRow : OpenClaim := { program := "ytcibhngcpihecaa", sum := "bcae51711dc4a67081cb0805e2b2980d48dd3c52495a6985a920249626634cb1", func := "quintain/quintainlaw3.CrcMany", spec := "crcMany", apart := false, narrowed := true }
def CrcManyUptoSaid : Prop := crcManyUptoRow.holds Try.pinned (OpenSpec.upto crcManySpec)

/-- 'quintainlaw4.WordAll', WHERE WHAT IT READS IS OF BULK AT MOST 1048576: true; the input reads as it did. -/
def wordAllUptoRow : OpenClaim := { program := "ytcibhngcpihecaa", sum := "bcae51711dc4a67081cb0805e2b2980d48dd3c52495a6985a920249626634cb1", func := "quintain/quintainlaw4.WordAll", spec := "wordAll", apart := false, narrowed := true }
def WordAllUptoSaid : Prop := wordAllUptoRow.holds Try.pinned (OpenSpec.upto wordAllSpec)

/-- 'quintainlaw4.WordRing', WHERE WHAT IT READS IS OF BULK AT MOST 1048576: true; the input reads as it did. -/
def wordRingUptoRow : OpenClaim := { program := "ytcibhngcpihecaa", sum := "bcae51711dc4a67081cb0805e2b2980d48dd3c52495a6985a920249626634cb1", func := "quintain/quintainlaw4.WordRing", spec := "wordRing", apart := false, narrowed := true }
def WordRingUptoSaid : Prop := wordRingUptoRow.holds Try.pinned (OpenSpec.upto wordRingSpec)

/-- 'quintainlaw4.WordDiv', WHERE WHAT IT READS IS OF BULK AT MOST 1048576: true; the input reads as it did. -/
def wordDivUptoRow : OpenClaim := { program := "ytcibhngcpihecaa", sum := "bcae51711dc4a67081cb0805e2b2980d48dd3c52495a6985a920249626634cb1", func := "quintain/quintainlaw4.WordDiv", spec := "wordDiv", apart := false, narrowed := true }
def WordDivUptoSaid : Prop := wordDivUptoRow.holds Try.pinned (OpenSpec.upto wordDivSpec)

/-- 'quintainlaw4.WordMod', WHERE WHAT IT READS IS OF BULK AT MOST 1048576: true; the input reads as it did. -/
def wordModUptoRow : OpenClaim := { program := "ytcibhngcpihecaa", sum := "bcae51711dc4a67081cb0805e2b2980d48dd3c52495a6985a920249626634cb1", func := "quintain/quintainlaw4.WordMod", spec := "wordMod", apart := false, narrowed := true }
def WordModUptoSaid : Prop := wordModUptoRow.holds Try.pinned (OpenSpec.upto wordModSpec)

/-- 'quintainlaw4.WordOrder', WHERE WHAT IT READS IS OF BULK AT MOST 1048576: true; the input reads as it did. -/
def wordOrderUptoRow : OpenClaim := { program := "ytcibhngcpihecaa", sum := "bcae51711dc4a67081cb0805e2b2980d48dd3c52495a6985a920249626634cb1", func := "quintain/quintainlaw4.WordOrder", spec := "wordOrder", apart := false, narrowed := true }
def WordOrderUptoSaid : Prop := wordOrderUptoRow.holds Try.pinned (OpenSpec.upto wordOrderSpec)

end Rows
end Go.Proofs.Ytcibhngcpihecaa
