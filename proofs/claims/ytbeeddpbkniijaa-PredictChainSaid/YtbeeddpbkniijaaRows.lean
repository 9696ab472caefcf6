/-
  No cell of these rows narrows 'for every input' (looked for: loops, veiled, ifaces, maps, wideKeys, modest, calm, conditions, laid).
  DERIVED. THE GIVEN ROWS OF THIS SEAT. 8 by the template 'for every input the law returns true; each argument reads behind the call as it read before'; 0 by the template 'total and deterministic' (their statements: YtbeeddpbkniijaaTotals.lean).
  GIVEN WITH THE SEED: the statements are not yours to turn. If you find one false, say at which input.
  Laid BY PROGRAM, IN A SANDBOX (cutbox-rows.mjs): the forced cells as the released guide's own fill.sh prints them over the translation 17faea26c24119b9… (all of the seat's roots in one cut). By AI agents, Wed Nov 11 2026. No macro, syntax, notation, axiom, sorry.
-/
import Derived.Test.YtbeeddpbkniijaaChecked
import GoSem.Claim
import GoSem.ClaimJoined
import GoSem.ClaimMapViews
import Derived.JoinedTies
import Derived.KernelRfl
namespace Go.Proofs.Ytbeeddpbkniijaa
/- THE CELL 'sum', in the pinned program and in every row, IS THE sha256 OF THE DUMP (.gsa) THAT YtbeeddpbkniijaaProg.lean LOADS. Nothing in Lean hashes anything: it is a label: what it is worth is what the hold of that sum in a sandbox is worth. -/
noncomputable def Try.pinned : Pinned := { name := "ytbeeddpbkniijaa", sum := "17faea26c24119b9697f5af686029e3d183f071a990037cf8e5418d72059e1a8", checked := Try.checked }
namespace Rows
def none {H : Type} : Left H := { results := [], args := [] }

/-- 'quintainlaw18.PredictAll': WHATEVER THE INPUT: true; the input reads as it did. -/
def predictAllSpec : ChangeSpec := { name := "predictAll", fn := fun _ => fun
  | [d1, d2, d3, d4] => { results := [.lit (.bool true)], args := [d1, d2, d3, d4] }
  | _ => none }
def predictAllRow : OpenClaim := { program := "ytbeeddpbkniijaa", sum := "17faea26c24119b9697f5af686029e3d183f071a990037cf8e5418d72059e1a8", func := "quintain/quintainlaw18.PredictAll", spec := "predictAll", unfollowed := true, recurses := true, apart := false }
def PredictAllSaid : Prop := predictAllRow.holds Try.pinned (OpenSpec.ofChange predictAllSpec)

/-- ITS FALSE NEIGHBOUR: 'it returns false'. Refute it at one input. -/
def predictAllWrong : ChangeSpec := { name := "predictAll", fn := fun _ => fun
  | [d1, d2, d3, d4] => { results := [.lit (.bool false)], args := [d1, d2, d3, d4] }
  | _ => none }
def PredictAllWrongFalsely : Prop := predictAllRow.holds Try.pinned (OpenSpec.ofChange predictAllWrong)

/-- 'quintainlaw18.PredictOrder': WHATEVER THE INPUT: true; the input reads as it did. -/
def predictOrderSpec : ChangeSpec := { name := "predictOrder", fn := fun _ => fun
  | [d1, d2, d3] => { results := [.lit (.bool true)], args := [d1, d2, d3] }
  | _ => none }
def predictOrderRow : OpenClaim := { program := "ytbeeddpbkniijaa", sum := "17faea26c24119b9697f5af686029e3d183f071a990037cf8e5418d72059e1a8", func := "quintain/quintainlaw18.PredictOrder", spec := "predictOrder", unfollowed := true, recurses := true, apart := false }
def PredictOrderSaid : Prop := predictOrderRow.holds Try.pinned (OpenSpec.ofChange predictOrderSpec)

/-- ITS FALSE NEIGHBOUR: 'it returns false'. Refute it at one input. -/
def predictOrderWrong : ChangeSpec := { name := "predictOrder", fn := fun _ => fun
  | [d1, d2, d3] => { results := [.lit (.bool false)], args := [d1, d2, d3] }
  | _ => none }
def PredictOrderWrongFalsely : Prop := predictOrderRow.holds Try.pinned (OpenSpec.ofChange predictOrderWrong)

/-- 'quintainlaw18.PredictLast': WHATEVER THE INPUT: true; the input reads as it did. -/
def predictLastSpec : ChangeSpec := { name := "predictLast", fn := fun _ => fun
  | [d1, d2] => { results := [.lit (.bool true)], args := [d1, d2] }
  | _ => none }
def predictLastRow : OpenClaim := { program := "ytbeeddpbkniijaa", sum := "17faea26c24119b9697f5af686029e3d183f071a990037cf8e5418d72059e1a8", func := "quintain/quintainlaw18.PredictLast", spec := "predictLast", unfollowed := true, recurses := true, apart := false }
def PredictLastSaid : Prop := predictLastRow.holds Try.pinned (OpenSpec.ofChange predictLastSpec)

/-- ITS FALSE NEIGHBOUR: 'it returns false'. Refute it at one input. -/
def predictLastWrong : ChangeSpec := { name := "predictLast", fn := fun _ => fun
  | [d1, d2] => { results := [.lit (.bool false)], args := [d1, d2] }
  | _ => none }
def PredictLastWrongFalsely : Prop := predictLastRow.holds Try.pinned (OpenSpec.ofChange predictLastWrong)

/-- 'quintainlaw18.PredictTable': WHATEVER THE INPUT: true; the input reads as it did. -/
def predictTableSpec : ChangeSpec := { name := "predictTable", fn := fun _ => fun
  | [d1, d2, d3] => { results := [.lit (.bool true)], args := [d1, d2, d3] }
  | _ => none }
def predictTableRow : OpenClaim := { program := "ytbeeddpbkniijaa", sum := "17faea26c24119b9697f5af686029e3d183f071a990037cf8e5418d72059e1a8", func := "quintain/quintainlaw18.PredictTable", spec := "predictTable", unfollowed := true, recurses := true, apart := false }
def PredictTableSaid : Prop := predictTableRow.holds Try.pinned (OpenSpec.ofChange predictTableSpec)

/-- ITS FALSE NEIGHBOUR: 'it returns false'. Refute it at one input. -/
def predictTableWrong : ChangeSpec := { name := "predictTable", fn := fun _ => fun
  | [d1, d2, d3] => { results := [.lit (.bool false)], args := [d1, d2, d3] }
  | _ => none }
def PredictTableWrongFalsely : Prop := predictTableRow.holds Try.pinned (OpenSpec.ofChange predictTableWrong)

/-- 'quintainlaw18.PredictRound': WHATEVER THE INPUT: true; the input reads as it did. -/
def predictRoundSpec : ChangeSpec := { name := "predictRound", fn := fun _ => fun
  | [d1, d2, d3] => { results := [.lit (.bool true)], args := [d1, d2, d3] }
  | _ => none }
def predictRoundRow : OpenClaim := { program := "ytbeeddpbkniijaa", sum := "17faea26c24119b9697f5af686029e3d183f071a990037cf8e5418d72059e1a8", func := "quintain/quintainlaw18.PredictRound", spec := "predictRound", unfollowed := true, recurses := true, apart := false }
def PredictRoundSaid : Prop := predictRoundRow.holds Try.pinned (OpenSpec.ofChange predictRoundSpec)

/-- ITS FALSE NEIGHBOUR: 'it returns false'. Refute it at one input. -/
def predictRoundWrong : ChangeSpec := { name := "predictRound", fn := fun _ => fun
  | [d1, d2, d3] => { results := [.lit (.bool false)], args := [d1, d2, d3] }
  | _ => none }
def PredictRoundWrongFalsely : Prop := predictRoundRow.holds Try.pinned (OpenSpec.ofChange predictRoundWrong)

/-- 'quintainlaw18.PredictChain': WHATEVER THE INPUT: true; the input reads as it did. -/
def predictChainSpec : ChangeSpec := { name := "predictChain", fn := fun _ => fun
  | [d1, d2, d3, d4] => { results := [.lit (.bool true)], args := [d1, d2, d3, d4] }
  | _ => none }
def predictChainRow : OpenClaim := { program := "ytbeeddpbkniijaa", sum := "17faea26c24119b9697f5af686029e3d183f071a990037cf8e5418d72059e1a8", func := "quintain/quintainlaw18.PredictChain", spec := "predictChain", unfollowed := true, recurses := true, apart := false }
def PredictChainSaid : Prop := predictChainRow.holds Try.pinned (OpenSpec.ofChange predictChainSpec)

/-- ITS FALSE NEIGHBOUR: 'it returns false'. Refute it at one input. -/
def predictChainWrong : ChangeSpec := { name := "predictChain", fn := fun _ => fun
  | [d1, d2, d3, d4] => { results := [.lit (.bool false)], args := [d1, d2, d3, d4] }
  | _ => none }
def PredictChainWrongFalsely : Prop := predictChainRow.holds Try.pinned (OpenSpec.ofChange predictChainWrong)

/-- 'quintainlaw18.PredictCounts': WHATEVER THE INPUT: true; the input reads as it did. -/
def predictCountsSpec : ChangeSpec := { name := "predictCounts", fn := fun _ => fun
  | [d1, d2, d3, d4] => { results := [.lit (.bool true)], args := [d1, d2, d3, d4] }
  | _ => none }
def predictCountsRow : OpenClaim := { program := "ytbeeddpbkniijaa", sum := "17faea26c24119b9697f5af686029e3d183f071a990037cf8e5418d72059e1a8", func := "quintain/quintainlaw18.PredictCounts", spec := "predictCounts", unfollowed := true, recurses := true, apart := false }
def PredictCountsSaid : Prop := predictCountsRow.holds Try.pinned (OpenSpec.ofChange predictCountsSpec)

/-- ITS FALSE NEIGHBOUR: 'it returns false'. Refute it at one input. -/
def predictCountsWrong : ChangeSpec := { name := "predictCounts", fn := fun _ => fun
  | [d1, d2, d3, d4] => { results := [.lit (.bool false)], args := [d1, d2, d3, d4] }
  | _ => none }
def PredictCountsWrongFalsely : Prop := predictCountsRow.holds Try.pinned (OpenSpec.ofChange predictCountsWrong)

/-- 'quintainlaw18.PredictMay': WHATEVER THE INPUT: true; the input reads as it did. -/
def predictMaySpec : ChangeSpec := { name := "predictMay", fn := fun _ => fun
  | [d1, d2, d3] => { results := [.lit (.bool true)], args := [d1, d2, d3] }
  | _ => none }
def predictMayRow : OpenClaim := { program := "ytbeeddpbkniijaa", sum := "17faea26c24119b9697f5af686029e3d183f071a990037cf8e5418d72059e1a8", func := "quintain/quintainlaw18.PredictMay", spec := "predictMay", unfollowed := true, recurses := true, apart := false }
def PredictMaySaid : Prop := predictMayRow.holds Try.pinned (OpenSpec.ofChange predictMaySpec)

/-- ITS FALSE NEIGHBOUR: 'it returns false'. Refute it at one input. -/
def predictMayWrong : ChangeSpec := { name := "predictMay", fn := fun _ => fun
  | [d1, d2, d3] => { results := [.lit (.bool false)], args := [d1, d2, d3] }
  | _ => none }
def PredictMayWrongFalsely : Prop := predictMayRow.holds Try.pinned (OpenSpec.ofChange predictMayWrong)

/- THE SECOND FORM. 'bulk': how many values and letters a reading holds, each counted each time it is reached (what is shared counts as often as it is met; a slice's spare places count too). A statement '..UptoSaid' is the law's where the arguments, and the package variables that the reading takes, are together of bulk at most 1048576: NARROWER than '..Said'. Prove '..Said' where nothing that the law and all that it calls make is longer than what came in: it says more and counts as full. Else prove '..UptoSaid'. A law counts once. -/
mutual
def uptoBulk {H : Type} : DataW H → Nat
  | .lit (.string bytes) => bytes.length + 1
  | .lit _ => 1
  | .nil => 1
  | .ptr d => uptoBulk d + 1
  | .slice elems spare => uptoBulkAll elems + uptoBulkAll spare + 1
  | .agg parts => uptoBulkAll parts + 1
  | .iface _ d => uptoBulk d + 1
  | .map entries => uptoBulkEntries entries + 1
  | .held _ => 1
def uptoBulkAll {H : Type} : List (DataW H) → Nat
  | [] => 0
  | d :: r => uptoBulk d + uptoBulkAll r
def uptoBulkEntries {H : Type} : List (Lit × DataW H) → Nat
  | [] => 0
  | x :: r => uptoBulkEntry x + uptoBulkEntries r
def uptoBulkEntry {H : Type} : Lit × DataW H → Nat
  | (.string bytes, d) => bytes.length + uptoBulk d + 1
  | (_, d) => uptoBulk d + 1
 end
def uptoSmall : (H : Type) → List (DataW H) → Bool := fun _ ds => decide (uptoBulkAll ds ≤ 1048576)
def OpenSpec.upto (s : _root_.Go.ChangeSpec) : _root_.Go.OpenSpec := { _root_.Go.OpenSpec.ofChange s with cond := some uptoSmall }

/-- 'quintainlaw18.PredictAll', WHERE WHAT IT READS IS OF BULK AT MOST 1048576: true; the input reads as it did. -/
def predictAllUptoRow : OpenClaim := { program := "ytbeeddpbkniijaa", sum := "17faea26c24119b9697f5af686029e3d183f071a990037cf8e5418d72059e1a8", func := "quintain/quintainlaw18.PredictAll", spec := "predictAll", unfollowed := true, recurses := true, apart := false, narrowed := true }
def PredictAllUptoSaid : Prop := predictAllUptoRow.holds Try.pinned (OpenSpec.upto predictAllSpec)

/-- 'quintainlaw18.PredictOrder', WHERE WHAT IT READS IS OF BULK AT MOST 1048576: true; the input reads as it did. -/
def predictOrderUptoRow : OpenClaim := { program := "ytbeeddpbkniijaa", sum := "17faea26c24119b9697f5af686029e3d183f071a990037cf8e5418d72059e1a8", func := "quintain/quintainlaw18.PredictOrder", spec := "predictOrder", unfollowed := true, recurses := true, apart := false, narrowed := true }
def PredictOrderUptoSaid : Prop := predictOrderUptoRow.holds Try.pinned (OpenSpec.upto predictOrderSpec)

/-- 'quintainlaw18.PredictLast', WHERE WHAT IT READS IS OF BULK AT MOST 1048576: true; the input reads as it did. -/
def predictLastUptoRow : OpenClaim := { program := "ytbeeddpbkniijaa", sum := "17faea26c24119b9697f5af686029e3d183f071a990037cf8e5418d72059e1a8", func := "quintain/quintainlaw18.PredictLast", spec := "predictLast", unfollowed := true, recurses := true, apart := false, narrowed := true }
def PredictLastUptoSaid : Prop := predictLastUptoRow.holds Try.pinned (OpenSpec.upto predictLastSpec)

/-- 'quintainlaw18.PredictTable', WHERE WHAT IT READS IS OF BULK AT MOST 1048576: true; the input reads as it did. -/
def predictTableUptoRow : OpenClaim := { program := "ytbeeddpbkniijaa", sum := "17faea26c24119b9697f5af686029e3d183f071a990037cf8e5418d72059e1a8", func := "quintain/quintainlaw18.PredictTable", spec := "predictTable", unfollowed := true, recurses := true, apart := false, narrowed := true }
def PredictTableUptoSaid : Prop := predictTableUptoRow.holds Try.pinned (OpenSpec.upto predictTableSpec)

/-- 'quintainlaw18.PredictRound', WHERE WHAT IT READS IS OF BULK AT MOST 1048576: true; the input reads as it did. -/
def predictRoundUptoRow : OpenClaim := { program := "ytbeeddpbkniijaa", sum := "17faea26c24119b9697f5af686029e3d183f071a990037cf8e5418d72059e1a8", func := "quintain/quintainlaw18.PredictRound", spec := "predictRound", unfollowed := true, recurses := true, apart := false, narrowed := true }
def PredictRoundUptoSaid : Prop := predictRoundUptoRow.holds Try.pinned (OpenSpec.upto predictRoundSpec)

/-- 'quintainlaw18.PredictChain', WHERE WHAT IT READS IS OF BULK AT MOST 1048576: true; the input reads as it did. -/
def predictChainUptoRow : OpenClaim := { program := "ytbeeddpbkniijaa", sum := "17faea26c24119b9697f5af686029e3d183f071a990037cf8e5418d72059e1a8", func := "quintain/quintainlaw18.PredictChain", spec := "predictChain", unfollowed := true, recurses := true, apart := false, narrowed := true }
def PredictChainUptoSaid : Prop := predictChainUptoRow.holds Try.pinned (OpenSpec.upto predictChainSpec)

/-- 'quintainlaw18.PredictCounts', WHERE WHAT IT READS IS OF BULK AT MOST 1048576: true; the input reads as it did. -/
def predictCountsUptoRow : OpenClaim := { program := "ytbeeddpbkniijaa", sum := "17faea26c24119b9697f5af686029e3d183f071a990037cf8e5418d72059e1a8", func := "quintain/quintainlaw18.PredictCounts", spec := "predictCounts", unfollowed := true, recurses := true, apart := false, narrowed := true }
def PredictCountsUptoSaid : Prop := predictCountsUptoRow.holds Try.pinned (OpenSpec.upto predictCountsSpec)

/-- 'quintainlaw18.PredictMay', WHERE WHAT IT READS IS OF BULK AT MOST 1048576: true; the input reads as it did. -/
def predictMayUptoRow : OpenClaim := { program := "ytbeeddpbkniijaa", sum := "17faea26c24119b9697f5af686029e3d183f071a990037cf8e5418d72059e1a8", func := "quintain/quintainlaw18.PredictMay", spec := "predictMay", unfollowed := true, recurses := true, apart := false, narrowed := true }
def PredictMayUptoSaid : Prop := predictMayUptoRow.holds Try.pinned (OpenSpec.upto predictMaySpec)

end Rows
end Go.Proofs.Ytbeeddpbkniijaa
