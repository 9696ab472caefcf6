/-
  No cell of these rows narrows 'for every input' (looked for: loops, veiled, ifaces, maps, wideKeys, modest, calm, conditions, laid).
  DERIVED. THE GIVEN ROWS OF THIS SEAT. 10 by the template 'for every input the law returns true; each argument reads behind the call as it read before'; 0 by the template 'total and deterministic' (their statements: YtbcgffgiifminaaTotals.lean).
  GIVEN WITH THE SEED: the statements are not yours to turn. If you find one false, say at which input.
  Laid BY PROGRAM, IN A SANDBOX (cutbox-rows.mjs): the forced cells as the released guide's own fill.sh prints them over the translation a0cad501ce602a63… (all of the seat's roots in one cut). By AI agents, Wed Nov 11 2026. No macro, syntax, notation, axiom, sorry.
-/
import Derived.Test.YtbcgffgiifminaaChecked
import GoSem.Claim
import GoSem.ClaimJoined
import GoSem.ClaimMapViews
import Derived.JoinedTies
import Derived.KernelRfl
namespace Go.Proofs.Ytbcgffgiifminaa
/- THE CELL 'sum', in the pinned program and in every row, IS THE sha256 OF THE DUMP (.gsa) THAT YtbcgffgiifminaaProg.lean LOADS. Nothing in Lean hashes anything: it is a label: what it is worth is what the hold of that sum in a sandbox is worth. -/
noncomputable def Try.pinned : Pinned := { name := "ytbcgffgiifminaa", sum := "a0cad501ce602a63c71c80cd7bf9f0f9c9095d9baa0f8327ef055de388a1685f", checked := Try.checked }
namespace Rows
def none {H : Type} : Left H := { results := [], args := [] }

/-- 'quintainlaw21.CoreStall': WHATEVER THE INPUT: true; the input reads as it did. -/
def coreStallSpec : ChangeSpec := { name := "coreStall", fn := fun _ => fun
  | [d1, d2, d3] => { results := [.lit (.bool true)], args := [d1, d2, d3] }
  | _ => none }
def coreStallRow : OpenClaim := { program := "ytbcgffgiifminaa", sum := "a0cad501ce602a63c71c80cd7bf9f0f9c9095d9baa0f8327ef055de388a1685f", func := "quintain/quintainlaw21.CoreStall", spec := "coreStall", apart := false }
def CoreStallSaid : Prop := coreStallRow.holds Try.pinned (OpenSpec.ofChange coreStallSpec)

/-- ITS FALSE NEIGHBOUR: 'it returns false'. Refute it at one input. -/
def coreStallWrong : ChangeSpec := { name := "coreStall", fn := fun _ => fun
  | [d1, d2, d3] => { results := [.lit (.bool false)], args := [d1, d2, d3] }
  | _ => none }
def CoreStallWrongFalsely : Prop := coreStallRow.holds Try.pinned (OpenSpec.ofChange coreStallWrong)

/-- 'quintainlaw21.CoreAgain': WHATEVER THE INPUT: true; the input reads as it did. -/
def coreAgainSpec : ChangeSpec := { name := "coreAgain", fn := fun _ => fun
  | [d1, d2] => { results := [.lit (.bool true)], args := [d1, d2] }
  | _ => none }
def coreAgainRow : OpenClaim := { program := "ytbcgffgiifminaa", sum := "a0cad501ce602a63c71c80cd7bf9f0f9c9095d9baa0f8327ef055de388a1685f", func := "quintain/quintainlaw21.CoreAgain", spec := "coreAgain", apart := false }
def CoreAgainSaid : Prop := coreAgainRow.holds Try.pinned (OpenSpec.ofChange coreAgainSpec)

/-- ITS FALSE NEIGHBOUR: 'it returns false'. Refute it at one input. -/
def coreAgainWrong : ChangeSpec := { name := "coreAgain", fn := fun _ => fun
  | [d1, d2] => { results := [.lit (.bool false)], args := [d1, d2] }
  | _ => none }
def CoreAgainWrongFalsely : Prop := coreAgainRow.holds Try.pinned (OpenSpec.ofChange coreAgainWrong)

/-- 'quintainlaw21.CoreSends': WHATEVER THE INPUT: true; the input reads as it did. -/
def coreSendsSpec : ChangeSpec := { name := "coreSends", fn := fun _ => fun
  | [d1, d2] => { results := [.lit (.bool true)], args := [d1, d2] }
  | _ => none }
def coreSendsRow : OpenClaim := { program := "ytbcgffgiifminaa", sum := "a0cad501ce602a63c71c80cd7bf9f0f9c9095d9baa0f8327ef055de388a1685f", func := "quintain/quintainlaw21.CoreSends", spec := "coreSends", apart := false }
def CoreSendsSaid : Prop := coreSendsRow.holds Try.pinned (OpenSpec.ofChange coreSendsSpec)

/-- ITS FALSE NEIGHBOUR: 'it returns false'. Refute it at one input. -/
def coreSendsWrong : ChangeSpec := { name := "coreSends", fn := fun _ => fun
  | [d1, d2] => { results := [.lit (.bool false)], args := [d1, d2] }
  | _ => none }
def CoreSendsWrongFalsely : Prop := coreSendsRow.holds Try.pinned (OpenSpec.ofChange coreSendsWrong)

/-- 'quintainlaw21.CoreOthers': WHATEVER THE INPUT: true; the input reads as it did. -/
def coreOthersSpec : ChangeSpec := { name := "coreOthers", fn := fun _ => fun
  | [d] => { results := [.lit (.bool true)], args := [d] }
  | _ => none }
def coreOthersRow : OpenClaim := { program := "ytbcgffgiifminaa", sum := "a0cad501ce602a63c71c80cd7bf9f0f9c9095d9baa0f8327ef055de388a1685f", func := "quintain/quintainlaw21.CoreOthers", spec := "coreOthers", apart := false }
def CoreOthersSaid : Prop := coreOthersRow.holds Try.pinned (OpenSpec.ofChange coreOthersSpec)

/-- ITS FALSE NEIGHBOUR: 'it returns false'. Refute it at one input. -/
def coreOthersWrong : ChangeSpec := { name := "coreOthers", fn := fun _ => fun
  | [d] => { results := [.lit (.bool false)], args := [d] }
  | _ => none }
def CoreOthersWrongFalsely : Prop := coreOthersRow.holds Try.pinned (OpenSpec.ofChange coreOthersWrong)

/-- 'quintainlaw21.CoreLate': WHATEVER THE INPUT: true; the input reads as it did. -/
def coreLateSpec : ChangeSpec := { name := "coreLate", fn := fun _ => fun
  | [d1, d2, d3] => { results := [.lit (.bool true)], args := [d1, d2, d3] }
  | _ => none }
def coreLateRow : OpenClaim := { program := "ytbcgffgiifminaa", sum := "a0cad501ce602a63c71c80cd7bf9f0f9c9095d9baa0f8327ef055de388a1685f", func := "quintain/quintainlaw21.CoreLate", spec := "coreLate", unfollowed := true, recurses := true, apart := false }
def CoreLateSaid : Prop := coreLateRow.holds Try.pinned (OpenSpec.ofChange coreLateSpec)

/-- ITS FALSE NEIGHBOUR: 'it returns false'. Refute it at one input. -/
def coreLateWrong : ChangeSpec := { name := "coreLate", fn := fun _ => fun
  | [d1, d2, d3] => { results := [.lit (.bool false)], args := [d1, d2, d3] }
  | _ => none }
def CoreLateWrongFalsely : Prop := coreLateRow.holds Try.pinned (OpenSpec.ofChange coreLateWrong)

/-- 'quintainlaw21.CoreWord': WHATEVER THE INPUT: true; the input reads as it did. -/
def coreWordSpec : ChangeSpec := { name := "coreWord", fn := fun _ => fun
  | [d1, d2, d3, d4] => { results := [.lit (.bool true)], args := [d1, d2, d3, d4] }
  | _ => none }
def coreWordRow : OpenClaim := { program := "ytbcgffgiifminaa", sum := "a0cad501ce602a63c71c80cd7bf9f0f9c9095d9baa0f8327ef055de388a1685f", func := "quintain/quintainlaw21.CoreWord", spec := "coreWord", apart := false }
def CoreWordSaid : Prop := coreWordRow.holds Try.pinned (OpenSpec.ofChange coreWordSpec)

/-- ITS FALSE NEIGHBOUR: 'it returns false'. Refute it at one input. -/
def coreWordWrong : ChangeSpec := { name := "coreWord", fn := fun _ => fun
  | [d1, d2, d3, d4] => { results := [.lit (.bool false)], args := [d1, d2, d3, d4] }
  | _ => none }
def CoreWordWrongFalsely : Prop := coreWordRow.holds Try.pinned (OpenSpec.ofChange coreWordWrong)

/-- 'quintainlaw21.CoreApart': WHATEVER THE INPUT: true; the input reads as it did. -/
def coreApartSpec : ChangeSpec := { name := "coreApart", fn := fun _ => fun
  | [d1, d2, d3, d4] => { results := [.lit (.bool true)], args := [d1, d2, d3, d4] }
  | _ => none }
def coreApartRow : OpenClaim := { program := "ytbcgffgiifminaa", sum := "a0cad501ce602a63c71c80cd7bf9f0f9c9095d9baa0f8327ef055de388a1685f", func := "quintain/quintainlaw21.CoreApart", spec := "coreApart", apart := false }
def CoreApartSaid : Prop := coreApartRow.holds Try.pinned (OpenSpec.ofChange coreApartSpec)

/-- ITS FALSE NEIGHBOUR: 'it returns false'. Refute it at one input. -/
def coreApartWrong : ChangeSpec := { name := "coreApart", fn := fun _ => fun
  | [d1, d2, d3, d4] => { results := [.lit (.bool false)], args := [d1, d2, d3, d4] }
  | _ => none }
def CoreApartWrongFalsely : Prop := coreApartRow.holds Try.pinned (OpenSpec.ofChange coreApartWrong)

/-- 'quintainlaw21.CoreQuit': WHATEVER THE INPUT: true; the input reads as it did. -/
def coreQuitSpec : ChangeSpec := { name := "coreQuit", fn := fun _ => fun
  | [d1, d2] => { results := [.lit (.bool true)], args := [d1, d2] }
  | _ => none }
def coreQuitRow : OpenClaim := { program := "ytbcgffgiifminaa", sum := "a0cad501ce602a63c71c80cd7bf9f0f9c9095d9baa0f8327ef055de388a1685f", func := "quintain/quintainlaw21.CoreQuit", spec := "coreQuit", apart := false }
def CoreQuitSaid : Prop := coreQuitRow.holds Try.pinned (OpenSpec.ofChange coreQuitSpec)

/-- ITS FALSE NEIGHBOUR: 'it returns false'. Refute it at one input. -/
def coreQuitWrong : ChangeSpec := { name := "coreQuit", fn := fun _ => fun
  | [d1, d2] => { results := [.lit (.bool false)], args := [d1, d2] }
  | _ => none }
def CoreQuitWrongFalsely : Prop := coreQuitRow.holds Try.pinned (OpenSpec.ofChange coreQuitWrong)

/-- 'quintainlaw21.CoreNone': WHATEVER THE INPUT: true; the input reads as it did. -/
def coreNoneSpec : ChangeSpec := { name := "coreNone", fn := fun _ => fun
  | [] => { results := [.lit (.bool true)], args := [] }
  | _ => none }
def coreNoneRow : OpenClaim := { program := "ytbcgffgiifminaa", sum := "a0cad501ce602a63c71c80cd7bf9f0f9c9095d9baa0f8327ef055de388a1685f", func := "quintain/quintainlaw21.CoreNone", spec := "coreNone", apart := false }
def CoreNoneSaid : Prop := coreNoneRow.holds Try.pinned (OpenSpec.ofChange coreNoneSpec)

/-- ITS FALSE NEIGHBOUR: 'it returns false'. Refute it at one input. -/
def coreNoneWrong : ChangeSpec := { name := "coreNone", fn := fun _ => fun
  | [] => { results := [.lit (.bool false)], args := [] }
  | _ => none }
def CoreNoneWrongFalsely : Prop := coreNoneRow.holds Try.pinned (OpenSpec.ofChange coreNoneWrong)

/-- 'quintainlaw21.CoreAll': WHATEVER THE INPUT: true; the input reads as it did. -/
def coreAllSpec : ChangeSpec := { name := "coreAll", fn := fun _ => fun
  | [d1, d2] => { results := [.lit (.bool true)], args := [d1, d2] }
  | _ => none }
def coreAllRow : OpenClaim := { program := "ytbcgffgiifminaa", sum := "a0cad501ce602a63c71c80cd7bf9f0f9c9095d9baa0f8327ef055de388a1685f", func := "quintain/quintainlaw21.CoreAll", spec := "coreAll", apart := false }
def CoreAllSaid : Prop := coreAllRow.holds Try.pinned (OpenSpec.ofChange coreAllSpec)

/-- ITS FALSE NEIGHBOUR: 'it returns false'. Refute it at one input. -/
def coreAllWrong : ChangeSpec := { name := "coreAll", fn := fun _ => fun
  | [d1, d2] => { results := [.lit (.bool false)], args := [d1, d2] }
  | _ => none }
def CoreAllWrongFalsely : Prop := coreAllRow.holds Try.pinned (OpenSpec.ofChange coreAllWrong)

/- THE SECOND FORM. 'bulk': how many values and letters a reading holds, each counted each time it is reached (what is shared counts as often as it is met; a slice's spare places count too). A statement '..UptoSaid' is the law's where the arguments, and the package variables that the reading takes, are together of bulk at most 1048576: NARROWER than '..Said'. Prove '..Said' where nothing that the law and all that it calls make is longer than what came in: it says more and counts as full. Else prove '..UptoSaid'. A law counts once. -/
mutual
def uptoBulk {H : Type} : DataW H → Nat
  | .lit (.string bytes) => bytes.length + 1
  | .lit _ => 1
  | .nil => 1
  | .ptr d => uptoBulk d + 1
  | .slice elems spare => uptoBulkAll elems + uptoBulkAll spare + 1
  | .agg parts => uptoBulkAll parts + 1
  | .iface _ d => uptoBulk d + 1
  | .map entries => uptoBulkEntries entries + 1
  | .held _ => 1
def uptoBulkAll {H : Type} : List (DataW H) → Nat
  | [] => 0
  | d :: r => uptoBulk d + uptoBulkAll r
def uptoBulkEntries {H : Type} : List (Lit × DataW H) → Nat
  | [] => 0
  | x :: r => uptoBulkEntry x + uptoBulkEntries r
def uptoBulkEntry {H : Type} : Lit × DataW H → Nat
  | (.string bytes, d) => bytes.length + uptoBulk d + 1
  | (_, d) => uptoBulk d + 1
 end
def uptoSmall : (H : Type) → List (DataW H) → Bool := fun _ ds => decide (uptoBulkAll ds ≤ 1048576)
def OpenSpec.upto (s : _root_.Go.ChangeSpec) : _root_.Go.OpenSpec := { _root_.Go.OpenSpec.ofChange s with cond := some uptoSmall }

/-- 'quintainlaw21.CoreStall', WHERE WHAT IT READS IS OF BULK AT MOST 1048576: true; the input reads as it did. -/
def coreStallUptoRow : OpenClaim := { program := "ytbcgffgiifminaa", sum := "a0cad501ce602a63c71c80cd7bf9f0f9c9095d9baa0f8327ef055de388a1685f", func := "quintain/quintainlaw21.CoreStall", spec := "coreStall", apart := false, narrowed := true }
def CoreStallUptoSaid : Prop := coreStallUptoRow.holds Try.pinned (OpenSpec.upto coreStallSpec)

/-- 'quintainlaw21.CoreAgain', WHERE WHAT IT READS IS OF BULK AT MOST 1048576: true; the input reads as it did. -/
def coreAgainUptoRow : OpenClaim := { program := "ytbcgffgiifminaa", sum := "a0cad501ce602a63c71c80cd7bf9f0f9c9095d9baa0f8327ef055de388a1685f", func := "quintain/quintainlaw21.CoreAgain", spec := "coreAgain", apart := false, narrowed := true }
def CoreAgainUptoSaid : Prop := coreAgainUptoRow.holds Try.pinned (OpenSpec.upto coreAgainSpec)

/-- 'quintainlaw21.CoreSends', WHERE WHAT IT READS IS OF BULK AT MOST 1048576: true; the input reads as it did. -/
def coreSendsUptoRow : OpenClaim := { program := "ytbcgffgiifminaa", sum := "a0cad501ce602a63c71c80cd7bf9f0f9c9095d9baa0f8327ef055de388a1685f", func := "quintain/quintainlaw21.CoreSends", spec := "coreSends", apart := false, narrowed := true }
def CoreSendsUptoSaid : Prop := coreSendsUptoRow.holds Try.pinned (OpenSpec.upto coreSendsSpec)

/-- 'quintainlaw21.CoreOthers', WHERE WHAT IT READS IS OF BULK AT MOST 1048576: true; the input reads as it did. -/
def coreOthersUptoRow : OpenClaim := { program := "ytbcgffgiifminaa", sum := "a0cad501ce602a63c71c80cd7bf9f0f9c9095d9baa0f8327ef055de388a1685f", func := "quintain/quintainlaw21.CoreOthers", spec := "coreOthers", apart := false, narrowed := true }
def CoreOthersUptoSaid : Prop := coreOthersUptoRow.holds Try.pinned (OpenSpec.upto coreOthersSpec)

/-- 'quintainlaw21.CoreLate', WHERE WHAT IT READS IS OF BULK AT MOST 1048576: true; the input reads as it did. -/
def coreLateUptoRow : OpenClaim := { program := "ytbcgffgiifminaa", sum := "a0cad501ce602a63c71c80cd7bf9f0f9c9095d9baa0f8327ef055de388a1685f", func := "quintain/quintainlaw21.CoreLate", spec := "coreLate", unfollowed := true, recurses := true, apart := false, narrowed := true }
def CoreLateUptoSaid : Prop := coreLateUptoRow.holds Try.pinned (OpenSpec.upto coreLateSpec)

/-- 'quintainlaw21.CoreWord', WHERE WHAT IT READS IS OF BULK AT MOST 1048576: true; the input reads as it did. -/
def coreWordUptoRow : OpenClaim := { program := "ytbcgffgiifminaa", sum := "a0cad501ce602a63c71c80cd7bf9f0f9c9095d9baa0f8327ef055de388a1685f", func := "quintain/quintainlaw21.CoreWord", spec := "coreWord", apart := false, narrowed := true }
def CoreWordUptoSaid : Prop := coreWordUptoRow.holds Try.pinned (OpenSpec.upto coreWordSpec)

/-- 'quintainlaw21.CoreApart', WHERE WHAT IT READS IS OF BULK AT MOST 1048576: true; the input reads as it did. -/
def coreApartUptoRow : OpenClaim := { program := "ytbcgffgiifminaa", sum := "a0cad501ce602a63c71c80cd7bf9f0f9c9095d9baa0f8327ef055de388a1685f", func := "quintain/quintainlaw21.CoreApart", spec := "coreApart", apart := false, narrowed := true }
def CoreApartUptoSaid : Prop := coreApartUptoRow.holds Try.pinned (OpenSpec.upto coreApartSpec)

/-- 'quintainlaw21.CoreQuit', WHERE WHAT IT READS IS OF BULK AT MOST 1048576: true; the input reads as it did. -/
def coreQuitUptoRow : OpenClaim := { program := "ytbcgffgiifminaa", sum := "a0cad501ce602a63c71c80cd7bf9f0f9c9095d9baa0f8327ef055de388a1685f", func := "quintain/quintainlaw21.CoreQuit", spec := "coreQuit", apart := false, narrowed := true }
def CoreQuitUptoSaid : Prop := coreQuitUptoRow.holds Try.pinned (OpenSpec.upto coreQuitSpec)

/-- 'quintainlaw21.CoreNone', WHERE WHAT IT READS IS OF BULK AT MOST 1048576: true; the input reads as it did. -/
def coreNoneUptoRow : OpenClaim := { program := "ytbcgffgiifminaa", sum := "a0cad501ce602a63c71c80cd7bf9f0f9c9095d9baa0f8327ef055de388a1685f", func := "quintain/quintainlaw21.CoreNone", spec := "coreNone", apart := false, narrowed := true }
def CoreNoneUptoSaid : Prop := coreNoneUptoRow.holds Try.pinned (OpenSpec.upto coreNoneSpec)

/-- 'quintainlaw21.CoreAll', WHERE WHAT IT READS IS OF BULK AT MOST 1048576: true; the input reads as it did. -/
def coreAllUptoRow : OpenClaim := { program := "ytbcgffgiifminaa", sum := "a0cad501ce602a63c71c80cd7bf9f0f9c9095d9baa0f8327ef055de388a1685f", func := "quintain/quintainlaw21.CoreAll", spec := "coreAll", apart := false, narrowed := true }
def CoreAllUptoSaid : Prop := coreAllUptoRow.holds Try.pinned (OpenSpec.upto coreAllSpec)

end Rows
end Go.Proofs.Ytbcgffgiifminaa
