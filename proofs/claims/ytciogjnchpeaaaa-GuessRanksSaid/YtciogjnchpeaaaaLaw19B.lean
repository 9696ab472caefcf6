/-
  Law 19: a queue and the document's lines, made together.
-/
import Derived.Test.YtciogjnchpeaaaaLaw19
namespace Go.Proofs.Ytciogjnchpeaaaa
open Go.RowKit
set_option maxRecDepth 10000
set_option linter.unusedVariables false
theorem info_op : (Try.prog.info? 34).map (·.size) = some 4 := by kernel_rfl
theorem QAt.base_le {B B' : Nat} {w : World} {q c : Nat} {A : Option Addr} {xs : List (Nat × Option Nat)} {ls : List (List UInt8)} (h : QAt B w q A c xs ls) (hb : B' ≤ B) : QAt B' w q A c xs ls :=
  ⟨h.head, Nat.le_trans hb h.base, h.row.base_le hb, h.len, h.line, fun i hi => ⟨Nat.le_trans hb (h.lbase i hi).1, fun k hk => Nat.le_trans hb ((h.lbase i hi).2 k hk)⟩, h.apart⟩
theorem RL.base_le {B B' : Nat} {w : World} {g n c : Nat} {ss : List Sl} {ls : List (List UInt8)} (h : RL B w g n c ss ls) (hb : B' ≤ B) : RL B' w g n c ss ls :=
  ⟨h.row.base_le hb, h.len, fun i hi => (h.line i hi).base_le hb, h.apart, h.short⟩
/-- A queue and lines made behind it. -/
theorem TS.new {B : Nat} {w w2 : World} {q c g n cg : Nat} {A : Option Addr} {xs : List (Nat × Option Nat)} {ss : List Sl} {ls : List (List UInt8)} (hq : QAt B w q A c xs ls) (hb : Below w.heap.size w w2) (hr : RL w.heap.size w2 g n cg ss ls) (hB : B ≤ w.heap.size) (hn : xs.length = n) : TS B w2 q A c xs g n cg ss ls :=
  ⟨hq.below hb, hr.base_le hB, hn, fun i j hi hj k hk e => by
    have := (hq.line i hi).lt.2 k hk.symm
    have := ((hr.line j hj).blk k e.symm).1
    omega⟩
theorem TS.drewN {B : Nat} {w : World} {q c g n cg : Nat} {A : Option Addr} {xs : List (Nat × Option Nat)} {ss : List Sl} {ls : List (List UInt8)} (h : TS B w q A c xs g n cg ss ls) (k : Nat) : TS B (w.drewN k) q A c xs g n cg ss ls := h.below (Below_drewN (Below.refl _ _) k)
theorem front_lt {ls : List (List UInt8)} {f : Nat} (hf : f < front ls) : ∀ i, i < ls.length → f < (ls.getD i []).length := fun i hi => by
  have := frontK_le ls ls.length (Nat.le_refl _) i hi
  unfold front at hf
  omega
theorem front_mem (ls : List (List UInt8)) (p : Nat) (h : p < ls.length) : front ls ≤ (ls.getD p []).length := frontK_le ls ls.length (Nat.le_refl _) p h
theorem short0 (m : Nat) : ∀ p, ((List.replicate m (List.replicate 0 (0 : UInt8))).getD p []).length ≤ 12 * 0 := fun p => by
  rw [List.getD_eq_getElem?_getD, List.getElem?_replicate]; split <;> simp
theorem aheadOf_len (b : Prd.By) (ls : List (List UInt8)) (ri ti : Int) : (aheadOf b ls ri ti).length ≤ 1000 := by
  unfold aheadOf
  split
  · rename_i h
    rw [List.length_map, List.length_range]; omega
  · simp
end Go.Proofs.Ytciogjnchpeaaaa
