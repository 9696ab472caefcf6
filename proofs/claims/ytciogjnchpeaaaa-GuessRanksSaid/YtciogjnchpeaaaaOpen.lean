/-
  What comes in, read as lists: slices of bytes and of numbers.
-/
import Derived.Test.YtciogjnchpeaaaaBase
import Derived.ProofKit
import Derived.OpenShut
import Derived.ShutString
import Derived.ChangeOld
import Derived.Below
namespace Go.Proofs.Ytciogjnchpeaaaa
open Go.ChangeShapes Go.WideShapes Go.ChangeAt Go.RowKit
set_option maxRecDepth 10000

theorem own_knob : ownKnob Try.prog.godebug = none := by kernel_rfl
theorem laid_out : laidOutB Try.prog = true := by kernel_rfl

/-- Numbers of kind k: the slice of address A and length n holds the numbers l. -/
def LiesI (k : IntKind) (w : World) (B : Nat) (A : Option Addr) (n : Nat) (l : List Int) : Prop :=
  l.length = n ∧ Lies w B A (l.map (Value.int k)) ∧ ∀ x ∈ l, (Lit.int k x).wf = true

section
variable {w w' : World} {B B' n : Nat} {A : Option Addr} {l : List Int} {k : IntKind}
theorem LiesI.below (h : LiesI k w B A n l) (hb : Below B w w') : LiesI k w' B A n l := ⟨h.1, h.2.1.below hb, h.2.2⟩
theorem LiesI.at_ (h : LiesI k w B A n l) {j : Nat} (hj : j < n) :
    ∃ (b off : Nat) (hl : j < l.length), A = some ⟨b, off, none⟩ ∧ b < B ∧ w.cell? ⟨b, off + j, none⟩ = some (.int k l[j]) := by
  have hl : j < l.length := by rw [h.1]; exact hj
  obtain ⟨b, off, e, hb, hc⟩ := h.2.1 (by intro h0; have := congrArg List.length h0; simp at this; subst this; simp at hl)
  exact ⟨b, off, hl, e, hb, hc j _ (by simp [List.getElem?_map, List.getElem?_eq_getElem hl])⟩
end

theorem LiesI.of_row {k : IntKind} {w : World} {x : Addr} {len cap : Nat} {zs : List Int} (hl : len ≤ cap) (hz : zs.length = cap)
    (hcell : ∀ i, i < zs.length → w.cell? (x.add i) = some (.int k (zs.getD i 0))) (hwz : ∀ n ∈ zs, (Lit.int k n).wf = true) :
    LiesI k w w.heap.size (some x) len (zs.take len) := by
  refine ⟨by rw [List.length_take]; omega, fun hne => ?_, fun y hy => hwz y (List.mem_of_mem_take hy)⟩
  have hpos : 0 < len := by
    rcases Nat.eq_zero_or_pos len with h0 | h0
    · subst h0; simp at hne
    · exact h0
  have h0 := hcell 0 (by omega)
  obtain ⟨b, off, spot⟩ := x
  have hs : spot = none := by simpa [Addr.add] using World.cell?_spot h0
  subst hs
  have hadd : ∀ j, (⟨b, off, none⟩ : Addr).add j = ⟨b, off + j, none⟩ := fun j => by unfold Addr.add; split <;> simp_all
  refine ⟨b, off, rfl, by have := World.block_lt_of_cell? w _ h0; simpa [hadd] using this, fun j u hu => ?_⟩
  rw [List.getElem?_map] at hu
  cases hj : (zs.take len)[j]? with
  | none => rw [hj] at hu; cases hu
  | some z =>
    rw [hj] at hu
    simp only [Option.map_some, Option.some.injEq] at hu
    subst hu
    rw [List.getElem?_take] at hj
    split at hj
    · rw [← hadd, hcell j (by omega), List.getD_eq_getElem?_getD, hj]; rfl
    · cases hj

theorem LiesB.of_ints {w : World} {B n : Nat} {A : Option Addr} {l : List Int} (h : LiesI .u8 w B A n l) : LiesB w B A n (l.map fun z => UInt8.ofNat z.toNat) := by
  refine ⟨by rw [List.length_map]; exact h.1, ?_⟩
  have e : (l.map fun z => UInt8.ofNat z.toNat).map bv = l.map (Value.int .u8) := by
    rw [List.map_map]
    refine List.map_congr_left fun z hz => ?_
    have hb := Go.bounds_u8 (h.2.2 z hz)
    simp only [Function.comp, bv, Value.int.injEq, true_and]
    rw [UInt8.toNat_ofNat_of_lt' (by show z.toNat < 256; omega)]
    omega
  rw [e]; exact h.2.1

section
variable {H : Type} {enc : TypeId × Value → H}
theorem open_numbers {t e : TypeId} {k : IntKind} {w : World} {fuel : Nat} {A : Option Addr} {n c : Nat} {x : DataW H × List MemPlace}
    (ht : Try.prog.underlying t = some (.slice e)) (he : Try.prog.underlying e = some (.int k)) (hc : Try.prog.cellsOf e = 1)
    (h : DataW.trod enc Try.prog w 0 (fun _ => true) true fuel t [.slice A n c] = some x) :
    ∃ l, LiesI k w w.heap.size A n l ∧ n ≤ c ∧ c ≤ maxLen := by
  rcases open_ints ht he hc h with ⟨hcs, _⟩ | ⟨a, l, c', zs, hcs, _, hl, hm, hz, _, hcell, hwz⟩
  · simp at hcs
    obtain ⟨rfl, rfl, rfl⟩ := hcs
    exact ⟨[], ⟨rfl, Lies.nil _ _ _, by simp⟩, Nat.le_refl _, by simp [maxLen]⟩
  · simp at hcs
    obtain ⟨rfl, rfl, rfl⟩ := hcs
    exact ⟨zs.take n, LiesI.of_row hl (by simpa using hz) hcell hwz, hl, hm⟩
theorem open_bytes {w : World} {fuel : Nat} {A : Option Addr} {n c : Nat} {x : DataW H × List MemPlace}
    (h : DataW.trod enc Try.prog w 0 (fun _ => true) true fuel 23 [.slice A n c] = some x) :
    ∃ l, LiesB w w.heap.size A n l ∧ n ≤ c ∧ c ≤ maxLen := by
  obtain ⟨l, hl, h2⟩ := open_numbers Try.underlying23 Try.underlying5 (by kernel_rfl) h
  exact ⟨_, LiesB.of_ints hl, h2⟩
end
end Go.Proofs.Ytciogjnchpeaaaa
