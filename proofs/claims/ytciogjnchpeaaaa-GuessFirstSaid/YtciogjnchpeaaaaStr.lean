/-
  A slice of bytes made a string.
-/
import Derived.Test.YtciogjnchpeaaaaMem
import Derived.Deep.RegionWith
namespace Go.Proofs.Ytciogjnchpeaaaa
open Go.RowKit
set_option maxRecDepth 10000
/-- The string of these bytes. -/
def strOf (l : List UInt8) : ByteArray := ⟨l.toArray⟩
theorem strOf_inj {a b : List UInt8} : strOf a = strOf b ↔ a = b := by
  constructor
  · intro h
    have := congrArg (fun s => s.data.toList) h
    simpa [strOf] using this
  · rintro rfl; rfl
theorem strOf_toList (l : List UInt8) : (strOf l).toList = l := by
  rw [ByteArray.toList_eq]; simp [strOf]
attribute [go_sem] strOf_toList
theorem run_stringB {w : World} {B : Nat} {A : Option Addr} {n c : Nat} {l : List UInt8} (h : LiesB w B A n l) :
    (convert 23 9 (.slice A n c)).run Try.prog w = .ok (.string (strOf l)) w := by
  by_cases h0 : l = []
  · subst h0
    have hn : n = 0 := by have := h.len; simpa using this.symm
    subst hn
    rcases A with _ | ad
    · exact run_convert_bytes_nil w 23 5 Try.underlying23 Try.underlying5 0 c 9 Try.underlying9
    · rw [run_convert_bytes_string w 23 9 5 _ 0 c Try.underlying23 Try.underlying5 Try.underlying9, run_bytesToString w _ 0 c [] (by simp [loadCells, loadCellsFrom])]
      rfl
  · obtain ⟨b, off, rfl, hb, hc⟩ := h.2 (by simpa using h0)
    have hcell : ∀ i, i < n → w.cell? ⟨b, off + i, none⟩ = some (.int .u8 ((l.map fun x => (x.toNat : Int)).getD i 0)) := by
      intro i hi
      have hl : i < l.length := by rw [h.len]; exact hi
      rw [hc i (bv l[i]) (by simp [List.getElem?_map, List.getElem?_eq_getElem hl])]
      simp [bv, List.getD_eq_getElem?_getD, List.getElem?_eq_getElem hl]
    rw [run_convert_bytes_arg w 23 5 Try.underlying23 Try.underlying5 b off n c (l.map fun x => (x.toNat : Int)) (by simp [h.len]) hcell 9 Try.underlying9]
    congr 2
    have e : (strOfNums (l.map fun x => (x.toNat : Int))).data.toList = (strOf l).data.toList := by
      rw [strOfNums_data, strOf, List.map_map]
      have : (fun n : Int => UInt8.ofNat n.toNat) ∘ (fun x : UInt8 => (x.toNat : Int)) = id := by
        funext x; simp
      rw [this, List.map_id]
    have gen : ∀ a b : ByteArray, a.data.toList = b.data.toList → a = b := by
      rintro ⟨⟨x⟩⟩ ⟨⟨y⟩⟩ h
      simp at h
      rw [h]
    exact gen _ _ e
end Go.Proofs.Ytciogjnchpeaaaa
