/-
  state.Encode, quintainref1.Bytes.
-/
import Derived.Test.YtmikaidfdcamfaaArr
import Derived.Test.YtmikaidfdcamfaaPut
import Derived.Test.YtmikaidfdcamfaaRefFour
import Derived.Deep.DeepCutAuto
namespace Go.Proofs.Ytmikaidfdcamfaa
open Go.RowKit
set_option linter.unusedVariables false
def ivs (l : List Int) : List Value := l.map (Value.int .i32)
theorem ivs_len (l : List Int) : (ivs l).length = l.length := by simp [ivs]
theorem ivs_at (l : List Int) (k : Nat) (h : k < (ivs l).length) : (ivs l)[k] = .int .i32 (l[k]'(by simpa [ivs] using h)) := by simp [ivs]
theorem ivs_one (l : List Int) : ∀ u ∈ ivs l, u.oneCell' = true := by
  intro u hu
  obtain ⟨c, _, rfl⟩ := List.mem_map.1 hu
  rfl
theorem ivs_set (l : List Int) (k : Nat) (x : Int) : (ivs l).set k (.int .i32 x) = ivs (l.set k x) := by simp [ivs, List.map_set]
/-- Numbers of 32 bits. -/
def I32 (l : List Int) : Prop := ∀ x ∈ l, -2147483648 ≤ x ∧ x ≤ 2147483647
/-- Their bytes. -/
def bytes32 (l : List Int) : List UInt8 := l.flatMap be32
theorem bytes32_len (l : List Int) : (bytes32 l).length = 4 * l.length := by
  induction l with
  | nil => rfl
  | cons x t ih => simp only [bytes32, List.flatMap_cons, List.length_append, be32_length, List.length_cons] at ih ⊢; omega
theorem bytes32_snoc (l : List Int) (k : Nat) (h : k < l.length) : bytes32 (l.take (k + 1)) = bytes32 (l.take k) ++ be32 l[k] := by
  rw [List.take_succ_eq_append_getElem h, bytes32, List.flatMap_append]
  simp [bytes32]
theorem info_int32 : (Try.prog.info? 21).map (·.size) = some 1 := by kernel_rfl
theorem info_state : (Try.prog.info? 26).map (·.size) = some 32 := by kernel_rfl
theorem info_game : (Try.prog.info? 37).map (·.size) = some 32 := by kernel_rfl
theorem info_page : (Try.prog.info? 35).map (·.size) = some 8 := by kernel_rfl

set_option maxHeartbeats 400000 in
set_option maxRecDepth 10000 in
theorem state_Encode (l : List Int) (hl : l.length = 32) (w : World) :
    Calls Try.prog 10 #[.agg (ivs l).toArray] w fun e w' => ∃ A c, e = .returned (.slice A 128 c) ∧ OwnB w' w.heap.size A 128 c (bytes32 l) ∧ Below w.heap.size w w' := by
  obtain ⟨L, hL⟩ : ∃ L, L = ivs l := ⟨_, rfl⟩
  rw [← hL]
  have HL := hide hL
  have HL32 : Hid (L.length = 32) := by rw [hL]; show (ivs l).length = 32; rw [ivs_len, hl]
  have Hl := hide hl
  clear hL hl
  have HB0 := hide (Below_new w (.cells L.toArray 26))
  have HG := hide (Arr.new 26 w L.toArray L (by simp))
  go_enter Try.func10, Try.ntmps10
  go_wp2_with (refine wpA_load rfl 26 (.tmp 1) rfl w.heap.size rfl 26 L HG.out 32 21 Try.underlying26 info_state HL32.out ?_)
  go_loopg [3, 7] 32 (fun g s i wr => ∃ (k : Nat) (A : Option Addr) (n c : Nat), k ≤ 32 ∧ g = 32 - k ∧ n = 4 * k ∧ i = .int .i64 k ∧ s = .slice A n c ∧ OwnB wr w.heap.size A n c (bytes32 (l.take k)) ∧ Below w.heap.size w wr)
  case atStart => exact ⟨0, none, 0, 0, by omega, rfl, by omega, rfl, rfl, OwnB.nil _ _, HB0.out⟩
  case round =>
    obtain ⟨k, A, n, c, hk, rfl, hn, rfl, rfl, hown, hbel⟩ := hrel
    have HO := hide hown
    have HB := hide hbel
    have HN := hide hn
    have hsz := hbel.size
    have hn2 : n ≤ 128 := by omega
    clear hown hbel hn
    by_cases hlt : k < 32
    · have hkl : k < l.length := by have := Hl.out; omega
      have hix := run_indexA (k := .i64) Try.underlying26 info_int32 _ Try.underlying21 rfl L k HL32.out (by have := HL32.out; omega)
      have hx : L[k]'(by have := HL32.out; omega) = .int .i32 l[k] := by simp only [HL.out]; exact ivs_at l k _
      rw [hx] at hix
      obtain ⟨x, hx2⟩ : ∃ x, x = l[k] := ⟨_, rfl⟩
      rw [← hx2] at hix
      have HX := hide hx2
      have hsn := bytes32_snoc l k hkl
      rw [← hx2] at hsn
      have HS := hide hsn
      clear hx hx2 hsn
      go_wp2_with fail
      refine Calls.mono (word_Put x _) ?_
      rintro e w2 ⟨A2, c2, rfl, own2, hb2⟩
      have HO2 := hide (HO.out.below hb2)
      have HB2 := hide (HB.out.trans (hb2.mono hsz))
      have hsz2 := HB2.out.size
      have OW := hide own2
      clear own2 hb2
      go_wp2_with (at_builtin; refine wpB_append3 rfl (.tmp 10) (.tmp 12) rfl w.heap.size A n c _ rfl HO2.out _ A2 4 c2 _ rfl OW.out.lies (n + 4) _ rfl rfl (by omega) hsz2 ?_; intro A3 c3 w3 own3 k3 hk3)
      go_roundg (32 - (k + 1))
      case measure => omega
      case rel => exact ⟨k + 1, A3, n + 4, c3, by omega, rfl, by have := HN.out; omega, by go_num, rfl, by rw [HS.out]; exact own3, HB2.out.trans (k3.belowOwn HO2.out hsz2)⟩
    · obtain rfl : k = 32 := by omega
      have hn128 : n = 128 := HN.out
      subst hn128
      go_wp2
      go_ret
      refine ⟨A, c, rfl, ?_, HB.out⟩
      have := HO.out
      rwa [List.take_of_length_le (by have := Hl.out; omega)] at this
end Go.Proofs.Ytmikaidfdcamfaa
