/-
  The document's lines: From.
-/
import Derived.Test.YtbcgffgiifminaaDocE
namespace Go.Proofs.Ytbcgffgiifminaa
open Go.RowKit
set_option maxRecDepth 10000
set_option linter.unusedVariables false
set_option maxHeartbeats 2000000 in
theorem ref_LineFrom {B : Nat} {w : World} {g n c : Nat} {ss : List Sl} {ls : List (List UInt8)} (h : RL B w g n c ss ls) (i : Nat) (hi : i < n) (f : Int) (h1 : -9223372036854775808 ≤ f) (h2 : f ≤ 9223372036854775807) :
    Calls Try.prog 71 #[.pointer (some ⟨g, i, none⟩), .int .i64 f, .int .i64 32] w fun e w' => ∃ A' c', e = .returned (.slice A' (fromLine (ls.getD i []) f 32).length c') ∧ OwnB w' w.heap.size A' (fromLine (ls.getD i []) f 32).length c' (fromLine (ls.getD i []) f 32) ∧ Below w.heap.size w w' := by
  obtain ⟨hs, hc, -, hlen⟩ := h.cell i hi
  have ho := h.line i hs
  have hsh := h.short i
  obtain ⟨⟨A, m, cc⟩, hx⟩ : ∃ x, x = ss[i] := ⟨_, rfl⟩
  obtain ⟨l, hl⟩ : ∃ l, l = ls.getD i [] := ⟨_, rfl⟩
  rw [← hx, ← hl] at ho
  rw [← hl] at hsh hlen
  rw [← hx] at hlen hc
  rw [← hl]
  simp only at hc hlen ho
  have HO := hide ho
  have HLN := hide hlen
  clear h hx hl hlen ho
  by_cases c1 : f < 0
  · rw [fromLine_none (.inl c1)]
    have d1 : decide (f < 0) = true := decide_eq_true c1
    clear c1
    go_enter Try.func71, Try.ntmps71
    go_wp2_with fail
    go_ret
    exact ⟨none, 0, rfl, OwnB.nil _ _, Below.refl _ _⟩
  have d1 : decide (f < 0) = false := decide_eq_false c1
  by_cases c2 : (m : Int) ≤ f
  · rw [fromLine_none (.inr (.inl (by rw [HLN.out]; exact c2)))]
    have d2 : decide (f ≥ (m : Int)) = true := decide_eq_true c2
    clear c1 c2
    go_enter Try.func71, Try.ntmps71
    go_wp2_with fail
    go_ret
    exact ⟨none, 0, rfl, OwnB.nil _ _, Below.refl _ _⟩
  obtain ⟨k, rfl⟩ : ∃ k : Nat, f = (k : Int) := ⟨f.toNat, by omega⟩
  have hkm : k < m := by omega
  obtain ⟨r, hr⟩ : ∃ r, r = fromLine l (k : Int) 32 := ⟨_, rfl⟩
  obtain ⟨N, hN⟩ : ∃ N : Nat, N = min 32 (m - k) := ⟨_, rfl⟩
  have hrl : r.length = N := by
    have := HLN.out
    rw [hr, fromLine_some (by omega) (by omega), List.length_take, List.length_drop, hN]
    show min (min 32 1000) _ = _
    omega
  rw [← hr, hrl]
  have hmc : m ≤ cc := HO.out.cap
  have hlies : LiesB w w.heap.size (cutA A cc k 1) N r := by
    have e : r = (l.drop k).take 32 := by rw [hr, fromLine_some (by have := HLN.out; omega) (by omega)]; rfl
    have h5 := (LiesB.cut HO.out.lies (k := k) (cap := cc) hmc).take 32
    rw [← e, show min 32 (m - k) = N from hN.symm] at h5
    exact h5
  have HLS := hide hlies
  have d2 : decide ((k : Int) ≥ (m : Int)) = false := decide_eq_false (by omega)
  have e1 : min (32 : Int) (((m - k : Nat) : Int)) = (N : Int) := by omega
  have hNm : N ≤ cc - k := by omega
  have hkc : k ≤ cc := by omega
  have hkm3 : k ≤ m := by omega
  have hN32 : N ≤ 32 := by omega
  have hmk : ((m - k : Nat) : Int) = (m : Int) - (k : Int) := by omega
  clear hr hrl hlies hN c1 c2
  go_enter Try.func71, Try.ntmps71
  go_upto_region 4 with fail
  have e2 : min (32 : Int) ((m : Int) - (k : Int)) = (N : Int) := by omega
  go_wp2_with (at_builtin; refine wpB_append3 rfl (.const (.slice none 0 0)) (.tmp 34) rfl w.heap.size none 0 0 [] rfl (OwnB.nil _ _) _ _ N _ r rfl HLS.out N r (by omega) (List.nil_append _) (by omega) (Nat.le_refl _) ?_; intro A5 c5 w5 own5 k5 hk5; have HO5 := hide own5; have HK5 := hide (k5.belowV (OwnV.nil 5 w w.heap.size) (Nat.le_refl _)); clear own5 k5 hk5)
  go_ret
  exact ⟨A5, c5, rfl, HO5.out, HK5.out⟩
end Go.Proofs.Ytbcgffgiifminaa
