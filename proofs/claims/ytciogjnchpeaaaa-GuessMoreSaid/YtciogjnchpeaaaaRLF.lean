/-
  The document's lines: the walks of Front, Joint; Lines.
-/
import Derived.Test.YtciogjnchpeaaaaRLW
namespace Go.Proofs.Ytciogjnchpeaaaa
open Go.RowKit
set_option maxRecDepth 10000
set_option linter.unusedVariables false
set_option maxHeartbeats 1000000 in
set_option maxRecDepth 10000 in
theorem ref_Front {B : Nat} {w : World} {g n c : Nat} {ss : List Sl} {ls : List (List UInt8)} (h : RL B w g n c ss ls) (hn : 0 < n) (hn8 : n ≤ 1000) {f : Int} (hf : f = (front ls : Int)) :
    Calls Try.prog 17 #[.slice (some ⟨g, 0, none⟩) n c] w fun e w' => e = .returned (.int .i64 f) ∧ w = w' := by
  obtain ⟨hs0, hc0, -, hl0⟩ := h.cell 0 hn
  have H := hide h
  have HF := hide hf
  have HN := hide h.len
  obtain ⟨⟨A0, m0, k0⟩, hx0⟩ : ∃ x, x = ss[0] := ⟨_, rfl⟩
  rw [← hx0] at hc0 hl0
  simp only at hc0 hl0
  have H1 : Hid (frontK ls 1 = m0) := by
    show _ = _
    rw [frontK_succ _ _ (by rw [h.len]; omega), hl0]
    show min (ls.getD 0 []).length m0 = m0
    rw [hl0]; omega
  clear h hf hx0 hl0
  go_enter Try.func17, Try.ntmps17
  go_wp2
  go_loop [3, 4] (fun s i => ∃ (k m : Nat), 1 ≤ k ∧ k ≤ n ∧ i = .int .i64 k ∧ s = .int .i64 m ∧ Hid (m = frontK ls k)) (fun _ i => n - (intOf i).toNat)
  case atStart => exact ⟨1, m0, by omega, by omega, rfl, rfl, H1.out.symm⟩
  case round =>
    obtain ⟨k, m, hk1, hk, rfl, rfl, hm⟩ := hrel
    by_cases hlt : k < n
    · obtain ⟨hs, hc, -, hl⟩ := H.out.cell k hlt
      obtain ⟨⟨A1, m1, c1⟩, hx1⟩ : ∃ x, x = ss[k] := ⟨_, rfl⟩
      rw [← hx1] at hc hl
      simp only at hc hl
      have HM : Hid (frontK ls (k + 1) = min m m1) := by show _ = _; rw [frontK_succ _ _ (by rw [HN.out]; omega), hl, hm.out]
      clear hx1 hl hm hc0
      go_wp2
      go_round
      case rel => exact ⟨k + 1, min m m1, by omega, by omega, by go_num, by first | rfl | go_num | (congr 1; omega), HM.out.symm⟩
      case measure => simp [intOf]; omega
    · obtain rfl : k = n := by omega
      clear hc0
      go_wp2
      go_ret
      exact ⟨by rw [HF.out, front, HN.out, ← hm.out]; rfl, rfl⟩
theorem OwnV.slice_nil {e : TypeId} {w : World} {base c : Nat} {A : Option Addr} {l : List Value} (h : OwnV e w base A 0 c l) : l = [] := List.eq_nil_of_length_eq_zero h.len
set_option maxHeartbeats 1000000 in
set_option maxRecDepth 10000 in
theorem law_Lines (n d : Nat) (hn : 2 ≤ n) (hn8 : n ≤ 8) (hd : d ≤ 8) (w : World) {x y : Int} (hx : x = (n : Int)) (hy : y = (d : Int)) :
    Calls Try.prog 11 #[.int .i64 x, .int .i64 y] w fun e w' => ∃ g c ss, e = .returned (.slice (some ⟨g, 0, none⟩) n c) ∧ RL w.heap.size w' g n c ss (List.replicate n (List.replicate d 0)) ∧ Below w.heap.size w w' := by
  subst hx hy
  go_enter Try.func11, Try.ntmps11
  go_wp2
  go_loopg [5, 6] n (fun gg s5 s6 wr => ∃ (k : Nat) (A' : Option Addr) (c' g : Nat) (ss : List Sl), k ≤ n ∧ gg = n - k ∧ s6 = .int .i64 k ∧ s5 = .slice A' k c' ∧ Hid (OwnV 36 wr w.heap.size A' k c' (ss.map sv)) ∧ Hid (k = 0 ∨ A' = some ⟨g, 0, none⟩) ∧ Hid (k = 0 ∧ ss = [] ∧ A' = none ∨ 0 < k ∧ RL w.heap.size wr g k c' ss (List.replicate k (List.replicate d 0))) ∧ Hid (Below w.heap.size w wr))
  case atStart => exact ⟨0, none, 0, 0, [], by omega, rfl, rfl, rfl, OwnV.nil _ _ _, .inl rfl, .inl ⟨rfl, rfl, rfl⟩, Below.refl _ _⟩
  case round =>
    obtain ⟨k, A', c', g, ss, hk, rfl, rfl, rfl, HO, HA, HR, HB⟩ := hrel
    by_cases hlt : k < n
    · go_wp2_with (first | (refine wpB_make rfl (.tmp 13) (.tmp 13) rfl wr.heap.size d d d rfl rfl rfl rfl (by omega) (Nat.le_refl _) ?_; intro g1 w2 own2 hb2 _) | (at_builtin; refine wpV_append elem_rline rfl (.tmp 12) (.tmp 16) rfl w.heap.size A' k c' _ rfl ((HO.out.below hb2).below (Below_new _ _)) _ _ 1 1 [sv (some ⟨g1, 0, none⟩, d, d)] rfl rfl (Lies.new _ _ _ _) (by simp [Value.oneCell']) (by omega) (k + 1) _ rfl rfl (by omega) (by omega) (by have := HB.out.size; have := hb2.size; simp; omega) ?_; intro A4 c4 w4 own4 k4 hk4))
      obtain ⟨g4, rfl, hg4, hg4'⟩ := own4.form (by omega)
      have hR0 : k = 0 ∧ ss = [] ∧ List.replicate k (List.replicate d (0 : UInt8)) = [] ∨ RL w.heap.size wr g k c' ss (List.replicate k (List.replicate d 0)) := by
        rcases HR.out with ⟨h1, h2, -⟩ | ⟨-, h⟩
        · exact .inl ⟨h1, h2, by rw [h1]; rfl⟩
        · exact .inr h
      have hM0 : k = 0 → (Value.slice A' k c').ownBlock = none := by
        intro h0
        rcases HR.out with ⟨-, -, h⟩ | ⟨h, -⟩
        · rw [h]; rfl
        · omega
      have hR := RL.add (B := w.heap.size) (w := wr) (g := g) (n := k) (c := c') (ss := ss) (ls := List.replicate k (List.replicate d 0)) (x := ((some (⟨g1, 0, none⟩ : Addr), d, d) : Sl)) (l := List.replicate d 0)
        hR0 HB.out.size hb2 own2 (Below_new w2 _) HA.out own4 k4 hM0 (by simp; omega)
      have e : List.replicate k (List.replicate d (0 : UInt8)) ++ [List.replicate d 0] = List.replicate (k + 1) (List.replicate d 0) := by rw [List.replicate_succ']
      rw [e] at hR
      have HR2 := hide hR
      have HO2 : Hid (OwnV 36 w4 w.heap.size (some ⟨g4, 0, none⟩) (k + 1) c4 ((ss ++ [((some (⟨g1, 0, none⟩ : Addr), d, d) : Sl)]).map sv)) := by show OwnV _ _ _ _ _ _ _; rw [List.map_append]; exact own4
      have HB2 := hide (HB.out.trans ((hb2.mono HB.out.size).trans (((Below_new w2 (.cells #[.slice (some ⟨g1, 0, none⟩) d d] 36)).mono (Nat.le_trans HB.out.size hb2.size)).trans (k4.belowV HO.out (by have := HB.out.size; have := hb2.size; simp; omega)))))
      clear hR e own4 k4 hk4 own2 hb2
      go_roundg (n - (k + 1))
      case measure => omega
      case rel => exact ⟨k + 1, some ⟨g4, 0, none⟩, c4, g4, ss ++ [(some ⟨g1, 0, none⟩, d, d)], by omega, rfl, by go_num, rfl, HO2, .inr rfl, .inr ⟨by omega, HR2.out⟩, HB2⟩
    · obtain rfl : k = n := by omega
      go_wp2_with fail
      go_ret
      rcases HA.out with h | h
      · omega
      · subst h
        rcases HR.out with ⟨h, -⟩ | ⟨-, h⟩
        · omega
        · exact ⟨_, _, _, rfl, h, HB.out⟩
end Go.Proofs.Ytciogjnchpeaaaa
