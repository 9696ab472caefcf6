/-
  runs.Decode.
-/
import Derived.Test.YtcjcmjkpfijhdaaRunsDec
import Derived.Deep.LoopGhost
import Derived.Deep.CutRange
namespace Go.Proofs.Ytcjcmjkpfijhdaa
open Go.RowKit
set_option linter.unusedVariables false
namespace Runs
theorem dec_len (N : Nat) : ∀ (most : Nat) (first : Bool) (a : UInt8) (out l : List UInt8), l.length ≤ N → (dec most first a out l).2 = 0 → out.length ≤ (dec most first a out l).1.length := by
  induction N with
  | zero => intro most first a out l h h2; have : l = [] := List.eq_nil_of_length_eq_zero (by omega); subst this; rw [dec_nil]; exact Nat.le_refl _
  | succ N ih =>
    intro most first a out l h h2
    by_cases hl : l = []
    · subst hl; rw [dec_nil]; exact Nat.le_refl _
    · obtain ⟨v, k, e, hg⟩ : ∃ v k e, Var.get 0 0 l = (v, k, e) := ⟨_, _, _, rfl⟩
      by_cases h3 : e ≠ 0 ∨ v < 1 ∨ l.length ≤ k ∨ (l.getD k 0 = 0 ∧ first = false)
      · rw [dec_bad hg hl h3] at h2; simp at h2
      · by_cases h4 : (most : Int) - out.length < v
        · rw [dec_full hg hl h3 h4] at h2; simp at h2
        · rw [dec_on hg hl h3 h4] at h2 ⊢
          have hne : l.length ≠ 0 := fun h' => hl (List.eq_nil_of_length_eq_zero h')
          have := ih _ _ _ _ _ (by rw [List.length_drop]; omega) h2
          rw [List.length_append] at this
          omega
end Runs

/-- The fault of the next run, as the code asks it. -/
def badB (k n q : Nat) (v er : Int) (l : List UInt8) : Bool := decide (er ≠ 0 ∨ v < 1 ∨ n ≤ k + q ∨ (l.getD (k + q) 0 = 0 ∧ 0 < k))
theorem badB_t {k n q : Nat} {v er : Int} {l : List UInt8} (h : er ≠ 0 ∨ v < 1 ∨ n ≤ k + q ∨ (l.getD (k + q) 0 = 0 ∧ 0 < k)) : badB k n q v er l = true := by unfold badB; exact decide_eq_true h
theorem badB_f {k n q : Nat} {v er : Int} {l : List UInt8} (h : ¬ (er ≠ 0 ∨ v < 1 ∨ n ≤ k + q ∨ (l.getD (k + q) 0 = 0 ∧ 0 < k))) : badB k n q v er l = false := by unfold badB; exact decide_eq_false h
theorem badB_out {k n q : Nat} {v er : Int} {l : List UInt8} {b : Bool} (h : badB k n q v er l = b) : (er ≠ 0 ∨ v < 1 ∨ n ≤ k + q ∨ (l.getD (k + q) 0 = 0 ∧ 0 < k)) ↔ b = true := by subst h; unfold badB; simp

set_option maxRecDepth 10000 in
set_option maxHeartbeats 10000000 in
theorem runs_Decode (A : Option Addr) (n c B : Nat) (l : List UInt8) (most : Int) (M : Nat) (w : World) (hA : LiesB w B A n l) (hnc : n ≤ c) (hB : B ≤ w.heap.size) (hn : n ≤ 1000000)
    (lo : -9223372036854775808 ≤ most) (hi : most ≤ 9223372036854775807) (hM : max most 0 = (M : Int)) (R : List UInt8 × Int) (hR : Runs.dec M true 0 [] l = R) (room : M ≤ 1000000 ∨ (R.2 = 0 ∧ R.1.length ≤ 1000000)) :
    Calls Try.prog 33 #[.slice A n c, .int .i64 most] w fun e w' => ∃ A' n' c', e = .returned (.tuple #[.slice A' n' c', .int .i64 R.2]) ∧ OwnB w' w.heap.size A' n' c' R.1 ∧ Below w.heap.size w w' := by
  have HR := hide hR
  have HA := hide hA
  have HM := hide room
  clear hR hA room
  go_enter Try.func33, Try.ntmps33
  go_wp2
  go_loopg [6, 7, 8] n (fun g s x i wr => ∃ (k : Nat) (A' : Option Addr) (n' c' : Nat) (l' : List UInt8) (ah : UInt8), k ≤ n ∧ n' ≤ M ∧ g = n - k ∧ i = .int .i64 k ∧ x = .int .u8 (ah.toNat : Int) ∧ s = .slice A' n' c' ∧ OwnB wr w.heap.size A' n' c' l' ∧ Runs.dec M (decide (k = 0)) ah l' (l.drop k) = R ∧ Below w.heap.size w wr)
  case atStart => exact ⟨0, _, _, _, [], 0, by omega, by omega, rfl, rfl, rfl, rfl, OwnB.nil _ _, by simpa using HR.out, Below.refl _ _⟩
  case round =>
    obtain ⟨W1, hW1⟩ : ∃ W1, W1 = wr := ⟨_, rfl⟩
    subst hW1
    obtain ⟨k, A', n', c', l', ah, hk, hnM, rfl, rfl, rfl, rfl, hown, heq, hbel⟩ := hrel
    have HL := hide (HA.out.below (hbel.mono hB))
    have HO := hide hown
    have HB := hide hbel
    have HE := hide heq
    have hsz : w.heap.size ≤ W1.heap.size := hbel.size
    have hl' := hide hown.len
    clear hown hbel heq
    by_cases hlt : k < n
    · have hcut := HL.out.cut (k := k) hnc
      have HC := hide hcut
      obtain ⟨v, q, er, hg⟩ : ∃ v q er, Var.get 0 0 (l.drop k) = (v, q, er) := ⟨_, _, _, rfl⟩
      have hf := Var.get_facts _ 0 0 v q er (by omega) (by simp) hg
      rw [hcut.len] at hf
      have HG := hide hg
      have hne : l.drop k ≠ [] := fun h => by have := congrArg List.length h; rw [hcut.len] at this; simp at this; omega
      have HNE := hide hne
      obtain ⟨f1, f2, f3, f4, f5⟩ := hf
      have F4 := hide f4
      have F5 := hide f5
      clear hcut hg hne f4 f5
      obtain ⟨bad, hbad⟩ : ∃ bad, badB k n q v er l = bad := ⟨_, rfl⟩
      have HBAD := hide (badB_out hbad)
      clear hbad
      go_upto_region 6 with (go_at_call 37; refine Calls.mono (num_Get _ _ _ B _ _ HC.out (by omega) v q er HG.out) ?_; rintro e w' ⟨rfl, rfl⟩)
      go_cut [50] from 12 to 77 (fun s50 wx => s50 = .bool bad ∧ wx = W1)
      case first =>
        by_cases b1 : er ≠ 0
        · have hd : (er == 0) = false := by simpa using b1
          have hd2 : (er != 0) = true := by simpa using b1
          have hb : bad = true := HBAD.out.1 (.inl b1)
          have HB1 := hide hb
          clear hb b1
          go_wp2
          go_meet
          rw [HB1.out]
          exact ⟨rfl, rfl⟩
        · obtain rfl : er = 0 := by omega
          have f5 := F5.out rfl
          clear b1
          by_cases b2 : v < 1
          · have HB1 := hide (HBAD.out.1 (.inr (.inl b2)))
            have d1 : decide (v < 1) = true := decide_eq_true b2
            clear b2
            go_wp2
            go_meet
            rw [HB1.out]
            exact ⟨rfl, rfl⟩
          · by_cases b3 : n ≤ k + q
            · have HB1 := hide (HBAD.out.1 (.inr (.inr (.inl b3))))
              have d1 : decide (v < 1) = false := decide_eq_false b2
              have d2 : decide ((n : Int) ≤ (k : Int) + (q : Int)) = true := decide_eq_true (by omega)
              go_wp2
              go_meet
              rw [HB1.out]
              exact ⟨rfl, rfl⟩
            · have d1 : decide (v < 1) = false := decide_eq_false b2
              obtain ⟨m, hmm⟩ : ∃ m, m = k + q := ⟨_, rfl⟩
              have hmi : (k : Int) + (q : Int) = (m : Int) := by omega
              rw [← hmm] at HBAD b3
              obtain ⟨b, off, hlm, rfl, hbB, hcc⟩ := HL.out.at_ (k := m) (by omega)
              have hget : l.getD m 0 = l[m] := by rw [List.getD_eq_getElem?_getD, List.getElem?_eq_getElem hlm]; rfl
              obtain ⟨z, hz⟩ : ∃ z, z = l[m] := ⟨_, rfl⟩
              rw [← hz] at hcc hget
              rw [hget] at HBAD
              have hzt := z.toNat_lt
              clear hz hget hmm
              by_cases hz0 : z = 0
              · subst hz0
                have hcc : W1.cell? ⟨b, off + m, none⟩ = some (.int .u8 0) := hcc
                by_cases hk0 : 0 < k
                · have HB1 := hide (HBAD.out.1 (.inr (.inr (.inr ⟨rfl, hk0⟩))))
                  go_wp2
                  go_meet
                  rw [HB1.out]
                  exact ⟨rfl, rfl⟩
                · have HB1 : Hid (bad = false) := by
                    rw [← Bool.not_eq_true, ← HBAD.out]; exact fun h => by rcases h with h | h | h | h <;> first | exact h rfl | omega
                  go_wp2
                  go_meet
                  rw [HB1.out]
                  exact ⟨rfl, rfl⟩
              · have hz1 : ((z.toNat : Int) == 0) = false := by
                  have h2 : z.toNat ≠ 0 := fun h => hz0 (UInt8.toNat_inj.1 (by rw [h]; rfl))
                  simp; omega
                have HB1 : Hid (bad = false) := by
                  rw [← Bool.not_eq_true, ← HBAD.out]; exact fun h => by rcases h with h | h | h | h <;> first | exact h rfl | omega | exact hz0 h.1
                clear hz0
                go_wp2
                go_meet
                rw [HB1.out]
                exact ⟨rfl, rfl⟩
      case rest =>
        obtain ⟨rfl, rfl⟩ := hcut
        cases bad with
        | true =>
          have hr : R = ([], 1) := by
            rw [← HE.out]
            refine Runs.dec_bad HG.out HNE.out ?_
            rw [HC.out.len]
            rcases HBAD.out.2 rfl with h | h | h | h
            · exact .inl h
            · exact .inr (.inl h)
            · exact .inr (.inr (.inl (by omega)))
            · exact .inr (.inr (.inr ⟨by rw [List.getD_eq_getElem?_getD, List.getElem?_drop, ← List.getD_eq_getElem?_getD]; exact h.1, by simp; omega⟩))
          subst hr
          go_wp2
          go_ret2
          exact ⟨none, 0, 0, rfl, OwnB.nil _ _, HB.out⟩
        | false =>
          have hnb := fun h => Bool.false_ne_true (HBAD.out.1 h)
          have er0 : er = 0 := by
            rcases Decidable.em (er = 0) with h | h
            · exact h
            · exact absurd (.inl h) hnb
          have HNB := hide hnb
          clear hnb
          subst er0
          have f5 := F5.out rfl
          have b2 : 1 ≤ v := by
            rcases Decidable.em (v < 1) with h | h
            · exact absurd (.inr (.inl h)) HNB.out
            · omega
          have b3 : k + q < n := by
            rcases Decidable.em (n ≤ k + q) with h | h
            · exact absurd (.inr (.inr (.inl h))) HNB.out
            · omega
          obtain ⟨m, hmm⟩ : ∃ m, m = k + q := ⟨_, rfl⟩
          have hmi : (k : Int) + (q : Int) = (m : Int) := by omega
          rw [← hmm] at b3 HNB
          obtain ⟨b, off, hlm, rfl, hbB, hcc⟩ := HL.out.at_ (k := m) (by omega)
          have hget0 : l.getD m 0 = l[m] := by rw [List.getD_eq_getElem?_getD, List.getElem?_eq_getElem hlm]; rfl
          have hget : (l.drop k).getD q 0 = l[m] := by
            rw [List.getD_eq_getElem?_getD, List.getElem?_drop, ← hmm, List.getElem?_eq_getElem hlm]; rfl
          obtain ⟨z, hz⟩ : ∃ z, z = l[m] := ⟨_, rfl⟩
          rw [← hz] at hcc hget hget0
          rw [hget0] at HNB
          have hzt := z.toNat_lt
          have HGT := hide hget
          have HMM := hide hmm
          clear hz hget hmm hget0
          have HOK : Hid (¬ ((0 : Int) ≠ 0 ∨ v < 1 ∨ (l.drop k).length ≤ q ∨ ((l.drop k).getD q 0 = 0 ∧ decide (k = 0) = false))) := by
            rw [HGT.out]
            have := HMM.out
            have h3 : (l.drop k).length = n - k := HC.out.len
            have h4 := HNB.out
            rintro (h | h | h | h)
            · exact h rfl
            · omega
            · omega
            · exact h4 (.inr (.inr (.inr ⟨h.1, by have := h.2; simp at this; omega⟩)))
          have hMl : (M : Int) ≤ 9223372036854775807 := by omega
          by_cases b5 : (M : Int) - n' < v
          · have hr : R = ([], 4) := HE.out.symm.trans (Runs.dec_full (most := M) (first := decide (k = 0)) (a := ah) (out := l') HG.out HNE.out HOK.out (by rw [hl'.out]; exact b5))
            subst hr
            go_wp2
            go_ret2
            exact ⟨none, 0, 0, rfl, OwnB.nil _ _, HB.out⟩
          · have hon := Runs.dec_on (most := M) (first := decide (k = 0)) (a := ah) (out := l') HG.out HNE.out HOK.out (by rw [hl'.out]; exact b5)
            obtain ⟨vn, rfl⟩ : ∃ vn : Nat, v = (vn : Int) := ⟨v.toNat, by omega⟩
            rw [HE.out, HGT.out, List.drop_drop] at hon
            obtain ⟨z2, hz2⟩ : ∃ z2, z2 = ah ^^^ z := ⟨_, rfl⟩
            have hxor := bits_xor8 ah z
            rw [← hz2] at hon hxor
            have hroom : n' + vn ≤ 1000000 := by
              have h3 := hl'.out
              rcases HM.out with h | ⟨h1, h2⟩
              · omega
              · rw [hon] at h1 h2
                have := Runs.dec_len _ _ _ _ _ _ (Nat.le_refl _) h1
                rw [List.length_append, List.length_replicate] at this
                have e2 : ((vn : Int)).toNat = vn := by omega
                rw [e2] at *
                omega
            have HON := hide (show Runs.dec M (decide (m + 1 = 0)) z2 (l' ++ List.replicate vn z2) (l.drop (m + 1)) = R from by
              have := HMM.out
              rw [hon, show decide (m + 1 = 0) = false by simp, show k + (q + 1) = m + 1 by omega]; rfl)
            clear hon hz2
            go_wp2
            go_loopg [6, 67] vn (fun g s j wx => ∃ (t : Nat) (A2 : Option Addr) (n2 c2 : Nat), t ≤ vn ∧ g = vn - t ∧ n2 = n' + t ∧ j = .int .i64 t ∧ s = .slice A2 n2 c2 ∧ OwnB wx w.heap.size A2 n2 c2 (l' ++ List.replicate t z2) ∧ Below w.heap.size w wx)
            case atStart => exact ⟨0, A', n', c', by omega, rfl, rfl, rfl, rfl, by simpa using HO.out, HB.out⟩
            case round =>
              obtain ⟨t, A2, n2, c2, ht, rfl, rfl, rfl, rfl, hown2, hbel2⟩ := hrel
              have HO2 := hide hown2
              have HB2 := hide hbel2
              have hs2 : w.heap.size ≤ wr.heap.size := hbel2.size
              clear hown2 hbel2
              by_cases htv : t < vn
              · go_wp2_with (at_builtin; refine wpB_append rfl (.tmp 69) (.tmp 71) rfl w.heap.size A2 (n' + t) c2 _ rfl (HO2.out.below (Below_new _ _)) _ _ 1 1 [z2] rfl (LiesB.new _ _ _ _ _ _ rfl rfl) (n' + t + 1) _ rfl rfl (by omega) (by simp; omega) ?_; intro A3 c3 w3 own3 hb3 hg3)
                go_roundg (vn - (t + 1))
                case measure => omega
                case rel => exact ⟨t + 1, A3, n' + t + 1, c3, by omega, rfl, by omega, by go_num, rfl, by rw [List.append_assoc, ← List.replicate_succ'] at own3; exact own3, HB2.out.trans (((Below_new _ _).mono hs2).trans hb3)⟩
              · obtain rfl : t = vn := by omega
                go_wp2
                go_roundg (n - (m + 1))
                case measure => have := HMM.out; omega
                case rel => exact ⟨m + 1, A2, n' + t, c2, _, z2, by omega, by omega, rfl, by go_num, rfl, rfl, HO2.out, HON.out, HB2.out⟩
    · obtain rfl : k = n := by omega
      have hr : R = (l', 0) := by
        rw [← HE.out, List.drop_eq_nil_of_le (by rw [HL.out.len]; omega), Runs.dec_nil]
      subst hr
      go_wp2
      go_ret2
      exact ⟨A', n', c', rfl, HO.out, HB.out⟩
end Go.Proofs.Ytcjcmjkpfijhdaa
