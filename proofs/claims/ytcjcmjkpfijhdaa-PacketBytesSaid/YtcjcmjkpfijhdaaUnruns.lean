/-
  quintainref12.Unruns.
-/
import Derived.Test.YtcjcmjkpfijhdaaRunsDecW
import Derived.Test.YtcjcmjkpfijhdaaVarGetRef
namespace Go.Proofs.Ytcjcmjkpfijhdaa
open Go.RowKit
set_option linter.unusedVariables false
/-- The fault of the next run, as the reference asks it. -/
def badU (first : Bool) (n q : Nat) (v er : Int) (l : List UInt8) : Bool := decide (er ≠ 0 ∨ v < 1 ∨ n = q ∨ (l.getD q 0 = 0 ∧ first = false))
theorem badU_out {first : Bool} {n q : Nat} {v er : Int} {l : List UInt8} {b : Bool} (h : badU first n q v er l = b) : (er ≠ 0 ∨ v < 1 ∨ n = q ∨ (l.getD q 0 = 0 ∧ first = false)) ↔ b = true := by subst h; unfold badU; simp

set_option maxRecDepth 10000 in
set_option maxHeartbeats 10000000 in
theorem ref_Unruns (A0 : Option Addr) (n0 c0 B : Nat) (l0 : List UInt8) (most : Int) (M : Nat) (w : World) (hA : LiesB w B A0 n0 l0) (hnc0 : n0 ≤ c0) (hB : B ≤ w.heap.size) (hn0 : n0 ≤ 1000000)
    (lo : -9223372036854775808 ≤ most) (hi : most ≤ 9223372036854775807) (hM : max 0 most = (M : Int)) (R : List UInt8 × Int) (hR : Runs.dec M true 0 [] l0 = R) (room : M ≤ 1000000 ∨ (R.2 = 0 ∧ R.1.length ≤ 1000000)) :
    Calls Try.prog 39 #[.slice A0 n0 c0, .int .i64 most] w fun e w' => ∃ A' n' c', e = .returned (.tuple #[.slice A' n' c', .int .i64 R.2]) ∧ OwnB w' w.heap.size A' n' c' R.1 ∧ Below w.heap.size w w' := by
  have HR := hide hR
  have HA := hide hA
  have HM := hide room
  clear hR hA room
  go_enter Try.func39, Try.ntmps39
  go_wp2
  go_loopg [0, 6, 7, 8] n0 (fun g sb s x i wr => ∃ (A : Option Addr) (n c : Nat) (l : List UInt8) (first : Bool) (A' : Option Addr) (n' c' : Nat) (l' : List UInt8) (ah : UInt8), g = n ∧ n ≤ n0 ∧ n ≤ c ∧ n' ≤ M ∧ sb = .slice A n c ∧ i = .bool first ∧ x = .int .u8 (ah.toNat : Int) ∧ s = .slice A' n' c' ∧ LiesB wr B A n l ∧ OwnB wr w.heap.size A' n' c' l' ∧ Runs.dec M first ah l' l = R ∧ Below w.heap.size w wr)
  case atStart => exact ⟨A0, n0, c0, l0, true, _, _, _, [], 0, rfl, by omega, by omega, by omega, rfl, rfl, rfl, rfl, HA.out, OwnB.nil _ _, HR.out, Below.refl _ _⟩
  case round =>
    obtain ⟨W1, hW1⟩ : ∃ W1, W1 = wr := ⟨_, rfl⟩
    subst hW1
    obtain ⟨A, n, c, l, first, A', n', c', l', ah, rfl, hn, hnc, hnM, rfl, rfl, rfl, rfl, hlies, hown, heq, hbel⟩ := hrel
    have HL := hide hlies
    have HO := hide hown
    have HB := hide hbel
    have HE := hide heq
    have hsz : w.heap.size ≤ W1.heap.size := hbel.size
    have hl' := hide hown.len
    clear hown hbel heq hlies
    by_cases hlt : 0 < gk
    · obtain ⟨v, q, er, hg⟩ : ∃ v q er, Var.get 0 0 l = (v, q, er) := ⟨_, _, _, rfl⟩
      have hf := Var.get_facts _ 0 0 v q er (by omega) (by simp) hg
      rw [HL.out.len] at hf
      have HG := hide hg
      have HNE : Hid (l ≠ []) := fun h => by have := HL.out.len; rw [h] at this; simp at this; omega
      obtain ⟨f1, f2, f3, f4, f5⟩ := hf
      have F4 := hide f4
      have F5 := hide f5
      clear hg f4 f5
      obtain ⟨bad, hbad⟩ : ∃ bad, badU first gk q v er l = bad := ⟨_, rfl⟩
      have HBAD := hide (badU_out hbad)
      clear hbad
      go_upto_region 7 with (go_at_call 38; refine Calls.mono (ref_Get _ _ _ B _ _ HL.out (by omega) v q er HG.out) ?_; rintro e w' ⟨rfl, rfl⟩)
      go_cut [44] from 13 to 70 (fun s44 wx => s44 = .bool bad ∧ wx = W1)
      case first =>
        by_cases b1 : er ≠ 0
        · have hd : (er == 0) = false := by simpa using b1
          have hd2 : (er != 0) = true := by simpa using b1
          have hb : bad = true := HBAD.out.1 (.inl b1)
          have HB1 := hide hb
          clear hb b1
          go_wp2
          go_meet
          rw [HB1.out]
          exact ⟨rfl, rfl⟩
        · obtain rfl : er = 0 := by omega
          have f5 := F5.out rfl
          clear b1
          by_cases b2 : v < 1
          · have HB1 := hide (HBAD.out.1 (.inr (.inl b2)))
            have d1 : decide (v < 1) = true := decide_eq_true b2
            clear b2
            go_wp2
            go_meet
            rw [HB1.out]
            exact ⟨rfl, rfl⟩
          · by_cases b3 : gk = q
            · have HB1 := hide (HBAD.out.1 (.inr (.inr (.inl b3))))
              have d1 : decide (v < 1) = false := decide_eq_false b2
              have d2 : ((gk : Int) == (q : Int)) = true := by simp; omega
              have d3 : (gk == q) = true := by simp; omega
              clear b3
              go_wp2
              go_meet
              rw [HB1.out]
              exact ⟨rfl, rfl⟩
            · have d1 : decide (v < 1) = false := decide_eq_false b2
              have d2 : ((gk : Int) == (q : Int)) = false := by simp; omega
              have d3 : (gk == q) = false := by simp; omega
              obtain ⟨b, off, hlm, rfl, hbB, hcc⟩ := HL.out.at_ (k := q) (by omega)
              have hget : l.getD q 0 = l[q] := by rw [List.getD_eq_getElem?_getD, List.getElem?_eq_getElem hlm]; rfl
              obtain ⟨z, hz⟩ : ∃ z, z = l[q] := ⟨_, rfl⟩
              rw [← hz] at hcc hget
              rw [hget] at HBAD
              have hzt := z.toNat_lt
              have hqs : q < gk := by omega
              clear hz hget
              by_cases hz0 : z = 0
              · subst hz0
                have hcc : W1.cell? ⟨b, off + q, none⟩ = some (.int .u8 0) := hcc
                cases first with
                | false =>
                  have HB1 := hide (HBAD.out.1 (.inr (.inr (.inr ⟨rfl, rfl⟩))))
                  clear b3
                  go_wp2
                  go_meet
                  rw [HB1.out]
                  exact ⟨rfl, rfl⟩
                | true =>
                  have HB1 : Hid (bad = false) := by
                    rw [← Bool.not_eq_true, ← HBAD.out]; exact fun h => by rcases h with h | h | h | h <;> first | exact h rfl | omega | cases h.2
                  clear b3
                  go_wp2
                  go_meet
                  rw [HB1.out]
                  exact ⟨rfl, rfl⟩
              · have hz1 : ((z.toNat : Int) == 0) = false := by
                  have h2 : z.toNat ≠ 0 := fun h => hz0 (UInt8.toNat_inj.1 (by rw [h]; rfl))
                  simp; omega
                have HB1 : Hid (bad = false) := by
                  rw [← Bool.not_eq_true, ← HBAD.out]; exact fun h => by rcases h with h | h | h | h <;> first | exact h rfl | omega | exact hz0 h.1
                clear hz0 b3
                go_wp2
                go_meet
                rw [HB1.out]
                exact ⟨rfl, rfl⟩
      case rest =>
        obtain ⟨rfl, rfl⟩ := hcut
        cases bad with
        | true =>
          have hr : R = ([], 1) := by
            rw [← HE.out]
            refine Runs.dec_bad HG.out HNE.out ?_
            rw [HL.out.len]
            rcases HBAD.out.2 rfl with h | h | h | h
            · exact .inl h
            · exact .inr (.inl h)
            · exact .inr (.inr (.inl (by omega)))
            · exact .inr (.inr (.inr h))
          subst hr
          go_wp2
          go_ret2
          exact ⟨none, 0, 0, rfl, OwnB.nil _ _, HB.out⟩
        | false =>
          have hnb := fun h => Bool.false_ne_true (HBAD.out.1 h)
          have er0 : er = 0 := by
            rcases Decidable.em (er = 0) with h | h
            · exact h
            · exact absurd (.inl h) hnb
          have HNB := hide hnb
          clear hnb
          subst er0
          have f5 := F5.out rfl
          have b2 : 1 ≤ v := by
            rcases Decidable.em (v < 1) with h | h
            · exact absurd (.inr (.inl h)) HNB.out
            · omega
          have b3 : q < gk := by
            rcases Decidable.em (gk = q) with h | h
            · exact absurd (.inr (.inr (.inl h))) HNB.out
            · omega
          obtain ⟨b, off, hlm, rfl, hbB, hcc⟩ := HL.out.at_ (k := q) (by omega)
          have hget : l.getD q 0 = l[q] := by rw [List.getD_eq_getElem?_getD, List.getElem?_eq_getElem hlm]; rfl
          obtain ⟨z, hz⟩ : ∃ z, z = l[q] := ⟨_, rfl⟩
          rw [← hz] at hcc hget
          have hzt := z.toNat_lt
          have HGT := hide hget
          clear hz hget
          have HOK : Hid (¬ ((0 : Int) ≠ 0 ∨ v < 1 ∨ l.length ≤ q ∨ (l.getD q 0 = 0 ∧ first = false))) := by
            have h3 : l.length = gk := HL.out.len
            have h4 := HNB.out
            rintro (h | h | h | h)
            · exact h rfl
            · omega
            · omega
            · exact h4 (.inr (.inr (.inr h)))
          have hMl : (M : Int) ≤ 9223372036854775807 := by omega
          by_cases b5 : (M : Int) - n' < v
          · have hr : R = ([], 4) := HE.out.symm.trans (Runs.dec_full (most := M) (first := first) (a := ah) (out := l') HG.out HNE.out HOK.out (by rw [hl'.out]; exact b5))
            subst hr
            go_wp2
            go_ret2
            exact ⟨none, 0, 0, rfl, OwnB.nil _ _, HB.out⟩
          · have hon := Runs.dec_on (most := M) (first := first) (a := ah) (out := l') HG.out HNE.out HOK.out (by rw [hl'.out]; exact b5)
            obtain ⟨vn, rfl⟩ : ∃ vn : Nat, v = (vn : Int) := ⟨v.toNat, by omega⟩
            rw [HE.out, HGT.out] at hon
            obtain ⟨z2, hz2⟩ : ∃ z2, z2 = ah ^^^ z := ⟨_, rfl⟩
            have hxor := bits_xor8 ah z
            rw [← hz2] at hon hxor
            have hroom : n' + vn ≤ 1000000 := by
              have h3 := hl'.out
              rcases HM.out with h | ⟨h1, h2⟩
              · omega
              · rw [hon] at h1 h2
                have := Runs.dec_len _ _ _ _ _ _ (Nat.le_refl _) h1
                rw [List.length_append, List.length_replicate] at this
                have e2 : ((vn : Int)).toNat = vn := by omega
                rw [e2] at *
                omega
            have HON := hide (show Runs.dec M false z2 (l' ++ List.replicate vn z2) (l.drop (q + 1)) = R from by
              rw [hon]; rfl)
            clear hon hz2
            go_wp2
            go_loopg [6, 12] vn (fun g s j wx => ∃ (t : Nat) (A2 : Option Addr) (n2 c2 : Nat), t ≤ vn ∧ g = vn - t ∧ n2 = n' + t ∧ j = .int .i64 t ∧ s = .slice A2 n2 c2 ∧ OwnB wx w.heap.size A2 n2 c2 (l' ++ List.replicate t z2) ∧ LiesB wx B (some ⟨b, off, none⟩) gk l ∧ Below w.heap.size w wx)
            case atStart => exact ⟨0, A', n', c', by omega, rfl, rfl, rfl, rfl, by simpa using HO.out, HL.out, HB.out⟩
            case round =>
              obtain ⟨t, A2, n2, c2, ht, rfl, rfl, rfl, rfl, hown2, hlies2, hbel2⟩ := hrel
              have HO2 := hide hown2
              have HB2 := hide hbel2
              have HL2 := hide hlies2
              have hs2 : w.heap.size ≤ wr.heap.size := hbel2.size
              clear hown2 hbel2 hlies2
              by_cases htv : t < vn
              · go_wp2_with (at_builtin; refine wpB_append rfl (.tmp 63) (.tmp 65) rfl w.heap.size A2 (n' + t) c2 _ rfl (HO2.out.below (Below_new _ _)) _ _ 1 1 [z2] rfl (LiesB.new _ _ _ _ _ _ rfl rfl) (n' + t + 1) _ rfl rfl (by omega) (by simp; omega) ?_; intro A3 c3 w3 own3 hb3 hg3)
                go_roundg (vn - (t + 1))
                case measure => omega
                case rel => exact ⟨t + 1, A3, n' + t + 1, c3, by omega, rfl, by omega, by go_num, rfl, by rw [List.append_assoc, ← List.replicate_succ'] at own3; exact own3, HL2.out.below ((((Below_new _ _).mono hs2).trans hb3).mono hB), HB2.out.trans (((Below_new _ _).mono hs2).trans hb3)⟩
              · obtain rfl : t = vn := by omega
                have HC := hide (HL2.out.cut (k := q + 1) hnc)
                go_wp2
                go_roundg (gk - (q + 1))
                case measure => omega
                case rel => exact ⟨_, gk - (q + 1), c - (q + 1), _, false, A2, n' + t, c2, _, z2, rfl, by omega, by omega, by omega, rfl, rfl, rfl, rfl, HC.out, HO2.out, HON.out, HB2.out⟩
    · obtain rfl : gk = 0 := by omega
      have hr : R = (l', 0) := by
        rw [← HE.out, List.eq_nil_of_length_eq_zero HL.out.len, Runs.dec_nil]
      subst hr
      go_wp2
      go_ret2
      exact ⟨A', n', c', rfl, HO.out, HB.out⟩
end Go.Proofs.Ytcjcmjkpfijhdaa
