/-
  runs.Encode.
-/
import Derived.Test.YtcjcmjkpfijhdaaRunsPlain
import Derived.Deep.RegionLaw
namespace Go.Proofs.Ytcjcmjkpfijhdaa
open Go.RowKit
set_option linter.unusedVariables false
set_option maxRecDepth 10000 in
set_option maxHeartbeats 2000000 in
theorem runs_Encode (A : Option Addr) (n c B : Nat) (l : List UInt8) (w : World) (hA : LiesB w B A n l) (hB : B ≤ w.heap.size) (hn : n ≤ 10000) :
    Calls Try.prog 23 #[.slice A n c] w fun e w' => ∃ A' n' c', e = .returned (.slice A' n' c') ∧ OwnB w' w.heap.size A' n' c' (Runs.enc 0 l) ∧ Below w.heap.size w w' := by
  have hlen := Runs.enc_len n 0 l (by rw [hA.len]; omega) (by rw [hA.len]; omega)
  rw [hA.len] at hlen
  obtain ⟨R, hR⟩ : ∃ R, R = Runs.enc 0 l := ⟨_, rfl⟩
  rw [← hR] at hlen ⊢
  have HR := hide hR
  have HA := hide hA
  clear hR hA
  go_enter Try.func23, Try.ntmps23
  go_wp2
  go_loopw [3, 4, 5] (fun s x i wr => ∃ (k : Nat) (A' : Option Addr) (n' c' : Nat) (l' : List UInt8) (ah : UInt8), k ≤ n ∧ i = .int .i64 k ∧ x = .int .u8 (ah.toNat : Int) ∧ s = .slice A' n' c' ∧ OwnB wr w.heap.size A' n' c' l' ∧ l' ++ Runs.enc ah (l.drop k) = R ∧ Below w.heap.size w wr) (fun _ _ i _ => n - (intOf i).toNat)
  case atStart => exact ⟨0, _, _, _, [], 0, by omega, rfl, rfl, rfl, OwnB.nil _ _, by simp [HR.out], Below.refl _ _⟩
  case round =>
    obtain ⟨W1, hW1⟩ : ∃ W1, W1 = wr := ⟨_, rfl⟩
    subst hW1
    obtain ⟨k, A', n', c', l', ah, hk, rfl, rfl, rfl, hown, heq, hbel⟩ := hrel
    have HL := hide (HA.out.below (hbel.mono hB))
    have HO := hide hown
    have HB := hide hbel
    have hsz : w.heap.size ≤ W1.heap.size := hbel.size
    have hl' : n' ≤ 110000 := by
      have e2 := congrArg List.length heq
      have e3 := hown.len
      rw [List.length_append] at e2
      omega
    have HE := hide heq
    clear hown hbel heq
    by_cases hlt : k < n
    · obtain ⟨b, off, hlk, rfl, hbB, hc⟩ := HL.out.at_ hlt
      have hbw : b < w.heap.size := by omega
      obtain ⟨x, hx⟩ : ∃ x, x = l[k] := ⟨_, rfl⟩
      rw [← hx] at hc
      have hc0 : w.cell? ⟨b, off + k, none⟩ = some (.int .u8 (x.toNat : Int)) := (HB.out.cell (p := ⟨b, off + k, none⟩) hbw).symm.trans hc
      have HX := hide hx
      clear hx
      go_wp2
      go_loopw [6] (fun j wx => ∃ m q : Nat, k ≤ m ∧ m ≤ n ∧ j = .int .i64 m ∧ Runs.lead x (l.drop m) + (m - k) = Runs.lead x (l.drop k) ∧ wx = W1.drewN q) (fun j _ => n - (intOf j).toNat)
      case atStart => exact ⟨k, 0, by omega, hk, rfl, by omega, rfl⟩
      case round =>
        obtain ⟨m, q, hkm, hm, rfl, hlead, hwx⟩ := hrel
        have HLD := hide hlead
        have h1 := HL.out.drewN q
        have h2 : (W1.drewN q).cell? ⟨b, off + k, none⟩ = some (.int .u8 (x.toNat : Int)) := hc
        rw [← hwx] at h1 h2
        have HL1 := hide h1
        have HWX := hide hwx
        clear hlead hwx h1 hc
        have HGO := hide (show ∀ m, Runs.lead x (l.drop m) = 0 → Runs.lead x (l.drop m) + (m - k) = Runs.lead x (l.drop k) → k ≤ m → m ≤ n → l' ++ (Var.put (Var.zig ((m : Int) - k)) ++ [x ^^^ ah]) ++ Runs.enc x (l.drop m) = R from fun m h0 hm1 hm2 hm3 => by
          rw [← HE.out, Runs.enc_step (last := ah) hlk (by rw [← HX.out]; exact hm1) (by rw [← HX.out]; exact h0) hm2, ← HX.out]
          simp [List.append_assoc])
        by_cases hmn : m < n
        · obtain ⟨b2, off2, hlm, e2, -, hc2⟩ := HL1.out.at_ hmn
          injection e2 with e2
          injection e2 with e21 e22
          subst e21 e22
          by_cases hq : l[m] = x
          · rw [hq] at hc2
            have HQ := hide hq
            clear hq
            go_wp2
            go_quiet (fail)
            go_wp2
            exact ⟨⟨m + 1, q + nq, by omega, by omega, by go_num, by have := Runs.lead_eq hlm HQ.out; have := HLD.out; omega, by rw [HWX.out, World.drewN_drewN]⟩, by simp [intOf]; omega⟩
          · have hq2 : ¬ (l[m].toNat = x.toNat) := fun h => hq (UInt8.toNat_inj.1 h)
            have hlead0 : Runs.lead x (l.drop m) = 0 := Runs.lead_ne hlm hq
            generalize l[m] = y at hc2 hq2
            clear hq
            have hdec : ((y.toNat : Int) == (x.toNat : Int)) = false := by simp; omega
            go_wp2
            go_quiet (fail)
            go_wp2
            have hst := HGO.out m hlead0 HLD.out hkm hm
            have hmk : k < m := by have h1 := Runs.lead_eq (x := x) hlk HX.out.symm; have := HLD.out; omega
            have HST := hide hst
            have HO2 : OwnB (wr.drewN nq) w.heap.size A' n' c' l' := by rw [HWX.out]; exact (HO.out.drewN _).drewN _
            have HB2 : Below w.heap.size w (wr.drewN nq) := by rw [HWX.out]; exact Below_drewN (Below_drewN HB.out q) nq
            have hcw : (wr.drewN nq).cell? ⟨b, off + k, none⟩ = some (.int .u8 (x.toNat : Int)) := h2
            clear hst h2 hlead0
            generalize wr.drewN nq = W2 at HO2 HB2 hcw ⊢
            have HO3 := hide HO2
            have HB3 := hide HB2
            have hs3 : w.heap.size ≤ W2.heap.size := HB2.size
            have hs2 : w.heap.size ≤ W2.drew.heap.size := hs3
            have HO2 := hide HO3.out.drew
            have HB2 := hide HB3.out.drew
            have hp10 := Var.put_len10 (Var.zig ((m : Int) - k)) (Var.zig_lt _ (by omega) (by omega))
            have hxor := bits_xor8 x ah
            obtain ⟨z, hz⟩ : ∃ z, z = x ^^^ ah := ⟨_, rfl⟩
            rw [← hz] at hxor HST
            have HZ := hide hz
            clear hz
            have hwrap : IntKind.i64.wrap ((m : Int) - (k : Int)) = (m : Int) - (k : Int) := by rw [IntKind.wrap_i64]; omega
            go_wp2_with fail
            go_region_law (first
              | (go_simp; go_at_call 21; (refine Calls.mono (num_Put A' n' c' w.heap.size l' _ _ HO2.out hs2 (by omega) (by omega) (by omega)) ?_); rintro e w4 ⟨A4, n4, c4, rfl, own4, k4⟩; have HB4 : Below w.heap.size w w4 := HB2.out.trans (k4.belowOwn HO2.out hs2); have hc4 : w4.cell? ⟨b, off + k, none⟩ = some (.int .u8 (x.toNat : Int)) := (HB4.cell (p := ⟨b, off + k, none⟩) hbw).trans hc0; have hs4 := HB4.size; have hn4 := own4.len)
              | (go_simp; go_at_call 21; (refine Calls.mono (num_Put A' n' c' w.heap.size l' _ _ (HO3.out.below (Below_new _ _)).drew (by simp [World.drew]; omega) (by omega) (by omega) (by omega)) ?_); rintro e w4 ⟨A4, n4, c4, rfl, own4, k4⟩; have HB4 : Below w.heap.size w w4 := (HB3.out.trans ((Below_new _ _).mono hs3)).drew.trans (k4.belowOwn HO2.out (by simp [World.drew]; omega)); have L4 := (LiesB.new W2 _ _ _ [z] 1 rfl rfl).drew.keeps k4 (by intro b' off' e _ hs; injection e with e; injection e with e1 e2; have := (HO3.out.blk b' hs).2; omega); have hc4 : w4.cell? ⟨b, off + k, none⟩ = some (.int .u8 (x.toNat : Int)) := (HB4.cell (p := ⟨b, off + k, none⟩) hbw).trans hc0; have hs4 := HB4.size; have hn4 := own4.len)
              | (refine step_appendB rfl (.tmp 33) (.tmp 40) rfl w.heap.size A4 n4 c4 _ rfl own4 _ _ 1 1 [z] rfl L4 (n4 + 1) _ rfl rfl (by rw [List.length_append] at hn4; have := HO2.out.len; omega) hs4 ?_; intro A5 c5 w5 own5 k5 hk5; have HB5 : Below w.heap.size w w5 := HB4.trans (k5.belowOwn own4 hs4))
              | (refine step_appendB rfl (.tmp 33) (.tmp 40) rfl w.heap.size A4 n4 c4 _ rfl (own4.below (Below_new _ _)) _ _ 1 1 [z] rfl (LiesB.new _ _ _ _ _ _ rfl rfl) (n4 + 1) _ rfl rfl (by rw [List.length_append] at hn4; have := HO2.out.len; omega) (by simp; omega) ?_; intro A5 c5 w5 own5 k5 hk5; have HB5 : Below w.heap.size w w5 := (HB4.trans ((Below_new _ _).mono hs4)).trans (k5.belowOwn own4 (by simp; omega))))
            all_goals
              have hc5 : w5.cell? ⟨b, off + k, none⟩ = some (.int .u8 (x.toNat : Int)) := (HB5.cell (p := ⟨b, off + k, none⟩) hbw).trans hc0
              have HB6 := hide HB5
              have HO6 := hide own5
              clear HB5 own5 hk5 k5
              go_wp2
              exact ⟨⟨m, A5, n4 + 1, c5, _, x, hm, rfl, rfl, rfl, HO6.out, by rw [← HST.out]; simp [List.append_assoc], HB6.out⟩, by simp [intOf]; omega⟩
        · have hlead0 : Runs.lead x (l.drop m) = 0 := Runs.lead_end (by rw [HL1.out.len]; omega)
          go_wp2
          go_quiet (fail)
          go_wp2
          have hst := HGO.out m hlead0 HLD.out hkm hm
          have hmk : k < m := by have h1 := Runs.lead_eq (x := x) hlk HX.out.symm; have := HLD.out; omega
          have HST := hide hst
          have HO2 : OwnB (wr.drewN nq) w.heap.size A' n' c' l' := by rw [HWX.out]; exact (HO.out.drewN _).drewN _
          have HB2 : Below w.heap.size w (wr.drewN nq) := by rw [HWX.out]; exact Below_drewN (Below_drewN HB.out q) nq
          have hcw : (wr.drewN nq).cell? ⟨b, off + k, none⟩ = some (.int .u8 (x.toNat : Int)) := h2
          clear hst h2 hlead0
          generalize wr.drewN nq = W2 at HO2 HB2 hcw ⊢
          have HO3 := hide HO2
          have HB3 := hide HB2
          have hs3 : w.heap.size ≤ W2.heap.size := HB2.size
          have hs2 : w.heap.size ≤ W2.drew.heap.size := hs3
          have HO2 := hide HO3.out.drew
          have HB2 := hide HB3.out.drew
          have hp10 := Var.put_len10 (Var.zig ((m : Int) - k)) (Var.zig_lt _ (by omega) (by omega))
          have hxor := bits_xor8 x ah
          obtain ⟨z, hz⟩ : ∃ z, z = x ^^^ ah := ⟨_, rfl⟩
          rw [← hz] at hxor HST
          have HZ := hide hz
          clear hz
          have hwrap : IntKind.i64.wrap ((m : Int) - (k : Int)) = (m : Int) - (k : Int) := by rw [IntKind.wrap_i64]; omega
          go_wp2_with fail
          go_region_law (first
            | (go_simp; go_at_call 21; (refine Calls.mono (num_Put A' n' c' w.heap.size l' _ _ HO2.out hs2 (by omega) (by omega) (by omega)) ?_); rintro e w4 ⟨A4, n4, c4, rfl, own4, k4⟩; have HB4 : Below w.heap.size w w4 := HB2.out.trans (k4.belowOwn HO2.out hs2); have hc4 : w4.cell? ⟨b, off + k, none⟩ = some (.int .u8 (x.toNat : Int)) := (HB4.cell (p := ⟨b, off + k, none⟩) hbw).trans hc0; have hs4 := HB4.size; have hn4 := own4.len)
            | (go_simp; go_at_call 21; (refine Calls.mono (num_Put A' n' c' w.heap.size l' _ _ (HO3.out.below (Below_new _ _)).drew (by simp [World.drew]; omega) (by omega) (by omega) (by omega)) ?_); rintro e w4 ⟨A4, n4, c4, rfl, own4, k4⟩; have HB4 : Below w.heap.size w w4 := (HB3.out.trans ((Below_new _ _).mono hs3)).drew.trans (k4.belowOwn HO2.out (by simp [World.drew]; omega)); have L4 := (LiesB.new W2 _ _ _ [z] 1 rfl rfl).drew.keeps k4 (by intro b' off' e _ hs; injection e with e; injection e with e1 e2; have := (HO3.out.blk b' hs).2; omega); have hc4 : w4.cell? ⟨b, off + k, none⟩ = some (.int .u8 (x.toNat : Int)) := (HB4.cell (p := ⟨b, off + k, none⟩) hbw).trans hc0; have hs4 := HB4.size; have hn4 := own4.len)
            | (refine step_appendB rfl (.tmp 33) (.tmp 40) rfl w.heap.size A4 n4 c4 _ rfl own4 _ _ 1 1 [z] rfl L4 (n4 + 1) _ rfl rfl (by rw [List.length_append] at hn4; have := HO2.out.len; omega) hs4 ?_; intro A5 c5 w5 own5 k5 hk5; have HB5 : Below w.heap.size w w5 := HB4.trans (k5.belowOwn own4 hs4))
            | (refine step_appendB rfl (.tmp 33) (.tmp 40) rfl w.heap.size A4 n4 c4 _ rfl (own4.below (Below_new _ _)) _ _ 1 1 [z] rfl (LiesB.new _ _ _ _ _ _ rfl rfl) (n4 + 1) _ rfl rfl (by rw [List.length_append] at hn4; have := HO2.out.len; omega) (by simp; omega) ?_; intro A5 c5 w5 own5 k5 hk5; have HB5 : Below w.heap.size w w5 := (HB4.trans ((Below_new _ _).mono hs4)).trans (k5.belowOwn own4 (by simp; omega))))
          all_goals
            have hc5 : w5.cell? ⟨b, off + k, none⟩ = some (.int .u8 (x.toNat : Int)) := (HB5.cell (p := ⟨b, off + k, none⟩) hbw).trans hc0
            have HB6 := hide HB5
            have HO6 := hide own5
            clear HB5 own5 hk5 k5
            go_wp2
            exact ⟨⟨m, A5, n4 + 1, c5, _, x, hm, rfl, rfl, rfl, HO6.out, by rw [← HST.out]; simp [List.append_assoc], HB6.out⟩, by simp [intOf]; omega⟩
    · obtain rfl : k = n := by omega
      go_wp2
      go_ret
      refine ⟨A', n', c', rfl, ?_, HB.out⟩
      have := HE.out
      rw [List.drop_eq_nil_of_le (by rw [HL.out.len]; omega), Runs.enc_nil, List.append_nil] at this
      rw [← this]
      exact HO.out
end Go.Proofs.Ytcjcmjkpfijhdaa
