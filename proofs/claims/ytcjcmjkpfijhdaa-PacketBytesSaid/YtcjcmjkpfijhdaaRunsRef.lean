/-
  quintainref12.Runs.
-/
import Derived.Test.YtcjcmjkpfijhdaaRunsPlain
import Derived.Test.YtcjcmjkpfijhdaaVarRef
import Derived.Deep.RegionLaw
namespace Go.Proofs.Ytcjcmjkpfijhdaa
open Go.RowKit
set_option linter.unusedVariables false
set_option maxRecDepth 10000 in
set_option maxHeartbeats 2000000 in
theorem ref_Runs (A : Option Addr) (n c B : Nat) (l : List UInt8) (w : World) (hA : LiesB w B A n l) (hB : B ≤ w.heap.size) (hn : n ≤ 10000) :
    Calls Try.prog 29 #[.slice A n c] w fun e w' => ∃ A' n' c', e = .returned (.slice A' n' c') ∧ OwnB w' w.heap.size A' n' c' (Runs.enc 0 l) ∧ Below w.heap.size w w' := by
  have hlen := Runs.enc_len n 0 l (by rw [hA.len]; omega) (by rw [hA.len]; omega)
  rw [hA.len] at hlen
  obtain ⟨R, hR⟩ : ∃ R, R = Runs.enc 0 l := ⟨_, rfl⟩
  rw [← hR] at hlen ⊢
  have HR := hide hR
  have HA := hide hA
  clear hR hA
  go_enter Try.func29, Try.ntmps29
  go_wp2
  go_loopw [3, 4, 5] (fun s x i wr => ∃ (k : Nat) (A' : Option Addr) (n' c' : Nat) (l' : List UInt8) (ah : UInt8), k ≤ n ∧ i = .int .i64 k ∧ x = .int .u8 (ah.toNat : Int) ∧ s = .slice A' n' c' ∧ OwnB wr w.heap.size A' n' c' l' ∧ l' ++ Runs.enc ah (l.drop k) = R ∧ Below w.heap.size w wr) (fun _ _ i _ => n - (intOf i).toNat)
  case atStart => exact ⟨0, _, _, _, [], 0, by omega, rfl, rfl, rfl, OwnB.nil _ _, by simp [HR.out], Below.refl _ _⟩
  case round =>
    obtain ⟨W1, hW1⟩ : ∃ W1, W1 = wr := ⟨_, rfl⟩
    subst hW1
    obtain ⟨k, A', n', c', l', ah, hk, rfl, rfl, rfl, hown, heq, hbel⟩ := hrel
    have HL := hide (HA.out.below (hbel.mono hB))
    have HO := hide hown
    have HB := hide hbel
    have hsz : w.heap.size ≤ W1.heap.size := hbel.size
    have hl' : n' ≤ 110000 := by
      have e2 := congrArg List.length heq
      have e3 := hown.len
      rw [List.length_append] at e2
      omega
    have HE := hide heq
    clear hown hbel heq
    by_cases hlt : k < n
    · obtain ⟨b, off, hlk, rfl, hbB, hc⟩ := HL.out.at_ hlt
      have hbw : b < w.heap.size := by omega
      obtain ⟨x, hx⟩ : ∃ x, x = l[k] := ⟨_, rfl⟩
      rw [← hx] at hc
      have hc0 : w.cell? ⟨b, off + k, none⟩ = some (.int .u8 (x.toNat : Int)) := (HB.out.cell (p := ⟨b, off + k, none⟩) hbw).symm.trans hc
      have HX := hide hx
      clear hx
      go_wp2
      go_loopw [6] (fun j wx => ∃ c1 q : Nat, 1 ≤ c1 ∧ k + c1 ≤ n ∧ j = .int .i64 c1 ∧ Runs.lead x (l.drop (k + c1)) + c1 = Runs.lead x (l.drop k) ∧ wx = W1.drewN q) (fun j _ => n - (intOf j).toNat)
      case atStart => exact ⟨1, 0, by omega, hlt, rfl, (Runs.lead_eq hlk HX.out.symm).symm, rfl⟩
      case round =>
        obtain ⟨c1, q, hc1, hm, rfl, hlead, hwx⟩ := hrel
        obtain ⟨m, hmm⟩ : ∃ m, m = k + c1 := ⟨_, rfl⟩
        rw [← hmm] at hm hlead
        have hmi : (k : Int) + (c1 : Int) = (m : Int) := by omega
        clear hmm
        have HLD := hide hlead
        have h1 := HL.out.drewN q
        have h2 : (W1.drewN q).cell? ⟨b, off + k, none⟩ = some (.int .u8 (x.toNat : Int)) := hc
        rw [← hwx] at h1 h2
        have HL1 := hide h1
        have HWX := hide hwx
        clear hlead hwx h1 hc
        have HGO := hide (show Runs.lead x (l.drop m) = 0 → l' ++ (Var.put (Var.zig (c1 : Int)) ++ [x ^^^ ah]) ++ Runs.enc x (l.drop m) = R from fun h0 => by
          rw [← HE.out, Runs.enc_step (last := ah) (k := m) hlk (by rw [← HX.out]; have := HLD.out; omega) (by rw [← HX.out]; exact h0) (by omega), ← HX.out, show ((m : Int) - (k : Int)) = (c1 : Int) by omega]
          simp [List.append_assoc])
        by_cases hmn : m < n
        · obtain ⟨b2, off2, hlm, e2, -, hc2⟩ := HL1.out.at_ hmn
          injection e2 with e2
          injection e2 with e21 e22
          subst e21 e22
          by_cases hq : l[m] = x
          · rw [hq] at hc2
            have HQ := hide hq
            clear hq
            go_wp2
            go_quiet (fail)
            go_wp2
            exact ⟨⟨c1 + 1, q + nq, by omega, by omega, by go_num, by have := Runs.lead_eq hlm HQ.out; have := HLD.out; rw [show k + (c1 + 1) = m + 1 by omega]; omega, by rw [HWX.out, World.drewN_drewN]⟩, by simp [intOf]; omega⟩
          · have hq2 : ¬ (l[m].toNat = x.toNat) := fun h => hq (UInt8.toNat_inj.1 h)
            have hlead0 : Runs.lead x (l.drop m) = 0 := Runs.lead_ne hlm hq
            generalize l[m] = y at hc2 hq2
            clear hq
            have hdec : ((y.toNat : Int) == (x.toNat : Int)) = false := by simp; omega
            go_wp2
            go_quiet (fail)
            go_wp2
            have hst := HGO.out hlead0
            have HST := hide hst
            have HO2 : OwnB (wr.drewN nq) w.heap.size A' n' c' l' := by rw [HWX.out]; exact (HO.out.drewN _).drewN _
            have HB2 : Below w.heap.size w (wr.drewN nq) := by rw [HWX.out]; exact Below_drewN (Below_drewN HB.out q) nq
            have hcw : (wr.drewN nq).cell? ⟨b, off + k, none⟩ = some (.int .u8 (x.toNat : Int)) := h2
            clear hst h2 hlead0
            generalize wr.drewN nq = W2 at HO2 HB2 hcw ⊢
            have HO3 := hide HO2
            have HB3 := hide HB2
            have hs3 : w.heap.size ≤ W2.heap.size := HB2.size
            have hs2 : w.heap.size ≤ W2.drew.heap.size := hs3
            have HO2 := hide HO3.out.drew
            have HB2 := hide HB3.out.drew
            have hp10 := Var.put_len10 (Var.zig (c1 : Int)) (Var.zig_lt _ (by omega) (by omega))
            have hxor := bits_xor8 x ah
            obtain ⟨z, hz⟩ : ∃ z, z = x ^^^ ah := ⟨_, rfl⟩
            rw [← hz] at hxor HST
            have HZ := hide hz
            clear hz
            obtain ⟨P, hP⟩ : ∃ P, P = Var.put (Var.zig (c1 : Int)) := ⟨_, rfl⟩
            rw [← hP] at hp10 HST
            have HP := hide hP
            clear hP
            go_wp2_with fail
            go_region_law (first
              | (go_simp; go_at_call 27; (refine Calls.mono (ref_Put (c1 : Int) _ (by omega) (by omega)) ?_); rintro e w4 ⟨A4, n4, c4, rfl, own4, hb4⟩; rw [← HP.out] at own4; have HO4 := HO2.out.below (w' := w4) hb4; have HB4 : Below w.heap.size w w4 := HB2.out.trans (hb4.mono hs2); have hs4 := HB4.size; have hn4 := own4.len; have hc4 : w4.cell? ⟨b, off + k, none⟩ = some (.int .u8 (x.toNat : Int)) := (HB4.cell (p := ⟨b, off + k, none⟩) hbw).trans hc0)
              | (go_simp; go_at_call 27; (refine Calls.mono (ref_Put (c1 : Int) _ (by omega) (by omega)) ?_); rintro e w4 ⟨A4, n4, c4, rfl, own4, hb4⟩; rw [← HP.out] at own4; have HO4 := (HO3.out.below (Below_new _ _)).drew.below (w' := w4) hb4; have HB4 : Below w.heap.size w w4 := (HB3.out.trans ((Below_new _ _).mono hs3)).drew.trans (hb4.mono (by simp [World.drew]; omega)); have L4 := (LiesB.new W2 _ _ _ [z] 1 rfl rfl).drew.below (w' := w4) (hb4.mono (by simp [World.drew])); have hs4 := HB4.size; have hn4 := own4.len; have hc4 : w4.cell? ⟨b, off + k, none⟩ = some (.int .u8 (x.toNat : Int)) := (HB4.cell (p := ⟨b, off + k, none⟩) hbw).trans hc0)
              | (refine step_appendB rfl (.tmp 32) (.tmp 34) rfl w.heap.size A' n' c' l' rfl HO4 _ A4 n4 c4 _ rfl own4.lies (n' + n4) _ rfl rfl (by omega) hs4 ?_; intro A5 c5 w5 own5 k5 hk5; have HB5 : Below w.heap.size w w5 := HB4.trans (k5.belowOwn HO4 hs4); have L5 := L4.keeps k5 (by intro b' off' e _ hs; injection e with e; injection e with e1 e2; have := (HO3.out.blk b' hs).2; omega); have hs5 := HB5.size; have hc5 : w5.cell? ⟨b, off + k, none⟩ = some (.int .u8 (x.toNat : Int)) := (HB5.cell (p := ⟨b, off + k, none⟩) hbw).trans hc0)
              | (refine step_appendB rfl (.tmp 32) (.tmp 34) rfl w.heap.size A' n' c' l' rfl HO4 _ A4 n4 c4 _ rfl own4.lies (n' + n4) _ rfl rfl (by omega) hs4 ?_; intro A5 c5 w5 own5 k5 hk5; have HB5 : Below w.heap.size w w5 := HB4.trans (k5.belowOwn HO4 hs4); have hs5 := HB5.size; have hc5 : w5.cell? ⟨b, off + k, none⟩ = some (.int .u8 (x.toNat : Int)) := (HB5.cell (p := ⟨b, off + k, none⟩) hbw).trans hc0)
              | (refine step_appendB rfl (.tmp 32) (.tmp 34) rfl w.heap.size A' n' c' l' rfl (HO4.below (Below_new _ _)) _ A4 n4 c4 _ rfl (own4.lies.below (Below_new _ _)) (n' + n4) _ rfl rfl (by omega) (by simp; omega) ?_; intro A5 c5 w5 own5 k5 hk5; have HB5 : Below w.heap.size w w5 := (HB4.trans ((Below_new _ _).mono hs4)).trans (k5.belowOwn HO4 (by simp; omega)); have L5 := (LiesB.new w4 _ _ _ [z] 1 rfl rfl).keeps k5 (by intro b' off' e _ hs; injection e with e; injection e with e1 e2; have := (HO4.blk b' hs).2; omega); have hs5 := HB5.size; have hc5 : w5.cell? ⟨b, off + k, none⟩ = some (.int .u8 (x.toNat : Int)) := (HB5.cell (p := ⟨b, off + k, none⟩) hbw).trans hc0)
              | (refine step_appendB rfl (.tmp 35) (.tmp 42) rfl w.heap.size A5 (n' + n4) c5 _ rfl own5 _ _ 1 1 [z] rfl L5 (n' + n4 + 1) _ rfl rfl (by omega) hs5 ?_; intro A6 c6 w6 own6 k6 hk6; have HB6 : Below w.heap.size w w6 := HB5.trans (k6.belowOwn own5 hs5))
              | (refine step_appendB rfl (.tmp 35) (.tmp 42) rfl w.heap.size A5 (n' + n4) c5 _ rfl (own5.below (Below_new _ _)) _ _ 1 1 [z] rfl (LiesB.new _ _ _ _ _ _ rfl rfl) (n' + n4 + 1) _ rfl rfl (by omega) (by simp; omega) ?_; intro A6 c6 w6 own6 k6 hk6; have HB6 : Below w.heap.size w w6 := (HB5.trans ((Below_new _ _).mono hs5)).trans (k6.belowOwn own5 (by simp; omega))))
            all_goals
              have hc6 : w6.cell? ⟨b, off + k, none⟩ = some (.int .u8 (x.toNat : Int)) := (HB6.cell (p := ⟨b, off + k, none⟩) hbw).trans hc0
              have HB7 := hide HB6
              have HO7 := hide own6
              clear HB6 own6 hk6 k6
              go_wp2
              exact ⟨⟨m, A6, n' + n4 + 1, c6, _, x, hm, by go_num, rfl, rfl, HO7.out, by rw [← HST.out]; simp [List.append_assoc], HB7.out⟩, by simp [intOf]; omega⟩
        · have hlead0 : Runs.lead x (l.drop m) = 0 := Runs.lead_end (by rw [HL1.out.len]; omega)
          go_wp2
          go_quiet (fail)
          go_wp2
          have hst := HGO.out hlead0
          have HST := hide hst
          have HO2 : OwnB (wr.drewN nq) w.heap.size A' n' c' l' := by rw [HWX.out]; exact (HO.out.drewN _).drewN _
          have HB2 : Below w.heap.size w (wr.drewN nq) := by rw [HWX.out]; exact Below_drewN (Below_drewN HB.out q) nq
          have hcw : (wr.drewN nq).cell? ⟨b, off + k, none⟩ = some (.int .u8 (x.toNat : Int)) := h2
          clear hst h2 hlead0
          generalize wr.drewN nq = W2 at HO2 HB2 hcw ⊢
          have HO3 := hide HO2
          have HB3 := hide HB2
          have hs3 : w.heap.size ≤ W2.heap.size := HB2.size
          have hs2 : w.heap.size ≤ W2.drew.heap.size := hs3
          have HO2 := hide HO3.out.drew
          have HB2 := hide HB3.out.drew
          have hp10 := Var.put_len10 (Var.zig (c1 : Int)) (Var.zig_lt _ (by omega) (by omega))
          have hxor := bits_xor8 x ah
          obtain ⟨z, hz⟩ : ∃ z, z = x ^^^ ah := ⟨_, rfl⟩
          rw [← hz] at hxor HST
          have HZ := hide hz
          clear hz
          obtain ⟨P, hP⟩ : ∃ P, P = Var.put (Var.zig (c1 : Int)) := ⟨_, rfl⟩
          rw [← hP] at hp10 HST
          have HP := hide hP
          clear hP
          go_wp2_with fail
          go_region_law (first
            | (go_simp; go_at_call 27; (refine Calls.mono (ref_Put (c1 : Int) _ (by omega) (by omega)) ?_); rintro e w4 ⟨A4, n4, c4, rfl, own4, hb4⟩; rw [← HP.out] at own4; have HO4 := HO2.out.below (w' := w4) hb4; have HB4 : Below w.heap.size w w4 := HB2.out.trans (hb4.mono hs2); have hs4 := HB4.size; have hn4 := own4.len; have hc4 : w4.cell? ⟨b, off + k, none⟩ = some (.int .u8 (x.toNat : Int)) := (HB4.cell (p := ⟨b, off + k, none⟩) hbw).trans hc0)
            | (go_simp; go_at_call 27; (refine Calls.mono (ref_Put (c1 : Int) _ (by omega) (by omega)) ?_); rintro e w4 ⟨A4, n4, c4, rfl, own4, hb4⟩; rw [← HP.out] at own4; have HO4 := (HO3.out.below (Below_new _ _)).drew.below (w' := w4) hb4; have HB4 : Below w.heap.size w w4 := (HB3.out.trans ((Below_new _ _).mono hs3)).drew.trans (hb4.mono (by simp [World.drew]; omega)); have L4 := (LiesB.new W2 _ _ _ [z] 1 rfl rfl).drew.below (w' := w4) (hb4.mono (by simp [World.drew])); have hs4 := HB4.size; have hn4 := own4.len; have hc4 : w4.cell? ⟨b, off + k, none⟩ = some (.int .u8 (x.toNat : Int)) := (HB4.cell (p := ⟨b, off + k, none⟩) hbw).trans hc0)
            | (refine step_appendB rfl (.tmp 32) (.tmp 34) rfl w.heap.size A' n' c' l' rfl HO4 _ A4 n4 c4 _ rfl own4.lies (n' + n4) _ rfl rfl (by omega) hs4 ?_; intro A5 c5 w5 own5 k5 hk5; have HB5 : Below w.heap.size w w5 := HB4.trans (k5.belowOwn HO4 hs4); have L5 := L4.keeps k5 (by intro b' off' e _ hs; injection e with e; injection e with e1 e2; have := (HO3.out.blk b' hs).2; omega); have hs5 := HB5.size; have hc5 : w5.cell? ⟨b, off + k, none⟩ = some (.int .u8 (x.toNat : Int)) := (HB5.cell (p := ⟨b, off + k, none⟩) hbw).trans hc0)
            | (refine step_appendB rfl (.tmp 32) (.tmp 34) rfl w.heap.size A' n' c' l' rfl HO4 _ A4 n4 c4 _ rfl own4.lies (n' + n4) _ rfl rfl (by omega) hs4 ?_; intro A5 c5 w5 own5 k5 hk5; have HB5 : Below w.heap.size w w5 := HB4.trans (k5.belowOwn HO4 hs4); have hs5 := HB5.size; have hc5 : w5.cell? ⟨b, off + k, none⟩ = some (.int .u8 (x.toNat : Int)) := (HB5.cell (p := ⟨b, off + k, none⟩) hbw).trans hc0)
            | (refine step_appendB rfl (.tmp 32) (.tmp 34) rfl w.heap.size A' n' c' l' rfl (HO4.below (Below_new _ _)) _ A4 n4 c4 _ rfl (own4.lies.below (Below_new _ _)) (n' + n4) _ rfl rfl (by omega) (by simp; omega) ?_; intro A5 c5 w5 own5 k5 hk5; have HB5 : Below w.heap.size w w5 := (HB4.trans ((Below_new _ _).mono hs4)).trans (k5.belowOwn HO4 (by simp; omega)); have L5 := (LiesB.new w4 _ _ _ [z] 1 rfl rfl).keeps k5 (by intro b' off' e _ hs; injection e with e; injection e with e1 e2; have := (HO4.blk b' hs).2; omega); have hs5 := HB5.size; have hc5 : w5.cell? ⟨b, off + k, none⟩ = some (.int .u8 (x.toNat : Int)) := (HB5.cell (p := ⟨b, off + k, none⟩) hbw).trans hc0)
            | (refine step_appendB rfl (.tmp 35) (.tmp 42) rfl w.heap.size A5 (n' + n4) c5 _ rfl own5 _ _ 1 1 [z] rfl L5 (n' + n4 + 1) _ rfl rfl (by omega) hs5 ?_; intro A6 c6 w6 own6 k6 hk6; have HB6 : Below w.heap.size w w6 := HB5.trans (k6.belowOwn own5 hs5))
            | (refine step_appendB rfl (.tmp 35) (.tmp 42) rfl w.heap.size A5 (n' + n4) c5 _ rfl (own5.below (Below_new _ _)) _ _ 1 1 [z] rfl (LiesB.new _ _ _ _ _ _ rfl rfl) (n' + n4 + 1) _ rfl rfl (by omega) (by simp; omega) ?_; intro A6 c6 w6 own6 k6 hk6; have HB6 : Below w.heap.size w w6 := (HB5.trans ((Below_new _ _).mono hs5)).trans (k6.belowOwn own5 (by simp; omega))))
          all_goals
            have hc6 : w6.cell? ⟨b, off + k, none⟩ = some (.int .u8 (x.toNat : Int)) := (HB6.cell (p := ⟨b, off + k, none⟩) hbw).trans hc0
            have HB7 := hide HB6
            have HO7 := hide own6
            clear HB6 own6 hk6 k6
            go_wp2
            exact ⟨⟨m, A6, n' + n4 + 1, c6, _, x, hm, by go_num, rfl, rfl, HO7.out, by rw [← HST.out]; simp [List.append_assoc], HB7.out⟩, by simp [intOf]; omega⟩
    · obtain rfl : k = n := by omega
      go_wp2
      go_ret
      refine ⟨A', n', c', rfl, ?_, HB.out⟩
      have := HE.out
      rw [List.drop_eq_nil_of_le (by rw [HL.out.len]; omega), Runs.enc_nil, List.append_nil] at this
      rw [← this]
      exact HO.out
end Go.Proofs.Ytcjcmjkpfijhdaa
