/-
  runs.Encode.
  quintainref1.Put.
  quintainref12.Runs.
  The walk of the document's Four.
  A packet in memory: its block read whole, and bytes that grow beside it.
  The walk of packet.Encode.
-/
import Derived.Test.YtbcgffgiifminaaStand5
import Derived.Deep.RegionLaw
namespace Go.Proofs.Ytbcgffgiifminaa
open Go.RowKit
set_option maxRecDepth 10000
set_option linter.unusedVariables false
set_option maxRecDepth 10000 in
set_option maxHeartbeats 2000000 in
theorem runs_Encode (A : Option Addr) (n c B : Nat) (l : List UInt8) (w : World) (hA : LiesB w B A n l) (hB : B ≤ w.heap.size) (hn : n ≤ 10000) :
    Calls Try.prog 90 #[.slice A n c] w fun e w' => ∃ A' n' c', e = .returned (.slice A' n' c') ∧ OwnB w' w.heap.size A' n' c' (Runs.enc 0 l) ∧ Below w.heap.size w w' := by
  have hlen := Runs.enc_len n 0 l (by rw [hA.len]; omega) (by rw [hA.len]; omega)
  rw [hA.len] at hlen
  obtain ⟨R, hR⟩ : ∃ R, R = Runs.enc 0 l := ⟨_, rfl⟩
  rw [← hR] at hlen ⊢
  have HR := hide hR
  have HA := hide hA
  clear hR hA
  go_enter Try.func90, Try.ntmps90
  go_wp2
  go_loopw [3, 4, 5] (fun s x i wr => ∃ (k : Nat) (A' : Option Addr) (n' c' : Nat) (l' : List UInt8) (ah : UInt8), k ≤ n ∧ i = .int .i64 k ∧ x = .int .u8 (ah.toNat : Int) ∧ s = .slice A' n' c' ∧ OwnB wr w.heap.size A' n' c' l' ∧ l' ++ Runs.enc ah (l.drop k) = R ∧ Below w.heap.size w wr) (fun _ _ i _ => n - (intOf i).toNat)
  case atStart => exact ⟨0, _, _, _, [], 0, by omega, rfl, rfl, rfl, OwnB.nil _ _, by simp [HR.out], Below.refl _ _⟩
  case round =>
    obtain ⟨W1, hW1⟩ : ∃ W1, W1 = wr := ⟨_, rfl⟩
    subst hW1
    obtain ⟨k, A', n', c', l', ah, hk, rfl, rfl, rfl, hown, heq, hbel⟩ := hrel
    have HL := hide (HA.out.below (hbel.mono hB))
    have HO := hide hown
    have HB := hide hbel
    have hsz : w.heap.size ≤ W1.heap.size := hbel.size
    have hl' : n' ≤ 110000 := by
      have e2 := congrArg List.length heq
      have e3 := hown.len
      rw [List.length_append] at e2
      omega
    have HE := hide heq
    clear hown hbel heq
    by_cases hlt : k < n
    · obtain ⟨b, off, hlk, rfl, hbB, hc⟩ := HL.out.at_ hlt
      have hbw : b < w.heap.size := by omega
      obtain ⟨x, hx⟩ : ∃ x, x = l[k] := ⟨_, rfl⟩
      rw [← hx] at hc
      have hc0 : w.cell? ⟨b, off + k, none⟩ = some (.int .u8 (x.toNat : Int)) := (HB.out.cell (p := ⟨b, off + k, none⟩) hbw).symm.trans hc
      have HX := hide hx
      clear hx
      go_wp2
      go_loopw [6] (fun j wx => ∃ m q : Nat, k ≤ m ∧ m ≤ n ∧ j = .int .i64 m ∧ Runs.lead x (l.drop m) + (m - k) = Runs.lead x (l.drop k) ∧ wx = W1.drewN q) (fun j _ => n - (intOf j).toNat)
      case atStart => exact ⟨k, 0, by omega, hk, rfl, by omega, rfl⟩
      case round =>
        obtain ⟨m, q, hkm, hm, rfl, hlead, hwx⟩ := hrel
        have HLD := hide hlead
        have h1 := HL.out.drewN q
        have h2 : (W1.drewN q).cell? ⟨b, off + k, none⟩ = some (.int .u8 (x.toNat : Int)) := hc
        rw [← hwx] at h1 h2
        have HL1 := hide h1
        have HWX := hide hwx
        clear hlead hwx h1 hc
        have HGO := hide (show ∀ m, Runs.lead x (l.drop m) = 0 → Runs.lead x (l.drop m) + (m - k) = Runs.lead x (l.drop k) → k ≤ m → m ≤ n → l' ++ (Var.put (Var.zig ((m : Int) - k)) ++ [x ^^^ ah]) ++ Runs.enc x (l.drop m) = R from fun m h0 hm1 hm2 hm3 => by
          rw [← HE.out, Runs.enc_step (last := ah) hlk (by rw [← HX.out]; exact hm1) (by rw [← HX.out]; exact h0) hm2, ← HX.out]
          simp [List.append_assoc])
        by_cases hmn : m < n
        · obtain ⟨b2, off2, hlm, e2, -, hc2⟩ := HL1.out.at_ hmn
          injection e2 with e2
          injection e2 with e21 e22
          subst e21 e22
          by_cases hq : l[m] = x
          · rw [hq] at hc2
            have HQ := hide hq
            clear hq
            go_wp2
            go_quiet (fail)
            go_wp2
            exact ⟨⟨m + 1, q + nq, by omega, by omega, by go_num, by have := Runs.lead_eq hlm HQ.out; have := HLD.out; omega, by rw [HWX.out, World.drewN_drewN]⟩, by simp [intOf]; omega⟩
          · have hq2 : ¬ (l[m].toNat = x.toNat) := fun h => hq (UInt8.toNat_inj.1 h)
            have hlead0 : Runs.lead x (l.drop m) = 0 := Runs.lead_ne hlm hq
            generalize l[m] = y at hc2 hq2
            clear hq
            have hdec : ((y.toNat : Int) == (x.toNat : Int)) = false := by simp; omega
            go_wp2
            go_quiet (fail)
            go_wp2
            have hst := HGO.out m hlead0 HLD.out hkm hm
            have hmk : k < m := by have h1 := Runs.lead_eq (x := x) hlk HX.out.symm; have := HLD.out; omega
            have HST := hide hst
            have HO2 : OwnB (wr.drewN nq) w.heap.size A' n' c' l' := by rw [HWX.out]; exact (HO.out.drewN _).drewN _
            have HB2 : Below w.heap.size w (wr.drewN nq) := by rw [HWX.out]; exact Below_drewN (Below_drewN HB.out q) nq
            have hcw : (wr.drewN nq).cell? ⟨b, off + k, none⟩ = some (.int .u8 (x.toNat : Int)) := h2
            clear hst h2 hlead0
            generalize wr.drewN nq = W2 at HO2 HB2 hcw ⊢
            have HO3 := hide HO2
            have HB3 := hide HB2
            have hs3 : w.heap.size ≤ W2.heap.size := HB2.size
            have hs2 : w.heap.size ≤ W2.drew.heap.size := hs3
            have HO2 := hide HO3.out.drew
            have HB2 := hide HB3.out.drew
            have hp10 := Var.put_len10 (Var.zig ((m : Int) - k)) (Var.zig_lt _ (by omega) (by omega))
            have hxor := bits_xor8 x ah
            obtain ⟨z, hz⟩ : ∃ z, z = x ^^^ ah := ⟨_, rfl⟩
            rw [← hz] at hxor HST
            have HZ := hide hz
            clear hz
            have hwrap : IntKind.i64.wrap ((m : Int) - (k : Int)) = (m : Int) - (k : Int) := by rw [IntKind.wrap_i64]; omega
            go_wp2_with fail
            go_region_law (first
              | (go_simp; go_at_call 88; (refine Calls.mono (num_Put A' n' c' w.heap.size l' _ _ HO2.out hs2 (by omega) (by omega) (by omega)) ?_); rintro e w4 ⟨A4, n4, c4, rfl, own4, k4⟩; have HB4 : Below w.heap.size w w4 := HB2.out.trans (k4.belowOwn HO2.out hs2); have hc4 : w4.cell? ⟨b, off + k, none⟩ = some (.int .u8 (x.toNat : Int)) := (HB4.cell (p := ⟨b, off + k, none⟩) hbw).trans hc0; have hs4 := HB4.size; have hn4 := own4.len)
              | (go_simp; go_at_call 88; (refine Calls.mono (num_Put A' n' c' w.heap.size l' _ _ (HO3.out.below (Below_new _ _)).drew (by simp [World.drew]; omega) (by omega) (by omega) (by omega)) ?_); rintro e w4 ⟨A4, n4, c4, rfl, own4, k4⟩; have HB4 : Below w.heap.size w w4 := (HB3.out.trans ((Below_new _ _).mono hs3)).drew.trans (k4.belowOwn HO2.out (by simp [World.drew]; omega)); have L4 := (LiesB.new W2 _ _ _ [z] 1 rfl rfl).drew.keeps k4 (by intro b' off' e _ hs; injection e with e; injection e with e1 e2; have := (HO3.out.blk b' hs).2; omega); have hc4 : w4.cell? ⟨b, off + k, none⟩ = some (.int .u8 (x.toNat : Int)) := (HB4.cell (p := ⟨b, off + k, none⟩) hbw).trans hc0; have hs4 := HB4.size; have hn4 := own4.len)
              | (refine step_appendB rfl (.tmp 33) (.tmp 40) rfl w.heap.size A4 n4 c4 _ rfl own4 _ _ 1 1 [z] rfl L4 (n4 + 1) _ rfl rfl (by rw [List.length_append] at hn4; have := HO2.out.len; omega) hs4 ?_; intro A5 c5 w5 own5 k5 hk5; have HB5 : Below w.heap.size w w5 := HB4.trans (k5.belowOwn own4 hs4))
              | (refine step_appendB rfl (.tmp 33) (.tmp 40) rfl w.heap.size A4 n4 c4 _ rfl (own4.below (Below_new _ _)) _ _ 1 1 [z] rfl (LiesB.new _ _ _ _ _ _ rfl rfl) (n4 + 1) _ rfl rfl (by rw [List.length_append] at hn4; have := HO2.out.len; omega) (by simp; omega) ?_; intro A5 c5 w5 own5 k5 hk5; have HB5 : Below w.heap.size w w5 := (HB4.trans ((Below_new _ _).mono hs4)).trans (k5.belowOwn own4 (by simp; omega))))
            all_goals
              have hc5 : w5.cell? ⟨b, off + k, none⟩ = some (.int .u8 (x.toNat : Int)) := (HB5.cell (p := ⟨b, off + k, none⟩) hbw).trans hc0
              have HB6 := hide HB5
              have HO6 := hide own5
              clear HB5 own5 hk5 k5
              go_wp2
              exact ⟨⟨m, A5, n4 + 1, c5, _, x, hm, rfl, rfl, rfl, HO6.out, by rw [← HST.out]; simp [List.append_assoc], HB6.out⟩, by simp [intOf]; omega⟩
        · have hlead0 : Runs.lead x (l.drop m) = 0 := Runs.lead_end (by rw [HL1.out.len]; omega)
          go_wp2
          go_quiet (fail)
          go_wp2
          have hst := HGO.out m hlead0 HLD.out hkm hm
          have hmk : k < m := by have h1 := Runs.lead_eq (x := x) hlk HX.out.symm; have := HLD.out; omega
          have HST := hide hst
          have HO2 : OwnB (wr.drewN nq) w.heap.size A' n' c' l' := by rw [HWX.out]; exact (HO.out.drewN _).drewN _
          have HB2 : Below w.heap.size w (wr.drewN nq) := by rw [HWX.out]; exact Below_drewN (Below_drewN HB.out q) nq
          have hcw : (wr.drewN nq).cell? ⟨b, off + k, none⟩ = some (.int .u8 (x.toNat : Int)) := h2
          clear hst h2 hlead0
          generalize wr.drewN nq = W2 at HO2 HB2 hcw ⊢
          have HO3 := hide HO2
          have HB3 := hide HB2
          have hs3 : w.heap.size ≤ W2.heap.size := HB2.size
          have hs2 : w.heap.size ≤ W2.drew.heap.size := hs3
          have HO2 := hide HO3.out.drew
          have HB2 := hide HB3.out.drew
          have hp10 := Var.put_len10 (Var.zig ((m : Int) - k)) (Var.zig_lt _ (by omega) (by omega))
          have hxor := bits_xor8 x ah
          obtain ⟨z, hz⟩ : ∃ z, z = x ^^^ ah := ⟨_, rfl⟩
          rw [← hz] at hxor HST
          have HZ := hide hz
          clear hz
          have hwrap : IntKind.i64.wrap ((m : Int) - (k : Int)) = (m : Int) - (k : Int) := by rw [IntKind.wrap_i64]; omega
          go_wp2_with fail
          go_region_law (first
            | (go_simp; go_at_call 88; (refine Calls.mono (num_Put A' n' c' w.heap.size l' _ _ HO2.out hs2 (by omega) (by omega) (by omega)) ?_); rintro e w4 ⟨A4, n4, c4, rfl, own4, k4⟩; have HB4 : Below w.heap.size w w4 := HB2.out.trans (k4.belowOwn HO2.out hs2); have hc4 : w4.cell? ⟨b, off + k, none⟩ = some (.int .u8 (x.toNat : Int)) := (HB4.cell (p := ⟨b, off + k, none⟩) hbw).trans hc0; have hs4 := HB4.size; have hn4 := own4.len)
            | (go_simp; go_at_call 88; (refine Calls.mono (num_Put A' n' c' w.heap.size l' _ _ (HO3.out.below (Below_new _ _)).drew (by simp [World.drew]; omega) (by omega) (by omega) (by omega)) ?_); rintro e w4 ⟨A4, n4, c4, rfl, own4, k4⟩; have HB4 : Below w.heap.size w w4 := (HB3.out.trans ((Below_new _ _).mono hs3)).drew.trans (k4.belowOwn HO2.out (by simp [World.drew]; omega)); have L4 := (LiesB.new W2 _ _ _ [z] 1 rfl rfl).drew.keeps k4 (by intro b' off' e _ hs; injection e with e; injection e with e1 e2; have := (HO3.out.blk b' hs).2; omega); have hc4 : w4.cell? ⟨b, off + k, none⟩ = some (.int .u8 (x.toNat : Int)) := (HB4.cell (p := ⟨b, off + k, none⟩) hbw).trans hc0; have hs4 := HB4.size; have hn4 := own4.len)
            | (refine step_appendB rfl (.tmp 33) (.tmp 40) rfl w.heap.size A4 n4 c4 _ rfl own4 _ _ 1 1 [z] rfl L4 (n4 + 1) _ rfl rfl (by rw [List.length_append] at hn4; have := HO2.out.len; omega) hs4 ?_; intro A5 c5 w5 own5 k5 hk5; have HB5 : Below w.heap.size w w5 := HB4.trans (k5.belowOwn own4 hs4))
            | (refine step_appendB rfl (.tmp 33) (.tmp 40) rfl w.heap.size A4 n4 c4 _ rfl (own4.below (Below_new _ _)) _ _ 1 1 [z] rfl (LiesB.new _ _ _ _ _ _ rfl rfl) (n4 + 1) _ rfl rfl (by rw [List.length_append] at hn4; have := HO2.out.len; omega) (by simp; omega) ?_; intro A5 c5 w5 own5 k5 hk5; have HB5 : Below w.heap.size w w5 := (HB4.trans ((Below_new _ _).mono hs4)).trans (k5.belowOwn own4 (by simp; omega))))
          all_goals
            have hc5 : w5.cell? ⟨b, off + k, none⟩ = some (.int .u8 (x.toNat : Int)) := (HB5.cell (p := ⟨b, off + k, none⟩) hbw).trans hc0
            have HB6 := hide HB5
            have HO6 := hide own5
            clear HB5 own5 hk5 k5
            go_wp2
            exact ⟨⟨m, A5, n4 + 1, c5, _, x, hm, rfl, rfl, rfl, HO6.out, by rw [← HST.out]; simp [List.append_assoc], HB6.out⟩, by simp [intOf]; omega⟩
    · obtain rfl : k = n := by omega
      go_wp2
      go_ret
      refine ⟨A', n', c', rfl, ?_, HB.out⟩
      have := HE.out
      rw [List.drop_eq_nil_of_le (by rw [HL.out.len]; omega), Runs.enc_nil, List.append_nil] at this
      rw [← this]
      exact HO.out
end Go.Proofs.Ytbcgffgiifminaa
namespace Go.Proofs.Ytbcgffgiifminaa
open Go.RowKit
set_option maxRecDepth 10000
set_option linter.unusedVariables false
namespace Var
theorem zig_neg2 {v : Int} (h : v < 0) (lo : -9223372036854775808 ≤ v) : bits BinOp.xor IntKind.u64 IntKind.u64.max (IntKind.u64.wrap (IntKind.u64.wrap v * 2)) = (zig v : Int) := zig_neg h lo
theorem wrap128 (u : Nat) : ((u : Int) % 128 + 128) = ((UInt8.ofNat (u % 128 + 128)).toNat : Int) := by
  rw [UInt8.toNat_ofNat']; omega
end Var
set_option maxRecDepth 10000 in
set_option maxHeartbeats 1000000 in
theorem ref_Put (v : Int) (w : World) (lo : -9223372036854775808 ≤ v) (hi : v ≤ 9223372036854775807) :
    Calls Try.prog 56 #[.int .i64 v] w fun e w' => ∃ A' n' c', e = .returned (.slice A' n' c') ∧ OwnB w' w.heap.size A' n' c' (Var.put (Var.zig v)) ∧ Below w.heap.size w w' := by
  have hz := Var.zig_lt v lo hi
  have h10 := Var.put_len10 _ hz
  obtain ⟨u0, hu0⟩ : ∃ u0, u0 = Var.zig v := ⟨_, rfl⟩
  rw [← hu0] at hz h10 ⊢
  have Hz := hide hz
  have Hu := hide hu0
  clear hz hu0
  by_cases hv : v < 0
  · have e1 := Var.zig_neg hv lo
    rw [← Hu.out] at e1
    have sg : IntKind.u64.signed = false := rfl
    go_enter Try.func56, Try.ntmps56
    go_wp2
    all_goals clear e1
    go_loopw [3, 4] (fun x s wr => ∃ A' n' c' l' u, s = .slice A' n' c' ∧ x = .int .u64 (u : Nat) ∧ u < 18446744073709551616 ∧ OwnB wr w.heap.size A' n' c' l' ∧ l' ++ Var.put u = Var.put u0 ∧ Below w.heap.size w wr) (fun x _ _ => (intOf x).toNat)
    case atStart => exact ⟨_, _, _, [], u0, rfl, rfl, Hz.out, OwnB.nil _ _, rfl, Below.refl _ _⟩
    case round =>
      obtain ⟨A', n', c', l', u, rfl, rfl, hu, hown, heq, hbel⟩ := hrel
      have hlen : n' ≤ 10 := by
        have e2 := congrArg List.length heq
        have e3 := hown.len
        rw [List.length_append] at e2
        omega
      have hb2 : w.heap.size ≤ wr.heap.size := by have := hbel.size; omega
      have HO := hide hown
      have HB := hide hbel
      have HE := hide heq
      have HU := hide hu
      clear hown hbel heq hu
      by_cases hbig : 127 < u
      · go_wp2_with (at_builtin; refine wpB_append rfl (.tmp 14) (.tmp 19) rfl w.heap.size A' n' c' l' rfl (HO.out.below (Below_new _ _)) _ _ 1 1 [UInt8.ofNat (u % 128 + 128)] rfl (LiesB.new _ _ _ _ _ _ rfl (congrArg (fun z => [Value.int .u8 z]) (Var.wrap128 u))) (n' + 1) _ rfl rfl (by omega) (by simp; omega) ?_; intro A2 c2 w2 own2 hb3 hg2)
        rw [show IntKind.u64.wrap ((u : Int) / 128) = ((u / 128 : Nat) : Int) from by have := HU.out; rw [IntKind.wrap_u64]; omega]
        refine ⟨⟨A2, n' + 1, c2, _, u / 128, rfl, rfl, by have := HU.out; omega, own2, ?_, HB.out.trans ((Below_new _ _).mono hb2 |>.trans hb3)⟩, by simp [intOf]; omega⟩
        rw [← HE.out, List.append_assoc, Var.put_big (u := u) (by omega)]; rfl
      · go_wp2_with (at_builtin; refine wpB_append rfl (.tmp 23) (.tmp 26) rfl w.heap.size A' n' c' l' rfl (HO.out.below (Below_new _ _)) _ _ 1 1 [UInt8.ofNat u] rfl (LiesB.new _ _ _ _ _ _ rfl (by simp [bv]; omega)) (n' + 1) _ rfl rfl (by omega) (by simp; omega) ?_; intro A2 c2 w2 own2 hb3 hg2)
        go_ret
        refine ⟨A2, n' + 1, c2, rfl, ?_, HB.out.trans ((Below_new _ _).mono hb2 |>.trans hb3)⟩
        rw [← HE.out, Var.put_small (u := u) (by omega)]
        exact own2
  · have sg : IntKind.u64.signed = false := rfl
    have e1 : v * 2 = (u0 : Int) := by rw [Hu.out, Var.zig, if_neg hv]; omega
    go_enter Try.func56, Try.ntmps56
    go_wp2
    try rw [e1]
    clear e1
    go_loopw [3, 4] (fun x s wr => ∃ A' n' c' l' u, s = .slice A' n' c' ∧ x = .int .u64 (u : Nat) ∧ u < 18446744073709551616 ∧ OwnB wr w.heap.size A' n' c' l' ∧ l' ++ Var.put u = Var.put u0 ∧ Below w.heap.size w wr) (fun x _ _ => (intOf x).toNat)
    case atStart => exact ⟨_, _, _, [], u0, rfl, rfl, Hz.out, OwnB.nil _ _, rfl, Below.refl _ _⟩
    case round =>
      obtain ⟨A', n', c', l', u, rfl, rfl, hu, hown, heq, hbel⟩ := hrel
      have hlen : n' ≤ 10 := by
        have e2 := congrArg List.length heq
        have e3 := hown.len
        rw [List.length_append] at e2
        omega
      have hb2 : w.heap.size ≤ wr.heap.size := by have := hbel.size; omega
      have HO := hide hown
      have HB := hide hbel
      have HE := hide heq
      have HU := hide hu
      clear hown hbel heq hu
      by_cases hbig : 127 < u
      · go_wp2_with (at_builtin; refine wpB_append rfl (.tmp 14) (.tmp 19) rfl w.heap.size A' n' c' l' rfl (HO.out.below (Below_new _ _)) _ _ 1 1 [UInt8.ofNat (u % 128 + 128)] rfl (LiesB.new _ _ _ _ _ _ rfl (congrArg (fun z => [Value.int .u8 z]) (Var.wrap128 u))) (n' + 1) _ rfl rfl (by omega) (by simp; omega) ?_; intro A2 c2 w2 own2 hb3 hg2)
        rw [show IntKind.u64.wrap ((u : Int) / 128) = ((u / 128 : Nat) : Int) from by have := HU.out; rw [IntKind.wrap_u64]; omega]
        refine ⟨⟨A2, n' + 1, c2, _, u / 128, rfl, rfl, by have := HU.out; omega, own2, ?_, HB.out.trans ((Below_new _ _).mono hb2 |>.trans hb3)⟩, by simp [intOf]; omega⟩
        rw [← HE.out, List.append_assoc, Var.put_big (u := u) (by omega)]; rfl
      · go_wp2_with (at_builtin; refine wpB_append rfl (.tmp 23) (.tmp 26) rfl w.heap.size A' n' c' l' rfl (HO.out.below (Below_new _ _)) _ _ 1 1 [UInt8.ofNat u] rfl (LiesB.new _ _ _ _ _ _ rfl (by simp [bv]; omega)) (n' + 1) _ rfl rfl (by omega) (by simp; omega) ?_; intro A2 c2 w2 own2 hb3 hg2)
        go_ret
        refine ⟨A2, n' + 1, c2, rfl, ?_, HB.out.trans ((Below_new _ _).mono hb2 |>.trans hb3)⟩
        rw [← HE.out, Var.put_small (u := u) (by omega)]
        exact own2
end Go.Proofs.Ytbcgffgiifminaa
namespace Go.Proofs.Ytbcgffgiifminaa
open Go.RowKit
set_option maxRecDepth 10000
set_option linter.unusedVariables false
set_option maxRecDepth 10000 in
set_option maxHeartbeats 2000000 in
theorem ref_Runs (A : Option Addr) (n c B : Nat) (l : List UInt8) (w : World) (hA : LiesB w B A n l) (hB : B ≤ w.heap.size) (hn : n ≤ 10000) :
    Calls Try.prog 58 #[.slice A n c] w fun e w' => ∃ A' n' c', e = .returned (.slice A' n' c') ∧ OwnB w' w.heap.size A' n' c' (Runs.enc 0 l) ∧ Below w.heap.size w w' := by
  have hlen := Runs.enc_len n 0 l (by rw [hA.len]; omega) (by rw [hA.len]; omega)
  rw [hA.len] at hlen
  obtain ⟨R, hR⟩ : ∃ R, R = Runs.enc 0 l := ⟨_, rfl⟩
  rw [← hR] at hlen ⊢
  have HR := hide hR
  have HA := hide hA
  clear hR hA
  go_enter Try.func58, Try.ntmps58
  go_wp2
  go_loopw [3, 4, 5] (fun s x i wr => ∃ (k : Nat) (A' : Option Addr) (n' c' : Nat) (l' : List UInt8) (ah : UInt8), k ≤ n ∧ i = .int .i64 k ∧ x = .int .u8 (ah.toNat : Int) ∧ s = .slice A' n' c' ∧ OwnB wr w.heap.size A' n' c' l' ∧ l' ++ Runs.enc ah (l.drop k) = R ∧ Below w.heap.size w wr) (fun _ _ i _ => n - (intOf i).toNat)
  case atStart => exact ⟨0, _, _, _, [], 0, by omega, rfl, rfl, rfl, OwnB.nil _ _, by simp [HR.out], Below.refl _ _⟩
  case round =>
    obtain ⟨W1, hW1⟩ : ∃ W1, W1 = wr := ⟨_, rfl⟩
    subst hW1
    obtain ⟨k, A', n', c', l', ah, hk, rfl, rfl, rfl, hown, heq, hbel⟩ := hrel
    have HL := hide (HA.out.below (hbel.mono hB))
    have HO := hide hown
    have HB := hide hbel
    have hsz : w.heap.size ≤ W1.heap.size := hbel.size
    have hl' : n' ≤ 110000 := by
      have e2 := congrArg List.length heq
      have e3 := hown.len
      rw [List.length_append] at e2
      omega
    have HE := hide heq
    clear hown hbel heq
    by_cases hlt : k < n
    · obtain ⟨b, off, hlk, rfl, hbB, hc⟩ := HL.out.at_ hlt
      have hbw : b < w.heap.size := by omega
      obtain ⟨x, hx⟩ : ∃ x, x = l[k] := ⟨_, rfl⟩
      rw [← hx] at hc
      have hc0 : w.cell? ⟨b, off + k, none⟩ = some (.int .u8 (x.toNat : Int)) := (HB.out.cell (p := ⟨b, off + k, none⟩) hbw).symm.trans hc
      have HX := hide hx
      clear hx
      go_wp2
      go_loopw [6] (fun j wx => ∃ c1 q : Nat, 1 ≤ c1 ∧ k + c1 ≤ n ∧ j = .int .i64 c1 ∧ Runs.lead x (l.drop (k + c1)) + c1 = Runs.lead x (l.drop k) ∧ wx = W1.drewN q) (fun j _ => n - (intOf j).toNat)
      case atStart => exact ⟨1, 0, by omega, hlt, rfl, (Runs.lead_eq hlk HX.out.symm).symm, rfl⟩
      case round =>
        obtain ⟨c1, q, hc1, hm, rfl, hlead, hwx⟩ := hrel
        obtain ⟨m, hmm⟩ : ∃ m, m = k + c1 := ⟨_, rfl⟩
        rw [← hmm] at hm hlead
        have hmi : (k : Int) + (c1 : Int) = (m : Int) := by omega
        clear hmm
        have HLD := hide hlead
        have h1 := HL.out.drewN q
        have h2 : (W1.drewN q).cell? ⟨b, off + k, none⟩ = some (.int .u8 (x.toNat : Int)) := hc
        rw [← hwx] at h1 h2
        have HL1 := hide h1
        have HWX := hide hwx
        clear hlead hwx h1 hc
        have HGO := hide (show Runs.lead x (l.drop m) = 0 → l' ++ (Var.put (Var.zig (c1 : Int)) ++ [x ^^^ ah]) ++ Runs.enc x (l.drop m) = R from fun h0 => by
          rw [← HE.out, Runs.enc_step (last := ah) (k := m) hlk (by rw [← HX.out]; have := HLD.out; omega) (by rw [← HX.out]; exact h0) (by omega), ← HX.out, show ((m : Int) - (k : Int)) = (c1 : Int) by omega]
          simp [List.append_assoc])
        by_cases hmn : m < n
        · obtain ⟨b2, off2, hlm, e2, -, hc2⟩ := HL1.out.at_ hmn
          injection e2 with e2
          injection e2 with e21 e22
          subst e21 e22
          by_cases hq : l[m] = x
          · rw [hq] at hc2
            have HQ := hide hq
            clear hq
            go_wp2
            go_quiet (fail)
            go_wp2
            exact ⟨⟨c1 + 1, q + nq, by omega, by omega, by go_num, by have := Runs.lead_eq hlm HQ.out; have := HLD.out; rw [show k + (c1 + 1) = m + 1 by omega]; omega, by rw [HWX.out, World.drewN_drewN]⟩, by simp [intOf]; omega⟩
          · have hq2 : ¬ (l[m].toNat = x.toNat) := fun h => hq (UInt8.toNat_inj.1 h)
            have hlead0 : Runs.lead x (l.drop m) = 0 := Runs.lead_ne hlm hq
            generalize l[m] = y at hc2 hq2
            clear hq
            have hdec : ((y.toNat : Int) == (x.toNat : Int)) = false := by simp; omega
            go_wp2
            go_quiet (fail)
            go_wp2
            have hst := HGO.out hlead0
            have HST := hide hst
            have HO2 : OwnB (wr.drewN nq) w.heap.size A' n' c' l' := by rw [HWX.out]; exact (HO.out.drewN _).drewN _
            have HB2 : Below w.heap.size w (wr.drewN nq) := by rw [HWX.out]; exact Below_drewN (Below_drewN HB.out q) nq
            have hcw : (wr.drewN nq).cell? ⟨b, off + k, none⟩ = some (.int .u8 (x.toNat : Int)) := h2
            clear hst h2 hlead0
            generalize wr.drewN nq = W2 at HO2 HB2 hcw ⊢
            have HO3 := hide HO2
            have HB3 := hide HB2
            have hs3 : w.heap.size ≤ W2.heap.size := HB2.size
            have hs2 : w.heap.size ≤ W2.drew.heap.size := hs3
            have HO2 := hide HO3.out.drew
            have HB2 := hide HB3.out.drew
            have hp10 := Var.put_len10 (Var.zig (c1 : Int)) (Var.zig_lt _ (by omega) (by omega))
            have hxor := bits_xor8 x ah
            obtain ⟨z, hz⟩ : ∃ z, z = x ^^^ ah := ⟨_, rfl⟩
            rw [← hz] at hxor HST
            have HZ := hide hz
            clear hz
            obtain ⟨P, hP⟩ : ∃ P, P = Var.put (Var.zig (c1 : Int)) := ⟨_, rfl⟩
            rw [← hP] at hp10 HST
            have HP := hide hP
            clear hP
            go_wp2_with fail
            go_region_law (first
              | (go_simp; go_at_call 56; (refine Calls.mono (ref_Put (c1 : Int) _ (by omega) (by omega)) ?_); rintro e w4 ⟨A4, n4, c4, rfl, own4, hb4⟩; rw [← HP.out] at own4; have HO4 := HO2.out.below (w' := w4) hb4; have HB4 : Below w.heap.size w w4 := HB2.out.trans (hb4.mono hs2); have hs4 := HB4.size; have hn4 := own4.len; have hc4 : w4.cell? ⟨b, off + k, none⟩ = some (.int .u8 (x.toNat : Int)) := (HB4.cell (p := ⟨b, off + k, none⟩) hbw).trans hc0)
              | (go_simp; go_at_call 56; (refine Calls.mono (ref_Put (c1 : Int) _ (by omega) (by omega)) ?_); rintro e w4 ⟨A4, n4, c4, rfl, own4, hb4⟩; rw [← HP.out] at own4; have HO4 := (HO3.out.below (Below_new _ _)).drew.below (w' := w4) hb4; have HB4 : Below w.heap.size w w4 := (HB3.out.trans ((Below_new _ _).mono hs3)).drew.trans (hb4.mono (by simp [World.drew]; omega)); have L4 := (LiesB.new W2 _ _ _ [z] 1 rfl rfl).drew.below (w' := w4) (hb4.mono (by simp [World.drew])); have hs4 := HB4.size; have hn4 := own4.len; have hc4 : w4.cell? ⟨b, off + k, none⟩ = some (.int .u8 (x.toNat : Int)) := (HB4.cell (p := ⟨b, off + k, none⟩) hbw).trans hc0)
              | (refine step_appendB rfl (.tmp 32) (.tmp 34) rfl w.heap.size A' n' c' l' rfl HO4 _ A4 n4 c4 _ rfl own4.lies (n' + n4) _ rfl rfl (by omega) hs4 ?_; intro A5 c5 w5 own5 k5 hk5; have HB5 : Below w.heap.size w w5 := HB4.trans (k5.belowOwn HO4 hs4); have L5 := L4.keeps k5 (by intro b' off' e _ hs; injection e with e; injection e with e1 e2; have := (HO3.out.blk b' hs).2; omega); have hs5 := HB5.size; have hc5 : w5.cell? ⟨b, off + k, none⟩ = some (.int .u8 (x.toNat : Int)) := (HB5.cell (p := ⟨b, off + k, none⟩) hbw).trans hc0)
              | (refine step_appendB rfl (.tmp 32) (.tmp 34) rfl w.heap.size A' n' c' l' rfl HO4 _ A4 n4 c4 _ rfl own4.lies (n' + n4) _ rfl rfl (by omega) hs4 ?_; intro A5 c5 w5 own5 k5 hk5; have HB5 : Below w.heap.size w w5 := HB4.trans (k5.belowOwn HO4 hs4); have hs5 := HB5.size; have hc5 : w5.cell? ⟨b, off + k, none⟩ = some (.int .u8 (x.toNat : Int)) := (HB5.cell (p := ⟨b, off + k, none⟩) hbw).trans hc0)
              | (refine step_appendB rfl (.tmp 32) (.tmp 34) rfl w.heap.size A' n' c' l' rfl (HO4.below (Below_new _ _)) _ A4 n4 c4 _ rfl (own4.lies.below (Below_new _ _)) (n' + n4) _ rfl rfl (by omega) (by simp; omega) ?_; intro A5 c5 w5 own5 k5 hk5; have HB5 : Below w.heap.size w w5 := (HB4.trans ((Below_new _ _).mono hs4)).trans (k5.belowOwn HO4 (by simp; omega)); have L5 := (LiesB.new w4 _ _ _ [z] 1 rfl rfl).keeps k5 (by intro b' off' e _ hs; injection e with e; injection e with e1 e2; have := (HO4.blk b' hs).2; omega); have hs5 := HB5.size; have hc5 : w5.cell? ⟨b, off + k, none⟩ = some (.int .u8 (x.toNat : Int)) := (HB5.cell (p := ⟨b, off + k, none⟩) hbw).trans hc0)
              | (refine step_appendB rfl (.tmp 35) (.tmp 42) rfl w.heap.size A5 (n' + n4) c5 _ rfl own5 _ _ 1 1 [z] rfl L5 (n' + n4 + 1) _ rfl rfl (by omega) hs5 ?_; intro A6 c6 w6 own6 k6 hk6; have HB6 : Below w.heap.size w w6 := HB5.trans (k6.belowOwn own5 hs5))
              | (refine step_appendB rfl (.tmp 35) (.tmp 42) rfl w.heap.size A5 (n' + n4) c5 _ rfl (own5.below (Below_new _ _)) _ _ 1 1 [z] rfl (LiesB.new _ _ _ _ _ _ rfl rfl) (n' + n4 + 1) _ rfl rfl (by omega) (by simp; omega) ?_; intro A6 c6 w6 own6 k6 hk6; have HB6 : Below w.heap.size w w6 := (HB5.trans ((Below_new _ _).mono hs5)).trans (k6.belowOwn own5 (by simp; omega))))
            all_goals
              have hc6 : w6.cell? ⟨b, off + k, none⟩ = some (.int .u8 (x.toNat : Int)) := (HB6.cell (p := ⟨b, off + k, none⟩) hbw).trans hc0
              have HB7 := hide HB6
              have HO7 := hide own6
              clear HB6 own6 hk6 k6
              go_wp2
              exact ⟨⟨m, A6, n' + n4 + 1, c6, _, x, hm, by go_num, rfl, rfl, HO7.out, by rw [← HST.out]; simp [List.append_assoc], HB7.out⟩, by simp [intOf]; omega⟩
        · have hlead0 : Runs.lead x (l.drop m) = 0 := Runs.lead_end (by rw [HL1.out.len]; omega)
          go_wp2
          go_quiet (fail)
          go_wp2
          have hst := HGO.out hlead0
          have HST := hide hst
          have HO2 : OwnB (wr.drewN nq) w.heap.size A' n' c' l' := by rw [HWX.out]; exact (HO.out.drewN _).drewN _
          have HB2 : Below w.heap.size w (wr.drewN nq) := by rw [HWX.out]; exact Below_drewN (Below_drewN HB.out q) nq
          have hcw : (wr.drewN nq).cell? ⟨b, off + k, none⟩ = some (.int .u8 (x.toNat : Int)) := h2
          clear hst h2 hlead0
          generalize wr.drewN nq = W2 at HO2 HB2 hcw ⊢
          have HO3 := hide HO2
          have HB3 := hide HB2
          have hs3 : w.heap.size ≤ W2.heap.size := HB2.size
          have hs2 : w.heap.size ≤ W2.drew.heap.size := hs3
          have HO2 := hide HO3.out.drew
          have HB2 := hide HB3.out.drew
          have hp10 := Var.put_len10 (Var.zig (c1 : Int)) (Var.zig_lt _ (by omega) (by omega))
          have hxor := bits_xor8 x ah
          obtain ⟨z, hz⟩ : ∃ z, z = x ^^^ ah := ⟨_, rfl⟩
          rw [← hz] at hxor HST
          have HZ := hide hz
          clear hz
          obtain ⟨P, hP⟩ : ∃ P, P = Var.put (Var.zig (c1 : Int)) := ⟨_, rfl⟩
          rw [← hP] at hp10 HST
          have HP := hide hP
          clear hP
          go_wp2_with fail
          go_region_law (first
            | (go_simp; go_at_call 56; (refine Calls.mono (ref_Put (c1 : Int) _ (by omega) (by omega)) ?_); rintro e w4 ⟨A4, n4, c4, rfl, own4, hb4⟩; rw [← HP.out] at own4; have HO4 := HO2.out.below (w' := w4) hb4; have HB4 : Below w.heap.size w w4 := HB2.out.trans (hb4.mono hs2); have hs4 := HB4.size; have hn4 := own4.len; have hc4 : w4.cell? ⟨b, off + k, none⟩ = some (.int .u8 (x.toNat : Int)) := (HB4.cell (p := ⟨b, off + k, none⟩) hbw).trans hc0)
            | (go_simp; go_at_call 56; (refine Calls.mono (ref_Put (c1 : Int) _ (by omega) (by omega)) ?_); rintro e w4 ⟨A4, n4, c4, rfl, own4, hb4⟩; rw [← HP.out] at own4; have HO4 := (HO3.out.below (Below_new _ _)).drew.below (w' := w4) hb4; have HB4 : Below w.heap.size w w4 := (HB3.out.trans ((Below_new _ _).mono hs3)).drew.trans (hb4.mono (by simp [World.drew]; omega)); have L4 := (LiesB.new W2 _ _ _ [z] 1 rfl rfl).drew.below (w' := w4) (hb4.mono (by simp [World.drew])); have hs4 := HB4.size; have hn4 := own4.len; have hc4 : w4.cell? ⟨b, off + k, none⟩ = some (.int .u8 (x.toNat : Int)) := (HB4.cell (p := ⟨b, off + k, none⟩) hbw).trans hc0)
            | (refine step_appendB rfl (.tmp 32) (.tmp 34) rfl w.heap.size A' n' c' l' rfl HO4 _ A4 n4 c4 _ rfl own4.lies (n' + n4) _ rfl rfl (by omega) hs4 ?_; intro A5 c5 w5 own5 k5 hk5; have HB5 : Below w.heap.size w w5 := HB4.trans (k5.belowOwn HO4 hs4); have L5 := L4.keeps k5 (by intro b' off' e _ hs; injection e with e; injection e with e1 e2; have := (HO3.out.blk b' hs).2; omega); have hs5 := HB5.size; have hc5 : w5.cell? ⟨b, off + k, none⟩ = some (.int .u8 (x.toNat : Int)) := (HB5.cell (p := ⟨b, off + k, none⟩) hbw).trans hc0)
            | (refine step_appendB rfl (.tmp 32) (.tmp 34) rfl w.heap.size A' n' c' l' rfl HO4 _ A4 n4 c4 _ rfl own4.lies (n' + n4) _ rfl rfl (by omega) hs4 ?_; intro A5 c5 w5 own5 k5 hk5; have HB5 : Below w.heap.size w w5 := HB4.trans (k5.belowOwn HO4 hs4); have hs5 := HB5.size; have hc5 : w5.cell? ⟨b, off + k, none⟩ = some (.int .u8 (x.toNat : Int)) := (HB5.cell (p := ⟨b, off + k, none⟩) hbw).trans hc0)
            | (refine step_appendB rfl (.tmp 32) (.tmp 34) rfl w.heap.size A' n' c' l' rfl (HO4.below (Below_new _ _)) _ A4 n4 c4 _ rfl (own4.lies.below (Below_new _ _)) (n' + n4) _ rfl rfl (by omega) (by simp; omega) ?_; intro A5 c5 w5 own5 k5 hk5; have HB5 : Below w.heap.size w w5 := (HB4.trans ((Below_new _ _).mono hs4)).trans (k5.belowOwn HO4 (by simp; omega)); have L5 := (LiesB.new w4 _ _ _ [z] 1 rfl rfl).keeps k5 (by intro b' off' e _ hs; injection e with e; injection e with e1 e2; have := (HO4.blk b' hs).2; omega); have hs5 := HB5.size; have hc5 : w5.cell? ⟨b, off + k, none⟩ = some (.int .u8 (x.toNat : Int)) := (HB5.cell (p := ⟨b, off + k, none⟩) hbw).trans hc0)
            | (refine step_appendB rfl (.tmp 35) (.tmp 42) rfl w.heap.size A5 (n' + n4) c5 _ rfl own5 _ _ 1 1 [z] rfl L5 (n' + n4 + 1) _ rfl rfl (by omega) hs5 ?_; intro A6 c6 w6 own6 k6 hk6; have HB6 : Below w.heap.size w w6 := HB5.trans (k6.belowOwn own5 hs5))
            | (refine step_appendB rfl (.tmp 35) (.tmp 42) rfl w.heap.size A5 (n' + n4) c5 _ rfl (own5.below (Below_new _ _)) _ _ 1 1 [z] rfl (LiesB.new _ _ _ _ _ _ rfl rfl) (n' + n4 + 1) _ rfl rfl (by omega) (by simp; omega) ?_; intro A6 c6 w6 own6 k6 hk6; have HB6 : Below w.heap.size w w6 := (HB5.trans ((Below_new _ _).mono hs5)).trans (k6.belowOwn own5 (by simp; omega))))
          all_goals
            have hc6 : w6.cell? ⟨b, off + k, none⟩ = some (.int .u8 (x.toNat : Int)) := (HB6.cell (p := ⟨b, off + k, none⟩) hbw).trans hc0
            have HB7 := hide HB6
            have HO7 := hide own6
            clear HB6 own6 hk6 k6
            go_wp2
            exact ⟨⟨m, A6, n' + n4 + 1, c6, _, x, hm, by go_num, rfl, rfl, HO7.out, by rw [← HST.out]; simp [List.append_assoc], HB7.out⟩, by simp [intOf]; omega⟩
    · obtain rfl : k = n := by omega
      go_wp2
      go_ret
      refine ⟨A', n', c', rfl, ?_, HB.out⟩
      have := HE.out
      rw [List.drop_eq_nil_of_le (by rw [HL.out.len]; omega), Runs.enc_nil, List.append_nil] at this
      rw [← this]
      exact HO.out
end Go.Proofs.Ytbcgffgiifminaa
namespace Go.Proofs.Ytbcgffgiifminaa
open Go.RowKit
set_option maxRecDepth 10000
set_option maxHeartbeats 400000 in
theorem ref_Four (a : Int) (w : World) (h1 : 0 ≤ a) (h2 : a < 4294967296) : Calls Try.prog 57 #[.int .u32 a] w fun e w' =>
    ∃ A c, e = .returned (.slice A 4 c) ∧ OwnB w' w.heap.size A 4 c (be32 a) ∧ Below w.heap.size w w' := by
  have HE := hide (Int.emod_eq_of_lt h1 h2)
  go_enter Try.func57, Try.ntmps57
  go_wp2
  go_ret
  refine ⟨_, _, rfl, OwnB.new _ _ 4 _ rfl (by simp [maxLen]) ?_, Below_new _ _⟩
  have := be32_cells a
  rw [HE.out] at this
  exact this
end Go.Proofs.Ytbcgffgiifminaa
namespace Go.Proofs.Ytbcgffgiifminaa
open Go.RowKit
set_option maxRecDepth 10000
set_option linter.unusedVariables false
theorem info_packet : (Try.prog.info? 41).map (·.size) = some 9 := by kernel_rfl
/-- The whole packet is read. -/
theorem wpP_load {ops : Array Oper} {rest : List Oper} {o : Oper} {a : Act} {w : World} {Q : Exit → Act → World → Prop} (hgd : o.guard = none) (x : Operand) (ho : o.op = .load 41 x)
    (g : Nat) (hx : a.eval x = .pointer (some ⟨g, 0, none⟩)) (p : Pkt) (v : Value) (hg : Arr 41 w g (p.row v)) (h : wpList Try.prog ops Q rest (a.put o.dst (p.val v)) w) : wpList Try.prog ops Q (o :: rest) a w :=
  wpList_load_row hgd 41 x ho g hx 41 (p.row v).toArray (0, 0) _ hg Try.underlying41 rfl info_packet h
theorem results_P {fn : Func} {p : Tmp} (h : fn.results = #[.cell p 41]) (tmps : Array Value) (w : World) (g : Nat) (hp : tmps.getD p undef = .pointer (some ⟨g, 0, none⟩)) (q : Pkt) (v : Value) (hg : Arr 41 w g (q.row v)) :
    (results fn tmps).run Try.prog w = .ok (q.val v) w :=
  results_cell_row h tmps w g 41 (q.row v).toArray (0, 0) _ hp hg Try.underlying41 rfl info_packet
theorem results_P2 {fn : Func} {p q : Tmp} (h : fn.results = #[.cell p 41, .tmp q]) (tmps : Array Value) (w : World) (g : Nat) (hp : tmps.getD p undef = .pointer (some ⟨g, 0, none⟩)) (u : Value) (hv : tmps.getD q undef = u) (k : Pkt) (v : Value) (hg : Arr 41 w g (k.row v)) :
    (results fn tmps).run Try.prog w = .ok (.tuple #[k.val v, u]) w := by
  have hp' : tmps[p]?.getD undef = .pointer (some ⟨g, 0, none⟩) := by simpa using hp
  have hv' : tmps[q]?.getD undef = u := by simpa using hv
  have hl := run_loadVar_row (P := Try.prog) w g 41 41 (k.row v).toArray (0, 0) _ hg Try.underlying41 rfl info_packet
  simp [results, h, hp', hv', asAddr, hl]
/-- Bytes that grow beside a packet's block. -/
structure Grow (w wx : World) (g : Nat) (R : List Value) (A : Option Addr) (n c : Nat) (l : List UInt8) : Prop where
  own : OwnB wx w.heap.size A n c l
  arr : Arr 41 wx g R
  bel : Below w.heap.size w wx
section
variable {w wx w' : World} {g n c n' c' : Nat} {R : List Value} {A A' : Option Addr} {l l' : List UInt8}
theorem Grow.put (h : Grow w wx g R A n c l) (hk : Keeps (Mine A n c) wx w') (ho : OwnB w' w.heap.size A' n' c' l') : Grow w w' g R A' n' c' l' :=
  ⟨ho, h.arr.keeps hk fun e => h.own.ne_blk h.arr (by decide) e, h.bel.trans (hk.belowOwn h.own h.bel.size)⟩
theorem Grow.below (h : Grow w wx g R A n c l) (hb : Below wx.heap.size wx w') : Grow w w' g R A n c l := ⟨h.own.below hb, h.arr.belowN hb, Below_step h.bel hb⟩
theorem Grow.drew (h : Grow w wx g R A n c l) : Grow w wx.drew g R A n c l := ⟨h.own.drew, h.arr.drew, ⟨h.bel.os, h.bel.tape, h.bel.output, h.bel.size, h.bel.block⟩⟩
theorem Grow.size (h : Grow w wx g R A n c l) : w.heap.size ≤ wx.heap.size := h.bel.size
end
theorem runs_Encode_v {A : Option Addr} {n c B : Nat} {l x : List UInt8} {w : World} (hA : LiesB w B A n l) (hB : B ≤ w.heap.size) (hn : n ≤ 10000) (hx : Runs.enc 0 l = x) :
    Calls Try.prog 90 #[.slice A n c] w fun e w' => ∃ A' n' c', e = .returned (.slice A' n' c') ∧ OwnB w' w.heap.size A' n' c' x ∧ Below w.heap.size w w' := by subst hx; exact runs_Encode A n c B l w hA hB hn
theorem num_Put_v {A : Option Addr} {n c base : Nat} {l x : List UInt8} {v : Int} {w : World} (hA : OwnB w base A n c l) (hbase : base ≤ w.heap.size) (hn : n ≤ 1000000) (lo : -9223372036854775808 ≤ v) (hi : v ≤ 9223372036854775807) (hx : l ++ Var.put (Var.zig v) = x) :
    Calls Try.prog 88 #[.slice A n c, .int .i64 v] w fun e w' => ∃ A' n' c', e = .returned (.slice A' n' c') ∧ OwnB w' base A' n' c' x ∧ Keeps (Mine A n c) w w' := by subst hx; exact num_Put A n c base l v w hA hbase hn lo hi
end Go.Proofs.Ytbcgffgiifminaa
namespace Go.Proofs.Ytbcgffgiifminaa
open Go.RowKit
set_option maxRecDepth 10000
set_option linter.unusedVariables false
theorem Pkt.bv_byte (x : Int) : bv (Pkt.byte x) = .int .u8 (x % 256) := by
  unfold Pkt.byte
  exact bv_ofInt (by omega) (by omega)
theorem crc_Sum_v {A : Option Addr} {n c B : Nat} {l : List UInt8} {w : World} {s : Int} (hA : LiesB w B A n l) (hm : n ≤ 9223372036854775807) (hs : s = ((Crc.sum l).toNat : Int)) :
    Calls Try.prog 91 #[.slice A n c] w fun e w' => e = .returned (.int .u32 s) ∧ w = w' := by subst hs; exact crc_Sum A n c B l w hA hm
set_option maxHeartbeats 2000000 in
set_option maxRecDepth 10000 in
theorem packet_Encode (p : Pkt) {A : Option Addr} {n c B : Nat} {w : World} (hA : LiesB w B A n p.press) (hB : B ≤ w.heap.size) (hn : n ≤ 10000) (hw : p.WF) :
    Calls Try.prog 80 #[p.val (.slice A n c)] w fun e w' => ∃ A' n' c', e = .returned (.slice A' n' c') ∧ OwnB w' w.heap.size A' n' c' p.enc ∧ Below w.heap.size w w' ∧ (p.may = false → A' = none ∧ n' = 0 ∧ c' = 0) := by
  have LA := hide hA
  have HL := hide hA.len
  have HBB := hide hB
  have HP : Hid (Arr 41 (w.alloc (.cells (p.row (.slice A n c)).toArray 41)) w.heap.size (p.row (.slice A n c))) := Arr.new 41 w _ _ rfl
  have HB : Hid (Below w.heap.size w (w.alloc (.cells (p.row (.slice A n c)).toArray 41))) := Below_new _ _
  cases hm : p.may
  · have HE : Hid (p.enc = []) := Pkt.enc_nil_iff.2 hm
    have HM := hide hm
    clear hm hA hB hw
    go_enter Try.func80, Try.ntmps80
    go_upto_region 1 with fail
    generalize World.alloc w _ = wx at HP HB ⊢
    go_wp2_with (refine wpP_load rfl (.tmp 1) rfl w.heap.size rfl p (.slice A n c) HP.out ?_)
    refine Calls.mono (packet_May p HL.out (by omega) HM.out.symm) ?_
    rintro e w1 ⟨rfl, hb1⟩
    have HB1 := hide (Below_step HB.out hb1)
    clear hb1
    go_wp2_with fail
    go_ret
    exact ⟨none, 0, 0, rfl, by rw [HE.out]; exact OwnB.nil _ _, HB1.out, fun _ => ⟨rfl, rfl, rfl⟩⟩
  · have hf := Pkt.may_iff.1 hm
    have HE : Hid (p.enc = Pkt.sealB p.body) := by show _ = _; rw [Pkt.enc, if_pos hm]
    have HM := hide hm
    obtain ⟨kind, src, dst, id, first, press, ack, frame, sum⟩ := p
    obtain ⟨-, -, -, hid, hk⟩ := hf
    simp only at hid hk hw LA HL
    have HW := hide hw
    have HK := hide hk
    clear hm hA hB hw hk
    go_enter Try.func80, Try.ntmps80
    go_upto_region 1 with fail
    simp only [Pkt.row] at HP HB
    generalize World.alloc w _ = wx at HP HB ⊢
    go_wp2_with (refine wpP_load rfl (.tmp 1) rfl w.heap.size rfl ⟨kind, src, dst, id, first, press, ack, frame, sum⟩ (.slice A n c) HP.out ?_)
    refine Calls.mono (packet_May ⟨kind, src, dst, id, first, press, ack, frame, sum⟩ HL.out (by omega) HM.out.symm) ?_
    rintro e w1 ⟨rfl, hb1⟩
    have HB1 := hide (Below_step HB.out hb1)
    have HP := hide (HP.out.belowN hb1)
    have c0 := HP.out.cell (j := 0) (by simp)
    have c1 := HP.out.cell (j := 1) (by simp)
    have c2 := HP.out.cell (j := 2) (by simp)
    have c3 := HP.out.cell (j := 3) (by simp)
    simp only [List.getElem_cons_zero, List.getElem_cons_succ] at c0 c1 c2 c3
    have hg := HP.out.lt
    clear hb1
    go_wp2_with fail
    have G0 : Hid (Grow w (w1.alloc (.cells #[.int .u8 (kind % 256), .int .u8 (src % 256), .int .u8 (dst % 256)] 5)) w.heap.size (Pkt.row ⟨kind, src, dst, id, first, press, ack, frame, sum⟩ (.slice A n c)) (some ⟨w1.heap.size, 0, none⟩) 3 3 [Pkt.byte kind, Pkt.byte src, Pkt.byte dst]) :=
      ⟨(OwnB.new w1 _ 3 [Pkt.byte kind, Pkt.byte src, Pkt.byte dst] rfl (by simp [maxLen]) (by simp only [List.map_cons, List.map_nil, Pkt.bv_byte])).base_le HB1.out.size, HP.out.belowN (Below_new _ _), Below_step HB1.out (Below_new _ _)⟩
    refine Calls.mono (num_Put_v G0.out.own G0.out.size (by omega) (by omega) (by omega) rfl) ?_
    rintro e w2 ⟨A2, n2, c2', rfl, own2, hk2⟩
    have G1 := hide (G0.out.put hk2 own2)
    obtain ⟨b1, hb1⟩ : ∃ b, b = [Pkt.byte kind, Pkt.byte src, Pkt.byte dst] ++ Var.put (Var.zig id) := ⟨_, rfl⟩
    rw [← hb1] at G1
    have HB1' := hide hb1
    clear own2 hk2 G0 HP HB HB1 hb1 c0 c1 c2 c3 hg
    have c0 := G1.out.arr.cell (j := 0) (by simp)
    simp only [List.getElem_cons_zero] at c0
    by_cases k1 : kind = 1
    · subst k1
      obtain ⟨hfi, hac, hfr, hpl⟩ : (0 ≤ first ∧ first ≤ 1000) ∧ (0 ≤ ack ∧ ack ≤ 1000) ∧ (0 ≤ frame ∧ frame ≤ 1000) ∧ press.length ≤ 32 := by
        rcases HK.out with h | h
        · exact h.2
        · exact absurd h.1 (by decide)
      have c4 := G1.out.arr.cell (j := 4) (by simp)
      have c6 := G1.out.arr.cell (j := 6) (by simp)
      have c7 := G1.out.arr.cell (j := 7) (by simp)
      simp only [List.getElem_cons_zero, List.getElem_cons_succ] at c4 c6 c7
      have HN2 : Hid (n2 ≤ 13) := by
        show n2 ≤ 13
        have := G1.out.own.len
        rw [HB1'.out, List.length_append] at this
        have := Var.put_len10 (Var.zig id) (Var.zig_lt id (by omega) (by omega))
        simp only [List.length_cons, List.length_nil] at *
        omega
      have i0 : Hid (∀ w, (Instr.index 149 (.agg #[.int .i64 first, .int .i64 ack, .int .i64 frame]) (.int .i64 0)).run Try.prog w = .ok (.int .i64 first) w) := fun w => run_indexA (k := .i64) Try.underlying149 (by kernel_rfl) _ Try.underlying3 rfl [.int .i64 first, .int .i64 ack, .int .i64 frame] 0 rfl (by simp) w
      have i1 : Hid (∀ w, (Instr.index 149 (.agg #[.int .i64 first, .int .i64 ack, .int .i64 frame]) (.int .i64 1)).run Try.prog w = .ok (.int .i64 ack) w) := fun w => run_indexA (k := .i64) Try.underlying149 (by kernel_rfl) _ Try.underlying3 rfl [.int .i64 first, .int .i64 ack, .int .i64 frame] 1 rfl (by simp) w
      have i2 : Hid (∀ w, (Instr.index 149 (.agg #[.int .i64 first, .int .i64 ack, .int .i64 frame]) (.int .i64 2)).run Try.prog w = .ok (.int .i64 frame) w) := fun w => run_indexA (k := .i64) Try.underlying149 (by kernel_rfl) _ Try.underlying3 rfl [.int .i64 first, .int .i64 ack, .int .i64 frame] 2 rfl (by simp) w
      go_wp2_with fail
      go_loopg [3, 32] 3 (fun gg s i wr => ∃ (k n' c' : Nat) (A' : Option Addr) (l' : List UInt8), k ≤ 3 ∧ gg = 3 - k ∧ i = .int .i64 k ∧ s = .slice A' n' c' ∧ Hid (n' ≤ 13 + 10 * k) ∧ Hid (Grow w wr w.heap.size (Pkt.row ⟨1, src, dst, id, first, press, ack, frame, sum⟩ (.slice A n c)) A' n' c' l') ∧ Hid (l' = b1 ++ ([first, ack, frame].take k).flatMap (fun x => Var.put (Var.zig x))))
      case atStart => exact ⟨0, n2, c2', A2, b1, by omega, rfl, rfl, rfl, by have := HN2.out; show _ ≤ _; omega, G1.out, by show _ = _; simp⟩
      case round =>
        obtain ⟨k, n', c', A', l', hk, rfl, rfl, rfl, hn', G, hl'⟩ := hrel
        obtain hk3 | rfl | rfl | rfl : k = 3 ∨ k = 0 ∨ k = 1 ∨ k = 2 := by omega
        · subst hk3
          have hn1 := hn'.out
          have hl5 := G.out.own.len
          have c5 := G.out.arr.cell (j := 5) (by simp)
          have c8 := G.out.arr.cell (j := 8) (by simp)
          simp only [List.getElem_cons_zero, List.getElem_cons_succ] at c5 c8
          obtain ⟨x, hx⟩ : ∃ x, x = Runs.enc 0 press := ⟨_, rfl⟩
          have hx2 : x.length ≤ 64 := by have := Pkt.runs_len _ 0 press (Nat.le_refl _) (by omega); rw [hx]; omega
          have HX := hide hx.symm
          have hnp : press.length = n := HL.out
          have hz10 := Var.put_len10 (Var.zig (n : Int)) (Var.zig_lt (n : Int) (by omega) (by omega))
          obtain ⟨b2, hb2⟩ : ∃ b, b = l' ++ be32 sum ++ Var.put (Var.zig (n : Int)) := ⟨_, rfl⟩
          have HB2 := hide hb2.symm
          have hb2l : b2.length ≤ 60 := by rw [hb2]; simp only [List.length_append, be32_length]; omega
          obtain ⟨b3, hb3⟩ : ∃ b, b = b2 ++ x := ⟨_, rfl⟩
          have HBO : Hid (b3 = Pkt.body ⟨1, src, dst, id, first, press, ack, frame, sum⟩) := by
            show _ = _
            rw [hb3, hb2, hx, hl'.out, HB1'.out, Pkt.body, Pkt.tail, if_pos rfl]
            simp [hnp]
          have HB3 := hide hb3.symm
          obtain ⟨s, hs⟩ : ∃ s, s = ((Crc.sum b3).toNat : Int) := ⟨_, rfl⟩
          have HS1 : Hid (0 ≤ s) := by show _ ≤ _; omega
          have HS2 : Hid (s < 4294967296) := by show _ < _; have := (Crc.sum b3).isLt; omega
          have HS := hide hs
          have hb3l : b3.length ≤ 130 := by rw [hb3, List.length_append]; omega
          have hw1 := HW.out.1
          have hw2 := HW.out.2
          simp only at hw1 hw2
          clear hs hb3 hb2 hx
          go_wp2_with fail
          refine wp_region_noPanic ?_
          refine wp_region_held_drew (S := (fun w' => w'.cell? ⟨w.heap.size, 5, none⟩ = some (.slice A n c) ∧ w'.cell? ⟨w.heap.size, 8, none⟩ = some (.int .u32 sum))) (by kernel_rfl) ⟨c5, c8⟩ (fun hHeld => ?_)
          refine wpAnyH_take (i := 0) (oi := ?_) (v := ?_) ?_ (by kernel_rfl) (by kernel_rfl) (by kernel_rfl) ?_ ?_ (by assumption) ?_
          rotate_left 2
          · (simp only [List.getElem?_toArray, List.getElem?_cons_zero]; rfl)
          · exact fun _ _ _ h => h
          · (refine Or.inl ⟨by rfl, ?_⟩; intro w hSw; (try dsimp only at hSw); go_simp <;> with_reducible rfl)
          try simp only [Act.put, List.setIfInBounds_toArray, List.set_cons_zero, List.set_cons_succ]
          refine wpAnyH_take (i := 1) (oi := ?_) (v := ?_) ?_ (by kernel_rfl) (by kernel_rfl) (by kernel_rfl) ?_ ?_ (by assumption) ?_
          rotate_left 2
          · (simp only [List.getElem?_toArray, List.getElem?_cons_succ, List.getElem?_cons_zero]; rfl)
          · exact fun _ _ _ h => h
          · (refine Or.inl ⟨by rfl, ?_⟩; intro w hSw; (try dsimp only at hSw); go_simp <;> with_reducible rfl)
          try simp only [Act.put, List.setIfInBounds_toArray, List.set_cons_zero, List.set_cons_succ]
          refine wpAnyH_take (i := 2) (oi := ?_) (v := ?_) ?_ (by kernel_rfl) (by kernel_rfl) (by kernel_rfl) ?_ ?_ (by assumption) ?_
          rotate_left 2
          · (simp only [List.getElem?_toArray, List.getElem?_cons_succ, List.getElem?_cons_zero]; rfl)
          · exact fun _ _ _ h => h
          · (refine Or.inl ⟨by rfl, ?_⟩; intro w hSw; (try dsimp only at hSw); go_simp <;> with_reducible rfl)
          try simp only [Act.put, List.setIfInBounds_toArray, List.set_cons_zero, List.set_cons_succ]
          refine wpAnyH_take (i := 5) (oi := ?_) (v := ?_) ?_ (by kernel_rfl) (by kernel_rfl) (by kernel_rfl) ?_ ?_ (by assumption) ?_
          rotate_left 2
          · (simp only [List.getElem?_toArray, List.getElem?_cons_succ, List.getElem?_cons_zero]; rfl)
          · exact fun _ _ _ h => h
          · (refine Or.inl ⟨by rfl, ?_⟩; intro w hSw; (try dsimp only at hSw); go_simp <;> with_reducible rfl)
          try simp only [Act.put, List.setIfInBounds_toArray, List.set_cons_zero, List.set_cons_succ]
          refine wpAnyH_take (i := 6) (oi := ?_) (v := ?_) ?_ (by kernel_rfl) (by kernel_rfl) (by kernel_rfl) ?_ ?_ (by assumption) ?_
          rotate_left 2
          · (simp only [List.getElem?_toArray, List.getElem?_cons_succ, List.getElem?_cons_zero]; rfl)
          · exact fun _ _ _ h => h
          · (refine Or.inl ⟨by rfl, ?_⟩; intro w hSw; (try dsimp only at hSw); go_simp <;> with_reducible rfl)
          try simp only [Act.put, List.setIfInBounds_toArray, List.set_cons_zero, List.set_cons_succ]
          refine wpAnyH_take (i := 7) (oi := ?_) (v := ?_) ?_ (by kernel_rfl) (by kernel_rfl) (by kernel_rfl) ?_ ?_ (by assumption) ?_
          rotate_left 2
          · (simp only [List.getElem?_toArray, List.getElem?_cons_succ, List.getElem?_cons_zero]; rfl)
          · exact fun _ _ _ h => h
          · (refine Or.inl ⟨by rfl, ?_⟩; intro w hSw; (try dsimp only at hSw); go_simp <;> with_reducible rfl)
          try simp only [Act.put, List.setIfInBounds_toArray, List.set_cons_zero, List.set_cons_succ]
          refine wpAnyH_ready (rs := [3]) (by kernel_rfl) (by simp) ?_
          refine AllReadyH.cons (o := ?_) ?_ (fun K hK => ?_) AllReadyH.nil
          rotate_left 1
          · (simp only [List.getElem?_toArray, List.getElem?_cons_succ, List.getElem?_cons_zero]; rfl)
          go_simp
          (go_at_call 89; (refine Calls.mono (num_Four sum _ hw1 hw2) ?_); rintro e w5 ⟨A5, c5', rfl, own5, hb5⟩)
          have G5 := G.out.drew.below hb5
          refine hK.out _ _ ⟨G5.arr.cell (j := 5) (by simp), G5.arr.cell (j := 8) (by simp)⟩ (fun hHeld => ?_)
          clear hK K
          try simp only [Act.put, List.setIfInBounds_toArray, List.set_cons_zero, List.set_cons_succ]
          refine wpAnyH_ready (rs := [4]) (by kernel_rfl) (by simp) ?_
          refine AllReadyH.cons (o := ?_) ?_ (fun K hK => ?_) AllReadyH.nil
          rotate_left 1
          · (simp only [List.getElem?_toArray, List.getElem?_cons_succ, List.getElem?_cons_zero]; rfl)
          (refine step_appendB rfl (.tmp 39) (.tmp 42) rfl w.heap.size A' n' c' l' rfl G5.own _ A5 4 c5' _ rfl own5.lies (n' + 4) _ rfl rfl (by omega) G5.size ?_; intro A6 c6' w6 own6 k6 hk6)
          have G6 := G5.put k6 own6
          refine hK.out _ _ ⟨G6.arr.cell (j := 5) (by simp), G6.arr.cell (j := 8) (by simp)⟩ (fun hHeld => ?_)
          clear hK K
          try simp only [Act.put]
          refine wpAnyH_ready (rs := [8]) (by kernel_rfl) (by simp) ?_
          refine AllReadyH.cons (o := ?_) ?_ (fun K hK => ?_) AllReadyH.nil
          rotate_left 1
          · (simp only [List.getElem?_toArray, List.getElem?_cons_succ, List.getElem?_cons_zero]; rfl)
          go_simp
          (go_at_call 88; (refine Calls.mono (num_Put_v G6.own G6.size (by omega) (by omega) (by omega) HB2.out) ?_); rintro e w7 ⟨A7, n7, c7', rfl, own7, hk7⟩)
          have G7 := G6.put hk7 own7
          refine hK.out _ _ ⟨G7.arr.cell (j := 5) (by simp), G7.arr.cell (j := 8) (by simp)⟩ (fun hHeld => ?_)
          clear hK K
          try simp only [Act.put, List.setIfInBounds_toArray, List.set_cons_zero, List.set_cons_succ]
          refine wpAnyH_take (i := 9) (oi := ?_) (v := ?_) ?_ (by kernel_rfl) (by kernel_rfl) (by kernel_rfl) ?_ ?_ (by assumption) ?_
          rotate_left 2
          · (simp only [List.getElem?_toArray, List.getElem?_cons_succ, List.getElem?_cons_zero]; rfl)
          · exact fun _ _ _ h => h
          · (refine Or.inl ⟨by rfl, ?_⟩; intro w hSw; (try dsimp only at hSw); go_simp <;> with_reducible rfl)
          try simp only [Act.put, List.setIfInBounds_toArray, List.set_cons_zero, List.set_cons_succ]
          refine wpAnyH_done (by kernel_rfl) (NoPanic.normal ?_) _
          have hl7 := G7.own.len
          have c5 := G7.arr.cell (j := 5) (by simp)
          simp only [List.getElem_cons_zero, List.getElem_cons_succ] at c5
          have G7 := hide G7
          clear own5 own6 own7 hb5 k6 hk6 hk7 G5 G6 c8 c4 c6 c7 c0
          go_wp2_with fail
          refine Calls.mono (runs_Encode_v (LA.out.below (G7.out.bel.mono HBB.out)) (Nat.le_trans HBB.out G7.out.size) (by omega) HX.out) ?_
          rintro e w8 ⟨A8, n8, c8', rfl, own8, hb8⟩
          have G8 := hide (G7.out.below hb8)
          have L8 := hide own8.lies
          have hl8 := own8.len
          clear own8 hb8 c5
          go_wp2_with (at_builtin; refine wpB_append3 rfl (.tmp 48) (.tmp 51) rfl w.heap.size A7 n7 c7' b2 rfl G8.out.own _ A8 n8 c8' x rfl L8.out (n7 + n8) b3 rfl HB3.out (by omega) G8.out.size ?_; intro A9 c9 w9 own9 k9 hk9)
          have G9 := hide (G8.out.put k9 own9)
          have hl9 := own9.len
          clear own9 k9 hk9
          refine Calls.mono (crc_Sum_v G9.out.own.lies (by omega) HS.out) ?_
          rintro e w10 ⟨rfl, rfl⟩
          go_wp2_with fail
          refine Calls.mono (num_Four s _ HS1.out HS2.out) ?_
          rintro e w11 ⟨A11, c11, rfl, own11, hb11⟩
          have G11 := hide (G9.out.below hb11)
          have L11 := hide own11.lies
          clear own11 hb11
          go_wp2_with (at_builtin; refine wpB_append3 rfl (.tmp 53) (.tmp 56) rfl w.heap.size A9 (n7 + n8) c9 b3 rfl G11.out.own _ A11 4 c11 _ rfl L11.out (n7 + n8 + 4) _ rfl rfl (by omega) G11.out.size ?_; intro A12 c12 w12 own12 k12 hk12)
          go_ret
          exact ⟨_, _, _, rfl, by rw [HE.out, ← HBO.out, Pkt.sealB, ← HS.out]; exact own12, (G11.out.put k12 own12).bel, fun h => by cases h⟩
        · go_wp2_with (rw [i0.out])
          have hn1 := hn'.out
          refine Calls.mono (num_Put_v G.out.own G.out.size (by omega) (by omega) (by omega) rfl) ?_
          rintro e w5 ⟨A5, n5, c5, rfl, own5, hk5⟩
          have hl5 := own5.len
          have hl6 := G.out.own.len
          have hp10 := Var.put_len10 (Var.zig first) (Var.zig_lt first (by omega) (by omega))
          rw [List.length_append] at hl5
          have G2 := hide (G.out.put hk5 own5)
          clear own5 hk5
          go_wp2_with fail
          go_roundg (3 - 1)
          case measure => omega
          case rel => exact ⟨1, n5, c5, A5, _, by omega, rfl, by go_num, rfl, by show _ ≤ _; omega, G2, by show _ = _; rw [hl'.out]; simp⟩
        · go_wp2_with (rw [i1.out])
          have hn1 := hn'.out
          refine Calls.mono (num_Put_v G.out.own G.out.size (by omega) (by omega) (by omega) rfl) ?_
          rintro e w5 ⟨A5, n5, c5, rfl, own5, hk5⟩
          have hl5 := own5.len
          have hl6 := G.out.own.len
          have hp10 := Var.put_len10 (Var.zig ack) (Var.zig_lt ack (by omega) (by omega))
          rw [List.length_append] at hl5
          have G2 := hide (G.out.put hk5 own5)
          clear own5 hk5
          go_wp2_with fail
          go_roundg (3 - 2)
          case measure => omega
          case rel => exact ⟨2, n5, c5, A5, _, by omega, rfl, by go_num, rfl, by show _ ≤ _; omega, G2, by show _ = _; rw [hl'.out]; simp⟩
        · go_wp2_with (rw [i2.out])
          have hn1 := hn'.out
          refine Calls.mono (num_Put_v G.out.own G.out.size (by omega) (by omega) (by omega) rfl) ?_
          rintro e w5 ⟨A5, n5, c5, rfl, own5, hk5⟩
          have hl5 := own5.len
          have hl6 := G.out.own.len
          have hp10 := Var.put_len10 (Var.zig frame) (Var.zig_lt frame (by omega) (by omega))
          rw [List.length_append] at hl5
          have G2 := hide (G.out.put hk5 own5)
          clear own5 hk5
          go_wp2_with fail
          go_roundg (3 - 3)
          case measure => omega
          case rel => exact ⟨3, n5, c5, A5, _, by omega, rfl, by go_num, rfl, by show _ ≤ _; omega, G2, by show _ = _; rw [hl'.out]; simp⟩
    · have dk : (kind == 1) = false := by simp [k1]
      have HBO : Hid (b1 = Pkt.body ⟨kind, src, dst, id, first, press, ack, frame, sum⟩) := by show _ = _; rw [HB1'.out, Pkt.body, Pkt.tail, if_neg k1, List.append_nil]; rfl
      obtain ⟨s, hs⟩ : ∃ s, s = ((Crc.sum b1).toNat : Int) := ⟨_, rfl⟩
      have HS1 : Hid (0 ≤ s) := by show _ ≤ _; omega
      have HS2 : Hid (s < 4294967296) := by show _ < _; have := (Crc.sum b1).isLt; omega
      have HS := hide hs
      clear hs k1
      go_wp2_with fail
      have hlen : b1.length ≤ 96 := by have := Pkt.enc_short ⟨kind, src, dst, id, first, press, ack, frame, sum⟩; rw [HE.out, Pkt.sealB_len, ← HBO.out] at this; omega
      have hn2 := G1.out.own.len
      refine Calls.mono (crc_Sum_v G1.out.own.lies (by omega) HS.out) ?_
      rintro e w3 ⟨rfl, rfl⟩
      go_wp2_with fail
      refine Calls.mono (num_Four s _ HS1.out HS2.out) ?_
      rintro e w4 ⟨A4, c4, rfl, own4, hb4⟩
      have G2 := hide (G1.out.below hb4)
      have L4 := hide own4.lies
      clear own4 hb4
      go_wp2_with (at_builtin; refine wpB_append3 rfl (.tmp 53) (.tmp 56) rfl w.heap.size A2 n2 c2' b1 rfl G2.out.own _ A4 4 c4 _ rfl L4.out (n2 + 4) _ rfl rfl (by omega) G2.out.size ?_; intro A5 c5 w5 own5 k5 hk5)
      go_ret
      exact ⟨_, _, _, rfl, by rw [HE.out, ← HBO.out, Pkt.sealB, ← HS.out]; exact own5, (G2.out.put k5 own5).bel, fun h => by cases h⟩
end Go.Proofs.Ytbcgffgiifminaa
