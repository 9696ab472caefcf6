/-
  RunsLong: the walk.
-/
import Derived.Test.YtobdafecgbcofaaLaw14
import Derived.Deep.DeepCutAuto
namespace Go.Proofs.Ytobdafecgbcofaa
open Go.RowKit
set_option linter.unusedVariables false
theorem u8_ofInt {x : Int} (lo : 0 ≤ x) (hi : x ≤ 255) : ∃ z : UInt8, x = (z.toNat : Int) := ⟨UInt8.ofNat x.toNat, by rw [UInt8.toNat_ofNat']; omega⟩
theorem set_rep (n k : Nat) (x : UInt8) (hk : k < n) : (List.replicate k x ++ List.replicate (n - k) 0).set k x = List.replicate (k + 1) x ++ List.replicate (n - (k + 1)) 0 := by
  rw [List.set_append_right _ _ (by simp), List.length_replicate, Nat.sub_self, show n - k = (n - (k + 1)) + 1 by omega, List.replicate_succ, List.set_cons_zero, List.replicate_succ', List.append_assoc]
  rfl
theorem put_two (n : Nat) (h : n ≤ 63) : ∃ p, Var.put (2 * n) = [p] := ⟨_, Var.put_small (by omega)⟩
theorem put_three (n : Nat) (h : 63 < n) (h2 : n ≤ 3000) : ∃ p q, Var.put (2 * n) = [p, q] := by
  rw [Var.put_big (by omega), Var.put_small (by omega)]
  exact ⟨_, _, rfl⟩
set_option maxHeartbeats 2000000 in
set_option maxRecDepth 10000 in
theorem law_RunsLong (n x : Int) (w : World) (lo : -9223372036854775808 ≤ n) (hi : n ≤ 9223372036854775807) (lox : 0 ≤ x) (hix : x ≤ 255) :
    Calls Try.prog 5 #[.int .i64 n, .int .u8 x] w fun e w' => e = .returned (.bool true) ∧ Below w.heap.size w w' := by
  obtain ⟨z, rfl⟩ := u8_ofInt lox hix
  go_enter Try.func5, Try.ntmps5
  go_wp2_with fail
  refine Calls.mono (begun14 _) ?_
  rintro e w1 ⟨rfl, hb1⟩
  by_cases c1 : n < 1
  · go_wp2_with fail
    go_ret
    exact ⟨rfl, hb1⟩
  by_cases c2 : 3000 < n
  · go_wp2_with fail
    go_ret
    exact ⟨rfl, hb1⟩
  obtain ⟨L, rfl⟩ : ∃ L : Nat, n = (L : Int) := ⟨n.toNat, by omega⟩
  obtain ⟨N, hL⟩ : ∃ N, L = N + 1 := ⟨L - 1, by omega⟩
  have d1 : decide ((L : Int) < 1) = false := by simp; omega
  have d2 : decide (3000 < (L : Int)) = false := by simp; omega
  have hL3 : L ≤ 3000 := by omega
  have HL := hide hL
  clear hL
  have hs1 := hb1.size
  have HB1 := hide hb1
  clear hb1
  go_wp2_with (at_make; refine wpB_make rfl _ _ rfl w.heap.size _ _ L rfl rfl rfl rfl (by omega) hs1 ?_; intro g w2 own2 hb2 hg2)
  have HB2 := hide (HB1.out.trans hb2)
  have O2 := hide own2
  have lt2 := own2.lt
  clear own2 hb2 hg2
  go_wp2_with fail
  go_loopw [7] (fun i wr => ∃ k : Nat, k ≤ L ∧ i = .int .i64 k ∧ OwnB wr w.heap.size (some ⟨g, 0, none⟩) L L (List.replicate k z ++ List.replicate (L - k) 0) ∧ Below w.heap.size w wr) (fun i _ => L - (intOf i).toNat)
  case atStart => exact ⟨0, Nat.zero_le _, rfl, by simpa using O2.out, HB2.out⟩
  case round =>
    obtain ⟨k, hk, rfl, hown, hb⟩ := hrel
    have HO := hide hown
    by_cases hlt : k < L
    · obtain ⟨hl4, hc4⟩ := hown.cell hlt
      have hf4 := hown.frozen k
      have Hst := hown.store k z
      rw [set_rep _ _ _ hlt] at Hst
      have HST := hide Hst
      clear hown Hst
      go_wp2
      exact ⟨⟨k + 1, by omega, by go_num, HST.out, hb.setCell (p := ⟨g, k, none⟩) lt2.1 _⟩, by simp [intOf]; omega⟩
    · obtain rfl : k = L := by omega
      have hown := HO.out
      rw [Nat.sub_self, List.replicate_zero, List.append_nil] at hown
      have HO := hide hown
      have HB := hide hb
      have hlen : (List.replicate k z).length = k := List.length_replicate
      have henc := Runs.enc_rep N z 0
      rw [← HL.out, UInt8.xor_zero] at henc
      have hdec := Runs.dec_enc0 k (List.replicate k z) (by rw [hlen]; omega)
      rw [hlen, if_pos (Nat.le_refl _), henc] at hdec
      have HE := hide henc
      have HD := hide hdec
      have Hlen := hide hlen
      have hsb := hb.size
      clear hown hb henc hdec hlen hlt
      go_wp2_with fail
      refine Calls.mono (runs_Encode _ _ _ _ _ _ HO.out.lies (Nat.le_refl _) (by omega)) ?_
      rintro e w3 ⟨A3, n3, c3, rfl, own3, hb3⟩
      rw [HE.out] at own3
      have hc3 := own3.cap
      have hn3 := own3.len
      have O3 := hide own3
      have O1 := hide (HO.out.below hb3)
      have HB3 := hide (Below_step HB.out hb3)
      clear own3 hb3
      have hn3' : n3 ≤ 3 := by
        rw [← hn3]
        rcases Nat.lt_or_ge 63 k with h | h
        · obtain ⟨p, q, h2⟩ := put_three k h hL3; rw [h2]; simp
        · obtain ⟨p, h2⟩ := put_two k h; rw [h2]; simp
      have HN3 := hide hn3
      clear hn3
      go_wp2_with fail
      refine Calls.mono (runs_Decode_v k O3.out.lies hc3 (Nat.le_refl _) (by omega) (by omega) (by omega) (by omega) HD.out (.inl (by omega))) ?_
      rintro e w4 ⟨A4, n4, c4, rfl, own4, hb4⟩
      have O4 := hide own4
      have O1 := hide (O1.out.below hb4)
      have O3 := hide (O3.out.below hb4)
      have HB4 := hide (Below_step HB3.out hb4)
      clear own4 hb4
      by_cases h63 : 63 < k
      · obtain ⟨p, q, hp⟩ := put_three k h63 hL3
        have o3 := O3.out
        have hn := HN3.out
        rw [hp] at o3 hn
        have hn3e : n3 = 3 := hn.symm
        subst hn3e
        obtain ⟨g3, rfl, _, _⟩ := o3.form (by omega)
        obtain ⟨_, hcell⟩ := o3.cell (j := 2) (by omega)
        have hcell : w4.cell? ⟨g3, 2, none⟩ = some (.int .u8 (z.toNat : Int)) := hcell
        clear o3 hp hn
        go_wp2_with fail
        rw [run_stringB O4.out.lies]
        go_wp2_with fail
        rw [run_stringB O1.out.lies]
        go_wp2_with fail
        go_ret
        exact ⟨by simp, HB4.out⟩
      · obtain ⟨p, hp⟩ := put_two k (by omega)
        have o3 := O3.out
        have hn := HN3.out
        rw [hp] at o3 hn
        have hn3e : n3 = 2 := hn.symm
        subst hn3e
        obtain ⟨g3, rfl, _, _⟩ := o3.form (by omega)
        obtain ⟨_, hcell⟩ := o3.cell (j := 1) (by omega)
        have hcell : w4.cell? ⟨g3, 1, none⟩ = some (.int .u8 (z.toNat : Int)) := hcell
        clear o3 hp hn
        go_wp2_with fail
        rw [run_stringB O4.out.lies]
        go_wp2_with fail
        rw [run_stringB O1.out.lies]
        go_wp2_with fail
        go_ret
        exact ⟨by simp, HB4.out⟩
end Go.Proofs.Ytobdafecgbcofaa
