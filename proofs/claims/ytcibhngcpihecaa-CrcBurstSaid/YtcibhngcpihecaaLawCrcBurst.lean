/-
  CrcBurst's walk.
-/
import Derived.Test.YtcibhngcpihecaaLaw3
import Derived.Test.YtcibhngcpihecaaMem
import Derived.Test.YtcibhngcpihecaaShort
import Derived.Test.YtcibhngcpihecaaBurst
namespace Go.Proofs.Ytcibhngcpihecaa
open Go.RowKit
theorem any_take (x : List UInt8) (k : Nat) (hk : k < x.length) : (x.take (k + 1)).any (· != 0) = ((x.take k).any (· != 0) || (x[k] != 0)) := by
  rw [List.take_succ_eq_append_getElem hk, List.any_append]; simp
set_option maxHeartbeats 1000000 in
theorem law_CrcBurst (A : Option Addr) (n c : Nat) (b : List UInt8) (at_ : Int) (A2 : Option Addr) (n2 c2 : Nat) (x : List UInt8) (w : World) (hA : LiesB w w.heap.size A n b) (hc : n ≤ c) (_ : c ≤ maxLen)
    (lo : -9223372036854775808 ≤ at_) (hi : at_ ≤ 9223372036854775807) (hA2 : LiesB w w.heap.size A2 n2 x) (hc2 : n2 ≤ c2) (_ : c2 ≤ maxLen) :
    Calls Try.prog 4 #[.slice A n c, .int .i64 at_, .slice A2 n2 c2] w fun e w' => e = .returned (.bool true) ∧ Below w.heap.size w w' := by
  go_enter Try.func4, Try.ntmps4
  go_wp2_with fail
  refine Calls.mono (begun3 _) ?_
  rintro e w1 ⟨rfl, hb1⟩
  have hb0 := hA.take 200
  have hx0 := hA2.take 4
  obtain ⟨m1, hm1⟩ : ∃ m, m = min 200 n := ⟨_, rfl⟩
  obtain ⟨m2, hm2⟩ : ∃ m, m = min 4 n2 := ⟨_, rfl⟩
  have hl1 : m1 ≤ 200 := by omega
  have hl2 : m2 ≤ 4 := by omega
  rw [← hm1] at hb0
  rw [← hm2] at hx0
  have Hm1 := hide hm1
  have Hm2 := hide hm2
  clear hm1 hm2
  obtain ⟨b', hb'⟩ : ∃ l, l = b.take 200 := ⟨_, rfl⟩
  obtain ⟨x', hx'⟩ : ∃ l, l = x.take 4 := ⟨_, rfl⟩
  rw [← hb'] at hb0
  rw [← hx'] at hx0
  clear hb' hx'
  have Hb0 := hide hb0
  have Hx0 := hide hx0
  replace hb0 := hb0.below hb1
  replace hx0 := hx0.below hb1
  go_wp2_with fail
  refine Calls.mono (law_Short _ _ _ _ 200 _ hc (by omega) (by omega)) ?_
  rintro e w2 ⟨rfl, rfl⟩
  rw [← Hm1.out]
  go_wp2_with fail
  refine Calls.mono (law_Short _ _ _ _ 4 _ hc2 (by omega) (by omega)) ?_
  rintro e w2 ⟨rfl, rfl⟩
  rw [← Hm2.out]
  go_wp2
  go_loop [8, 9] (fun s i => ∃ k : Nat, k ≤ m2 ∧ i = .int .i64 k ∧ s = .bool ((x'.take k).any (· != 0))) (fun _ i => m2 - (intOf i).toNat)
  case atStart => exact ⟨0, Nat.zero_le _, rfl, rfl⟩
  case round =>
    obtain ⟨k, hk, rfl, rfl⟩ := hrel
    by_cases hlt : k < m2
    · obtain ⟨b1, o1, hl, rfl, -, hc1⟩ := hx0.at_ hlt
      have Hs := hide (any_take x' k hl)
      obtain ⟨y, hy⟩ : ∃ y, y = x'[k] := ⟨_, rfl⟩
      rw [← hy] at hc1 Hs
      clear hy
      cases hs : (x'.take k).any (· != 0) with
      | true =>
        have HS := hide hs
        clear hs
        go_wp2
        exact ⟨⟨k + 1, by omega, by go_num, by rw [Hs.out, HS.out]; rfl⟩, by simp [intOf]; omega⟩
      | false =>
        have HS := hide hs
        clear hs
        go_wp2
        refine ⟨⟨k + 1, by omega, by go_num, ?_⟩, by simp [intOf]; omega⟩
        rw [Hs.out, HS.out, Bool.false_or]
        congr 1
        rw [Bool.eq_iff_iff]
        simp only [bne_iff_ne, ne_eq]
        constructor
        · rintro h rfl; exact h rfl
        · intro h h2; exact h (UInt8.toNat_inj.1 (by simp; omega))
    · have hkm : k = m2 := by omega
      have Hk := hide hkm
      clear hkm
      by_cases h1 : at_ < 0
      · go_wp2_with fail
        go_ret
        exact ⟨rfl, hb1⟩
      · by_cases h2 : (m1 : Int) - m2 < at_
        · go_wp2_with fail
          go_ret
          exact ⟨rfl, hb1⟩
        · cases hs : (x'.take k).any (· != 0) with
          | false =>
            go_wp2_with fail
            go_ret
            exact ⟨rfl, hb1⟩
          | true =>
            have HS := hide hs
            clear hs
            obtain ⟨p, rfl⟩ : ∃ p : Nat, at_ = (p : Int) := ⟨at_.toNat, by omega⟩
            have hp : p + m2 ≤ m1 := by omega
            have d1 : decide ((p : Int) < 0) = false := by simp
            have d2 : decide ((m1 : Int) - m2 < (p : Int)) = false := by simp; omega
            clear h1 h2
            go_wp2_with (at_builtin; refine wpB_append rfl (.const (.slice none 0 0)) (.tmp 48) rfl w.heap.size none 0 0 [] rfl (OwnB.nil _ _) w.heap.size A m1 c _ rfl hb0 m1 _ (by omega) (List.nil_append _) (by omega) hb1.size ?_; intro A3 c3 w3 own3 hb3 hg3)
            go_loopw [11] (fun i wr => ∃ j : Nat, j ≤ m2 ∧ i = .int .i64 j ∧ OwnB wr w.heap.size A3 m1 c3 (Crc.patch b' p (x'.take j)) ∧ Below w.heap.size w wr) (fun i _ => m2 - (intOf i).toNat)
            case atStart => exact ⟨0, Nat.zero_le _, rfl, by rw [List.take_zero, Crc.patch_nil]; exact own3, hb1.trans hb3⟩
            case round =>
              obtain ⟨j, hj, rfl, hown, hbw⟩ := hrel
              by_cases hlt2 : j < m2
              · obtain ⟨b1, o1, hl, rfl, -, hc1⟩ := (Hx0.out.below hbw).at_ hlt2
                obtain ⟨g, rfl, hg1, hg2⟩ := hown.form (by omega)
                obtain ⟨hl4, hc4⟩ := hown.cell (j := p + j) (by omega)
                have hf4 := hown.frozen (p + j)
                have hjl : (x'.take j).length = j := by rw [List.length_take]; omega
                have hlb : p + j < b'.length := by rw [hb0.len]; omega
                have hps := Crc.patch_snoc b' p (x'.take j) (x'[j]) (by rw [hjl]; exact hlb)
                simp only [hjl] at hps
                have hbv : (Crc.patch b' p (x'.take j))[p + j] = b'[p + j] := by
                  have := hps.1; rw [List.getElem?_eq_getElem hl4] at this; injection this
                rw [hbv] at hc4
                have hst := hown.store (p + j) (b'[p + j] ^^^ x'[j])
                rw [← hps.2, ← List.take_succ_eq_append_getElem hl] at hst
                have Hst := hide hst
                clear hst hps hbv hjl
                go_wp2
                go_region
                go_wp2
                rw [bits_xor8]
                exact ⟨⟨j + 1, by omega, by go_num, Hst.out, (hbw.setCell (p := ⟨g, p + j, none⟩) hg1 _).drew⟩, by simp [intOf]; omega⟩
              · have ho := hown.lies
                have hj2 : j = m2 := by omega
                have Hj := hide hj2
                have hbr := Hb0.out.below hbw
                have hne : ¬ Crc.sum b' = Crc.sum (Crc.patch b' p (x'.take j)) := by
                  intro h
                  rw [hj2, List.take_of_length_le (Nat.le_of_eq hx0.len)] at h
                  have h0 := Crc.sum_patch b' p x' (by rw [hb0.len, hx0.len]; exact hp) (by rw [hx0.len]; exact hl2) h
                  have hS := HS.out
                  rw [Hk.out, List.take_of_length_le (Nat.le_of_eq hx0.len), List.any_eq_true] at hS
                  obtain ⟨y, hy1, hy2⟩ := hS
                  rw [h0 y hy1] at hy2
                  cases hy2
                have Hne := hide hne
                clear hj2 hne
                go_wp2_with (first
                  | (go_at_call 14; (with_reducible refine Calls.mono (crc_Sum _ _ _ _ _ _ hbr (by omega)) ?_); rintro e w5 ⟨rfl, rfl⟩)
                  | (go_at_call 14; (with_reducible refine Calls.mono (crc_Sum _ _ _ _ _ _ ho (by omega)) ?_); rintro e w5 ⟨rfl, rfl⟩))
                go_ret
                refine ⟨?_, hbw⟩
                have : ¬ ((Crc.sum b').toNat : Int) = ((Crc.sum (Crc.patch b' p (x'.take j))).toNat : Int) := fun h => Hne.out (BitVec.eq_of_toNat_eq (by omega))
                simp [this]
end Go.Proofs.Ytcibhngcpihecaa
