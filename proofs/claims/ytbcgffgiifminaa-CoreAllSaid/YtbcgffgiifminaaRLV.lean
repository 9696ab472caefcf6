/-
  The document's lines: Put, of bytes that lie apart.
-/
import Derived.Test.YtbcgffgiifminaaDocE
namespace Go.Proofs.Ytbcgffgiifminaa
open Go.RowKit
set_option maxRecDepth 10000
set_option linter.unusedVariables false
set_option maxHeartbeats 2000000 in
set_option maxRecDepth 10000 in
theorem ref_LinePutV {B B' : Nat} {w : World} {g n c : Nat} {ss : List Sl} {ls : List (List UInt8)} (h : RL B w g n c ss ls) (hB : B ≤ w.heap.size) (i : Nat) (hi : i < n) {l : List UInt8} (hl : l = ls.getD i []) (first : Int) {A2 : Option Addr} {n2 c2 : Nat} {b : List UInt8}
    (hA : LiesB w B' A2 n2 b) (hB' : B' ≤ w.heap.size) (hap : ∀ (hs : i < ss.length) bk off, A2 = some ⟨bk, off, none⟩ → b ≠ [] → ¬ rlBlocks g ss[i] bk) (h1 : -9223372036854775808 ≤ first) (h2 : first ≤ 9223372036854775807) (hn2 : n2 ≤ 9223372036854775807) {add : List UInt8} {N E : Int} (hadd : putAdd l first b = add) (hN : (add.length : Int) = N) (hE : putErr l first b = E) :
    Calls Try.prog 72 #[.pointer (some ⟨g, i, none⟩), .int .i64 first, .slice A2 n2 c2] w fun e w' =>
      e = .returned (.tuple #[.int .i64 N, .int .i64 E]) ∧ ∃ (x : Sl) (hs : i < ss.length), RL B w' g n c (ss.set i x) (ls.set i (l ++ add)) ∧ Keeps (rlBlocks g ss[i]) w w' ∧ ((sv x).ownBlock = (sv ss[i]).ownBlock ∨ ∃ k, (sv x).ownBlock = some k ∧ w.heap.size ≤ k) := by
  obtain ⟨hs, hc, hf, hlen⟩ := h.cell i hi
  have hll : l.length = ss[i].2.1 := by rw [hl]; exact hlen
  have hsh : l.length ≤ 1000 := by rw [hl]; exact h.short i
  obtain ⟨⟨A, m, cc⟩, hx⟩ : ∃ x, x = ss[i] := ⟨_, rfl⟩
  rw [← hx] at hc hll hlen
  simp only at hc hll hlen
  have HX := hide hx
  have H := hide h
  have HL := hide hl
  have HLL := hide hll
  have hm : m ≤ 1000 := by omega
  have same : Hid (ss.set i (A, m, cc) = ss) := by show _ = _; rw [hx]; exact List.set_getElem_self hs
  have same2 : Hid (ls.set i l = ls) := by
    show _ = _
    have hi2 : i < ls.length := by rw [h.len]; exact hi
    rw [hl, List.getD_eq_getElem?_getD, List.getElem?_eq_getElem hi2]
    exact List.set_getElem_self hi2
  by_cases hf0 : first < 0
  · have e1 : putAdd l first b = [] := by simp [putAdd, hf0]
    have e2 : putErr l first b = 1 := by simp [putErr, hf0]
    rw [e1] at hadd; rw [e2] at hE
    subst hadd hE hN
    have d : decide (first < 0) = true := decide_eq_true hf0
    clear hf0 hx h hl hll hA e1 e2 hc hf hlen
    go_enter Try.func72, Try.ntmps72
    go_wp2
    go_ret2
    exact ⟨rfl, (A, m, cc), hs, by rw [same.out, List.append_nil, same2.out]; exact H.out, Keeps.refl _ _, .inl (by rw [← HX.out])⟩
  have d : decide (first < 0) = false := decide_eq_false hf0
  by_cases hf1 : (m : Int) < first
  · have e1 : putAdd l first b = [] := by rw [putAdd, if_pos (.inr (by rw [hll]; exact hf1))]
    have e2 : putErr l first b = 2 := by rw [putErr, if_neg hf0, if_pos (by rw [hll]; exact hf1)]
    rw [e1] at hadd; rw [e2] at hE
    subst hadd hE hN
    have d2 : decide ((m : Int) < first) = true := decide_eq_true hf1
    clear hf0 hf1 hx h hl hll hA e1 e2 hlen
    go_enter Try.func72, Try.ntmps72
    go_wp2
    go_ret2
    exact ⟨rfl, (A, m, cc), hs, by rw [same.out, List.append_nil, same2.out]; exact H.out, Keeps.refl _ _, .inl (by rw [← HX.out])⟩
  have d2 : decide ((m : Int) < first) = false := decide_eq_false hf1
  obtain ⟨f, rfl⟩ : ∃ f : Nat, first = (f : Int) := ⟨first.toNat, by omega⟩
  have hfm : f ≤ m := by omega
  rw [putAdd_form (by omega), hll] at hadd
  rw [putErr_form (by omega)] at hE
  obtain ⟨s, hs'⟩ : ∃ s, s = m - f := ⟨_, rfl⟩
  rw [← hs'] at hadd
  have HA := hide hA
  have HAP := hide hap
  have HS := hide hs'
  have HADD := hide hadd
  have HE := hide hE
  have HN := hide hN
  have hbl := hA.len
  have HBL := hide hbl
  clear hx h hl hll hA hadd hE hN hlen hs' hf0 hf1 hbl
  go_enter Try.func72, Try.ntmps72
  go_upto_region 5 with fail
  go_cut [8] (fun q wx => q = .int .i64 0 ∧ w = wx)
  case first =>
    go_wp2
    go_meet
    exact ⟨rfl, rfl⟩
  case rest =>
  obtain ⟨rfl, rfl⟩ := hcut
  clear hc hf
  go_wp2_with fail
  go_loopg [8, 9] n2 (fun gg s8 s9 wr => ∃ (k j : Nat) (x : Sl), k ≤ n2 ∧ gg = n2 - k ∧ s9 = .int .i64 k ∧ s8 = .int .i64 j ∧ j = k - s ∧ m + j ≤ 1000 ∧ Hid (RL B wr g n c (ss.set i x) (ls.set i (l ++ (b.drop s).take j))) ∧ Hid (Keeps (rlBlocks g ss[i]) w wr) ∧ Hid ((sv x).ownBlock = (sv ss[i]).ownBlock ∨ ∃ k, (sv x).ownBlock = some k ∧ w.heap.size ≤ k))
  case atStart => exact ⟨0, 0, (A, m, cc), by omega, rfl, rfl, rfl, by omega, by omega, by show RL _ _ _ _ _ _ _; rw [same.out, List.take_zero, List.append_nil, same2.out]; exact H.out, Keeps.refl _ _, .inl (by rw [← HX.out])⟩
  case round =>
    obtain ⟨W1, hW1⟩ : ∃ W1, W1 = wr := ⟨_, rfl⟩
    subst hW1
    obtain ⟨k, j, x, hk, rfl, rfl, rfl, hj, hj2, HR, HK, HXX⟩ := hrel
    have HJ := hide hj
    obtain ⟨hs3, hc, hf, hlen3⟩ := HR.out.cell i hi
    have hlen4 : (l ++ (b.drop s).take j).length = m + j ∨ n2 < k := by
      rw [List.length_append, HLL.out, List.length_take, List.length_drop, HBL.out]
      have := HJ.out; omega
    have hx3 : (ss.set i x)[i] = x := by simp
    rw [hx3] at hc hlen3
    have hi2 : i < ls.length := by rw [H.out.len]; exact hi
    have hgd : (ls.set i (l ++ (b.drop s).take j)).getD i [] = l ++ (b.drop s).take j := by
      rw [List.getD_eq_getElem?_getD, List.getElem?_set_self hi2]; rfl
    rw [hgd] at hlen3
    obtain ⟨A3, m3, c3⟩ := x
    have hm3 : m3 = m + j := by simp only at hlen3; omega
    subst hm3
    simp only at hc
    clear hj hlen3 hlen4 hx3 hgd
    by_cases hlt : k < n2
    · by_cases hsk : k < s
      · have hj0 : j = 0 := by have := HJ.out; omega
        subst hj0
        have d3 : decide ((k : Int) < (m : Int) - (f : Int)) = true := decide_eq_true (by have := HS.out; omega)
        have d4 : decide ((k : Int) < ((m + 0 : Nat) : Int) - (f : Int)) = true := decide_eq_true (by have := HS.out; omega)
        have HSK := hide hsk
        clear hsk
        go_wp2_with fail
        go_roundg (n2 - (k + 1))
        case measure => omega
        case rel => exact ⟨k + 1, 0, (A3, m + 0, c3), by omega, rfl, by go_num, rfl, by have := HSK.out; omega, by omega, HR, HK, HXX⟩
      · have hkj : Hid (k = s + j) := by show _ = _; have := HJ.out; omega
        have d3 : decide ((k : Int) < (m : Int) + (j : Int) - (f : Int)) = false := decide_eq_false (by have := HS.out; have := hkj.out; omega)
        by_cases hfull : 1000 ≤ m + j
        · have d4 : decide ((1000 : Int) ≤ (m : Int) + (j : Int)) = true := decide_eq_true (by omega)
          clear hsk hfull
          go_wp2_with fail
          go_ret2
          have hkj' := hkj.out
          have h1000 := of_decide_eq_true d4
          have e : add = (b.drop s).take j := by rw [← HADD.out]; congr 1; omega
          have hjl : ((b.drop s).take j).length = j := by rw [List.length_take, List.length_drop, HBL.out]; omega
          refine ⟨?_, (A3, m + j, c3), hs, by rw [e]; exact HR.out, HK.out, HXX.out⟩
          rw [← HN.out, ← HE.out, e, hjl, if_pos (by rw [HBL.out]; have := HS.out; omega)]
          rfl
        · have d4 : decide ((1000 : Int) ≤ (m : Int) + (j : Int)) = false := decide_eq_false (by omega)
          have hA1 := HA.out.keeps HK.out (by
            intro bk off e1 e2 hbk
            exact HAP.out hs bk off e1 e2 hbk)
          obtain ⟨ab, ao, hkb, hAA, hab, hcb⟩ := hA1.at_ hlt
          subst hAA
          have HNB : Hid (¬ rlBlocks g ss[i] ab) := HAP.out hs ab ao rfl (by intro e; rw [e] at hkb; simp at hkb)
          have hab : ab < w.heap.size := Nat.lt_of_lt_of_le hab hB'
          have HNM : Hid (¬ Mine A3 (m + j) c3 ab) := fun hm => by
            have hm : some ab = (sv (A3, m + j, c3)).ownBlock := hm
            rcases HXX.out with e | ⟨k2, e, h2⟩
            · exact HNB.out (.inr (by rw [hm, e]))
            · rw [e] at hm; injection hm with hm; omega
          have HWW : Hid (w.heap.size ≤ W1.heap.size) := HK.out.size
          obtain ⟨z, hz⟩ : ∃ z, z = b[k] := ⟨_, rfl⟩
          rw [← hz] at hcb
          have HZ := hide hz
          have HAB := hide hab
          clear hz hsk hfull hA1
          have HO : Hid (OwnB W1 B A3 (m + j) c3 (l ++ (b.drop s).take j)) := by
            show OwnB _ _ _ _ _ _
            have := HR.out.line i hs3
            simp only [List.getElem_set_self] at this
            rwa [List.getD_eq_getElem?_getD, List.getElem?_set_self hi2] at this
          have hgB := (HR.out.gblk (by omega)).1
          have hgW := (HR.out.gblk (by omega)).2
          have HGG := hide (show B ≤ g ∧ g < W1.heap.size from ⟨hgB, hgW⟩)
          have hBW : Hid (B ≤ W1.heap.size) := by show _ ≤ _; omega
          have FIN : Hid (∀ (w2 w5 : World) (A5 : Option Addr) (c5 : Nat), Below W1.heap.size W1 w2 → OwnB w5 B A5 (m + j + 1) c5 (l ++ (b.drop s).take (j + 1)) → Keeps (Mine A3 (m + j) c3) w2 w5 →
              ((Value.slice A5 (m + j + 1) c5).ownBlock = (Value.slice A3 (m + j) c3).ownBlock ∨ ∃ k, (Value.slice A5 (m + j + 1) c5).ownBlock = some k ∧ W1.heap.size ≤ k) → m + j < 1000 →
              RL B (w5.setCell ⟨g, i, none⟩ (.slice A5 (m + j + 1) c5)) g n c (ss.set i (A5, m + j + 1, c5)) (ls.set i (l ++ (b.drop s).take (j + 1))) ∧ Keeps (rlBlocks g ss[i]) w (w5.setCell ⟨g, i, none⟩ (.slice A5 (m + j + 1) c5)) ∧
              ((sv (A5, m + j + 1, c5)).ownBlock = (sv ss[i]).ownBlock ∨ ∃ k, (sv (A5, m + j + 1, c5)).ownBlock = some k ∧ w.heap.size ≤ k)) := by
            show ∀ (w2 w5 : World) (A5 : Option Addr) (c5 : Nat), _
            intro w2 w5 A5 c5 hb2 ho5 hk5 hx5 h1000
            have kc := Keeps.setCell w5 ⟨g, i, none⟩ (.slice A5 (m + j + 1) c5)
            have hrow2 : OwnV 122 w2 B (some ⟨g, 0, none⟩) n c ((ss.set i (A3, m + j, c3)).map sv) := HR.out.row.below hb2
            have hrow5 : OwnV 122 w5 B (some ⟨g, 0, none⟩) n c ((ss.set i (A3, m + j, c3)).map sv) := hrow2.keeps hk5 (fun k hkk hmm => by
              have ho2 : OwnB w2 B A3 (m + j) c3 (l ++ (b.drop s).take j) := HO.out.below hb2
              exact (OwnV.of_B ho2).apart hrow2 (by decide) k hmm hkk)
            have hkk : Keeps (rlBlocks g (A3, m + j, c3)) W1 (w5.setCell ⟨g, i, none⟩ (.slice A5 (m + j + 1) c5)) := by
              refine ((Keeps.of_below (S := rlBlocks g (A3, m + j, c3)) hb2).trans hk5 (fun k _ h => .inr h)).trans kc (fun k _ h => .inl h)
            have ho6 : OwnB (w5.setCell ⟨g, i, none⟩ (.slice A5 (m + j + 1) c5)) B A5 (m + j + 1) c5 (l ++ (b.drop s).take (j + 1)) := ho5.keeps kc (fun k hk1 hk2 => by
              have hk2 : k = g := hk2
              subst hk2
              exact (OwnV.of_B ho5).apart hrow5 (by decide) k hk1 (by rfl))
            have hput := HR.out.put i hi (x := (A5, m + j + 1, c5)) (l := l ++ (b.drop s).take (j + 1)) (hrow5.store i _) ho6 hs3 (by simp only [List.getElem_set_self]; exact hkk) (by simp only [List.getElem_set_self]; exact hx5) (by
              have := ho5.len; omega)
            rw [List.set_set, List.set_set] at hput
            refine ⟨hput, HK.out.trans hkk (fun k hkl hkx => ?_), ?_⟩
            · rcases hkx with h | h
              · exact .inl h
              · rcases HXX.out with e | ⟨k2, e, h2⟩
                · exact .inr (by rw [h, e])
                · rw [e] at h; injection h with h; omega
            · rcases hx5 with e | ⟨k2, e, h2⟩
              · rw [show (sv (A5, m + j + 1, c5)).ownBlock = _ from e]; exact HXX.out
              · exact .inr ⟨k2, e, Nat.le_trans HK.out.size h2⟩
          have HTK : Hid ((b.drop s).take (j + 1) = (b.drop s).take j ++ [z]) := by
            show _ = _
            have hkj' := hkj.out
            rw [List.take_succ_eq_append_getElem (by rw [List.length_drop, HBL.out]; omega), List.getElem_drop, HZ.out]
            subst hkj'
            rfl
          have hmj : Hid (m + j < 1000) := by show _ < _; have := of_decide_eq_false d4; omega
          clear hgB hgW
          go_upto_region 12 with fail
          refine wp_region_noPanic ?_
          refine wp_region_held_drew (S := (fun w' => w'.cell? ⟨ab, ao + k, none⟩ = some (.int .u8 (z.toNat : Int)))) (by kernel_rfl) hcb (fun hHeld => ?_)
          refine tk0 0 ?_
          refine tk 1 ?_
          refine tk 2 ?_
          refine tk 3 ?_
          refine tk 5 ?_
          refine tk 6 ?_
          refine tk 7 ?_
          refine tk 8 ?_
          refine wpAnyH_ready (rs := [4, 9]) (by kernel_rfl) (by simp) ?_
          refine AllReadyH.cons (o := ?_) ?_ (fun K hK => ?_) ?_
          rotate_left 1
          · (simp only [List.getElem?_toArray, List.getElem?_cons_succ, List.getElem?_cons_zero]; rfl)
          · go_simp
            skip
            refine hK.out _ _ hcb (fun hHeld => ?_)
            clear hK K
            try simp only [Act.put, List.setIfInBounds_toArray, List.set_cons_zero, List.set_cons_succ]
            refine rdy 9 fun K hK => ?_
            go_simp
            have hb2 : Below W1.heap.size W1 (W1.drew.alloc (.cells #[.int .u8 (z.toNat : Int)] 5)) := Below_newd W1 _
            have own2 := HO.out.below hb2
            have hcb2 : (W1.drew.alloc (.cells #[.int .u8 (z.toNat : Int)] 5)).cell? ⟨ab, ao + k, none⟩ = some (.int .u8 (z.toNat : Int)) := (hb2.cell (p := ⟨ab, ao + k, none⟩) (by have := HAB.out; have := HWW.out; show ab < _; omega)).trans hcb
            refine hK.out _ _ hcb2 (fun hHeld => ?_)
            clear hK K
            try simp only [Act.put, List.setIfInBounds_toArray, List.set_cons_zero, List.set_cons_succ]
            refine rdy 10 fun K hK => ?_
            (refine step_appendB rfl (.tmp 45) (.tmp 50) rfl B A3 (m + j) c3 _ rfl own2 _ _ 1 1 [z] rfl (LiesB.new W1.drew _ _ _ _ _ rfl rfl) (m + j + 1) (l ++ (b.drop s).take (j + 1)) rfl (by rw [HTK.out, List.append_assoc]) (by omega) (Nat.le_trans hBW.out hb2.size) ?_; intro A5 c5 w5 own5 k5 hk5)
            have hg5 := (((HR.out.row.below hb2).keeps k5 (fun q h1 h2 => (OwnV.of_B own2).apart (HR.out.row.below hb2) (by decide) q h2 h1)))
            obtain ⟨_, hc5⟩ := hg5.cell (j := i) hi
            have hf5 := hg5.frozen i
            have hcb5 : w5.cell? ⟨ab, ao + k, none⟩ = some (.int .u8 (z.toNat : Int)) := (World.cell?_of_block (k5.block ab (World.block_lt_of_cell? _ _ hcb2) (fun h => HNM.out h))).trans hcb2
            refine hK.out _ _ hcb5 (fun hHeld => ?_)
            clear hK K
            try simp only [Act.put]
            refine tk 11 ?_
            refine tk 12 ?_
            refine rdy 13 fun K hK => ?_
            go_simp
            have hcb6 : (w5.setCell ⟨g, i, none⟩ (.slice A5 (m + j + 1) c5)).cell? ⟨ab, ao + k, none⟩ = some (.int .u8 (z.toNat : Int)) := (World.cell?_of_block (Below.heap_setCell w5 ⟨g, i, none⟩ _ ab (by show ab ≠ g; exact fun e => HNB.out (.inl e)))).trans hcb5
            refine hK.out _ _ hcb6 (fun hHeld => ?_)
            clear hK K
            try simp only [Act.put]
            refine wpAnyH_done (by kernel_rfl) (NoPanic.normal ?_) _
            obtain ⟨FR, FK, FX⟩ := FIN.out _ w5 A5 c5 hb2 own5 k5 (hk5.imp id fun h => ⟨_, h, hb2.size⟩) hmj.out
            have HFR := hide FR
            have HFK := hide FK
            have HFX := hide FX
            clear FR FK FX hcb5 hcb6 hc5 hf5 hg5 k5 hk5 own5
            go_wp2_with fail
            go_roundg (n2 - (k + 1))
            case measure => omega
            case rel => exact ⟨k + 1, j + 1, (A5, m + j + 1, c5), by omega, rfl, by go_num, by go_num, by have := hkj.out; omega, by have := hmj.out; omega, HFR, HFK, HFX⟩
          refine AllReadyH.cons (o := ?_) ?_ (fun K hK => ?_) ?_
          rotate_left 1
          · (simp only [List.getElem?_toArray, List.getElem?_cons_succ, List.getElem?_cons_zero]; rfl)
          · go_simp
            skip
            have hb2 : Below W1.heap.size W1 (W1.drew.alloc (.cells #[.int .u8 (z.toNat : Int)] 5)) := Below_newd W1 _
            have own2 := HO.out.below hb2
            have hcb2 : (W1.drew.alloc (.cells #[.int .u8 (z.toNat : Int)] 5)).cell? ⟨ab, ao + k, none⟩ = some (.int .u8 (z.toNat : Int)) := (hb2.cell (p := ⟨ab, ao + k, none⟩) (by have := HAB.out; have := HWW.out; show ab < _; omega)).trans hcb
            refine hK.out _ _ hcb2 (fun hHeld => ?_)
            clear hK K
            try simp only [Act.put, List.setIfInBounds_toArray, List.set_cons_zero, List.set_cons_succ]
            have hcq : (W1.alloc (.cells #[.int .u8 (z.toNat : Int)] 5)).cell? ⟨g, i, none⟩ = some (.slice A3 (m + j) c3) := ((Below_new W1 _).cell (p := ⟨g, i, none⟩) HGG.out.2).trans hc
            refine rdy 4 fun K hK => ?_
            go_simp
            refine hK.out _ _ hcb2 (fun hHeld => ?_)
            clear hK K
            try simp only [Act.put, List.setIfInBounds_toArray, List.set_cons_zero, List.set_cons_succ]
            refine rdy 10 fun K hK => ?_
            (refine step_appendB rfl (.tmp 45) (.tmp 50) rfl B A3 (m + j) c3 _ rfl own2 _ _ 1 1 [z] rfl (LiesB.new W1.drew _ _ _ _ _ rfl rfl) (m + j + 1) (l ++ (b.drop s).take (j + 1)) rfl (by rw [HTK.out, List.append_assoc]) (by omega) (Nat.le_trans hBW.out hb2.size) ?_; intro A5 c5 w5 own5 k5 hk5)
            have hg5 := (((HR.out.row.below hb2).keeps k5 (fun q h1 h2 => (OwnV.of_B own2).apart (HR.out.row.below hb2) (by decide) q h2 h1)))
            obtain ⟨_, hc5⟩ := hg5.cell (j := i) hi
            have hf5 := hg5.frozen i
            have hcb5 : w5.cell? ⟨ab, ao + k, none⟩ = some (.int .u8 (z.toNat : Int)) := (World.cell?_of_block (k5.block ab (World.block_lt_of_cell? _ _ hcb2) (fun h => HNM.out h))).trans hcb2
            refine hK.out _ _ hcb5 (fun hHeld => ?_)
            clear hK K
            try simp only [Act.put]
            refine tk 11 ?_
            refine tk 12 ?_
            refine rdy 13 fun K hK => ?_
            go_simp
            have hcb6 : (w5.setCell ⟨g, i, none⟩ (.slice A5 (m + j + 1) c5)).cell? ⟨ab, ao + k, none⟩ = some (.int .u8 (z.toNat : Int)) := (World.cell?_of_block (Below.heap_setCell w5 ⟨g, i, none⟩ _ ab (by show ab ≠ g; exact fun e => HNB.out (.inl e)))).trans hcb5
            refine hK.out _ _ hcb6 (fun hHeld => ?_)
            clear hK K
            try simp only [Act.put]
            refine wpAnyH_done (by kernel_rfl) (NoPanic.normal ?_) _
            obtain ⟨FR, FK, FX⟩ := FIN.out _ w5 A5 c5 hb2 own5 k5 (hk5.imp id fun h => ⟨_, h, hb2.size⟩) hmj.out
            have HFR := hide FR
            have HFK := hide FK
            have HFX := hide FX
            clear FR FK FX hcb5 hcb6 hc5 hf5 hg5 k5 hk5 own5
            go_wp2_with fail
            go_roundg (n2 - (k + 1))
            case measure => omega
            case rel => exact ⟨k + 1, j + 1, (A5, m + j + 1, c5), by omega, rfl, by go_num, by go_num, by have := hkj.out; omega, by have := hmj.out; omega, HFR, HFK, HFX⟩
          exact AllReadyH.nil
    · obtain rfl : k = n2 := by omega
      go_wp2_with fail
      go_ret2
      have e : add = (b.drop s).take j := by
        rw [← HADD.out, List.take_of_length_le (by rw [List.length_drop, HBL.out]; have := HJ.out; omega), List.take_of_length_le (by rw [List.length_drop, HBL.out]; have := HJ.out; omega)]
      have hjl : ((b.drop s).take j).length = j := by rw [List.length_take, List.length_drop, HBL.out]; have := HJ.out; omega
      refine ⟨?_, (A3, m + j, c3), hs, by rw [e]; exact HR.out, HK.out, HXX.out⟩
      rw [← HN.out, ← HE.out, e, hjl, if_neg (by rw [HBL.out]; have := HS.out; have := HJ.out; omega)]
      rfl
end Go.Proofs.Ytbcgffgiifminaa
