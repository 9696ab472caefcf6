/-
  The document's lines: the walks of Put, Front, Joint; Lines.
  The document's lines: the walks of Front, Joint; Lines.
  What the walks of law 21 stand on.
  A mail written; what a player is told.
  What a player is told.
-/
import Derived.Test.YtbcgffgiifminaaStand8
namespace Go.Proofs.Ytbcgffgiifminaa
open Go.RowKit
set_option maxRecDepth 10000
set_option linter.unusedVariables false
theorem Below_newd (w : World) (o : Obj) : Below w.heap.size w (w.drew.alloc o) := have h := Below_new w.drew o; ⟨h.os, h.tape, h.output, h.size, h.block⟩
set_option maxHeartbeats 2000000 in
set_option maxRecDepth 10000 in
theorem ref_LinePut {B : Nat} {w : World} {g n c : Nat} {ss : List Sl} {ls : List (List UInt8)} (h : RL B w g n c ss ls) (hB : B ≤ w.heap.size) (i : Nat) (hi : i < n) {l : List UInt8} (hl : l = ls.getD i []) (first : Int) {A2 : Option Addr} {n2 c2 : Nat} {b : List UInt8}
    (hA : LiesB w B A2 n2 b) (h1 : -9223372036854775808 ≤ first) (h2 : first ≤ 9223372036854775807) (hn2 : n2 ≤ 9223372036854775807) {add : List UInt8} {N E : Int} (hadd : putAdd l first b = add) (hN : (add.length : Int) = N) (hE : putErr l first b = E) :
    Calls Try.prog 72 #[.pointer (some ⟨g, i, none⟩), .int .i64 first, .slice A2 n2 c2] w fun e w' =>
      e = .returned (.tuple #[.int .i64 N, .int .i64 E]) ∧ ∃ (x : Sl) (hs : i < ss.length), RL B w' g n c (ss.set i x) (ls.set i (l ++ add)) ∧ Keeps (rlBlocks g ss[i]) w w' ∧ ((sv x).ownBlock = (sv ss[i]).ownBlock ∨ ∃ k, (sv x).ownBlock = some k ∧ w.heap.size ≤ k) := by
  obtain ⟨hs, hc, hf, hlen⟩ := h.cell i hi
  have hll : l.length = ss[i].2.1 := by rw [hl]; exact hlen
  have hsh : l.length ≤ 1000 := by rw [hl]; exact h.short i
  obtain ⟨⟨A, m, cc⟩, hx⟩ : ∃ x, x = ss[i] := ⟨_, rfl⟩
  rw [← hx] at hc hll hlen
  simp only at hc hll hlen
  have HX := hide hx
  have H := hide h
  have HL := hide hl
  have HLL := hide hll
  have hm : m ≤ 1000 := by omega
  have same : Hid (ss.set i (A, m, cc) = ss) := by show _ = _; rw [hx]; exact List.set_getElem_self hs
  have same2 : Hid (ls.set i l = ls) := by
    show _ = _
    have hi2 : i < ls.length := by rw [h.len]; exact hi
    rw [hl, List.getD_eq_getElem?_getD, List.getElem?_eq_getElem hi2]
    exact List.set_getElem_self hi2
  by_cases hf0 : first < 0
  · have e1 : putAdd l first b = [] := by simp [putAdd, hf0]
    have e2 : putErr l first b = 1 := by simp [putErr, hf0]
    rw [e1] at hadd; rw [e2] at hE
    subst hadd hE hN
    have d : decide (first < 0) = true := decide_eq_true hf0
    clear hf0 hx h hl hll hA e1 e2 hc hf hlen
    go_enter Try.func72, Try.ntmps72
    go_wp2
    go_ret2
    exact ⟨rfl, (A, m, cc), hs, by rw [same.out, List.append_nil, same2.out]; exact H.out, Keeps.refl _ _, .inl (by rw [← HX.out])⟩
  have d : decide (first < 0) = false := decide_eq_false hf0
  by_cases hf1 : (m : Int) < first
  · have e1 : putAdd l first b = [] := by rw [putAdd, if_pos (.inr (by rw [hll]; exact hf1))]
    have e2 : putErr l first b = 2 := by rw [putErr, if_neg hf0, if_pos (by rw [hll]; exact hf1)]
    rw [e1] at hadd; rw [e2] at hE
    subst hadd hE hN
    have d2 : decide ((m : Int) < first) = true := decide_eq_true hf1
    clear hf0 hf1 hx h hl hll hA e1 e2 hlen
    go_enter Try.func72, Try.ntmps72
    go_wp2
    go_ret2
    exact ⟨rfl, (A, m, cc), hs, by rw [same.out, List.append_nil, same2.out]; exact H.out, Keeps.refl _ _, .inl (by rw [← HX.out])⟩
  have d2 : decide ((m : Int) < first) = false := decide_eq_false hf1
  obtain ⟨f, rfl⟩ : ∃ f : Nat, first = (f : Int) := ⟨first.toNat, by omega⟩
  have hfm : f ≤ m := by omega
  rw [putAdd_form (by omega), hll] at hadd
  rw [putErr_form (by omega)] at hE
  obtain ⟨s, hs'⟩ : ∃ s, s = m - f := ⟨_, rfl⟩
  rw [← hs'] at hadd
  have HA := hide hA
  have HS := hide hs'
  have HADD := hide hadd
  have HE := hide hE
  have HN := hide hN
  have hbl := hA.len
  have HBL := hide hbl
  clear hx h hl hll hA hadd hE hN hlen hs' hf0 hf1 hbl
  go_enter Try.func72, Try.ntmps72
  go_upto_region 5 with fail
  go_cut [8] (fun q wx => q = .int .i64 0 ∧ w = wx)
  case first =>
    go_wp2
    go_meet
    exact ⟨rfl, rfl⟩
  case rest =>
  obtain ⟨rfl, rfl⟩ := hcut
  clear hc hf
  go_wp2_with fail
  go_loopg [8, 9] n2 (fun gg s8 s9 wr => ∃ (k j : Nat) (x : Sl), k ≤ n2 ∧ gg = n2 - k ∧ s9 = .int .i64 k ∧ s8 = .int .i64 j ∧ j = k - s ∧ m + j ≤ 1000 ∧ Hid (RL B wr g n c (ss.set i x) (ls.set i (l ++ (b.drop s).take j))) ∧ Hid (Keeps (rlBlocks g ss[i]) w wr) ∧ Hid ((sv x).ownBlock = (sv ss[i]).ownBlock ∨ ∃ k, (sv x).ownBlock = some k ∧ w.heap.size ≤ k))
  case atStart => exact ⟨0, 0, (A, m, cc), by omega, rfl, rfl, rfl, by omega, by omega, by show RL _ _ _ _ _ _ _; rw [same.out, List.take_zero, List.append_nil, same2.out]; exact H.out, Keeps.refl _ _, .inl (by rw [← HX.out])⟩
  case round =>
    obtain ⟨W1, hW1⟩ : ∃ W1, W1 = wr := ⟨_, rfl⟩
    subst hW1
    obtain ⟨k, j, x, hk, rfl, rfl, rfl, hj, hj2, HR, HK, HXX⟩ := hrel
    have HJ := hide hj
    obtain ⟨hs3, hc, hf, hlen3⟩ := HR.out.cell i hi
    have hlen4 : (l ++ (b.drop s).take j).length = m + j ∨ n2 < k := by
      rw [List.length_append, HLL.out, List.length_take, List.length_drop, HBL.out]
      have := HJ.out; omega
    have hx3 : (ss.set i x)[i] = x := by simp
    rw [hx3] at hc hlen3
    have hi2 : i < ls.length := by rw [H.out.len]; exact hi
    have hgd : (ls.set i (l ++ (b.drop s).take j)).getD i [] = l ++ (b.drop s).take j := by
      rw [List.getD_eq_getElem?_getD, List.getElem?_set_self hi2]; rfl
    rw [hgd] at hlen3
    obtain ⟨A3, m3, c3⟩ := x
    have hm3 : m3 = m + j := by simp only at hlen3; omega
    subst hm3
    simp only at hc
    clear hj hlen3 hlen4 hx3 hgd
    by_cases hlt : k < n2
    · by_cases hsk : k < s
      · have hj0 : j = 0 := by have := HJ.out; omega
        subst hj0
        have d3 : decide ((k : Int) < (m : Int) - (f : Int)) = true := decide_eq_true (by have := HS.out; omega)
        have d4 : decide ((k : Int) < ((m + 0 : Nat) : Int) - (f : Int)) = true := decide_eq_true (by have := HS.out; omega)
        have HSK := hide hsk
        clear hsk
        go_wp2_with fail
        go_roundg (n2 - (k + 1))
        case measure => omega
        case rel => exact ⟨k + 1, 0, (A3, m + 0, c3), by omega, rfl, by go_num, rfl, by have := HSK.out; omega, by omega, HR, HK, HXX⟩
      · have hkj : Hid (k = s + j) := by show _ = _; have := HJ.out; omega
        have d3 : decide ((k : Int) < (m : Int) + (j : Int) - (f : Int)) = false := decide_eq_false (by have := HS.out; have := hkj.out; omega)
        by_cases hfull : 1000 ≤ m + j
        · have d4 : decide ((1000 : Int) ≤ (m : Int) + (j : Int)) = true := decide_eq_true (by omega)
          clear hsk hfull
          go_wp2_with fail
          go_ret2
          have hkj' := hkj.out
          have h1000 := of_decide_eq_true d4
          have e : add = (b.drop s).take j := by rw [← HADD.out]; congr 1; omega
          have hjl : ((b.drop s).take j).length = j := by rw [List.length_take, List.length_drop, HBL.out]; omega
          refine ⟨?_, (A3, m + j, c3), hs, by rw [e]; exact HR.out, HK.out, HXX.out⟩
          rw [← HN.out, ← HE.out, e, hjl, if_pos (by rw [HBL.out]; have := HS.out; omega)]
          rfl
        · have d4 : decide ((1000 : Int) ≤ (m : Int) + (j : Int)) = false := decide_eq_false (by omega)
          have hA1 := HA.out.keeps HK.out (by
            intro bk off e1 e2 hbk
            have hg := (H.out.gblk (by omega)).1
            obtain ⟨b2, o2, e3, hb2, -⟩ := HA.out.2 (by simpa using e2)
            rw [e3] at e1; injection e1 with e1; injection e1 with e1 _
            rcases hbk with hbk | hbk
            · omega
            · have := ((H.out.line i hs).blk bk hbk).1; omega)
          obtain ⟨ab, ao, hkb, hAA, hab, hcb⟩ := hA1.at_ hlt
          subst hAA
          obtain ⟨z, hz⟩ : ∃ z, z = b[k] := ⟨_, rfl⟩
          rw [← hz] at hcb
          have HZ := hide hz
          have HAB := hide hab
          clear hz hsk hfull hA1
          have HO : Hid (OwnB W1 B A3 (m + j) c3 (l ++ (b.drop s).take j)) := by
            show OwnB _ _ _ _ _ _
            have := HR.out.line i hs3
            simp only [List.getElem_set_self] at this
            rwa [List.getD_eq_getElem?_getD, List.getElem?_set_self hi2] at this
          have hgB := (HR.out.gblk (by omega)).1
          have hgW := (HR.out.gblk (by omega)).2
          have HGG := hide (show B ≤ g ∧ g < W1.heap.size from ⟨hgB, hgW⟩)
          have hBW : Hid (B ≤ W1.heap.size) := by show _ ≤ _; omega
          have FIN : Hid (∀ (w2 w5 : World) (A5 : Option Addr) (c5 : Nat), Below W1.heap.size W1 w2 → OwnB w5 B A5 (m + j + 1) c5 (l ++ (b.drop s).take (j + 1)) → Keeps (Mine A3 (m + j) c3) w2 w5 →
              ((Value.slice A5 (m + j + 1) c5).ownBlock = (Value.slice A3 (m + j) c3).ownBlock ∨ ∃ k, (Value.slice A5 (m + j + 1) c5).ownBlock = some k ∧ W1.heap.size ≤ k) → m + j < 1000 →
              RL B (w5.setCell ⟨g, i, none⟩ (.slice A5 (m + j + 1) c5)) g n c (ss.set i (A5, m + j + 1, c5)) (ls.set i (l ++ (b.drop s).take (j + 1))) ∧ Keeps (rlBlocks g ss[i]) w (w5.setCell ⟨g, i, none⟩ (.slice A5 (m + j + 1) c5)) ∧
              ((sv (A5, m + j + 1, c5)).ownBlock = (sv ss[i]).ownBlock ∨ ∃ k, (sv (A5, m + j + 1, c5)).ownBlock = some k ∧ w.heap.size ≤ k)) := by
            show ∀ (w2 w5 : World) (A5 : Option Addr) (c5 : Nat), _
            intro w2 w5 A5 c5 hb2 ho5 hk5 hx5 h1000
            have kc := Keeps.setCell w5 ⟨g, i, none⟩ (.slice A5 (m + j + 1) c5)
            have hrow2 : OwnV 122 w2 B (some ⟨g, 0, none⟩) n c ((ss.set i (A3, m + j, c3)).map sv) := HR.out.row.below hb2
            have hrow5 : OwnV 122 w5 B (some ⟨g, 0, none⟩) n c ((ss.set i (A3, m + j, c3)).map sv) := hrow2.keeps hk5 (fun k hkk hmm => by
              have ho2 : OwnB w2 B A3 (m + j) c3 (l ++ (b.drop s).take j) := HO.out.below hb2
              exact (OwnV.of_B ho2).apart hrow2 (by decide) k hmm hkk)
            have hkk : Keeps (rlBlocks g (A3, m + j, c3)) W1 (w5.setCell ⟨g, i, none⟩ (.slice A5 (m + j + 1) c5)) := by
              refine ((Keeps.of_below (S := rlBlocks g (A3, m + j, c3)) hb2).trans hk5 (fun k _ h => .inr h)).trans kc (fun k _ h => .inl h)
            have ho6 : OwnB (w5.setCell ⟨g, i, none⟩ (.slice A5 (m + j + 1) c5)) B A5 (m + j + 1) c5 (l ++ (b.drop s).take (j + 1)) := ho5.keeps kc (fun k hk1 hk2 => by
              have hk2 : k = g := hk2
              subst hk2
              exact (OwnV.of_B ho5).apart hrow5 (by decide) k hk1 (by rfl))
            have hput := HR.out.put i hi (x := (A5, m + j + 1, c5)) (l := l ++ (b.drop s).take (j + 1)) (hrow5.store i _) ho6 hs3 (by simp only [List.getElem_set_self]; exact hkk) (by simp only [List.getElem_set_self]; exact hx5) (by
              have := ho5.len; omega)
            rw [List.set_set, List.set_set] at hput
            refine ⟨hput, HK.out.trans hkk (fun k hkl hkx => ?_), ?_⟩
            · rcases hkx with h | h
              · exact .inl h
              · rcases HXX.out with e | ⟨k2, e, h2⟩
                · exact .inr (by rw [h, e])
                · rw [e] at h; injection h with h; omega
            · rcases hx5 with e | ⟨k2, e, h2⟩
              · rw [show (sv (A5, m + j + 1, c5)).ownBlock = _ from e]; exact HXX.out
              · exact .inr ⟨k2, e, Nat.le_trans HK.out.size h2⟩
          have HTK : Hid ((b.drop s).take (j + 1) = (b.drop s).take j ++ [z]) := by
            show _ = _
            have hkj' := hkj.out
            rw [List.take_succ_eq_append_getElem (by rw [List.length_drop, HBL.out]; omega), List.getElem_drop, HZ.out]
            subst hkj'
            rfl
          have hmj : Hid (m + j < 1000) := by show _ < _; have := of_decide_eq_false d4; omega
          clear hgB hgW
          go_upto_region 12 with fail
          refine wp_region_noPanic ?_
          refine wp_region_held_drew (S := (fun w' => w'.cell? ⟨ab, ao + k, none⟩ = some (.int .u8 (z.toNat : Int)))) (by kernel_rfl) hcb (fun hHeld => ?_)
          refine wpAnyH_take (i := 0) (oi := ?_) (v := ?_) ?_ (by kernel_rfl) (by kernel_rfl) (by kernel_rfl) ?_ ?_ (by assumption) ?_
          rotate_left 2
          · (simp only [List.getElem?_toArray, List.getElem?_cons_zero]; rfl)
          · exact fun _ _ _ h => h
          · (refine Or.inl ⟨by rfl, ?_⟩; intro w hSw; (try dsimp only at hSw); go_simp <;> with_reducible rfl)
          try simp only [Act.put, List.setIfInBounds_toArray, List.set_cons_zero, List.set_cons_succ]
          refine wpAnyH_take (i := 1) (oi := ?_) (v := ?_) ?_ (by kernel_rfl) (by kernel_rfl) (by kernel_rfl) ?_ ?_ (by assumption) ?_
          rotate_left 2
          · (simp only [List.getElem?_toArray, List.getElem?_cons_succ, List.getElem?_cons_zero]; rfl)
          · exact fun _ _ _ h => h
          · (refine Or.inl ⟨by rfl, ?_⟩; intro w hSw; (try dsimp only at hSw); go_simp <;> with_reducible rfl)
          try simp only [Act.put, List.setIfInBounds_toArray, List.set_cons_zero, List.set_cons_succ]
          refine wpAnyH_take (i := 2) (oi := ?_) (v := ?_) ?_ (by kernel_rfl) (by kernel_rfl) (by kernel_rfl) ?_ ?_ (by assumption) ?_
          rotate_left 2
          · (simp only [List.getElem?_toArray, List.getElem?_cons_succ, List.getElem?_cons_zero]; rfl)
          · exact fun _ _ _ h => h
          · (refine Or.inl ⟨by rfl, ?_⟩; intro w hSw; (try dsimp only at hSw); go_simp <;> with_reducible rfl)
          try simp only [Act.put, List.setIfInBounds_toArray, List.set_cons_zero, List.set_cons_succ]
          refine wpAnyH_take (i := 3) (oi := ?_) (v := ?_) ?_ (by kernel_rfl) (by kernel_rfl) (by kernel_rfl) ?_ ?_ (by assumption) ?_
          rotate_left 2
          · (simp only [List.getElem?_toArray, List.getElem?_cons_succ, List.getElem?_cons_zero]; rfl)
          · exact fun _ _ _ h => h
          · (refine Or.inl ⟨by rfl, ?_⟩; intro w hSw; (try dsimp only at hSw); go_simp <;> with_reducible rfl)
          try simp only [Act.put, List.setIfInBounds_toArray, List.set_cons_zero, List.set_cons_succ]
          refine wpAnyH_take (i := 5) (oi := ?_) (v := ?_) ?_ (by kernel_rfl) (by kernel_rfl) (by kernel_rfl) ?_ ?_ (by assumption) ?_
          rotate_left 2
          · (simp only [List.getElem?_toArray, List.getElem?_cons_succ, List.getElem?_cons_zero]; rfl)
          · exact fun _ _ _ h => h
          · (refine Or.inl ⟨by rfl, ?_⟩; intro w hSw; (try dsimp only at hSw); go_simp <;> with_reducible rfl)
          try simp only [Act.put, List.setIfInBounds_toArray, List.set_cons_zero, List.set_cons_succ]
          refine wpAnyH_take (i := 6) (oi := ?_) (v := ?_) ?_ (by kernel_rfl) (by kernel_rfl) (by kernel_rfl) ?_ ?_ (by assumption) ?_
          rotate_left 2
          · (simp only [List.getElem?_toArray, List.getElem?_cons_succ, List.getElem?_cons_zero]; rfl)
          · exact fun _ _ _ h => h
          · (refine Or.inl ⟨by rfl, ?_⟩; intro w hSw; (try dsimp only at hSw); go_simp <;> with_reducible rfl)
          try simp only [Act.put, List.setIfInBounds_toArray, List.set_cons_zero, List.set_cons_succ]
          refine wpAnyH_take (i := 7) (oi := ?_) (v := ?_) ?_ (by kernel_rfl) (by kernel_rfl) (by kernel_rfl) ?_ ?_ (by assumption) ?_
          rotate_left 2
          · (simp only [List.getElem?_toArray, List.getElem?_cons_succ, List.getElem?_cons_zero]; rfl)
          · exact fun _ _ _ h => h
          · (refine Or.inl ⟨by rfl, ?_⟩; intro w hSw; (try dsimp only at hSw); go_simp <;> with_reducible rfl)
          try simp only [Act.put, List.setIfInBounds_toArray, List.set_cons_zero, List.set_cons_succ]
          refine wpAnyH_take (i := 8) (oi := ?_) (v := ?_) ?_ (by kernel_rfl) (by kernel_rfl) (by kernel_rfl) ?_ ?_ (by assumption) ?_
          rotate_left 2
          · (simp only [List.getElem?_toArray, List.getElem?_cons_succ, List.getElem?_cons_zero]; rfl)
          · exact fun _ _ _ h => h
          · (refine Or.inl ⟨by rfl, ?_⟩; intro w hSw; (try dsimp only at hSw); go_simp <;> with_reducible rfl)
          try simp only [Act.put, List.setIfInBounds_toArray, List.set_cons_zero, List.set_cons_succ]
          refine wpAnyH_ready (rs := [4, 9]) (by kernel_rfl) (by simp) ?_
          refine AllReadyH.cons (o := ?_) ?_ (fun K hK => ?_) ?_
          rotate_left 1
          · (simp only [List.getElem?_toArray, List.getElem?_cons_succ, List.getElem?_cons_zero]; rfl)
          · go_simp
            skip
            refine hK.out _ _ hcb (fun hHeld => ?_)
            clear hK K
            try simp only [Act.put, List.setIfInBounds_toArray, List.set_cons_zero, List.set_cons_succ]
            refine wpAnyH_ready (rs := [9]) (by kernel_rfl) (by simp) ?_
            refine AllReadyH.cons (o := ?_) ?_ (fun K hK => ?_) AllReadyH.nil
            rotate_left 1
            · (simp only [List.getElem?_toArray, List.getElem?_cons_succ, List.getElem?_cons_zero]; rfl)
            go_simp
            have hb2 : Below W1.heap.size W1 (W1.drew.alloc (.cells #[.int .u8 (z.toNat : Int)] 5)) := Below_newd W1 _
            have own2 := HO.out.below hb2
            have hcb2 : (W1.drew.alloc (.cells #[.int .u8 (z.toNat : Int)] 5)).cell? ⟨ab, ao + k, none⟩ = some (.int .u8 (z.toNat : Int)) := (hb2.cell (p := ⟨ab, ao + k, none⟩) (by have := HAB.out; have := hBW.out; show ab < _; omega)).trans hcb
            refine hK.out _ _ hcb2 (fun hHeld => ?_)
            clear hK K
            try simp only [Act.put, List.setIfInBounds_toArray, List.set_cons_zero, List.set_cons_succ]
            refine wpAnyH_ready (rs := [10]) (by kernel_rfl) (by simp) ?_
            refine AllReadyH.cons (o := ?_) ?_ (fun K hK => ?_) AllReadyH.nil
            rotate_left 1
            · (simp only [List.getElem?_toArray, List.getElem?_cons_succ, List.getElem?_cons_zero]; rfl)
            (refine step_appendB rfl (.tmp 45) (.tmp 50) rfl B A3 (m + j) c3 _ rfl own2 _ _ 1 1 [z] rfl (LiesB.new W1.drew _ _ _ _ _ rfl rfl) (m + j + 1) (l ++ (b.drop s).take (j + 1)) rfl (by rw [HTK.out, List.append_assoc]) (by omega) (Nat.le_trans hBW.out hb2.size) ?_; intro A5 c5 w5 own5 k5 hk5)
            have hg5 := (((HR.out.row.below hb2).keeps k5 (fun q h1 h2 => (OwnV.of_B own2).apart (HR.out.row.below hb2) (by decide) q h2 h1)))
            obtain ⟨_, hc5⟩ := hg5.cell (j := i) hi
            have hf5 := hg5.frozen i
            have hcb5 : w5.cell? ⟨ab, ao + k, none⟩ = some (.int .u8 (z.toNat : Int)) := (World.cell?_of_block (k5.block ab (World.block_lt_of_cell? _ _ hcb2) (fun h => by have := (own2.blk ab h).1; have := HAB.out; omega))).trans hcb2
            refine hK.out _ _ hcb5 (fun hHeld => ?_)
            clear hK K
            try simp only [Act.put]
            refine wpAnyH_take (i := 11) (oi := ?_) (v := ?_) ?_ (by kernel_rfl) (by kernel_rfl) (by kernel_rfl) ?_ ?_ (by assumption) ?_
            rotate_left 2
            · (simp only [List.getElem?_toArray, List.getElem?_cons_succ, List.getElem?_cons_zero]; rfl)
            · exact fun _ _ _ h => h
            · (refine Or.inl ⟨by rfl, ?_⟩; intro w hSw; (try dsimp only at hSw); go_simp <;> with_reducible rfl)
            try simp only [Act.put, List.setIfInBounds_toArray, List.set_cons_zero, List.set_cons_succ]
            refine wpAnyH_take (i := 12) (oi := ?_) (v := ?_) ?_ (by kernel_rfl) (by kernel_rfl) (by kernel_rfl) ?_ ?_ (by assumption) ?_
            rotate_left 2
            · (simp only [List.getElem?_toArray, List.getElem?_cons_succ, List.getElem?_cons_zero]; rfl)
            · exact fun _ _ _ h => h
            · (refine Or.inl ⟨by rfl, ?_⟩; intro w hSw; (try dsimp only at hSw); go_simp <;> with_reducible rfl)
            try simp only [Act.put, List.setIfInBounds_toArray, List.set_cons_zero, List.set_cons_succ]
            refine wpAnyH_ready (rs := [13]) (by kernel_rfl) (by simp) ?_
            refine AllReadyH.cons (o := ?_) ?_ (fun K hK => ?_) AllReadyH.nil
            rotate_left 1
            · (simp only [List.getElem?_toArray, List.getElem?_cons_succ, List.getElem?_cons_zero]; rfl)
            go_simp
            have hcb6 : (w5.setCell ⟨g, i, none⟩ (.slice A5 (m + j + 1) c5)).cell? ⟨ab, ao + k, none⟩ = some (.int .u8 (z.toNat : Int)) := (World.cell?_of_block (Below.heap_setCell w5 ⟨g, i, none⟩ _ ab (by have h1 := HGG.out; have h2 := HAB.out; show ab ≠ g; omega))).trans hcb5
            refine hK.out _ _ hcb6 (fun hHeld => ?_)
            clear hK K
            try simp only [Act.put]
            refine wpAnyH_done (by kernel_rfl) (NoPanic.normal ?_) _
            obtain ⟨FR, FK, FX⟩ := FIN.out _ w5 A5 c5 hb2 own5 k5 (hk5.imp id fun h => ⟨_, h, hb2.size⟩) hmj.out
            have HFR := hide FR
            have HFK := hide FK
            have HFX := hide FX
            clear FR FK FX hcb5 hcb6 hc5 hf5 hg5 k5 hk5 own5
            go_wp2_with fail
            go_roundg (n2 - (k + 1))
            case measure => omega
            case rel => exact ⟨k + 1, j + 1, (A5, m + j + 1, c5), by omega, rfl, by go_num, by go_num, by have := hkj.out; omega, by have := hmj.out; omega, HFR, HFK, HFX⟩
          refine AllReadyH.cons (o := ?_) ?_ (fun K hK => ?_) ?_
          rotate_left 1
          · (simp only [List.getElem?_toArray, List.getElem?_cons_succ, List.getElem?_cons_zero]; rfl)
          · go_simp
            skip
            have hb2 : Below W1.heap.size W1 (W1.drew.alloc (.cells #[.int .u8 (z.toNat : Int)] 5)) := Below_newd W1 _
            have own2 := HO.out.below hb2
            have hcb2 : (W1.drew.alloc (.cells #[.int .u8 (z.toNat : Int)] 5)).cell? ⟨ab, ao + k, none⟩ = some (.int .u8 (z.toNat : Int)) := (hb2.cell (p := ⟨ab, ao + k, none⟩) (by have := HAB.out; have := hBW.out; show ab < _; omega)).trans hcb
            refine hK.out _ _ hcb2 (fun hHeld => ?_)
            clear hK K
            try simp only [Act.put, List.setIfInBounds_toArray, List.set_cons_zero, List.set_cons_succ]
            have hcq : (W1.alloc (.cells #[.int .u8 (z.toNat : Int)] 5)).cell? ⟨g, i, none⟩ = some (.slice A3 (m + j) c3) := ((Below_new W1 _).cell (p := ⟨g, i, none⟩) HGG.out.2).trans hc
            refine wpAnyH_ready (rs := [4]) (by kernel_rfl) (by simp) ?_
            refine AllReadyH.cons (o := ?_) ?_ (fun K hK => ?_) AllReadyH.nil
            rotate_left 1
            · (simp only [List.getElem?_toArray, List.getElem?_cons_succ, List.getElem?_cons_zero]; rfl)
            go_simp
            refine hK.out _ _ hcb2 (fun hHeld => ?_)
            clear hK K
            try simp only [Act.put, List.setIfInBounds_toArray, List.set_cons_zero, List.set_cons_succ]
            refine wpAnyH_ready (rs := [10]) (by kernel_rfl) (by simp) ?_
            refine AllReadyH.cons (o := ?_) ?_ (fun K hK => ?_) AllReadyH.nil
            rotate_left 1
            · (simp only [List.getElem?_toArray, List.getElem?_cons_succ, List.getElem?_cons_zero]; rfl)
            (refine step_appendB rfl (.tmp 45) (.tmp 50) rfl B A3 (m + j) c3 _ rfl own2 _ _ 1 1 [z] rfl (LiesB.new W1.drew _ _ _ _ _ rfl rfl) (m + j + 1) (l ++ (b.drop s).take (j + 1)) rfl (by rw [HTK.out, List.append_assoc]) (by omega) (Nat.le_trans hBW.out hb2.size) ?_; intro A5 c5 w5 own5 k5 hk5)
            have hg5 := (((HR.out.row.below hb2).keeps k5 (fun q h1 h2 => (OwnV.of_B own2).apart (HR.out.row.below hb2) (by decide) q h2 h1)))
            obtain ⟨_, hc5⟩ := hg5.cell (j := i) hi
            have hf5 := hg5.frozen i
            have hcb5 : w5.cell? ⟨ab, ao + k, none⟩ = some (.int .u8 (z.toNat : Int)) := (World.cell?_of_block (k5.block ab (World.block_lt_of_cell? _ _ hcb2) (fun h => by have := (own2.blk ab h).1; have := HAB.out; omega))).trans hcb2
            refine hK.out _ _ hcb5 (fun hHeld => ?_)
            clear hK K
            try simp only [Act.put]
            refine wpAnyH_take (i := 11) (oi := ?_) (v := ?_) ?_ (by kernel_rfl) (by kernel_rfl) (by kernel_rfl) ?_ ?_ (by assumption) ?_
            rotate_left 2
            · (simp only [List.getElem?_toArray, List.getElem?_cons_succ, List.getElem?_cons_zero]; rfl)
            · exact fun _ _ _ h => h
            · (refine Or.inl ⟨by rfl, ?_⟩; intro w hSw; (try dsimp only at hSw); go_simp <;> with_reducible rfl)
            try simp only [Act.put, List.setIfInBounds_toArray, List.set_cons_zero, List.set_cons_succ]
            refine wpAnyH_take (i := 12) (oi := ?_) (v := ?_) ?_ (by kernel_rfl) (by kernel_rfl) (by kernel_rfl) ?_ ?_ (by assumption) ?_
            rotate_left 2
            · (simp only [List.getElem?_toArray, List.getElem?_cons_succ, List.getElem?_cons_zero]; rfl)
            · exact fun _ _ _ h => h
            · (refine Or.inl ⟨by rfl, ?_⟩; intro w hSw; (try dsimp only at hSw); go_simp <;> with_reducible rfl)
            try simp only [Act.put, List.setIfInBounds_toArray, List.set_cons_zero, List.set_cons_succ]
            refine wpAnyH_ready (rs := [13]) (by kernel_rfl) (by simp) ?_
            refine AllReadyH.cons (o := ?_) ?_ (fun K hK => ?_) AllReadyH.nil
            rotate_left 1
            · (simp only [List.getElem?_toArray, List.getElem?_cons_succ, List.getElem?_cons_zero]; rfl)
            go_simp
            have hcb6 : (w5.setCell ⟨g, i, none⟩ (.slice A5 (m + j + 1) c5)).cell? ⟨ab, ao + k, none⟩ = some (.int .u8 (z.toNat : Int)) := (World.cell?_of_block (Below.heap_setCell w5 ⟨g, i, none⟩ _ ab (by have h1 := HGG.out; have h2 := HAB.out; show ab ≠ g; omega))).trans hcb5
            refine hK.out _ _ hcb6 (fun hHeld => ?_)
            clear hK K
            try simp only [Act.put]
            refine wpAnyH_done (by kernel_rfl) (NoPanic.normal ?_) _
            obtain ⟨FR, FK, FX⟩ := FIN.out _ w5 A5 c5 hb2 own5 k5 (hk5.imp id fun h => ⟨_, h, hb2.size⟩) hmj.out
            have HFR := hide FR
            have HFK := hide FK
            have HFX := hide FX
            clear FR FK FX hcb5 hcb6 hc5 hf5 hg5 k5 hk5 own5
            go_wp2_with fail
            go_roundg (n2 - (k + 1))
            case measure => omega
            case rel => exact ⟨k + 1, j + 1, (A5, m + j + 1, c5), by omega, rfl, by go_num, by go_num, by have := hkj.out; omega, by have := hmj.out; omega, HFR, HFK, HFX⟩
          exact AllReadyH.nil
    · obtain rfl : k = n2 := by omega
      go_wp2_with fail
      go_ret2
      have e : add = (b.drop s).take j := by
        rw [← HADD.out, List.take_of_length_le (by rw [List.length_drop, HBL.out]; have := HJ.out; omega), List.take_of_length_le (by rw [List.length_drop, HBL.out]; have := HJ.out; omega)]
      have hjl : ((b.drop s).take j).length = j := by rw [List.length_take, List.length_drop, HBL.out]; have := HJ.out; omega
      refine ⟨?_, (A3, m + j, c3), hs, by rw [e]; exact HR.out, HK.out, HXX.out⟩
      rw [← HN.out, ← HE.out, e, hjl, if_neg (by rw [HBL.out]; have := HS.out; have := HJ.out; omega)]
      rfl
end Go.Proofs.Ytbcgffgiifminaa
namespace Go.Proofs.Ytbcgffgiifminaa
open Go.RowKit
set_option maxRecDepth 10000
set_option linter.unusedVariables false
set_option maxHeartbeats 1000000 in
set_option maxRecDepth 10000 in
theorem ref_Front {B : Nat} {w : World} {g n c : Nat} {ss : List Sl} {ls : List (List UInt8)} (h : RL B w g n c ss ls) (hn : 0 < n) (hn8 : n ≤ 1000) {f : Int} (hf : f = (front ls : Int)) :
    Calls Try.prog 85 #[.slice (some ⟨g, 0, none⟩) n c] w fun e w' => e = .returned (.int .i64 f) ∧ w = w' := by
  obtain ⟨hs0, hc0, -, hl0⟩ := h.cell 0 hn
  have H := hide h
  have HF := hide hf
  have HN := hide h.len
  obtain ⟨⟨A0, m0, k0⟩, hx0⟩ : ∃ x, x = ss[0] := ⟨_, rfl⟩
  rw [← hx0] at hc0 hl0
  simp only at hc0 hl0
  have H1 : Hid (frontK ls 1 = m0) := by
    show _ = _
    rw [frontK_succ _ _ (by rw [h.len]; omega), hl0]
    show min (ls.getD 0 []).length m0 = m0
    rw [hl0]; omega
  clear h hf hx0 hl0
  go_enter Try.func85, Try.ntmps85
  go_wp2
  go_loop [3, 4] (fun s i => ∃ (k m : Nat), 1 ≤ k ∧ k ≤ n ∧ i = .int .i64 k ∧ s = .int .i64 m ∧ Hid (m = frontK ls k)) (fun _ i => n - (intOf i).toNat)
  case atStart => exact ⟨1, m0, by omega, by omega, rfl, rfl, H1.out.symm⟩
  case round =>
    obtain ⟨k, m, hk1, hk, rfl, rfl, hm⟩ := hrel
    by_cases hlt : k < n
    · obtain ⟨hs, hc, -, hl⟩ := H.out.cell k hlt
      obtain ⟨⟨A1, m1, c1⟩, hx1⟩ : ∃ x, x = ss[k] := ⟨_, rfl⟩
      rw [← hx1] at hc hl
      simp only at hc hl
      have HM : Hid (frontK ls (k + 1) = min m m1) := by show _ = _; rw [frontK_succ _ _ (by rw [HN.out]; omega), hl, hm.out]
      clear hx1 hl hm hc0
      go_wp2
      go_round
      case rel => exact ⟨k + 1, min m m1, by omega, by omega, by go_num, by first | rfl | go_num | (congr 1; omega), HM.out.symm⟩
      case measure => simp [intOf]; omega
    · obtain rfl : k = n := by omega
      clear hc0
      go_wp2
      go_ret
      exact ⟨by rw [HF.out, front, HN.out, ← hm.out]; rfl, rfl⟩
theorem OwnV.slice_nil {e : TypeId} {w : World} {base c : Nat} {A : Option Addr} {l : List Value} (h : OwnV e w base A 0 c l) : l = [] := List.eq_nil_of_length_eq_zero h.len
end Go.Proofs.Ytbcgffgiifminaa

namespace Go.Proofs.Ytbcgffgiifminaa
open Go.RowKit
set_option maxRecDepth 10000
set_option linter.unusedVariables false
/-- A mail: from, to, and where its bytes lie. -/
theorem info_mail : (Try.prog.info? 47).map (·.size) = some 3 := by kernel_rfl
def mailRow (f t : Int) (b : Value) : List Value := [.int .i64 f, .int .i64 t, b]
theorem results_Mail {fn : Func} {p : Tmp} (h : fn.results = #[.cell p 47]) (tmps : Array Value) (w : World) (g : Nat) (hp : tmps.getD p undef = .pointer (some ⟨g, 0, none⟩)) (f t : Int) (b : Value) (hg : Arr 47 w g (mailRow f t b)) :
    (results fn tmps).run Try.prog w = .ok (.agg #[.int .i64 f, .int .i64 t, b]) w :=
  results_cell_row h tmps w g 47 (mailRow f t b).toArray (0, 0) _ hp hg Try.underlying47 rfl info_mail
/-- A variable that holds a row is written whole, inside a region that draws. -/
theorem step_putA {ops : Array Oper} {o : Oper} {a : Act} {w : World} {K : Act → World → Prop} {Q : Exit → Act → World → Prop} {E : Prop} (hgd : o.guard = none) (ty : TypeId) (x y : Operand) (ho : o.op = .store ty x y)
    (g : Nat) (l : List Value) (hx : a.eval x = .pointer (some ⟨g, 0, none⟩)) (hy : a.eval y = .agg l.toArray) (T : TypeId) {R : List Value} (hg : Arr T w g R) (n : Nat) (hi : (Try.prog.info? ty).map (·.size) = some n) (hR : R.length = n) (hl : l.length = n) (h1 : ∀ u ∈ l, u.oneCell' = true)
    (h : ∀ w', Arr T w' g l → Keeps (fun k => k = g) w w' → w'.heap.size = w.heap.size → K (a.put o.dst undef) w') :
    if Region.wanted o (yielded ops a.tmps) = true then Oper.wp Try.prog o a w K Q else E := by
  have hw : Region.wanted o (yielded ops a.tmps) = true := by simp [Region.wanted, hgd]
  rw [if_pos hw]
  exact wp_store_row ty x y ho g l.toArray hx hy T R.toArray hg (by rw [hi]; simp [hl]) (by simp [hR, hl]) (Array.all_eq_true_iff_forall_mem.2 fun v hv => h1 v (by simpa using hv))
    (h _ (setRow_heap w g _ _ T _ hg) ⟨rfl, rfl, rfl, by simp, fun k _ hk => setRow_other w g k _ hk⟩ (by simp))
/-- The packet as it is sent. -/
def Pkt.sent (p : Pkt) (me dt id : Int) : Pkt := { p with src := me, dst := dt, id := id }
set_option maxHeartbeats 4000000 in
theorem core_mail {B : Nat} {w : World} {x : Nat} {p : CP} {s : Co} (h : CAt B w x p s) (k : Pkt) {A : Option Addr} {n c B' : Nat} (hA : LiesB w B' A n k.press) (hB' : B' ≤ w.heap.size) (hn : n ≤ 10000) (hw : k.WF) (dt : Int) :
    Calls Try.prog 65 #[.pointer (some ⟨x, 0, none⟩), k.val (.slice A n c), .int .i64 dt] w fun r w' => ∃ A' n' c', r = .returned (.agg #[.int .i64 s.cfg.me, .int .i64 dt, .slice A' n' c']) ∧ OwnB w' w.heap.size A' n' c' (k.sent s.cfg.me dt s.cfg.id).enc ∧ Below w.heap.size w w' := by
  have H := hide h
  have HA := hide hA
  have HB' := hide hB'
  have HW := hide hw
  have HX := hide (h.head.lt)
  obtain ⟨q, hq⟩ : ∃ q, q = k.sent s.cfg.me dt s.cfg.id := ⟨_, rfl⟩
  have HQ := hide hq
  obtain ⟨me, hme⟩ : ∃ me, me = s.cfg.me := ⟨_, rfl⟩
  obtain ⟨id, hid⟩ : ∃ id, id = s.cfg.id := ⟨_, rfl⟩
  rw [← hq, ← hme]
  have HME := hide hme
  have HID := hide hid
  have c1 := h.cell (coRow_me s p)
  have c2 := h.cell (coRow_id s p)
  rw [← hme] at c1
  rw [← hid] at c2
  clear h hA hB' hw hq hme hid
  obtain ⟨kind, src, dst, kid, first, press, ack, frame, sum⟩ := k
  go_enter Try.func65, Try.ntmps65
  go_upto_region 1 with fail
  have HP : Hid (Arr 41 (w.alloc (.cells (Pkt.row ⟨kind, src, dst, kid, first, press, ack, frame, sum⟩ (.slice A n c)).toArray 41)) w.heap.size (Pkt.row ⟨kind, src, dst, kid, first, press, ack, frame, sum⟩ (.slice A n c))) := Arr.new 41 w _ _ rfl
  have HB : Hid (Below w.heap.size w (w.alloc (.cells (Pkt.row ⟨kind, src, dst, kid, first, press, ack, frame, sum⟩ (.slice A n c)).toArray 41))) := Below_new _ _
  have HZ : Hid ((w.alloc (.cells (Pkt.row ⟨kind, src, dst, kid, first, press, ack, frame, sum⟩ (.slice A n c)).toArray 41)).heap.size = w.heap.size + 1) := World.size_alloc _ _
  simp only [Pkt.row] at HP HB HZ
  generalize World.alloc w _ = w1 at HP HB HZ ⊢
  have HM : Hid (Arr 47 (w1.alloc (.cells (mailRow 0 0 (.slice none 0 0)).toArray 47)) (w.heap.size + 1) (mailRow 0 0 (.slice none 0 0))) := by show Arr _ _ _ _; rw [← HZ.out]; exact Arr.new 47 w1 _ _ rfl
  have HP2 := hide (HP.out.belowN (Below_new w1 (.cells (mailRow 0 0 (.slice none 0 0)).toArray 47)))
  have HB2 := hide (Below_step HB.out (Below_new w1 (.cells (mailRow 0 0 (.slice none 0 0)).toArray 47)))
  simp only [mailRow] at HM HP2 HB2
  generalize World.alloc w1 _ = w2 at HM HP2 HB2 ⊢
  obtain ⟨g, hg⟩ : ∃ g, g = w.heap.size := ⟨_, rfl⟩
  have HG := hide hg
  have hxg : x ≠ g := by have := HX.out; omega
  rw [← hg] at HP2 HM ⊢
  have c1 := below_cell HB2.out c1
  have c2 := below_cell HB2.out c2
  have p1 := HP2.out.cell (j := 1) (by simp)
  have p2 := HP2.out.cell (j := 2) (by simp)
  have p3 := HP2.out.cell (j := 3) (by simp)
  simp only [List.getElem_cons_zero, List.getElem_cons_succ] at p1 p2 p3
  have f1 := HP2.out.frozen 1
  have f2 := HP2.out.frozen 2
  have f3 := HP2.out.frozen 3
  clear HP HB HZ hg
  go_cut [12] (fun s12 wx => Arr 41 wx g (Pkt.row ⟨kind, me, dt, id, first, press, ack, frame, sum⟩ (.slice A n c)) ∧ Arr 47 wx (g + 1) (mailRow 0 0 (.slice none 0 0)) ∧ Below w.heap.size w2 wx)
  case first =>
    go_region
    go_wp2_with fail
    go_meet
    have HR : Hid (Arr 41 (((w2.setCell ⟨g, 1, none⟩ (.int .i64 me)).setCell ⟨g, 2, none⟩ (.int .i64 dt)).setCell ⟨g, 3, none⟩ (.int .i64 id)) g (Pkt.row ⟨kind, me, dt, id, first, press, ack, frame, sum⟩ (.slice A n c))) := ((HP2.out.set 1 _).set 2 _).set 3 _
    have K1 := (Keeps.setCell w2 ⟨g, 1, none⟩ (.int .i64 me)).trans (Keeps.setCell (w2.setCell ⟨g, 1, none⟩ (.int .i64 me)) ⟨g, 2, none⟩ (.int .i64 dt)) (fun k _ hk => hk)
    have K2 := K1.trans (Keeps.setCell ((w2.setCell ⟨g, 1, none⟩ (.int .i64 me)).setCell ⟨g, 2, none⟩ (.int .i64 dt)) ⟨g, 3, none⟩ (.int .i64 id)) (fun k _ hk => hk)
    refine ⟨HR.out.drew, (HM.out.keeps K2 (by show ¬ g + 1 = g; omega)).drew, (K2.below HB2.out.size (fun k hk => by have := HG.out; show ¬ k = g; omega)).drew⟩
  case rest =>
    obtain ⟨ha3, hm3, hb3⟩ := hcut
    obtain ⟨w3, hw3⟩ : ∃ w3, w3 = wc := ⟨_, rfl⟩
    subst hw3
    have HP3 := hide ha3
    have HM3 := hide hm3
    have HB3 := hide (HB2.out.trans hb3)
    have HQ2 : Hid (q = ⟨kind, me, dt, id, first, press, ack, frame, sum⟩) := by show _ = _; rw [HQ.out, HME.out, HID.out]; rfl
    have HA3 := hide (HA.out.below (HB3.out.mono HB'.out))
    have HB3' := hide (Nat.le_trans HB'.out HB3.out.size)
    have q1 := HP3.out.cell (j := 1) (by simp)
    have q2 := HP3.out.cell (j := 2) (by simp)
    simp only [List.getElem_cons_zero, List.getElem_cons_succ] at q1 q2
    have hgg : g + 1 < w3.heap.size := HM3.out.lt
    clear ha3 hm3 hb3 c1 c2 p1 p2 p3 f1 f2 f3 HP2 HM HB2
    go_upto_region 2 with fail
    refine wp_region_noPanic ?_
    refine wp_region_held_drew (S := (fun w' => WholeP g (Pkt.val ⟨kind, me, dt, id, first, press, ack, frame, sum⟩ (.slice A n c)) w' ∧ w'.cell? ⟨g, 1, none⟩ = some (.int .i64 me) ∧ w'.cell? ⟨g, 2, none⟩ = some (.int .i64 dt))) (by kernel_rfl) ⟨HP3.out.drew.wholeP, q1, q2⟩ (fun hHeld => ?_)
    refine wpAnyH_take (i := 0) (oi := ?_) (v := ?_) ?_ (by kernel_rfl) (by kernel_rfl) (by kernel_rfl) ?_ ?_ (by assumption) ?_
    rotate_left 2
    · (simp only [List.getElem?_toArray, List.getElem?_cons_zero]; rfl)
    · exact fun _ _ _ h => h
    · (refine Or.inl ⟨by rfl, ?_⟩; intro w hSw; (try dsimp only at hSw); go_simp <;> with_reducible rfl)
    try simp only [Act.put, List.setIfInBounds_toArray, List.set_cons_zero, List.set_cons_succ]
    refine wpAnyH_take (i := 1) (oi := ?_) (v := ?_) ?_ (by kernel_rfl) (by kernel_rfl) (by kernel_rfl) ?_ ?_ (by assumption) ?_
    rotate_left 2
    · (simp only [List.getElem?_toArray, List.getElem?_cons_succ, List.getElem?_cons_zero]; rfl)
    · exact fun _ _ _ h => h
    · (refine Or.inl ⟨by rfl, ?_⟩; intro w hSw; (try dsimp only at hSw); go_simp <;> with_reducible rfl)
    try simp only [Act.put, List.setIfInBounds_toArray, List.set_cons_zero, List.set_cons_succ]
    refine wpAnyH_take (i := 2) (oi := ?_) (v := ?_) ?_ (by kernel_rfl) (by kernel_rfl) (by kernel_rfl) ?_ ?_ (by assumption) ?_
    rotate_left 2
    · (simp only [List.getElem?_toArray, List.getElem?_cons_succ, List.getElem?_cons_zero]; rfl)
    · exact fun _ _ _ h => h
    · (refine Or.inl ⟨by rfl, ?_⟩; intro w hSw; (try dsimp only at hSw); go_simp <;> with_reducible rfl)
    try simp only [Act.put, List.setIfInBounds_toArray, List.set_cons_zero, List.set_cons_succ]
    refine wpAnyH_take (i := 3) (oi := ?_) (v := ?_) ?_ (by kernel_rfl) (by kernel_rfl) (by kernel_rfl) ?_ ?_ (by assumption) ?_
    rotate_left 2
    · (simp only [List.getElem?_toArray, List.getElem?_cons_succ, List.getElem?_cons_zero]; rfl)
    · exact fun _ _ _ h => h
    · (refine Or.inl ⟨by rfl, ?_⟩; intro w hSw; (try dsimp only at hSw); go_simp <;> with_reducible rfl)
    try simp only [Act.put, List.setIfInBounds_toArray, List.set_cons_zero, List.set_cons_succ]
    refine wpAnyH_take (i := 4) (oi := ?_) (v := Pkt.val ⟨kind, me, dt, id, first, press, ack, frame, sum⟩ (.slice A n c)) ?_ (by kernel_rfl) (by kernel_rfl) (by kernel_rfl) ?_ ?_ (by assumption) ?_
    rotate_left 1
    · (simp only [List.getElem?_toArray, List.getElem?_cons_succ, List.getElem?_cons_zero]; rfl)
    · exact fun _ _ _ h => h
    · (refine Or.inl ⟨by rfl, ?_⟩; intro w hSw; (try dsimp only at hSw); exact exec_wholeP (x := .tmp 4) hSw.1 rfl rfl)
    try simp only [Act.put, List.setIfInBounds_toArray, List.set_cons_zero, List.set_cons_succ]
    refine wpAnyH_ready (rs := [5]) (by kernel_rfl) (by simp) ?_
    refine AllReadyH.cons (o := ?_) ?_ (fun K hK => ?_) AllReadyH.nil
    rotate_left 1
    · (simp only [List.getElem?_toArray, List.getElem?_cons_succ, List.getElem?_cons_zero]; rfl)
    go_simp
    refine Calls.mono (packet_Encode ⟨kind, me, dt, id, first, press, ack, frame, sum⟩ (HA3.out.drew) HB3'.out hn HW.out) ?_
    rintro e w4 ⟨A4, n4, c4, rfl, ho4, hb4, -⟩
    have HP4 := hide (HP3.out.drew.belowN hb4)
    have HM4 := hide (HM3.out.drew.belowN hb4)
    have HB4 := hide (Below_step HB3.out.drew hb4)
    have HO4 := hide (OwnB.base_le ho4 HB3.out.size)
    refine hK.out _ _ ⟨HP4.out.wholeP, below_cell hb4 q1, below_cell hb4 q2⟩ (fun hHeld => ?_)
    clear hK K
    try simp only [Act.put, List.setIfInBounds_toArray, List.set_cons_zero, List.set_cons_succ]
    refine wpAnyH_take (i := 6) (oi := ?_) (v := .agg #[.int .i64 me, .int .i64 dt, .slice A4 n4 c4]) ?_ (by kernel_rfl) (by kernel_rfl) (by kernel_rfl) ?_ ?_ (by assumption) ?_
    rotate_left 1
    · (simp only [List.getElem?_toArray, List.getElem?_cons_succ, List.getElem?_cons_zero]; rfl)
    · exact fun _ _ _ h => h
    · (refine Or.inl ⟨by rfl, ?_⟩; intro w hSw; (try dsimp only at hSw); (go_simp <;> with_reducible rfl))
    try simp only [Act.put, List.setIfInBounds_toArray, List.set_cons_zero, List.set_cons_succ]
    refine wpAnyH_ready (rs := [7]) (by kernel_rfl) (by simp) ?_
    refine AllReadyH.cons (o := ?_) ?_ (fun K hK => ?_) AllReadyH.nil
    rotate_left 1
    · (simp only [List.getElem?_toArray, List.getElem?_cons_succ, List.getElem?_cons_zero]; rfl)
    (refine step_putA rfl 47 (.tmp 6) (.tmp 27) rfl (g + 1) (mailRow me dt (.slice A4 n4 c4)) rfl rfl 47 HM4.out 3 info_mail rfl rfl (by simp [mailRow, Value.oneCell']) ?_; intro w5 ha5 hk5 hs5)
    have HP5 := hide (HP4.out.keeps hk5 (by omega))
    have HO5 := hide (OwnB.base_le (OwnB.keeps ho4 hk5 (fun j hj hm => by have hl := ho4.blk j hj; have e : w3.drew.heap.size = w3.heap.size := rfl; omega)) HB3.out.size)
    have HB5 := hide (HB4.out.trans (hk5.below HB4.out.size (fun k hk => by have := HG.out; omega)))
    refine hK.out _ _ ⟨HP5.out.wholeP, HP5.out.cell (j := 1) (by simp), HP5.out.cell (j := 2) (by simp)⟩ (fun hHeld => ?_)
    clear hK K
    try simp only [Act.put]
    refine wpAnyH_done (by kernel_rfl) (NoPanic.normal ?_) _
    go_wp2_with fail
    refine bodyPost_ret (results_Mail (fn := Try.f65) rfl _ _ (g + 1) rfl me dt (.slice A4 n4 c4) ha5) rfl ⟨A4, n4, c4, rfl, ?_, HB5.out⟩
    rw [HQ2.out]
    exact HO5.out
end Go.Proofs.Ytbcgffgiifminaa
namespace Go.Proofs.Ytbcgffgiifminaa
open Go.RowKit
set_option maxRecDepth 10000
set_option linter.unusedVariables false
/-- What player i is told. -/
def Co.telling (s : Co) (i : Nat) : Pkt := ⟨1, s.cfg.me, i, s.cfg.id, (s.peers.getD i ⟨0, 0, 0, 0, false⟩).has, fromLine s.mine (s.peers.getD i ⟨0, 0, 0, 0, false⟩).has 32, ((s.ls.getD i []).length : Int), (s.marks.length : Int), if s.marks.length = 0 then 0 else s.marks.getD (s.marks.length - 1) 0⟩
set_option maxHeartbeats 8000000 in
theorem core_input {B : Nat} {w : World} {x : Nat} {p : CP} {s : Co} (h : CAt B w x p s) (hB : B ≤ w.heap.size) (i : Nat) (hi : i < s.peers.length) {ix : Int} (hix : ix = (i : Int)) :
    Calls Try.prog 61 #[.pointer (some ⟨x, 0, none⟩), .int .i64 ix] w fun r w' => ∃ A' n' c', r = .returned (.agg #[.int .i64 s.cfg.me, .int .i64 ix, .slice A' n' c']) ∧ OwnB w' w.heap.size A' n' c' (s.telling i).enc ∧ Below w.heap.size w w' := by
  subst hix
  have H := hide h
  have HB := hide hB
  have HI := hide hi
  have hn8 : s.peers.length ≤ 8 := by have := h.ok.np; have := h.ok.cfg.n; omega
  have HPI : Hid (i < p.xs.length) := by show _ < _; rw [h.nx]; exact hi
  obtain ⟨mi, hme, hmi, hmil, hll, h8⟩ := h.me
  have HME := hide hme
  have HMI := hide hmi
  have HMN := hide h.mn
  have c11 := h.cell (coRow_peers s p)
  have c10 := h.cell (coRow_q s p)
  have c12 := h.cell (coRow_marks s p)
  have c1 := h.cell (coRow_me s p)
  obtain ⟨pr, hpr⟩ : ∃ pr, pr = s.peers[i] := ⟨_, rfl⟩
  have HPR : Hid (s.peers.getD i ⟨0, 0, 0, 0, false⟩ = pr) := by show _ = _; rw [List.getD_eq_getElem?_getD, List.getElem?_eq_getElem hi, hpr]; rfl
  have ch : w.cell? ⟨p.g, i * 5, none⟩ = some (.int .i64 pr.has) := h.pcell (j := 0) (v := .int .i64 pr.has) hi (by omega) (by rw [hpr]; rfl)
  obtain ⟨n, hn⟩ : ∃ n, n = s.peers.length := ⟨_, rfl⟩
  have HN := hide hn
  rw [← hn] at c11
  have hin : (i : Int) < (n : Int) := by rw [hn]; omega
  obtain ⟨hs, hhs⟩ : ∃ hs, hs = pr.has := ⟨_, rfl⟩
  rw [← hhs] at ch
  have HHS := hide hhs
  obtain ⟨len, hlen⟩ : ∃ len, len = ((s.ls.getD i []).length : Int) := ⟨_, rfl⟩
  have HLEN := hide hlen
  have hhs2 : 0 ≤ hs ∧ hs ≤ 1000 := by have := h.ok.has pr (by rw [hpr]; exact List.getElem_mem hi); have := h.ok.short s.cfg.me.toNat; rw [hhs]; omega
  have HMINE : Hid (s.ls.getD mi [] = s.mine) := by show _ = _; rw [Co.mine, hme, Int.toNat_natCast]
  have hmn : p.mn ≤ 1000 := by have := h.ok.marks; rw [h.mn] at this; exact this
  clear h hB hn hpr hhs hlen hme hll hmil
  go_enter Try.func61, Try.ntmps61
  go_upto_region 1 with fail
  have HM : Hid (Arr 47 (w.alloc (.cells (mailRow 0 0 (.slice none 0 0)).toArray 47)) w.heap.size (mailRow 0 0 (.slice none 0 0))) := Arr.new 47 w _ _ rfl
  have HB1 : Hid (Below w.heap.size w (w.alloc (.cells (mailRow 0 0 (.slice none 0 0)).toArray 47))) := Below_new _ _
  simp only [mailRow] at HM HB1
  generalize World.alloc w _ = w1 at HM HB1 ⊢
  obtain ⟨g, hg⟩ : ∃ g, g = w.heap.size := ⟨_, rfl⟩
  have HG := hide hg
  rw [← hg] at HM ⊢
  have hgg : g < w1.heap.size := HM.out.lt
  have HC1 := hide (H.out.below HB1.out)
  have c11 := below_cell HB1.out c11
  have c10 := below_cell HB1.out c10
  have c12 := below_cell HB1.out c12
  have c1 := below_cell HB1.out c1
  have ch := below_cell HB1.out ch
  clear hg
  have HZ : Hid (Arr 41 (w1.drew.alloc (.cells (Pkt.zero.row (.slice none 0 0)).toArray 41)) w1.heap.size (Pkt.zero.row (.slice none 0 0))) := Arr.new 41 w1.drew _ _ rfl
  have bn := Below_new w1.drew (.cells (Pkt.zero.row (.slice none 0 0)).toArray 41)
  simp only [Pkt.row, Pkt.zero] at HZ bn
  have HC2 := hide (HC1.out.drew.below bn)
  have d11 := below_cell bn c11
  have d10 := below_cell bn c10
  have d12 := below_cell bn c12
  have dh := below_cell bn ch
  have HB2 : Hid (Below w1.heap.size w1 (w1.drew.alloc (.cells (Pkt.zero.row (.slice none 0 0)).toArray 41))) := Below_step ((Below.refl _ _).drew) bn
  clear bn
  go_cut [5] (fun s5 wx => s5 = .pointer (some ⟨w1.heap.size, 0, none⟩) ∧ Arr 41 wx w1.heap.size (Pkt.row ⟨1, 0, 0, 0, hs, [], len, p.mn, 0⟩ (.slice none 0 0)) ∧ Below w1.heap.size w1 wx)
  case first =>
    refine wp_region_noPanic ?_
    refine wp_region_held_drew (S := (fun w' => w'.cell? ⟨x, 11, none⟩ = some (.slice (some ⟨p.g, 0, none⟩) n p.pc) ∧ w'.cell? ⟨x, 10, none⟩ = some (.pointer (some ⟨p.q, 0, none⟩)) ∧ w'.cell? ⟨x, 12, none⟩ = some (.slice p.mA p.mn p.mc) ∧ w'.cell? ⟨p.g, i * 5, none⟩ = some (.int .i64 hs))) (by kernel_rfl) ⟨c11, c10, c12, ch⟩ (fun hHeld => ?_)
    refine wpAnyH_take (i := 0) (oi := ?_) (v := ?_) ?_ (by kernel_rfl) (by kernel_rfl) (by kernel_rfl) ?_ ?_ (by assumption) ?_
    rotate_left 2
    · (simp only [List.getElem?_toArray, List.getElem?_cons_zero]; rfl)
    · exact fun _ _ _ h => h
    · (refine Or.inl ⟨by rfl, ?_⟩; intro w hSw; (try dsimp only at hSw); go_simp <;> with_reducible rfl)
    try simp only [Act.put, List.setIfInBounds_toArray, List.set_cons_zero, List.set_cons_succ]
    refine wpAnyH_take (i := 1) (oi := ?_) (v := ?_) ?_ (by kernel_rfl) (by kernel_rfl) (by kernel_rfl) ?_ ?_ (by assumption) ?_
    rotate_left 2
    · (simp only [List.getElem?_toArray, List.getElem?_cons_succ, List.getElem?_cons_zero]; rfl)
    · exact fun _ _ _ h => h
    · (refine Or.inl ⟨by rfl, ?_⟩; intro w hSw; (try dsimp only at hSw); go_simp <;> with_reducible rfl)
    try simp only [Act.put, List.setIfInBounds_toArray, List.set_cons_zero, List.set_cons_succ]
    refine wpAnyH_take (i := 2) (oi := ?_) (v := ?_) ?_ (by kernel_rfl) (by kernel_rfl) (by kernel_rfl) ?_ ?_ (by assumption) ?_
    rotate_left 2
    · (simp only [List.getElem?_toArray, List.getElem?_cons_succ, List.getElem?_cons_zero]; rfl)
    · exact fun _ _ _ h => h
    · (refine Or.inl ⟨by rfl, ?_⟩; intro w hSw; (try dsimp only at hSw); go_simp <;> with_reducible rfl)
    try simp only [Act.put, List.setIfInBounds_toArray, List.set_cons_zero, List.set_cons_succ]
    refine wpAnyH_take (i := 3) (oi := ?_) (v := ?_) ?_ (by kernel_rfl) (by kernel_rfl) (by kernel_rfl) ?_ ?_ (by assumption) ?_
    rotate_left 2
    · (simp only [List.getElem?_toArray, List.getElem?_cons_succ, List.getElem?_cons_zero]; rfl)
    · exact fun _ _ _ h => h
    · (refine Or.inl ⟨by rfl, ?_⟩; intro w hSw; (try dsimp only at hSw); go_simp <;> with_reducible rfl)
    try simp only [Act.put, List.setIfInBounds_toArray, List.set_cons_zero, List.set_cons_succ]
    refine wpAnyH_take (i := 4) (oi := ?_) (v := ?_) ?_ (by kernel_rfl) (by kernel_rfl) (by kernel_rfl) ?_ ?_ (by assumption) ?_
    rotate_left 2
    · (simp only [List.getElem?_toArray, List.getElem?_cons_succ, List.getElem?_cons_zero]; rfl)
    · exact fun _ _ _ h => h
    · (refine Or.inl ⟨by rfl, ?_⟩; intro w hSw; (try dsimp only at hSw); go_simp <;> with_reducible rfl)
    try simp only [Act.put, List.setIfInBounds_toArray, List.set_cons_zero, List.set_cons_succ]
    refine wpAnyH_take (i := 5) (oi := ?_) (v := ?_) ?_ (by kernel_rfl) (by kernel_rfl) (by kernel_rfl) ?_ ?_ (by assumption) ?_
    rotate_left 2
    · (simp only [List.getElem?_toArray, List.getElem?_cons_succ, List.getElem?_cons_zero]; rfl)
    · exact fun _ _ _ h => h
    · (refine Or.inl ⟨by rfl, ?_⟩; intro w hSw; (try dsimp only at hSw); go_simp <;> with_reducible rfl)
    try simp only [Act.put, List.setIfInBounds_toArray, List.set_cons_zero, List.set_cons_succ]
    refine wpAnyH_take (i := 6) (oi := ?_) (v := ?_) ?_ (by kernel_rfl) (by kernel_rfl) (by kernel_rfl) ?_ ?_ (by assumption) ?_
    rotate_left 2
    · (simp only [List.getElem?_toArray, List.getElem?_cons_succ, List.getElem?_cons_zero]; rfl)
    · exact fun _ _ _ h => h
    · (refine Or.inl ⟨by rfl, ?_⟩; intro w hSw; (try dsimp only at hSw); go_simp <;> with_reducible rfl)
    try simp only [Act.put, List.setIfInBounds_toArray, List.set_cons_zero, List.set_cons_succ]
    refine wpAnyH_take (i := 7) (oi := ?_) (v := ?_) ?_ (by kernel_rfl) (by kernel_rfl) (by kernel_rfl) ?_ ?_ (by assumption) ?_
    rotate_left 2
    · (simp only [List.getElem?_toArray, List.getElem?_cons_succ, List.getElem?_cons_zero]; rfl)
    · exact fun _ _ _ h => h
    · (refine Or.inl ⟨by rfl, ?_⟩; intro w hSw; (try dsimp only at hSw); go_simp <;> with_reducible rfl)
    try simp only [Act.put, List.setIfInBounds_toArray, List.set_cons_zero, List.set_cons_succ]
    refine wpAnyH_take (i := 8) (oi := ?_) (v := ?_) ?_ (by kernel_rfl) (by kernel_rfl) (by kernel_rfl) ?_ ?_ (by assumption) ?_
    rotate_left 2
    · (simp only [List.getElem?_toArray, List.getElem?_cons_succ, List.getElem?_cons_zero]; rfl)
    · exact fun _ _ _ h => h
    · (refine Or.inl ⟨by rfl, ?_⟩; intro w hSw; (try dsimp only at hSw); go_simp <;> with_reducible rfl)
    try simp only [Act.put, List.setIfInBounds_toArray, List.set_cons_zero, List.set_cons_succ]
    refine wpAnyH_take (i := 9) (oi := ?_) (v := ?_) ?_ (by kernel_rfl) (by kernel_rfl) (by kernel_rfl) ?_ ?_ (by assumption) ?_
    rotate_left 2
    · (simp only [List.getElem?_toArray, List.getElem?_cons_succ, List.getElem?_cons_zero]; rfl)
    · exact fun _ _ _ h => h
    · (refine Or.inl ⟨by rfl, ?_⟩; intro w hSw; (try dsimp only at hSw); go_simp <;> with_reducible rfl)
    try simp only [Act.put, List.setIfInBounds_toArray, List.set_cons_zero, List.set_cons_succ]
    refine wpAnyH_take (i := 10) (oi := ?_) (v := ?_) ?_ (by kernel_rfl) (by kernel_rfl) (by kernel_rfl) ?_ ?_ (by assumption) ?_
    rotate_left 2
    · (simp only [List.getElem?_toArray, List.getElem?_cons_succ, List.getElem?_cons_zero]; rfl)
    · exact fun _ _ _ h => h
    · (refine Or.inl ⟨by rfl, ?_⟩; intro w hSw; (try dsimp only at hSw); go_simp <;> with_reducible rfl)
    try simp only [Act.put, List.setIfInBounds_toArray, List.set_cons_zero, List.set_cons_succ]
    refine wpAnyH_take (i := 11) (oi := ?_) (v := ?_) ?_ (by kernel_rfl) (by kernel_rfl) (by kernel_rfl) ?_ ?_ (by assumption) ?_
    rotate_left 2
    · (simp only [List.getElem?_toArray, List.getElem?_cons_succ, List.getElem?_cons_zero]; rfl)
    · exact fun _ _ _ h => h
    · (refine Or.inl ⟨by rfl, ?_⟩; intro w hSw; (try dsimp only at hSw); go_simp <;> with_reducible rfl)
    try simp only [Act.put, List.setIfInBounds_toArray, List.set_cons_zero, List.set_cons_succ]
    refine wpAnyH_take (i := 12) (oi := ?_) (v := ?_) ?_ (by kernel_rfl) (by kernel_rfl) (by kernel_rfl) ?_ ?_ (by assumption) ?_
    rotate_left 2
    · (simp only [List.getElem?_toArray, List.getElem?_cons_succ, List.getElem?_cons_zero]; rfl)
    · exact fun _ _ _ h => h
    · (refine Or.inl ⟨by rfl, ?_⟩; intro w hSw; (try dsimp only at hSw); go_simp <;> with_reducible rfl)
    try simp only [Act.put, List.setIfInBounds_toArray, List.set_cons_zero, List.set_cons_succ]
    refine wpAnyH_take (i := 15) (oi := ?_) (v := ?_) ?_ (by kernel_rfl) (by kernel_rfl) (by kernel_rfl) ?_ ?_ (by assumption) ?_
    rotate_left 2
    · (simp only [List.getElem?_toArray, List.getElem?_cons_succ, List.getElem?_cons_zero]; rfl)
    · exact fun _ _ _ h => h
    · (refine Or.inl ⟨by rfl, ?_⟩; intro w hSw; (try dsimp only at hSw); go_simp <;> with_reducible rfl)
    try simp only [Act.put, List.setIfInBounds_toArray, List.set_cons_zero, List.set_cons_succ]
    refine wpAnyH_take (i := 16) (oi := ?_) (v := ?_) ?_ (by kernel_rfl) (by kernel_rfl) (by kernel_rfl) ?_ ?_ (by assumption) ?_
    rotate_left 2
    · (simp only [List.getElem?_toArray, List.getElem?_cons_succ, List.getElem?_cons_zero]; rfl)
    · exact fun _ _ _ h => h
    · (refine Or.inl ⟨by rfl, ?_⟩; intro w hSw; (try dsimp only at hSw); go_simp <;> with_reducible rfl)
    try simp only [Act.put, List.setIfInBounds_toArray, List.set_cons_zero, List.set_cons_succ]
    refine wpAnyH_take (i := 17) (oi := ?_) (v := ?_) ?_ (by kernel_rfl) (by kernel_rfl) (by kernel_rfl) ?_ ?_ (by assumption) ?_
    rotate_left 2
    · (simp only [List.getElem?_toArray, List.getElem?_cons_succ, List.getElem?_cons_zero]; rfl)
    · exact fun _ _ _ h => h
    · (refine Or.inl ⟨by rfl, ?_⟩; intro w hSw; (try dsimp only at hSw); go_simp <;> with_reducible rfl)
    try simp only [Act.put, List.setIfInBounds_toArray, List.set_cons_zero, List.set_cons_succ]
    refine wpAnyH_take (i := 18) (oi := ?_) (v := ?_) ?_ (by kernel_rfl) (by kernel_rfl) (by kernel_rfl) ?_ ?_ (by assumption) ?_
    rotate_left 2
    · (simp only [List.getElem?_toArray, List.getElem?_cons_succ, List.getElem?_cons_zero]; rfl)
    · exact fun _ _ _ h => h
    · (refine Or.inl ⟨by rfl, ?_⟩; intro w hSw; (try dsimp only at hSw); go_simp <;> with_reducible rfl)
    try simp only [Act.put, List.setIfInBounds_toArray, List.set_cons_zero, List.set_cons_succ]
    refine wpAnyH_take (i := 19) (oi := ?_) (v := ?_) ?_ (by kernel_rfl) (by kernel_rfl) (by kernel_rfl) ?_ ?_ (by assumption) ?_
    rotate_left 2
    · (simp only [List.getElem?_toArray, List.getElem?_cons_succ, List.getElem?_cons_zero]; rfl)
    · exact fun _ _ _ h => h
    · (refine Or.inl ⟨by rfl, ?_⟩; intro w hSw; (try dsimp only at hSw); go_simp <;> with_reducible rfl)
    try simp only [Act.put, List.setIfInBounds_toArray, List.set_cons_zero, List.set_cons_succ]
    refine wpAnyH_ready (rs := [13, 21]) (by kernel_rfl) (by simp) ?_
    refine AllReadyH.cons (o := ?_) ?_ (fun K hK => ?_) ?_
    rotate_left 1
    · (simp only [List.getElem?_toArray, List.getElem?_cons_succ, List.getElem?_cons_zero]; rfl)
    · go_simp
      refine Calls.mono (queue_Line HC1.out.drew.q i HPI.out (by omega) rfl rfl) ?_
      rintro r w3 ⟨rfl, rfl⟩
      refine hK.out _ _ ⟨c11, c10, c12, ch⟩ (fun hHeld => ?_)
      clear hK K
      try simp only [Act.put, List.setIfInBounds_toArray, List.set_cons_zero, List.set_cons_succ]
      refine wpAnyH_ready (rs := [14, 21]) (by kernel_rfl) (by simp) ?_
      refine AllReadyH.cons (o := ?_) ?_ (fun K hK => ?_) ?_
      rotate_left 1
      · (simp only [List.getElem?_toArray, List.getElem?_cons_succ, List.getElem?_cons_zero]; rfl)
      · go_simp
        refine Calls.mono (line_Len_v _ _ (s.ls.getD i []) len _ (HC1.out.drew.line i HPI.out) HLEN.out.symm) ?_
        rintro r w3 ⟨rfl, rfl⟩
        refine hK.out _ _ ⟨c11, c10, c12, ch⟩ (fun hHeld => ?_)
        clear hK K
        try simp only [Act.put, List.setIfInBounds_toArray, List.set_cons_zero, List.set_cons_succ]
        refine wpAnyH_take (i := 20) (oi := ?_) (v := .agg #[.int .i64 1, .int .i64 0, .int .i64 0, .int .i64 0, .int .i64 hs, .slice none 0 0, .int .i64 len, .int .i64 (p.mn : Int), .int .u32 0]) ?_ (by kernel_rfl) (by kernel_rfl) (by kernel_rfl) ?_ ?_ (by assumption) ?_
        rotate_left 1
        · (simp only [List.getElem?_toArray, List.getElem?_cons_succ, List.getElem?_cons_zero]; rfl)
        · exact fun _ _ _ h => h
        · (refine Or.inl ⟨by rfl, ?_⟩; intro w hSw; (try dsimp only at hSw); (go_simp <;> with_reducible rfl))
        try simp only [Act.put, List.setIfInBounds_toArray, List.set_cons_zero, List.set_cons_succ]
        refine wpAnyH_ready (rs := [21]) (by kernel_rfl) (by simp) ?_
        refine AllReadyH.cons (o := ?_) ?_ (fun K hK => ?_) AllReadyH.nil
        rotate_left 1
        · (simp only [List.getElem?_toArray, List.getElem?_cons_succ, List.getElem?_cons_zero]; rfl)
        go_simp
        refine hK.out _ _ ⟨d11, d10, d12, dh⟩ (fun hHeld => ?_)
        clear hK K
        try simp only [Act.put, List.setIfInBounds_toArray, List.set_cons_zero, List.set_cons_succ]
        refine wpAnyH_ready (rs := [22]) (by kernel_rfl) (by simp) ?_
        refine AllReadyH.cons (o := ?_) ?_ (fun K hK => ?_) AllReadyH.nil
        rotate_left 1
        · (simp only [List.getElem?_toArray, List.getElem?_cons_succ, List.getElem?_cons_zero]; rfl)
        (refine step_putA rfl 41 (.tmp 5) (.tmp 27) rfl w1.heap.size (Pkt.row ⟨1, 0, 0, 0, hs, [], len, p.mn, 0⟩ (.slice none 0 0)) rfl rfl 41 HZ.out 9 info_packet rfl rfl (Pkt.row_oneV _ _ _ _) ?_; intro w5 ha5 hk5 hs5)
        have HB5 := hide (HB2.out.trans (hk5.below HB2.out.size (fun k hk => by omega)))
        have HC5 := hide (HC1.out.below HB5.out)
        refine hK.out _ _ ⟨by have := HC5.out.cell (coRow_peers s p); rw [← HN.out] at this; exact this, HC5.out.cell (coRow_q s p), HC5.out.cell (coRow_marks s p), below_cell HB5.out ch⟩ (fun hHeld => ?_)
        clear hK K
        try simp only [Act.put]
        refine wpAnyH_done (by kernel_rfl) (NoPanic.normal ?_) _
        go_wp2_with fail
        go_meet
        exact ⟨rfl, ha5, HB5.out⟩
      refine AllReadyH.cons (o := ?_) ?_ (fun K hK => ?_) ?_
      rotate_left 1
      · (simp only [List.getElem?_toArray, List.getElem?_cons_succ, List.getElem?_cons_zero]; rfl)
      · go_simp
        skip
        refine hK.out _ _ ⟨d11, d10, d12, dh⟩ (fun hHeld => ?_)
        clear hK K
        try simp only [Act.put, List.setIfInBounds_toArray, List.set_cons_zero, List.set_cons_succ]
        refine wpAnyH_ready (rs := [14]) (by kernel_rfl) (by simp) ?_
        refine AllReadyH.cons (o := ?_) ?_ (fun K hK => ?_) AllReadyH.nil
        rotate_left 1
        · (simp only [List.getElem?_toArray, List.getElem?_cons_succ, List.getElem?_cons_zero]; rfl)
        go_simp
        refine Calls.mono (line_Len_v _ _ (s.ls.getD i []) len _ (HC2.out.line i HPI.out) HLEN.out.symm) ?_
        rintro r w3 ⟨rfl, rfl⟩
        refine hK.out _ _ ⟨d11, d10, d12, dh⟩ (fun hHeld => ?_)
        clear hK K
        try simp only [Act.put, List.setIfInBounds_toArray, List.set_cons_zero, List.set_cons_succ]
        refine wpAnyH_take (i := 20) (oi := ?_) (v := .agg #[.int .i64 1, .int .i64 0, .int .i64 0, .int .i64 0, .int .i64 hs, .slice none 0 0, .int .i64 len, .int .i64 (p.mn : Int), .int .u32 0]) ?_ (by kernel_rfl) (by kernel_rfl) (by kernel_rfl) ?_ ?_ (by assumption) ?_
        rotate_left 1
        · (simp only [List.getElem?_toArray, List.getElem?_cons_succ, List.getElem?_cons_zero]; rfl)
        · exact fun _ _ _ h => h
        · (refine Or.inl ⟨by rfl, ?_⟩; intro w hSw; (try dsimp only at hSw); (go_simp <;> with_reducible rfl))
        try simp only [Act.put, List.setIfInBounds_toArray, List.set_cons_zero, List.set_cons_succ]
        refine wpAnyH_ready (rs := [22]) (by kernel_rfl) (by simp) ?_
        refine AllReadyH.cons (o := ?_) ?_ (fun K hK => ?_) AllReadyH.nil
        rotate_left 1
        · (simp only [List.getElem?_toArray, List.getElem?_cons_succ, List.getElem?_cons_zero]; rfl)
        (refine step_putA rfl 41 (.tmp 5) (.tmp 27) rfl w1.heap.size (Pkt.row ⟨1, 0, 0, 0, hs, [], len, p.mn, 0⟩ (.slice none 0 0)) rfl rfl 41 HZ.out 9 info_packet rfl rfl (Pkt.row_oneV _ _ _ _) ?_; intro w5 ha5 hk5 hs5)
        have HB5 := hide (HB2.out.trans (hk5.below HB2.out.size (fun k hk => by omega)))
        have HC5 := hide (HC1.out.below HB5.out)
        refine hK.out _ _ ⟨by have := HC5.out.cell (coRow_peers s p); rw [← HN.out] at this; exact this, HC5.out.cell (coRow_q s p), HC5.out.cell (coRow_marks s p), below_cell HB5.out ch⟩ (fun hHeld => ?_)
        clear hK K
        try simp only [Act.put]
        refine wpAnyH_done (by kernel_rfl) (NoPanic.normal ?_) _
        go_wp2_with fail
        go_meet
        exact ⟨rfl, ha5, HB5.out⟩
      exact AllReadyH.nil
    refine AllReadyH.cons (o := ?_) ?_ (fun K hK => ?_) ?_
    rotate_left 1
    · (simp only [List.getElem?_toArray, List.getElem?_cons_succ, List.getElem?_cons_zero]; rfl)
    · go_simp
      skip
      refine hK.out _ _ ⟨d11, d10, d12, dh⟩ (fun hHeld => ?_)
      clear hK K
      try simp only [Act.put, List.setIfInBounds_toArray, List.set_cons_zero, List.set_cons_succ]
      refine wpAnyH_ready (rs := [13]) (by kernel_rfl) (by simp) ?_
      refine AllReadyH.cons (o := ?_) ?_ (fun K hK => ?_) AllReadyH.nil
      rotate_left 1
      · (simp only [List.getElem?_toArray, List.getElem?_cons_succ, List.getElem?_cons_zero]; rfl)
      go_simp
      refine Calls.mono (queue_Line HC2.out.q i HPI.out (by omega) rfl rfl) ?_
      rintro r w3 ⟨rfl, rfl⟩
      refine hK.out _ _ ⟨d11, d10, d12, dh⟩ (fun hHeld => ?_)
      clear hK K
      try simp only [Act.put, List.setIfInBounds_toArray, List.set_cons_zero, List.set_cons_succ]
      refine wpAnyH_ready (rs := [14]) (by kernel_rfl) (by simp) ?_
      refine AllReadyH.cons (o := ?_) ?_ (fun K hK => ?_) AllReadyH.nil
      rotate_left 1
      · (simp only [List.getElem?_toArray, List.getElem?_cons_succ, List.getElem?_cons_zero]; rfl)
      go_simp
      refine Calls.mono (line_Len_v _ _ (s.ls.getD i []) len _ (HC2.out.line i HPI.out) HLEN.out.symm) ?_
      rintro r w3 ⟨rfl, rfl⟩
      refine hK.out _ _ ⟨d11, d10, d12, dh⟩ (fun hHeld => ?_)
      clear hK K
      try simp only [Act.put, List.setIfInBounds_toArray, List.set_cons_zero, List.set_cons_succ]
      refine wpAnyH_take (i := 20) (oi := ?_) (v := .agg #[.int .i64 1, .int .i64 0, .int .i64 0, .int .i64 0, .int .i64 hs, .slice none 0 0, .int .i64 len, .int .i64 (p.mn : Int), .int .u32 0]) ?_ (by kernel_rfl) (by kernel_rfl) (by kernel_rfl) ?_ ?_ (by assumption) ?_
      rotate_left 1
      · (simp only [List.getElem?_toArray, List.getElem?_cons_succ, List.getElem?_cons_zero]; rfl)
      · exact fun _ _ _ h => h
      · (refine Or.inl ⟨by rfl, ?_⟩; intro w hSw; (try dsimp only at hSw); (go_simp <;> with_reducible rfl))
      try simp only [Act.put, List.setIfInBounds_toArray, List.set_cons_zero, List.set_cons_succ]
      refine wpAnyH_ready (rs := [22]) (by kernel_rfl) (by simp) ?_
      refine AllReadyH.cons (o := ?_) ?_ (fun K hK => ?_) AllReadyH.nil
      rotate_left 1
      · (simp only [List.getElem?_toArray, List.getElem?_cons_succ, List.getElem?_cons_zero]; rfl)
      (refine step_putA rfl 41 (.tmp 5) (.tmp 27) rfl w1.heap.size (Pkt.row ⟨1, 0, 0, 0, hs, [], len, p.mn, 0⟩ (.slice none 0 0)) rfl rfl 41 HZ.out 9 info_packet rfl rfl (Pkt.row_oneV _ _ _ _) ?_; intro w5 ha5 hk5 hs5)
      have HB5 := hide (HB2.out.trans (hk5.below HB2.out.size (fun k hk => by omega)))
      have HC5 := hide (HC1.out.below HB5.out)
      refine hK.out _ _ ⟨by have := HC5.out.cell (coRow_peers s p); rw [← HN.out] at this; exact this, HC5.out.cell (coRow_q s p), HC5.out.cell (coRow_marks s p), below_cell HB5.out ch⟩ (fun hHeld => ?_)
      clear hK K
      try simp only [Act.put]
      refine wpAnyH_done (by kernel_rfl) (NoPanic.normal ?_) _
      go_wp2_with fail
      go_meet
      exact ⟨rfl, ha5, HB5.out⟩
    exact AllReadyH.nil
  case rest =>
  obtain ⟨rfl, ha2, hb2⟩ := hcut
  obtain ⟨w2, hw2⟩ : ∃ w2, w2 = wc := ⟨_, rfl⟩
  subst hw2
  have HP2 := hide ha2
  have HBX := hide hb2
  have HC3 := hide (HC1.out.below hb2)
  have c10 := below_cell hb2 c10
  have c1 := below_cell hb2 c1
  have c4 := HP2.out.cell (j := 4) (by simp)
  have c5 := HP2.out.cell (j := 5) (by simp)
  have f5 := HP2.out.frozen 5
  simp only [List.getElem_cons_zero, List.getElem_cons_succ] at c4 c5
  have hlt2 : w1.heap.size < w2.heap.size := HP2.out.lt
  obtain ⟨F, hF⟩ : ∃ F, fromLine s.mine hs 32 = F := ⟨_, rfl⟩
  have HF := hide hF
  obtain ⟨m, hm⟩ : ∃ m, F.length = m := ⟨_, rfl⟩
  have HFM := hide hm
  have hm32 : m ≤ 1000 := by rw [← hm, ← hF]; unfold fromLine; split; exact Nat.zero_le _; rw [List.length_take]; omega
  clear hm ha2 hb2 HC2 HZ HB2 hF d11 d10 d12 dh c11 c12 ch
  go_upto_region 2 with fail
  refine wp_region_noPanic ?_
  refine wp_region_held_drew (S := (fun w' => w'.cell? ⟨x, 10, none⟩ = some (.pointer (some ⟨p.q, 0, none⟩)) ∧ w'.cell? ⟨x, 1, none⟩ = some (.int .i64 s.cfg.me) ∧ w'.cell? ⟨w1.heap.size, 4, none⟩ = some (.int .i64 hs))) (by kernel_rfl) ⟨c10, c1, c4⟩ (fun hHeld => ?_)
  refine wpAnyH_take (i := 0) (oi := ?_) (v := ?_) ?_ (by kernel_rfl) (by kernel_rfl) (by kernel_rfl) ?_ ?_ (by assumption) ?_
  rotate_left 2
  · (simp only [List.getElem?_toArray, List.getElem?_cons_zero]; rfl)
  · exact fun _ _ _ h => h
  · (refine Or.inl ⟨by rfl, ?_⟩; intro w hSw; (try dsimp only at hSw); go_simp <;> with_reducible rfl)
  try simp only [Act.put, List.setIfInBounds_toArray, List.set_cons_zero, List.set_cons_succ]
  refine wpAnyH_take (i := 1) (oi := ?_) (v := ?_) ?_ (by kernel_rfl) (by kernel_rfl) (by kernel_rfl) ?_ ?_ (by assumption) ?_
  rotate_left 2
  · (simp only [List.getElem?_toArray, List.getElem?_cons_succ, List.getElem?_cons_zero]; rfl)
  · exact fun _ _ _ h => h
  · (refine Or.inl ⟨by rfl, ?_⟩; intro w hSw; (try dsimp only at hSw); go_simp <;> with_reducible rfl)
  try simp only [Act.put, List.setIfInBounds_toArray, List.set_cons_zero, List.set_cons_succ]
  refine wpAnyH_take (i := 2) (oi := ?_) (v := ?_) ?_ (by kernel_rfl) (by kernel_rfl) (by kernel_rfl) ?_ ?_ (by assumption) ?_
  rotate_left 2
  · (simp only [List.getElem?_toArray, List.getElem?_cons_succ, List.getElem?_cons_zero]; rfl)
  · exact fun _ _ _ h => h
  · (refine Or.inl ⟨by rfl, ?_⟩; intro w hSw; (try dsimp only at hSw); go_simp <;> with_reducible rfl)
  try simp only [Act.put, List.setIfInBounds_toArray, List.set_cons_zero, List.set_cons_succ]
  refine wpAnyH_take (i := 3) (oi := ?_) (v := ?_) ?_ (by kernel_rfl) (by kernel_rfl) (by kernel_rfl) ?_ ?_ (by assumption) ?_
  rotate_left 2
  · (simp only [List.getElem?_toArray, List.getElem?_cons_succ, List.getElem?_cons_zero]; rfl)
  · exact fun _ _ _ h => h
  · (refine Or.inl ⟨by rfl, ?_⟩; intro w hSw; (try dsimp only at hSw); go_simp <;> with_reducible rfl)
  try simp only [Act.put, List.setIfInBounds_toArray, List.set_cons_zero, List.set_cons_succ]
  refine wpAnyH_take (i := 4) (oi := ?_) (v := ?_) ?_ (by kernel_rfl) (by kernel_rfl) (by kernel_rfl) ?_ ?_ (by assumption) ?_
  rotate_left 2
  · (simp only [List.getElem?_toArray, List.getElem?_cons_succ, List.getElem?_cons_zero]; rfl)
  · exact fun _ _ _ h => h
  · (refine Or.inl ⟨by rfl, ?_⟩; intro w hSw; (try dsimp only at hSw); go_simp <;> with_reducible rfl)
  try simp only [Act.put, List.setIfInBounds_toArray, List.set_cons_zero, List.set_cons_succ]
  refine wpAnyH_take (i := 5) (oi := ?_) (v := ?_) ?_ (by kernel_rfl) (by kernel_rfl) (by kernel_rfl) ?_ ?_ (by assumption) ?_
  rotate_left 2
  · (simp only [List.getElem?_toArray, List.getElem?_cons_succ, List.getElem?_cons_zero]; rfl)
  · exact fun _ _ _ h => h
  · (refine Or.inl ⟨by rfl, ?_⟩; intro w hSw; (try dsimp only at hSw); go_simp <;> with_reducible rfl)
  try simp only [Act.put, List.setIfInBounds_toArray, List.set_cons_zero, List.set_cons_succ]
  refine wpAnyH_take (i := 6) (oi := ?_) (v := ?_) ?_ (by kernel_rfl) (by kernel_rfl) (by kernel_rfl) ?_ ?_ (by assumption) ?_
  rotate_left 2
  · (simp only [List.getElem?_toArray, List.getElem?_cons_succ, List.getElem?_cons_zero]; rfl)
  · exact fun _ _ _ h => h
  · (refine Or.inl ⟨by rfl, ?_⟩; intro w hSw; (try dsimp only at hSw); go_simp <;> with_reducible rfl)
  try simp only [Act.put, List.setIfInBounds_toArray, List.set_cons_zero, List.set_cons_succ]
  refine wpAnyH_take (i := 7) (oi := ?_) (v := ?_) ?_ (by kernel_rfl) (by kernel_rfl) (by kernel_rfl) ?_ ?_ (by assumption) ?_
  rotate_left 2
  · (simp only [List.getElem?_toArray, List.getElem?_cons_succ, List.getElem?_cons_zero]; rfl)
  · exact fun _ _ _ h => h
  · (refine Or.inl ⟨by rfl, ?_⟩; intro w hSw; (try dsimp only at hSw); go_simp <;> with_reducible rfl)
  try simp only [Act.put, List.setIfInBounds_toArray, List.set_cons_zero, List.set_cons_succ]
  refine wpAnyH_take (i := 8) (oi := ?_) (v := ?_) ?_ (by kernel_rfl) (by kernel_rfl) (by kernel_rfl) ?_ ?_ (by assumption) ?_
  rotate_left 2
  · (simp only [List.getElem?_toArray, List.getElem?_cons_succ, List.getElem?_cons_zero]; rfl)
  · exact fun _ _ _ h => h
  · (refine Or.inl ⟨by rfl, ?_⟩; intro w hSw; (try dsimp only at hSw); go_simp <;> with_reducible rfl)
  try simp only [Act.put, List.setIfInBounds_toArray, List.set_cons_zero, List.set_cons_succ]
  refine wpAnyH_take (i := 10) (oi := ?_) (v := ?_) ?_ (by kernel_rfl) (by kernel_rfl) (by kernel_rfl) ?_ ?_ (by assumption) ?_
  rotate_left 2
  · (simp only [List.getElem?_toArray, List.getElem?_cons_succ, List.getElem?_cons_zero]; rfl)
  · exact fun _ _ _ h => h
  · (refine Or.inl ⟨by rfl, ?_⟩; intro w hSw; (try dsimp only at hSw); go_simp <;> with_reducible rfl)
  try simp only [Act.put, List.setIfInBounds_toArray, List.set_cons_zero, List.set_cons_succ]
  refine wpAnyH_take (i := 11) (oi := ?_) (v := ?_) ?_ (by kernel_rfl) (by kernel_rfl) (by kernel_rfl) ?_ ?_ (by assumption) ?_
  rotate_left 2
  · (simp only [List.getElem?_toArray, List.getElem?_cons_succ, List.getElem?_cons_zero]; rfl)
  · exact fun _ _ _ h => h
  · (refine Or.inl ⟨by rfl, ?_⟩; intro w hSw; (try dsimp only at hSw); go_simp <;> with_reducible rfl)
  try simp only [Act.put, List.setIfInBounds_toArray, List.set_cons_zero, List.set_cons_succ]
  refine wpAnyH_ready (rs := [9]) (by kernel_rfl) (by simp) ?_
  refine AllReadyH.cons (o := ?_) ?_ (fun K hK => ?_) AllReadyH.nil
  rotate_left 1
  · (simp only [List.getElem?_toArray, List.getElem?_cons_succ, List.getElem?_cons_zero]; rfl)
  go_simp
  refine Calls.mono (queue_Line HC3.out.drew.q mi HMI.out (by omega) HME.out rfl) ?_
  rintro r w3 ⟨rfl, rfl⟩
  refine hK.out _ _ ⟨c10, c1, c4⟩ (fun hHeld => ?_)
  clear hK K
  try simp only [Act.put, List.setIfInBounds_toArray, List.set_cons_zero, List.set_cons_succ]
  refine wpAnyH_ready (rs := [12]) (by kernel_rfl) (by simp) ?_
  refine AllReadyH.cons (o := ?_) ?_ (fun K hK => ?_) AllReadyH.nil
  rotate_left 1
  · (simp only [List.getElem?_toArray, List.getElem?_cons_succ, List.getElem?_cons_zero]; rfl)
  go_simp
  refine Calls.mono (line_From_v _ _ s.mine F hs 32 m _ (by rw [← HMINE.out]; exact HC3.out.drew.line mi HMI.out) (by omega) (by omega) (by omega) (by omega) HF.out HFM.out) ?_
  rintro r w4 ⟨A5, k5, rfl, ho4, hb4⟩
  have HP4 := hide (HP2.out.drew.belowN hb4)
  have HC4 := hide (HC3.out.drew.below hb4)
  have HB4 := hide (Below_step HBX.out.drew hb4)
  have c5 := below_cell hb4 c5
  have f5 := HP4.out.frozen 5
  have c10 := below_cell hb4 c10
  have c1 := below_cell hb4 c1
  have c4 := below_cell hb4 c4
  refine hK.out _ _ ⟨c10, c1, c4⟩ (fun hHeld => ?_)
  clear hK K
  try simp only [Act.put, List.setIfInBounds_toArray, List.set_cons_zero, List.set_cons_succ]
  refine wpAnyH_take (i := 13) (oi := ?_) (v := ?_) ?_ (by kernel_rfl) (by kernel_rfl) (by kernel_rfl) ?_ ?_ (by assumption) ?_
  rotate_left 2
  · (simp only [List.getElem?_toArray, List.getElem?_cons_succ, List.getElem?_cons_zero]; rfl)
  · exact fun _ _ _ h => h
  · (refine Or.inl ⟨by rfl, ?_⟩; intro w hSw; (try dsimp only at hSw); go_simp <;> with_reducible rfl)
  try simp only [Act.put, List.setIfInBounds_toArray, List.set_cons_zero, List.set_cons_succ]
  refine wpAnyH_ready (rs := [14]) (by kernel_rfl) (by simp) ?_
  refine AllReadyH.cons (o := ?_) ?_ (fun K hK => ?_) AllReadyH.nil
  rotate_left 1
  · (simp only [List.getElem?_toArray, List.getElem?_cons_succ, List.getElem?_cons_zero]; rfl)
  go_simp
  have HP6 : Hid (Arr 41 (w4.setCell ⟨w1.heap.size, 5, none⟩ (.slice A5 m k5)) w1.heap.size (Pkt.row ⟨1, 0, 0, 0, hs, F, len, p.mn, 0⟩ (.slice A5 m k5))) := HP4.out.set 5 _
  have hk6 := Keeps.setCell w4 ⟨w1.heap.size, 5, none⟩ (.slice A5 m k5)
  have HB6 := hide (HB4.out.trans (hk6.below HB4.out.size (fun k hk => by show ¬ k = w1.heap.size; omega)))
  have e2 : w2.drew.heap.size = w2.heap.size := rfl
  have HO6 := hide (OwnB.base_le (OwnB.keeps ho4 hk6 (fun j hj hm => by have hl := ho4.blk j hj; have hm : j = w1.heap.size := hm; omega)) (base' := w2.heap.size) (Nat.le_refl _))
  have HC6 := hide (HC1.out.below HB6.out)
  have q4 := HP6.out.cell (j := 4) (by simp)
  simp only [List.getElem_cons_zero, List.getElem_cons_succ] at q4
  generalize World.setCell w4 _ _ = w6 at HP6 HB6 HO6 HC6 q4 ⊢
  refine hK.out _ _ ⟨HC6.out.cell (coRow_q s p), HC6.out.cell (coRow_me s p), q4⟩ (fun hHeld => ?_)
  clear hK K
  try simp only [Act.put]
  refine wpAnyH_done (by kernel_rfl) (NoPanic.normal ?_) _
  clear hb4 ho4 hHeld
  have HMK := HC6.out.marks
  have c12 := HC6.out.cell (coRow_marks s p)
  by_cases hm0 : p.mn = 0
  · have d1 : decide ((p.mn : Int) > 0) = false := decide_eq_false (by omega)
    have d2 : decide (0 < p.mn) = false := decide_eq_false (by omega)
    have HTELL : Hid (s.telling i = Pkt.sent ⟨1, 0, 0, 0, hs, F, len, p.mn, 0⟩ s.cfg.me i s.cfg.id) := by
      show _ = _
      rw [Co.telling, HPR.out, ← HHS.out, HF.out, ← HLEN.out, HMN.out, hm0]
      rfl
    clear hm0
    go_upto_region 6 with fail
    go_wp2_with (refine wpP_load rfl (.tmp 5) rfl w1.heap.size rfl ⟨1, 0, 0, 0, hs, F, len, p.mn, 0⟩ (.slice A5 m k5) HP6.out ?_)
    refine Calls.mono (core_mail HC6.out ⟨1, 0, 0, 0, hs, F, len, p.mn, 0⟩ (HO6.out.lies) (Nat.le_refl _) (by omega) ⟨by show (0 : Int) ≤ 0; omega, by show (0 : Int) < _; omega⟩ (i : Int)) ?_
    rintro r w8 ⟨A8, n8, c8, rfl, ho8, hb8⟩
    have HB8 := hide (HB6.out.trans (hb8.mono HB6.out.size))
    have HM8 := hide (HM.out.belowN HB8.out)
    have hgs : g < w6.heap.size := Nat.lt_of_lt_of_le hgg HB6.out.size
    clear hb8
    go_wp2_with (refine wpA_store rfl 47 (.tmp 4) (.tmp 61) rfl g (mailRow s.cfg.me i (.slice A8 n8 c8)) rfl rfl 47 _ HM8.out 3 info_mail rfl rfl (by simp [mailRow, Value.oneCell']) ?_; intro w9 ha9 hk9 hs9)
    refine bodyPost_ret (results_Mail (fn := Try.f61) rfl _ _ g rfl s.cfg.me i (.slice A8 n8 c8) ha9) rfl ⟨A8, n8, c8, rfl, ?_, ?_⟩
    · have h9 := OwnB.keeps ho8 hk9 (fun j hj hm => by have hl := ho8.blk j hj; omega)
      have h9 := OwnB.base_le (base' := w.heap.size) h9 (Nat.le_trans HB1.out.size HB6.out.size)
      rw [HTELL.out]
      exact h9
    · exact (HB1.out.trans (HB8.out.mono HB1.out.size)).trans (hk9.below (Nat.le_trans HB1.out.size HB8.out.size) (fun k hk => by have := HG.out; omega))
  · have d1 : decide ((p.mn : Int) > 0) = true := decide_eq_true (by omega)
    obtain ⟨k, hk⟩ : ∃ k, p.mn = k + 1 := ⟨p.mn - 1, by omega⟩
    have hkm : k < p.mn := by omega
    obtain ⟨gm, hmA, -, -⟩ := HC6.out.marks.form (by omega)
    rw [hmA] at HMK c12
    obtain ⟨hl9, c9⟩ := HMK.cell hkm
    obtain ⟨mk, hmk2⟩ : ∃ mk, mk = s.marks.getD k 0 := ⟨_, rfl⟩
    have hl10 : k < s.marks.length := by rw [HMN.out]; exact hkm
    have hc9 : w6.cell? ⟨gm, k, none⟩ = some (.int .u32 mk) := by
      rw [c9, List.getElem_map, hmk2, List.getD_eq_getElem?_getD, List.getElem?_eq_getElem hl10]; rfl
    have hmw : 0 ≤ mk ∧ mk < 4294967296 := by
      rw [hmk2, List.getD_eq_getElem?_getD, List.getElem?_eq_getElem hl10]
      exact HC6.out.ok.mark _ (List.getElem_mem hl10)
    have hkk : (p.mn : Int) - 1 = (k : Int) := by omega
    have hki : (k : Int) < (p.mn : Int) := by omega
    have hww : IntKind.i64.wrap (k : Int) = (k : Int) := IntWalk.i64_in _ ⟨by omega, by omega⟩
    have HTELL : Hid (s.telling i = Pkt.sent ⟨1, 0, 0, 0, hs, F, len, p.mn, mk⟩ s.cfg.me i s.cfg.id) := by
      show _ = _
      rw [Co.telling, HPR.out, ← HHS.out, HF.out, ← HLEN.out, HMN.out, if_neg hm0, show p.mn - 1 = k by omega, ← hmk2]
      rfl
    have c8 := HP6.out.cell (j := 8) (by simp)
    have f8 := HP6.out.frozen 8
    simp only [List.getElem_cons_zero, List.getElem_cons_succ] at c8
    clear hm0 hk hmA HMK hl9 c9 hmk2 hl10
    go_upto_region 6 with fail
    have HP7 : Hid (Arr 41 (w6.setCell ⟨w1.heap.size, 8, none⟩ (.int .u32 mk)) w1.heap.size (Pkt.row ⟨1, 0, 0, 0, hs, F, len, p.mn, mk⟩ (.slice A5 m k5))) := HP6.out.set 8 _
    have hk7 := Keeps.setCell w6 ⟨w1.heap.size, 8, none⟩ (.int .u32 mk)
    have HB7 := hide (HB6.out.trans (hk7.below HB6.out.size (fun k hk => by show ¬ k = w1.heap.size; omega)))
    have HO7 := hide (OwnB.keeps HO6.out hk7 (fun j hj hm => by have hl := HO6.out.blk j hj; have hm : j = w1.heap.size := hm; omega))
    have HC7 := hide (HC1.out.below HB7.out)
    generalize World.setCell w6 _ _ = w7 at HP7 HB7 HO7 HC7 ⊢
    go_wp2_with (refine wpP_load rfl (.tmp 5) rfl w1.heap.size rfl ⟨1, 0, 0, 0, hs, F, len, p.mn, mk⟩ (.slice A5 m k5) HP7.out ?_)
    refine Calls.mono (core_mail HC7.out ⟨1, 0, 0, 0, hs, F, len, p.mn, mk⟩ (HO7.out.lies) (Nat.le_refl _) (by omega) hmw (i : Int)) ?_
    rintro r w8 ⟨A8, n8, c8, rfl, ho8, hb8⟩
    have HB8 := hide (HB7.out.trans (hb8.mono HB7.out.size))
    have HM8 := hide (HM.out.belowN HB8.out)
    have hgs : g < w7.heap.size := Nat.lt_of_lt_of_le hgg HB7.out.size
    clear hb8
    go_wp2_with (refine wpA_store rfl 47 (.tmp 4) (.tmp 61) rfl g (mailRow s.cfg.me i (.slice A8 n8 c8)) rfl rfl 47 _ HM8.out 3 info_mail rfl rfl (by simp [mailRow, Value.oneCell']) ?_; intro w9 ha9 hk9 hs9)
    refine bodyPost_ret (results_Mail (fn := Try.f61) rfl _ _ g rfl s.cfg.me i (.slice A8 n8 c8) ha9) rfl ⟨A8, n8, c8, rfl, ?_, ?_⟩
    · have h9 := OwnB.keeps ho8 hk9 (fun j hj hm => by have hl := ho8.blk j hj; omega)
      have h9 := OwnB.base_le (base' := w.heap.size) h9 (Nat.le_trans HB1.out.size HB7.out.size)
      rw [HTELL.out]
      exact h9
    · exact (HB1.out.trans (HB8.out.mono HB1.out.size)).trans (hk9.below (Nat.le_trans HB1.out.size HB8.out.size) (fun k hk => by have := HG.out; omega))
end Go.Proofs.Ytbcgffgiifminaa
