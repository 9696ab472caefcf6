/-
  Sorting: symMerge where the right stretch is one element.
-/
import Derived.Test.YtciogjnchpeaaaaSortX
namespace Go.Proofs.Ytciogjnchpeaaaa
open Go.RowKit
set_option maxRecDepth 10000
set_option linter.unusedVariables false
set_option maxHeartbeats 4000000 in
set_option maxRecDepth 10000 in
theorem sort_merge_right {K : UInt8 → Nat} (hK : ∀ x y, K x = K y → x = y) {g n c base a m b : Nat} {p0 p1 p2 p3 : Value} {l0 : List UInt8} {w : World} (ho : OwnB w base (some ⟨g, 0, none⟩) n c l0) (hn : n ≤ 100000) (ham : a + 1 < m) (hmb : b = m + 1) (hb : b ≤ n)
    (hL : Srt.Sorted K (Srt.seg l0 a m)) (hx : ∀ y ∈ Srt.seg l0 a m, ∀ x ∈ Srt.seg l0 m b, y < x) (hc : CmpOK K g p0 p1 p2 p3 w) {ai mi bi : Int} (hai : ai = (a : Int)) (hmi : mi = (m : Int)) (hbi : bi = (b : Int)) :
    Calls Try.prog 48 #[.slice (some ⟨g, 0, none⟩) n c, .int .i64 ai, .int .i64 mi, .int .i64 bi, cmpV p0 p1 p2 p3] w fun e w' =>
      e = .returned (.tuple #[]) ∧ ∃ l', OwnB w' base (some ⟨g, 0, none⟩) n c l' ∧ Srt.Made K l0 a b l' ∧ Keeps (fun k => k = g) w w' := by
  subst hai hbi hmi
  have HO := hide ho
  have HC := hide hc
  have hl0 := ho.len
  obtain ⟨x, hxx⟩ : ∃ x, x = l0.getD m 0 := ⟨_, rfl⟩
  have HX := hide hxx
  have HLT : Hid (∀ k, a ≤ k → k < m → l0.getD k 0 < x) := by
    show ∀ k, _
    intro k h1 h2
    refine hx _ ?_ x ?_
    · have e := Srt.seg_getD (l := l0) (i := a) (j := m) (k := k - a) (by omega)
      rw [show a + (k - a) = k by omega] at e
      rw [← e, List.getD_eq_getElem?_getD, List.getElem?_eq_getElem (by rw [Srt.seg_len (by omega) (by omega)]; omega)]
      exact List.getElem_mem _
    · rw [hmb, Srt.seg_one (by omega), hxx]; simp
  have HL := hide hL
  have HMB := hide hmb
  have d0 : ((m : Int) - (a : Int) == 1) = false := by simp; omega
  have d1 : ((b : Int) - (m : Int) == 1) = true := by simp; omega
  have mn : m < n := by omega
  clear ho hc hxx hx hL
  clear hmb
  go_enter Try.func48, Try.ntmps48
  go_wp2_with fail
  go_loopg [14, 15] (m - a) (fun gg s10 s11 wr => ∃ (i j : Nat), a ≤ i ∧ i ≤ j ∧ j ≤ m ∧ gg = j - i ∧ s10 = .int .i64 i ∧ s11 = .int .i64 j ∧ Hid (OwnB wr base (some ⟨g, 0, none⟩) n c l0) ∧ Hid (Keeps (fun k => k = g) w wr) ∧ Hid (∀ k, a ≤ k → k < i → K (l0.getD k 0) < K x) ∧ Hid (∀ k, j ≤ k → k < m → K x < K (l0.getD k 0)))
  case atStart => exact ⟨a, m, by omega, by omega, by omega, rfl, rfl, rfl, HO, Keeps.refl _ _, fun k h1 h2 => by omega, fun k h1 h2 => by omega⟩
  case round =>
    obtain ⟨W1, hW1⟩ : ∃ W1, W1 = wr := ⟨_, rfl⟩
    subst hW1
    obtain ⟨i, j, hi, hij, hj, rfl, rfl, rfl, HOl, HK1, HB1, HB2⟩ := hrel
    by_cases hlt : i < j
    · obtain ⟨h, hh⟩ : ∃ h, h = (i + j) / 2 := ⟨_, rfl⟩
      have h1 : i ≤ h := by omega
      have h2 : h < j := by omega
      have HH : Hid ((((i + j) / 2 : Nat) : Int) = (h : Int)) := by show _ = _; rw [hh]
      have HH2 : Hid (((i : Int) + (j : Int)) / 2 = (h : Int)) := by show _ = _; omega
      clear hh
      go_upto_region 16 with fail
      go_cut [16] from 83 to 106 (fun s wx => s = .int .i64 h ∧ W1 = wx)
      case first =>
        go_wp2_with fail
        go_meet
        exact ⟨by first | rw [HH2.out] | rw [HH.out], rfl⟩
      case rest =>
      obtain ⟨rfl, rfl⟩ := hcut
      obtain ⟨z, hz⟩ : ∃ z, z = l0.getD h 0 := ⟨_, rfl⟩
      have ch := HOl.out.getD (j := h) (by omega)
      have ca := HOl.out.getD (j := m) (by omega)
      rw [← hz] at ch
      rw [← HX.out] at ca
      have hzx : Hid (z < x) := by show _ < _; rw [hz]; exact HLT.out h (by omega) (by omega)
      have HZ := hide hz
      obtain ⟨r, hr⟩ : ∃ r, decide (K x < K z) = r := ⟨_, rfl⟩
      have HRR := hide hr
      have hhn : (h : Int) < (n : Int) := by omega
      have han : (m : Int) < (n : Int) := by omega
      clear hz hr
      go_upto_region 17 with fail
      refine wp_region_noPanic ?_
      refine wp_region_held_drew (S := (fun w' => w'.cell? ⟨g, h, none⟩ = some (.int .u8 (z.toNat : Int)) ∧ w'.cell? ⟨g, m, none⟩ = some (.int .u8 (x.toNat : Int)))) (by kernel_rfl) ⟨ch, ca⟩ (fun hHeld => ?_)
      refine wpAnyH_take (i := 0) (oi := ?_) (v := ?_) ?_ (by kernel_rfl) (by kernel_rfl) (by kernel_rfl) ?_ ?_ (by assumption) ?_
      rotate_left 2
      · (simp only [List.getElem?_toArray, List.getElem?_cons_zero]; rfl)
      · exact fun _ _ _ h => h
      · (refine Or.inl ⟨by rfl, ?_⟩; intro w hSw; (try dsimp only at hSw); go_simp <;> with_reducible rfl)
      try simp only [Act.put, List.setIfInBounds_toArray, List.set_cons_zero, List.set_cons_succ]
      refine wpAnyH_take (i := 1) (oi := ?_) (v := ?_) ?_ (by kernel_rfl) (by kernel_rfl) (by kernel_rfl) ?_ ?_ (by assumption) ?_
      rotate_left 2
      · (simp only [List.getElem?_toArray, List.getElem?_cons_succ, List.getElem?_cons_zero]; rfl)
      · exact fun _ _ _ h => h
      · (refine Or.inl ⟨by rfl, ?_⟩; intro w hSw; (try dsimp only at hSw); go_simp <;> with_reducible rfl)
      try simp only [Act.put, List.setIfInBounds_toArray, List.set_cons_zero, List.set_cons_succ]
      refine wpAnyH_take (i := 2) (oi := ?_) (v := ?_) ?_ (by kernel_rfl) (by kernel_rfl) (by kernel_rfl) ?_ ?_ (by assumption) ?_
      rotate_left 2
      · (simp only [List.getElem?_toArray, List.getElem?_cons_succ, List.getElem?_cons_zero]; rfl)
      · exact fun _ _ _ h => h
      · (refine Or.inl ⟨by rfl, ?_⟩; intro w hSw; (try dsimp only at hSw); go_simp <;> with_reducible rfl)
      try simp only [Act.put, List.setIfInBounds_toArray, List.set_cons_zero, List.set_cons_succ]
      refine wpAnyH_take (i := 3) (oi := ?_) (v := ?_) ?_ (by kernel_rfl) (by kernel_rfl) (by kernel_rfl) ?_ ?_ (by assumption) ?_
      rotate_left 2
      · (simp only [List.getElem?_toArray, List.getElem?_cons_succ, List.getElem?_cons_zero]; rfl)
      · exact fun _ _ _ h => h
      · (refine Or.inl ⟨by rfl, ?_⟩; intro w hSw; (try dsimp only at hSw); go_simp <;> with_reducible rfl)
      try simp only [Act.put, List.setIfInBounds_toArray, List.set_cons_zero, List.set_cons_succ]
      refine wpAnyH_take (i := 4) (oi := ?_) (v := ?_) ?_ (by kernel_rfl) (by kernel_rfl) (by kernel_rfl) ?_ ?_ (by assumption) ?_
      rotate_left 2
      · (simp only [List.getElem?_toArray, List.getElem?_cons_succ, List.getElem?_cons_zero]; rfl)
      · exact fun _ _ _ h => h
      · (refine Or.inl ⟨by rfl, ?_⟩; intro w hSw; (try dsimp only at hSw); go_simp <;> with_reducible rfl)
      try simp only [Act.put, List.setIfInBounds_toArray, List.set_cons_zero, List.set_cons_succ]
      refine wpAnyH_take (i := 5) (oi := ?_) (v := ?_) ?_ (by kernel_rfl) (by kernel_rfl) (by kernel_rfl) ?_ ?_ (by assumption) ?_
      rotate_left 2
      · (simp only [List.getElem?_toArray, List.getElem?_cons_succ, List.getElem?_cons_zero]; rfl)
      · exact fun _ _ _ h => h
      · (refine Or.inl ⟨by rfl, ?_⟩; intro w hSw; (try dsimp only at hSw); go_simp <;> with_reducible rfl)
      try simp only [Act.put, List.setIfInBounds_toArray, List.set_cons_zero, List.set_cons_succ]
      refine wpAnyH_take (i := 6) (oi := ?_) (v := ?_) ?_ (by kernel_rfl) (by kernel_rfl) (by kernel_rfl) ?_ ?_ (by assumption) ?_
      rotate_left 2
      · (simp only [List.getElem?_toArray, List.getElem?_cons_succ, List.getElem?_cons_zero]; rfl)
      · exact fun _ _ _ h => h
      · (refine Or.inl ⟨by rfl, ?_⟩; intro w hSw; (try dsimp only at hSw); go_simp <;> with_reducible rfl)
      try simp only [Act.put, List.setIfInBounds_toArray, List.set_cons_zero, List.set_cons_succ]
      refine wpAnyH_take (i := 7) (oi := ?_) (v := ?_) ?_ (by kernel_rfl) (by kernel_rfl) (by kernel_rfl) ?_ ?_ (by assumption) ?_
      rotate_left 2
      · (simp only [List.getElem?_toArray, List.getElem?_cons_succ, List.getElem?_cons_zero]; rfl)
      · exact fun _ _ _ h => h
      · (refine Or.inl ⟨by rfl, ?_⟩; intro w hSw; (try dsimp only at hSw); go_simp <;> with_reducible rfl)
      try simp only [Act.put, List.setIfInBounds_toArray, List.set_cons_zero, List.set_cons_succ]
      refine wpAnyH_take (i := 8) (oi := ?_) (v := ?_) ?_ (by kernel_rfl) (by kernel_rfl) (by kernel_rfl) ?_ ?_ (by assumption) ?_
      rotate_left 2
      · (simp only [List.getElem?_toArray, List.getElem?_cons_succ, List.getElem?_cons_zero]; rfl)
      · exact fun _ _ _ h => h
      · (refine Or.inl ⟨by rfl, ?_⟩; intro w hSw; (try dsimp only at hSw); go_simp <;> with_reducible rfl)
      try simp only [Act.put, List.setIfInBounds_toArray, List.set_cons_zero, List.set_cons_succ]
      refine wpAnyH_ready (rs := [9]) (by kernel_rfl) (by simp) ?_
      refine AllReadyH.cons (o := ?_) ?_ (fun K hK => ?_) AllReadyH.nil
      rotate_left 1
      · (simp only [List.getElem?_toArray, List.getElem?_cons_succ, List.getElem?_cons_zero]; rfl)
      go_simp
      refine Calls.mono (HC.out _ HK1.out.drew1 x z hzx.out) ?_
      rintro e w2 ⟨v, rfl, hv, hb2⟩
      rw [HRR.out] at hv
      have O2 := HOl.out.drew.below hb2
      have HK2 := HK1.out.drew1.below1 hb2
      have ch2 := (hb2.cell (p := ⟨g, h, none⟩) HOl.out.lt.2).trans ch
      have ca2 := (hb2.cell (p := ⟨g, m, none⟩) HOl.out.lt.2).trans ca
      refine hK.out _ _ ⟨ch2, ca2⟩ (fun hHeld => ?_)
      clear hK K
      try simp only [Act.put, List.setIfInBounds_toArray, List.set_cons_zero, List.set_cons_succ]
      refine wpAnyH_take (i := 10) (oi := ?_) (v := ?_) ?_ (by kernel_rfl) (by kernel_rfl) (by kernel_rfl) ?_ ?_ (by assumption) ?_
      rotate_left 2
      · (simp only [List.getElem?_toArray, List.getElem?_cons_succ, List.getElem?_cons_zero]; rfl)
      · exact fun _ _ _ h => h
      · (refine Or.inl ⟨by rfl, ?_⟩; intro w hSw; (try dsimp only at hSw); go_simp <;> with_reducible rfl)
      try simp only [Act.put, List.setIfInBounds_toArray, List.set_cons_zero, List.set_cons_succ]
      refine wpAnyH_take (i := 11) (oi := ?_) (v := ?_) ?_ (by kernel_rfl) (by kernel_rfl) (by kernel_rfl) ?_ ?_ (by assumption) ?_
      rotate_left 2
      · (simp only [List.getElem?_toArray, List.getElem?_cons_succ, List.getElem?_cons_zero]; rfl)
      · exact fun _ _ _ h => h
      · (refine Or.inl ⟨by rfl, ?_⟩; intro w hSw; (try dsimp only at hSw); go_simp <;> with_reducible rfl)
      try simp only [Act.put, List.setIfInBounds_toArray, List.set_cons_zero, List.set_cons_succ]
      refine wpAnyH_done (by kernel_rfl) (NoPanic.normal ?_) _
      have HO2 := hide O2
      have HKK2 := hide HK2
      clear O2 HK2 hb2 ch ca ch2 ca2 hHeld
      cases r
      · have HB3 : Hid (∀ k, a ≤ k → k < h + 1 → K (l0.getD k 0) < K x) := by
          show ∀ k, _
          intro k k1 k2
          have h3 := of_decide_eq_false HRR.out
          have h4 : K (l0.getD h 0) < K x := by
            rw [← HZ.out]
            rcases Nat.lt_or_ge (K z) (K x) with h | h
            · exact h
            · have e := hK z x (by omega)
              have := hzx.out
              rw [e] at this
              exact absurd this (by simp)
          by_cases e : k = h
          · subst e; exact h4
          · have := HL.out.seg_idx (by omega) (by omega) (i := k) (j := h) (by omega) (by omega) (by omega)
            omega
        go_wp2_with fail
        go_roundg (j - (h + 1))
        case measure => omega
        case rel => exact ⟨h + 1, j, by omega, by omega, by omega, rfl, by go_num, rfl, HO2, HKK2, HB3, HB2⟩
      · have HB3 : Hid (∀ k, h ≤ k → k < m → K x < K (l0.getD k 0)) := by
          show ∀ k, _
          intro k k1 k2
          have h3 := of_decide_eq_true HRR.out
          rw [HZ.out] at h3
          by_cases e : h = k
          · subst e; exact h3
          · have := HL.out.seg_idx (by omega) (by omega) (i := h) (j := k) (by omega) (by omega) k2
            omega
        go_wp2_with fail
        go_roundg (h - i)
        case measure => omega
        case rel => exact ⟨i, h, hi, h1, by omega, rfl, rfl, rfl, HO2, HKK2, HB1, HB3⟩
    · obtain rfl : i = j := by omega
      clear hij hlt
      obtain ⟨t, rfl⟩ : ∃ t, t = i := ⟨i, rfl⟩
      obtain ⟨L1, hL1⟩ : ∃ L1, L1 = Srt.seg l0 a t := ⟨_, rfl⟩
      obtain ⟨L2, hL2⟩ : ∃ L2, L2 = Srt.seg l0 t m := ⟨_, rfl⟩
      have hlL1 : L1.length = t - a := by rw [hL1, Srt.seg_len (by omega) (by omega)]
      have hlL2 : L2.length = m - t := by rw [hL2, Srt.seg_len (by omega) (by omega)]
      have hta : (l0.take a).length = a := by rw [List.length_take]; omega
      have hLL : Srt.seg l0 a m = L1 ++ L2 := by rw [hL1, hL2]; exact Srt.seg_seg (by omega) (by omega)
      have hsplit : l0 = l0.take a ++ (L1 ++ (L2 ++ x :: l0.drop b)) := by
        have hmb := HMB.out
        have h1 := Srt.split3 (l := l0) (i := a) (j := b) (by omega)
        rw [Srt.seg_seg (j := m) (by omega) (by omega), hLL] at h1
        rw [show Srt.seg l0 m b = [x] by rw [hmb, Srt.seg_one (by omega), ← HX.out]] at h1
        simpa using h1
      have HMADE : Hid (Srt.Made K l0 a b (l0.take a ++ (L1 ++ x :: (L2 ++ l0.drop b)))) := by
        refine ⟨L1 ++ x :: L2, by simp, ?_, ?_⟩
        · have hmb := HMB.out
          rw [Srt.seg_seg (l := l0) (i := a) (j := m) (k := b) (by omega) (by omega), hLL, show Srt.seg l0 m b = [x] by rw [hmb, Srt.seg_one (by omega), ← HX.out]]
          exact Srt.perm_insert L1 L2 x
        · refine Srt.insert_sorted (by rw [← hLL]; exact HL.out) ?_ ?_
          · intro p hp
            rw [hL1] at hp
            obtain ⟨k, k1, k2, k3, rfl⟩ := Srt.mem_seg hp
            exact HB1.out k k1 k2
          · intro q hq
            rw [hL2] at hq
            obtain ⟨k, k1, k2, k3, rfl⟩ := Srt.mem_seg hq
            exact HB2.out k k1 k2
      have HL1 := hide hlL1
      have HL2 := hide hlL2
      have HTA := hide hta
      have HO3 : Hid (OwnB W1 base (some ⟨g, 0, none⟩) n c (l0.take a ++ (L1 ++ (L2.take (m - t) ++ x :: (L2.drop (m - t) ++ l0.drop b))))) := by
        show OwnB _ _ _ _ _ _
        have := HOl.out
        rw [hsplit] at this
        have e1 : L2.take (m - t) = L2 := List.take_of_length_le (by omega)
        have e2 : L2.drop (m - t) = [] := List.drop_eq_nil_of_le (by omega)
        rw [e1, e2, List.nil_append]
        exact this
      clear hL1 hL2 hlL1 hlL2 hta hLL hsplit HOl
      go_wp2_with fail
      go_loopg [17] (m - t) (fun gg s wr => ∃ (k : Nat), t ≤ k ∧ k ≤ m ∧ gg = k - t ∧ s = .int .i64 k ∧ Hid (OwnB wr base (some ⟨g, 0, none⟩) n c (l0.take a ++ (L1 ++ (L2.take (k - t) ++ x :: (L2.drop (k - t) ++ l0.drop b))))) ∧ Hid (Keeps (fun k => k = g) w wr))
      case atStart => exact ⟨m, by omega, by omega, rfl, rfl, HO3, HK1⟩
      case round =>
        clear HO3 HK1
        obtain ⟨k, hk0, hk, rfl, rfl, HOl, HK⟩ := hrel
        by_cases hlt : t < k
        · obtain ⟨q, rfl⟩ : ∃ q, k = q + 1 := ⟨k - 1, by omega⟩
          have dk : decide ((t : Int) < (q : Int) + 1) = true := decide_eq_true (by omega)
          obtain ⟨e, he⟩ : ∃ e, e = q - t := ⟨_, rfl⟩
          have he2 : q + 1 - t = e + 1 := by omega
          rw [he2] at HOl
          have hqR : e < L2.length := by rw [HL2.out]; omega
          obtain ⟨y, hy⟩ : ∃ y, L2.drop e = y :: L2.drop (e + 1) := ⟨_, List.drop_eq_getElem_cons hqR⟩
          have hty : L2.take (e + 1) = L2.take e ++ [y] := by
            rw [List.take_succ_eq_append_getElem hqR]
            rw [List.drop_eq_getElem_cons hqR] at hy
            injection hy with hy
            rw [hy]
          obtain ⟨L, hL⟩ : ∃ L, L = l0.take a ++ (L1 ++ (L2.take (e + 1) ++ x :: (L2.drop (e + 1) ++ l0.drop b))) := ⟨_, rfl⟩
          have HOL : Hid (OwnB wr base (some ⟨g, 0, none⟩) n c L) := by show OwnB _ _ _ _ _ _; rw [hL]; exact HOl.out
          have hL3 : L = (l0.take a ++ (L1 ++ L2.take e)) ++ y :: ([] ++ x :: (L2.drop (e + 1) ++ l0.drop b)) := by rw [hL, hty]; simp
          have i1 : (l0.take a ++ (L1 ++ L2.take e)).length = q := by rw [List.length_append, List.length_append, HTA.out, HL1.out, List.length_take]; omega
          have hLy : L.getD q 0 = y := by rw [hL3]; exact Srt.getD_mid _ _ _ _ i1
          have hLx : L.getD (q + 1) 0 = x := by
            rw [hL3, show (l0.take a ++ (L1 ++ L2.take e)) ++ y :: ([] ++ x :: (L2.drop (e + 1) ++ l0.drop b)) = ((l0.take a ++ (L1 ++ L2.take e)) ++ [y]) ++ x :: (L2.drop (e + 1) ++ l0.drop b) by simp]
            exact Srt.getD_mid _ _ _ _ (by rw [List.length_append, i1]; rfl)
          have hswp : Srt.swp L (q + 1) q = l0.take a ++ (L1 ++ (L2.take (q - t) ++ x :: (L2.drop (q - t) ++ l0.drop b))) := by
            rw [Srt.swp_comm _ _ _ (by omega), hL3, Srt.swp_parts _ _ _ _ _ _ _ i1 (by simp), ← he, hy]; simp
          have cx := HOL.out.getD (j := q + 1) (by omega)
          have cy := HOL.out.getD (j := q) (by omega)
          rw [hLx] at cx
          rw [hLy] at cy
          have fx := HOL.out.frozen q
          have fy := HOL.out.frozen (q + 1)
          have OS : Hid (OwnB ((wr.drew.setCell ⟨g, q + 1, none⟩ (.int .u8 (y.toNat : Int))).setCell ⟨g, q, none⟩ (.int .u8 (x.toNat : Int))) base (some ⟨g, 0, none⟩) n c (l0.take a ++ (L1 ++ (L2.take (q - t) ++ x :: (L2.drop (q - t) ++ l0.drop b))))) := by
            show OwnB _ _ _ _ _ _
            have := HOL.out.drew.swp (q + 1) q
            rwa [hLx, hLy, hswp] at this
          have KS : Hid (Keeps (fun k => k = g) w ((wr.drew.setCell ⟨g, q + 1, none⟩ (.int .u8 (y.toNat : Int))).setCell ⟨g, q, none⟩ (.int .u8 (x.toNat : Int)))) := HK.out.drew1.trans (Keeps.two g (q + 1) q _ _) fun _ _ h => h
          have a1 : IntKind.i64.wrap (q : Int) = (q : Int) := by rw [IntKind.wrap_i64]; omega
          have a1' : IntKind.i64.wrap ((q : Int) + 1 - 1) = (q : Int) := by rw [IntKind.wrap_i64]; omega
          have a2 : (q : Int) < (n : Int) := by omega
          have b2 : (q : Int) + 1 < (n : Int) := by omega
          have b3 : (0 : Int) ≤ (q : Int) + 1 := by omega
          have b4 : ((q : Int) + 1).toNat = q + 1 := by omega
          clear hy hty hL hL3 i1 hLx hLy hswp he he2 hqR
          go_upto_region 23 with fail
          refine wp_region_noPanic ?_
          refine wp_region_held_drew (S := (fun _ => True)) (by kernel_rfl) trivial (fun hHeld => ?_)
          refine wpAnyH_take (i := 0) (oi := ?_) (v := ?_) ?_ (by kernel_rfl) (by kernel_rfl) (by kernel_rfl) ?_ ?_ (by assumption) ?_
          rotate_left 2
          · (simp only [List.getElem?_toArray, List.getElem?_cons_zero]; rfl)
          · exact fun _ _ _ h => h
          · (refine Or.inl ⟨by rfl, ?_⟩; intro w hSw; (try dsimp only at hSw); go_simp <;> with_reducible rfl)
          try simp only [Act.put, List.setIfInBounds_toArray, List.set_cons_zero, List.set_cons_succ]
          refine wpAnyH_take (i := 1) (oi := ?_) (v := ?_) ?_ (by kernel_rfl) (by kernel_rfl) (by kernel_rfl) ?_ ?_ (by assumption) ?_
          rotate_left 2
          · (simp only [List.getElem?_toArray, List.getElem?_cons_succ, List.getElem?_cons_zero]; rfl)
          · exact fun _ _ _ h => h
          · (refine Or.inl ⟨by rfl, ?_⟩; intro w hSw; (try dsimp only at hSw); go_simp <;> with_reducible rfl)
          try simp only [Act.put, List.setIfInBounds_toArray, List.set_cons_zero, List.set_cons_succ]
          refine wpAnyH_take (i := 2) (oi := ?_) (v := ?_) ?_ (by kernel_rfl) (by kernel_rfl) (by kernel_rfl) ?_ ?_ (by assumption) ?_
          rotate_left 2
          · (simp only [List.getElem?_toArray, List.getElem?_cons_succ, List.getElem?_cons_zero]; rfl)
          · exact fun _ _ _ h => h
          · (refine Or.inl ⟨by rfl, ?_⟩; intro w hSw; (try dsimp only at hSw); go_simp <;> with_reducible rfl)
          try simp only [Act.put, List.setIfInBounds_toArray, List.set_cons_zero, List.set_cons_succ]
          refine wpAnyH_take (i := 3) (oi := ?_) (v := ?_) ?_ (by kernel_rfl) (by kernel_rfl) (by kernel_rfl) ?_ ?_ (by assumption) ?_
          rotate_left 2
          · (simp only [List.getElem?_toArray, List.getElem?_cons_succ, List.getElem?_cons_zero]; rfl)
          · exact fun _ _ _ h => h
          · (refine Or.inl ⟨by rfl, ?_⟩; intro w hSw; (try dsimp only at hSw); go_simp <;> with_reducible rfl)
          try simp only [Act.put, List.setIfInBounds_toArray, List.set_cons_zero, List.set_cons_succ]
          refine wpAnyH_take (i := 4) (oi := ?_) (v := ?_) ?_ (by kernel_rfl) (by kernel_rfl) (by kernel_rfl) ?_ ?_ (by assumption) ?_
          rotate_left 2
          · (simp only [List.getElem?_toArray, List.getElem?_cons_succ, List.getElem?_cons_zero]; rfl)
          · exact fun _ _ _ h => h
          · (refine Or.inl ⟨by rfl, ?_⟩; intro w hSw; (try dsimp only at hSw); go_simp <;> with_reducible rfl)
          try simp only [Act.put, List.setIfInBounds_toArray, List.set_cons_zero, List.set_cons_succ]
          refine wpAnyH_take (i := 5) (oi := ?_) (v := ?_) ?_ (by kernel_rfl) (by kernel_rfl) (by kernel_rfl) ?_ ?_ (by assumption) ?_
          rotate_left 2
          · (simp only [List.getElem?_toArray, List.getElem?_cons_succ, List.getElem?_cons_zero]; rfl)
          · exact fun _ _ _ h => h
          · (refine Or.inl ⟨by rfl, ?_⟩; intro w hSw; (try dsimp only at hSw); go_simp <;> with_reducible rfl)
          try simp only [Act.put, List.setIfInBounds_toArray, List.set_cons_zero, List.set_cons_succ]
          refine wpAnyH_take (i := 6) (oi := ?_) (v := ?_) ?_ (by kernel_rfl) (by kernel_rfl) (by kernel_rfl) ?_ ?_ (by assumption) ?_
          rotate_left 2
          · (simp only [List.getElem?_toArray, List.getElem?_cons_succ, List.getElem?_cons_zero]; rfl)
          · exact fun _ _ _ h => h
          · (refine Or.inl ⟨by rfl, ?_⟩; intro w hSw; (try dsimp only at hSw); go_simp <;> with_reducible rfl)
          try simp only [Act.put, List.setIfInBounds_toArray, List.set_cons_zero, List.set_cons_succ]
          refine wpAnyH_take (i := 7) (oi := ?_) (v := ?_) ?_ (by kernel_rfl) (by kernel_rfl) (by kernel_rfl) ?_ ?_ (by assumption) ?_
          rotate_left 2
          · (simp only [List.getElem?_toArray, List.getElem?_cons_succ, List.getElem?_cons_zero]; rfl)
          · exact fun _ _ _ h => h
          · (refine Or.inl ⟨by rfl, ?_⟩; intro w hSw; (try dsimp only at hSw); go_simp <;> with_reducible rfl)
          try simp only [Act.put, List.setIfInBounds_toArray, List.set_cons_zero, List.set_cons_succ]
          refine wpAnyH_take (i := 8) (oi := ?_) (v := ?_) ?_ (by kernel_rfl) (by kernel_rfl) (by kernel_rfl) ?_ ?_ (by assumption) ?_
          rotate_left 2
          · (simp only [List.getElem?_toArray, List.getElem?_cons_succ, List.getElem?_cons_zero]; rfl)
          · exact fun _ _ _ h => h
          · (refine Or.inl ⟨by rfl, ?_⟩; intro w hSw; (try dsimp only at hSw); go_simp <;> with_reducible rfl)
          try simp only [Act.put, List.setIfInBounds_toArray, List.set_cons_zero, List.set_cons_succ]
          refine wpAnyH_take (i := 10) (oi := ?_) (v := ?_) ?_ (by kernel_rfl) (by kernel_rfl) (by kernel_rfl) ?_ ?_ (by assumption) ?_
          rotate_left 2
          · (simp only [List.getElem?_toArray, List.getElem?_cons_succ, List.getElem?_cons_zero]; rfl)
          · exact fun _ _ _ h => h
          · (refine Or.inl ⟨by rfl, ?_⟩; intro w hSw; (try dsimp only at hSw); go_simp <;> with_reducible rfl)
          try simp only [Act.put, List.setIfInBounds_toArray, List.set_cons_zero, List.set_cons_succ]
          refine wpAnyH_take (i := 11) (oi := ?_) (v := ?_) ?_ (by kernel_rfl) (by kernel_rfl) (by kernel_rfl) ?_ ?_ (by assumption) ?_
          rotate_left 2
          · (simp only [List.getElem?_toArray, List.getElem?_cons_succ, List.getElem?_cons_zero]; rfl)
          · exact fun _ _ _ h => h
          · (refine Or.inl ⟨by rfl, ?_⟩; intro w hSw; (try dsimp only at hSw); go_simp <;> with_reducible rfl)
          try simp only [Act.put, List.setIfInBounds_toArray, List.set_cons_zero, List.set_cons_succ]
          refine wpAnyH_take (i := 12) (oi := ?_) (v := ?_) ?_ (by kernel_rfl) (by kernel_rfl) (by kernel_rfl) ?_ ?_ (by assumption) ?_
          rotate_left 2
          · (simp only [List.getElem?_toArray, List.getElem?_cons_succ, List.getElem?_cons_zero]; rfl)
          · exact fun _ _ _ h => h
          · (refine Or.inl ⟨by rfl, ?_⟩; intro w hSw; (try dsimp only at hSw); go_simp <;> with_reducible rfl)
          try simp only [Act.put, List.setIfInBounds_toArray, List.set_cons_zero, List.set_cons_succ]
          refine wpAnyH_ready (rs := [9, 13]) (by kernel_rfl) (by simp) ?_
          refine AllReadyH.cons (o := ?_) ?_ (fun K hK => ?_) ?_
          rotate_left 1
          · (simp only [List.getElem?_toArray, List.getElem?_cons_succ, List.getElem?_cons_zero]; rfl)
          · go_simp
            skip
            refine hK.out _ _ trivial (fun hHeld => ?_)
            clear hK K
            try simp only [Act.put, List.setIfInBounds_toArray, List.set_cons_zero, List.set_cons_succ]
            refine wpAnyH_ready (rs := [13]) (by kernel_rfl) (by simp) ?_
            refine AllReadyH.cons (o := ?_) ?_ (fun K hK => ?_) AllReadyH.nil
            rotate_left 1
            · (simp only [List.getElem?_toArray, List.getElem?_cons_succ, List.getElem?_cons_zero]; rfl)
            go_simp
            refine hK.out _ _ trivial (fun hHeld => ?_)
            clear hK K
            try simp only [Act.put, List.setIfInBounds_toArray, List.set_cons_zero, List.set_cons_succ]
            refine wpAnyH_take (i := 14) (oi := ?_) (v := ?_) ?_ (by kernel_rfl) (by kernel_rfl) (by kernel_rfl) ?_ ?_ (by assumption) ?_
            rotate_left 2
            · (simp only [List.getElem?_toArray, List.getElem?_cons_succ, List.getElem?_cons_zero]; rfl)
            · exact fun _ _ _ h => h
            · (refine Or.inl ⟨by rfl, ?_⟩; intro w hSw; (try dsimp only at hSw); go_simp <;> with_reducible rfl)
            try simp only [Act.put, List.setIfInBounds_toArray, List.set_cons_zero, List.set_cons_succ]
            refine wpAnyH_ready (rs := [15]) (by kernel_rfl) (by simp) ?_
            refine AllReadyH.cons (o := ?_) ?_ (fun K hK => ?_) AllReadyH.nil
            rotate_left 1
            · (simp only [List.getElem?_toArray, List.getElem?_cons_succ, List.getElem?_cons_zero]; rfl)
            go_simp
            refine hK.out _ _ trivial (fun hHeld => ?_)
            clear hK K
            try simp only [Act.put]
            refine wpAnyH_take (i := 16) (oi := ?_) (v := ?_) ?_ (by kernel_rfl) (by kernel_rfl) (by kernel_rfl) ?_ ?_ (by assumption) ?_
            rotate_left 2
            · (simp only [List.getElem?_toArray, List.getElem?_cons_succ, List.getElem?_cons_zero]; rfl)
            · exact fun _ _ _ h => h
            · (refine Or.inl ⟨by rfl, ?_⟩; intro w hSw; (try dsimp only at hSw); go_simp <;> with_reducible rfl)
            try simp only [Act.put, List.setIfInBounds_toArray, List.set_cons_zero, List.set_cons_succ]
            refine wpAnyH_ready (rs := [17]) (by kernel_rfl) (by simp) ?_
            refine AllReadyH.cons (o := ?_) ?_ (fun K hK => ?_) AllReadyH.nil
            rotate_left 1
            · (simp only [List.getElem?_toArray, List.getElem?_cons_succ, List.getElem?_cons_zero]; rfl)
            go_simp
            refine hK.out _ _ trivial (fun hHeld => ?_)
            clear hK K
            try simp only [Act.put]
            refine wpAnyH_done (by kernel_rfl) (NoPanic.normal ?_) _
            go_wp2_with fail
            go_roundg (q - t)
            case measure => omega
            case rel => exact ⟨q, by omega, by omega, rfl, by go_num, OS.out, KS.out⟩
          refine AllReadyH.cons (o := ?_) ?_ (fun K hK => ?_) ?_
          rotate_left 1
          · (simp only [List.getElem?_toArray, List.getElem?_cons_succ, List.getElem?_cons_zero]; rfl)
          · go_simp
            skip
            refine hK.out _ _ trivial (fun hHeld => ?_)
            clear hK K
            try simp only [Act.put, List.setIfInBounds_toArray, List.set_cons_zero, List.set_cons_succ]
            refine wpAnyH_ready (rs := [9]) (by kernel_rfl) (by simp) ?_
            refine AllReadyH.cons (o := ?_) ?_ (fun K hK => ?_) AllReadyH.nil
            rotate_left 1
            · (simp only [List.getElem?_toArray, List.getElem?_cons_succ, List.getElem?_cons_zero]; rfl)
            go_simp
            refine hK.out _ _ trivial (fun hHeld => ?_)
            clear hK K
            try simp only [Act.put, List.setIfInBounds_toArray, List.set_cons_zero, List.set_cons_succ]
            refine wpAnyH_take (i := 14) (oi := ?_) (v := ?_) ?_ (by kernel_rfl) (by kernel_rfl) (by kernel_rfl) ?_ ?_ (by assumption) ?_
            rotate_left 2
            · (simp only [List.getElem?_toArray, List.getElem?_cons_succ, List.getElem?_cons_zero]; rfl)
            · exact fun _ _ _ h => h
            · (refine Or.inl ⟨by rfl, ?_⟩; intro w hSw; (try dsimp only at hSw); go_simp <;> with_reducible rfl)
            try simp only [Act.put, List.setIfInBounds_toArray, List.set_cons_zero, List.set_cons_succ]
            refine wpAnyH_ready (rs := [15]) (by kernel_rfl) (by simp) ?_
            refine AllReadyH.cons (o := ?_) ?_ (fun K hK => ?_) AllReadyH.nil
            rotate_left 1
            · (simp only [List.getElem?_toArray, List.getElem?_cons_succ, List.getElem?_cons_zero]; rfl)
            go_simp
            refine hK.out _ _ trivial (fun hHeld => ?_)
            clear hK K
            try simp only [Act.put]
            refine wpAnyH_take (i := 16) (oi := ?_) (v := ?_) ?_ (by kernel_rfl) (by kernel_rfl) (by kernel_rfl) ?_ ?_ (by assumption) ?_
            rotate_left 2
            · (simp only [List.getElem?_toArray, List.getElem?_cons_succ, List.getElem?_cons_zero]; rfl)
            · exact fun _ _ _ h => h
            · (refine Or.inl ⟨by rfl, ?_⟩; intro w hSw; (try dsimp only at hSw); go_simp <;> with_reducible rfl)
            try simp only [Act.put, List.setIfInBounds_toArray, List.set_cons_zero, List.set_cons_succ]
            refine wpAnyH_ready (rs := [17]) (by kernel_rfl) (by simp) ?_
            refine AllReadyH.cons (o := ?_) ?_ (fun K hK => ?_) AllReadyH.nil
            rotate_left 1
            · (simp only [List.getElem?_toArray, List.getElem?_cons_succ, List.getElem?_cons_zero]; rfl)
            go_simp
            refine hK.out _ _ trivial (fun hHeld => ?_)
            clear hK K
            try simp only [Act.put]
            refine wpAnyH_done (by kernel_rfl) (NoPanic.normal ?_) _
            go_wp2_with fail
            go_roundg (q - t)
            case measure => omega
            case rel => exact ⟨q, by omega, by omega, rfl, by go_num, OS.out, KS.out⟩
          exact AllReadyH.nil
        · obtain rfl : k = t := by omega
          have dk : decide ((k : Int) < (k : Int)) = false := decide_eq_false (by omega)
          have HF : Hid (OwnB wr base (some ⟨g, 0, none⟩) n c (l0.take a ++ (L1 ++ x :: (L2 ++ l0.drop b)))) := by
            show OwnB _ _ _ _ _ _
            have := HOl.out
            rw [Nat.sub_self, List.take_zero, List.drop_zero, List.nil_append] at this
            exact this
          clear HOl
          go_wp2_with fail
          first
            | exact bodyPost_ret (v := .tuple #[]) (by simp [results, go_sem]) rfl ⟨rfl, _, HF.out, HMADE.out, HK.out⟩
            | exact bodyPost_end (v := .tuple #[]) (by simp [results, go_sem]) rfl ⟨rfl, _, HF.out, HMADE.out, HK.out⟩
end Go.Proofs.Ytciogjnchpeaaaa
