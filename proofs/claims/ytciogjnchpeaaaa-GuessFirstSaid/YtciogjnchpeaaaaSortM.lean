/-
  Sorting: symMerge.
-/
import Derived.Test.YtciogjnchpeaaaaSortL
import Derived.Test.YtciogjnchpeaaaaSortR
namespace Go.Proofs.Ytciogjnchpeaaaa
open Go.RowKit
set_option maxRecDepth 10000
set_option linter.unusedVariables false
namespace Srt
theorem Made.parts {K : UInt8 → Nat} {P M S l' : List UInt8} {a b : Nat} (h : Made K (P ++ (M ++ S)) a b l') (ha : P.length = a) (hb : a + M.length = b) : ∃ M', l' = P ++ (M' ++ S) ∧ M'.Perm M ∧ Sorted K M' := by
  obtain ⟨M', e, hp, hs⟩ := h.ex
  rw [seg_of_parts ha hb] at hp
  refine ⟨M', ?_, hp, hs⟩
  rw [e]
  subst ha
  rw [List.take_left, ← List.append_assoc P M S, List.drop_left' (by rw [List.length_append]; exact hb)]
theorem perm_cross (A B C D : List UInt8) : ((A ++ C) ++ (B ++ D)).Perm ((A ++ B) ++ (C ++ D)) := by
  rw [List.append_assoc, List.append_assoc]
  refine List.Perm.append_left A ?_
  rw [← List.append_assoc, ← List.append_assoc]
  exact List.Perm.append_right D List.perm_append_comm
end Srt
set_option maxHeartbeats 8000000 in
set_option maxRecDepth 10000 in
theorem sort_merge {K : UInt8 → Nat} (hK : ∀ x y, K x = K y → x = y) {g n c base : Nat} {p0 p1 p2 p3 : Value} (hn : n ≤ 100000) : ∀ (d : Nat) (P L R S : List UInt8) (a m b : Nat) (w : World), b - a ≤ d → OwnB w base (some ⟨g, 0, none⟩) n c (P ++ (L ++ (R ++ S))) →
    P.length = a → a + L.length = m → m + R.length = b → a < m → m < b → Srt.Sorted K L → Srt.Sorted K R → (∀ y ∈ L, ∀ x ∈ R, y < x) → CmpOK K g p0 p1 p2 p3 w → ∀ (ai mi bi : Int), ai = (a : Int) → mi = (m : Int) → bi = (b : Int) →
    Calls Try.prog 48 #[.slice (some ⟨g, 0, none⟩) n c, .int .i64 ai, .int .i64 mi, .int .i64 bi, cmpV p0 p1 p2 p3] w fun e w' =>
      e = .returned (.tuple #[]) ∧ ∃ M, OwnB w' base (some ⟨g, 0, none⟩) n c (P ++ (M ++ S)) ∧ M.Perm (L ++ R) ∧ Srt.Sorted K M ∧ Keeps (fun k => k = g) w w' := by
  intro d
  induction d with
  | zero => intro P L R S a m b w hd ho hP hL hR h1 h2; omega
  | succ d ih =>
  intro P L R S a m b w hd ho hP hL hR h1 h2 sL sR hx hc ai mi bi hai hmi hbi
  obtain ⟨l0, hl0⟩ : ∃ l0, l0 = P ++ (L ++ (R ++ S)) := ⟨_, rfl⟩
  have hlen : l0.length = n := by rw [hl0]; exact ho.len
  have hbn : b ≤ n := by rw [← hlen, hl0]; simp only [List.length_append]; omega
  have eL : Srt.seg l0 a m = L := by rw [hl0]; exact Srt.seg_of_parts hP hL
  have eR : Srt.seg l0 m b = R := by
    rw [hl0, ← List.append_assoc]; exact Srt.seg_of_parts (by rw [List.length_append]; omega) hR
  by_cases hm1 : m = a + 1
  · refine Calls.mono (sort_merge_left hK ho hn hm1 h2 hbn (by rw [← hl0, eR]; exact sR) (by rw [← hl0, eL, eR]; exact hx) hc hai hmi hbi) ?_
    rintro e w' ⟨rfl, l', o, hm, k⟩
    rw [show P ++ (L ++ (R ++ S)) = P ++ ((L ++ R) ++ S) by simp] at hm
    obtain ⟨M, rfl, hp, hs⟩ := hm.parts hP (by rw [List.length_append]; omega)
    exact ⟨rfl, M, o, hp, hs, k⟩
  by_cases hb1 : b = m + 1
  · refine Calls.mono (sort_merge_right hK ho hn (by omega) hb1 hbn (by rw [← hl0, eL]; exact sL) (by rw [← hl0, eL, eR]; exact hx) hc hai hmi hbi) ?_
    rintro e w' ⟨rfl, l', o, hm, k⟩
    rw [show P ++ (L ++ (R ++ S)) = P ++ ((L ++ R) ++ S) by simp] at hm
    obtain ⟨M, rfl, hp, hs⟩ := hm.parts hP (by rw [List.length_append]; omega)
    exact ⟨rfl, M, o, hp, hs, k⟩
  subst hai hbi hmi
  have d0 : ((m : Int) - (a : Int) == 1) = false := by simp; omega
  have d1 : ((b : Int) - (m : Int) == 1) = false := by simp; omega
  have HO : Hid (OwnB w base (some ⟨g, 0, none⟩) n c l0) := by show OwnB _ _ _ _ _ _; rw [hl0]; exact ho
  have HC := hide hc
  have HLS : Hid (Srt.Sorted K (Srt.seg l0 a m)) := by show Srt.Sorted K _; rw [eL]; exact sL
  have HRS : Hid (Srt.Sorted K (Srt.seg l0 m b)) := by show Srt.Sorted K _; rw [eR]; exact sR
  have HLT : Hid (∀ i j, a ≤ i → i < m → m ≤ j → j < b → l0.getD i 0 < l0.getD j 0) := by
    show ∀ i j, _
    intro i j i1 i2 j1 j2
    have e1 := Srt.seg_getD (l := l0) (i := a) (j := m) (k := i - a) (by omega)
    have e2 := Srt.seg_getD (l := l0) (i := m) (j := b) (k := j - m) (by omega)
    rw [show a + (i - a) = i by omega, eL] at e1
    rw [show m + (j - m) = j by omega, eR] at e2
    rw [← e1, ← e2]
    refine hx _ ?_ _ ?_
    · rw [List.getD_eq_getElem?_getD, List.getElem?_eq_getElem (by omega)]; exact List.getElem_mem _
    · rw [List.getD_eq_getElem?_getD, List.getElem?_eq_getElem (by omega)]; exact List.getElem_mem _
  have HX := hide hx
  have HE := hide (And.intro hl0 (And.intro eL eR))
  have HP := hide hP
  have HLen := hide hlen
  have HIH := hide ih
  have hlL : L.length = m - a := by omega
  have hlR : R.length = b - m := by omega
  have HLL := hide (And.intro hlL hlR)
  clear ho hc hx hl0 eL eR hP hlen ih hL hR sL sR hlL hlR
  obtain ⟨mid, hmid⟩ : ∃ mid, mid = (a + b) / 2 := ⟨_, rfl⟩
  obtain ⟨s0, r0, hs0⟩ : ∃ s0 r0, (mid < m ∧ s0 + b = mid + m ∧ r0 = mid) ∨ (m ≤ mid ∧ s0 = a ∧ r0 = m) := by
    by_cases h : mid < m
    · exact ⟨mid + m - b, mid, .inl ⟨h, by omega, rfl⟩⟩
    · exact ⟨a, m, .inr ⟨by omega, rfl, rfl⟩⟩
  have hs0' : Hid ((mid < m ∧ s0 + b = mid + m ∧ r0 = mid) ∨ (m ≤ mid ∧ s0 = a ∧ r0 = m)) := hs0
  have HM := hide hmid
  have hmidb : a < mid ∧ mid < b := by omega
  obtain ⟨hma, hmb⟩ := hmidb
  obtain ⟨sm, hsm0⟩ : ∃ sm, sm = mid + m := ⟨_, rfl⟩
  have HSM := hide hsm0
  have hsmb : sm ≤ 200000 := by omega
  clear hsm0
  obtain ⟨p, hp⟩ : ∃ p, p + 1 = mid + m := ⟨mid + m - 1, by omega⟩
  have HPP := hide hp
  have hs1 : a ≤ s0 := by omega
  have hs2 : s0 ≤ r0 := by omega
  have hr1 : r0 ≤ m := by omega
  have hr2 : r0 ≤ mid := by omega
  have hs3 : Hid (mid + m - s0 ≤ b) := by show _ ≤ _; omega
  have HH : Hid ((((a + b) / 2 : Nat) : Int) = (mid : Int)) := by show _ = _; rw [hmid]
  have HH2 : Hid (((a : Int) + (b : Int)) / 2 = (mid : Int)) := by show _ = _; omega
  clear hmid hs0 hp
  go_enter Try.func48, Try.ntmps48
  go_upto_region 24 with fail
  go_cut [18] from 129 to 134 (fun s wx => s = .int .i64 mid ∧ w = wx)
  case first =>
    go_wp2_with fail
    go_meet
    exact ⟨by first | rw [HH2.out] | rw [HH.out], rfl⟩
  case rest =>
  obtain ⟨rfl, rfl⟩ := hcut
  go_upto_region 25 with fail
  go_cut [19] from 135 to 137 (fun s wx => s = .int .i64 (sm : Int) ∧ w = wx)
  case first =>
    go_wp2_with fail
    go_meet
    exact ⟨by congr 1; have := HSM.out; omega, rfl⟩
  case rest =>
  obtain ⟨rfl, rfl⟩ := hcut
  go_upto_region 27 with fail
  have NM : IntKind.i64.wrap ((sm : Int) - (b : Int)) = (sm : Int) - (b : Int) := by have := HSM.out; rw [IntKind.wrap_i64]; omega
  go_upto_if 140 with fail
  go_cut [20, 21] from 138 to 146 (fun s t wx => s = .int .i64 (s0 : Int) ∧ t = .int .i64 (r0 : Int) ∧ w = wx)
  case first =>
    by_cases h : mid < m
    · have dm : decide ((m : Int) > (mid : Int)) = true := decide_eq_true (by omega)
      go_wp2_with fail
      go_meet
      refine ⟨?_, ?_, rfl⟩
      · congr 1; have := HSM.out; rcases hs0'.out with h | h <;> omega
      · congr 1; have := HSM.out; rcases hs0'.out with h | h <;> omega
    · have dm : decide ((m : Int) > (mid : Int)) = false := decide_eq_false (by omega)
      go_wp2_with fail
      go_meet
      refine ⟨?_, ?_, rfl⟩
      · congr 1; have := HSM.out; rcases hs0'.out with h | h <;> omega
      · congr 1; have := HSM.out; rcases hs0'.out with h | h <;> omega
  case rest =>
  obtain ⟨rfl, rfl, rfl⟩ := hcut
  go_upto_region 32 with fail
  go_cut [22] from 147 to 148 (fun s wx => s = .int .i64 (p : Int) ∧ w = wx)
  case first =>
    go_wp2_with fail
    go_meet
    exact ⟨by congr 1; have := HPP.out; have := HSM.out; omega, rfl⟩
  case rest =>
  obtain ⟨rfl, rfl⟩ := hcut
  clear NM
  go_upto_block 8 with fail
  go_cut [20] from 149 to 174 (fun s20 wx => ∃ s : Nat, s20 = .int .i64 (s : Int) ∧ s0 ≤ s ∧ s ≤ r0 ∧ Hid (OwnB wx base (some ⟨g, 0, none⟩) n c l0) ∧ Hid (Keeps (fun k => k = g) w wx) ∧
    Hid (s = s0 ∨ K (l0.getD (s - 1) 0) < K (l0.getD (mid + m - s) 0)) ∧ Hid (s = r0 ∨ K (l0.getD (mid + m - s - 1) 0) < K (l0.getD s 0)))
  case first =>
    go_wp2_with fail
    go_loopg [20, 21] (r0 - s0) (fun gg s20 s21 wr => ∃ (s r : Nat), s0 ≤ s ∧ s ≤ r ∧ r ≤ r0 ∧ gg = r - s ∧ s20 = .int .i64 s ∧ s21 = .int .i64 r ∧ Hid (OwnB wr base (some ⟨g, 0, none⟩) n c l0) ∧ Hid (Keeps (fun k => k = g) w wr) ∧
      Hid (s = s0 ∨ K (l0.getD (s - 1) 0) < K (l0.getD (mid + m - s) 0)) ∧ Hid (r = r0 ∨ K (l0.getD (mid + m - r - 1) 0) < K (l0.getD r 0)))
    case atStart => exact ⟨s0, r0, by omega, by omega, by omega, rfl, rfl, rfl, HO, Keeps.refl _ _, .inl rfl, .inl rfl⟩
    case round =>
      obtain ⟨W1, hW1⟩ : ∃ W1, W1 = wr := ⟨_, rfl⟩
      subst hW1
      obtain ⟨s, r, hs, hsr, hr, rfl, rfl, rfl, HOl, HK1, HB1, HB2⟩ := hrel
      by_cases hlt : s < r
      · obtain ⟨h, hh⟩ : ∃ h, h = (s + r) / 2 := ⟨_, rfl⟩
        have h1 : s ≤ h := by omega
        have h2 : h < r := by omega
        have HH : Hid ((((s + r) / 2 : Nat) : Int) = (h : Int)) := by show _ = _; rw [hh]
        have HH2 : Hid (((s : Int) + (r : Int)) / 2 = (h : Int)) := by show _ = _; omega
        clear hh
        go_upto_region 34 with fail
        go_cut [23] from 149 to 174 (fun s wx => s = .int .i64 h ∧ W1 = wx)
        case first =>
          go_wp2_with fail
          go_meet
          exact ⟨by first | rw [HH2.out] | rw [HH.out], rfl⟩
        case rest =>
        obtain ⟨rfl, rfl⟩ := hcut
        obtain ⟨j, hj⟩ : ∃ j, j + h = p := ⟨p - h, by have := HPP.out; omega⟩
        have hjm : m ≤ j := by have := HPP.out; omega
        have hjb : j < b := by have := HPP.out; have := hs3.out; omega
        obtain ⟨x, hx⟩ : ∃ x, x = l0.getD j 0 := ⟨_, rfl⟩
        obtain ⟨z, hz⟩ : ∃ z, z = l0.getD h 0 := ⟨_, rfl⟩
        have cx := HOl.out.getD (j := j) (by omega)
        have cz := HOl.out.getD (j := h) (by omega)
        rw [← hx] at cx
        rw [← hz] at cz
        have hzx : Hid (z < x) := by show _ < _; rw [hz, hx]; exact HLT.out h j (by omega) (by omega) (by omega) (by omega)
        have HZ := hide hz
        have HXX := hide hx
        have HJ := hide hj
        obtain ⟨q, hq⟩ : ∃ q, decide (K x < K z) = q := ⟨_, rfl⟩
        have HRR := hide hq
        have j1 : IntKind.i64.wrap ((p : Int) - (h : Int)) = (j : Int) := by rw [IntKind.wrap_i64]; omega
        have jn : (j : Int) < (n : Int) := by omega
        have hn2 : (h : Int) < (n : Int) := by omega
        clear hz hq hx hj
        go_upto_region 35 with fail
        refine wp_region_noPanic ?_
        refine wp_region_held_drew (S := (fun w' => w'.cell? ⟨g, j, none⟩ = some (.int .u8 (x.toNat : Int)) ∧ w'.cell? ⟨g, h, none⟩ = some (.int .u8 (z.toNat : Int)))) (by kernel_rfl) ⟨cx, cz⟩ (fun hHeld => ?_)
        refine wpAnyH_take (i := 0) (oi := ?_) (v := ?_) ?_ (by kernel_rfl) (by kernel_rfl) (by kernel_rfl) ?_ ?_ (by assumption) ?_
        rotate_left 2
        · (simp only [List.getElem?_toArray, List.getElem?_cons_zero]; rfl)
        · exact fun _ _ _ h => h
        · (refine Or.inl ⟨by rfl, ?_⟩; intro w hSw; (try dsimp only at hSw); go_simp <;> with_reducible rfl)
        try simp only [Act.put, List.setIfInBounds_toArray, List.set_cons_zero, List.set_cons_succ]
        refine wpAnyH_take (i := 1) (oi := ?_) (v := ?_) ?_ (by kernel_rfl) (by kernel_rfl) (by kernel_rfl) ?_ ?_ (by assumption) ?_
        rotate_left 2
        · (simp only [List.getElem?_toArray, List.getElem?_cons_succ, List.getElem?_cons_zero]; rfl)
        · exact fun _ _ _ h => h
        · (refine Or.inl ⟨by rfl, ?_⟩; intro w hSw; (try dsimp only at hSw); go_simp <;> with_reducible rfl)
        try simp only [Act.put, List.setIfInBounds_toArray, List.set_cons_zero, List.set_cons_succ]
        refine wpAnyH_take (i := 2) (oi := ?_) (v := ?_) ?_ (by kernel_rfl) (by kernel_rfl) (by kernel_rfl) ?_ ?_ (by assumption) ?_
        rotate_left 2
        · (simp only [List.getElem?_toArray, List.getElem?_cons_succ, List.getElem?_cons_zero]; rfl)
        · exact fun _ _ _ h => h
        · (refine Or.inl ⟨by rfl, ?_⟩; intro w hSw; (try dsimp only at hSw); go_simp <;> with_reducible rfl)
        try simp only [Act.put, List.setIfInBounds_toArray, List.set_cons_zero, List.set_cons_succ]
        refine wpAnyH_take (i := 3) (oi := ?_) (v := ?_) ?_ (by kernel_rfl) (by kernel_rfl) (by kernel_rfl) ?_ ?_ (by assumption) ?_
        rotate_left 2
        · (simp only [List.getElem?_toArray, List.getElem?_cons_succ, List.getElem?_cons_zero]; rfl)
        · exact fun _ _ _ h => h
        · (refine Or.inl ⟨by rfl, ?_⟩; intro w hSw; (try dsimp only at hSw); go_simp <;> with_reducible rfl)
        try simp only [Act.put, List.setIfInBounds_toArray, List.set_cons_zero, List.set_cons_succ]
        refine wpAnyH_take (i := 4) (oi := ?_) (v := ?_) ?_ (by kernel_rfl) (by kernel_rfl) (by kernel_rfl) ?_ ?_ (by assumption) ?_
        rotate_left 2
        · (simp only [List.getElem?_toArray, List.getElem?_cons_succ, List.getElem?_cons_zero]; rfl)
        · exact fun _ _ _ h => h
        · (refine Or.inl ⟨by rfl, ?_⟩; intro w hSw; (try dsimp only at hSw); go_simp <;> with_reducible rfl)
        try simp only [Act.put, List.setIfInBounds_toArray, List.set_cons_zero, List.set_cons_succ]
        refine wpAnyH_take (i := 5) (oi := ?_) (v := ?_) ?_ (by kernel_rfl) (by kernel_rfl) (by kernel_rfl) ?_ ?_ (by assumption) ?_
        rotate_left 2
        · (simp only [List.getElem?_toArray, List.getElem?_cons_succ, List.getElem?_cons_zero]; rfl)
        · exact fun _ _ _ h => h
        · (refine Or.inl ⟨by rfl, ?_⟩; intro w hSw; (try dsimp only at hSw); go_simp <;> with_reducible rfl)
        try simp only [Act.put, List.setIfInBounds_toArray, List.set_cons_zero, List.set_cons_succ]
        refine wpAnyH_take (i := 6) (oi := ?_) (v := ?_) ?_ (by kernel_rfl) (by kernel_rfl) (by kernel_rfl) ?_ ?_ (by assumption) ?_
        rotate_left 2
        · (simp only [List.getElem?_toArray, List.getElem?_cons_succ, List.getElem?_cons_zero]; rfl)
        · exact fun _ _ _ h => h
        · (refine Or.inl ⟨by rfl, ?_⟩; intro w hSw; (try dsimp only at hSw); go_simp <;> with_reducible rfl)
        try simp only [Act.put, List.setIfInBounds_toArray, List.set_cons_zero, List.set_cons_succ]
        refine wpAnyH_take (i := 7) (oi := ?_) (v := ?_) ?_ (by kernel_rfl) (by kernel_rfl) (by kernel_rfl) ?_ ?_ (by assumption) ?_
        rotate_left 2
        · (simp only [List.getElem?_toArray, List.getElem?_cons_succ, List.getElem?_cons_zero]; rfl)
        · exact fun _ _ _ h => h
        · (refine Or.inl ⟨by rfl, ?_⟩; intro w hSw; (try dsimp only at hSw); go_simp <;> with_reducible rfl)
        try simp only [Act.put, List.setIfInBounds_toArray, List.set_cons_zero, List.set_cons_succ]
        refine wpAnyH_take (i := 8) (oi := ?_) (v := ?_) ?_ (by kernel_rfl) (by kernel_rfl) (by kernel_rfl) ?_ ?_ (by assumption) ?_
        rotate_left 2
        · (simp only [List.getElem?_toArray, List.getElem?_cons_succ, List.getElem?_cons_zero]; rfl)
        · exact fun _ _ _ h => h
        · (refine Or.inl ⟨by rfl, ?_⟩; intro w hSw; (try dsimp only at hSw); go_simp <;> with_reducible rfl)
        try simp only [Act.put, List.setIfInBounds_toArray, List.set_cons_zero, List.set_cons_succ]
        refine wpAnyH_take (i := 9) (oi := ?_) (v := ?_) ?_ (by kernel_rfl) (by kernel_rfl) (by kernel_rfl) ?_ ?_ (by assumption) ?_
        rotate_left 2
        · (simp only [List.getElem?_toArray, List.getElem?_cons_succ, List.getElem?_cons_zero]; rfl)
        · exact fun _ _ _ h => h
        · (refine Or.inl ⟨by rfl, ?_⟩; intro w hSw; (try dsimp only at hSw); go_simp <;> with_reducible rfl)
        try simp only [Act.put, List.setIfInBounds_toArray, List.set_cons_zero, List.set_cons_succ]
        refine wpAnyH_take (i := 10) (oi := ?_) (v := ?_) ?_ (by kernel_rfl) (by kernel_rfl) (by kernel_rfl) ?_ ?_ (by assumption) ?_
        rotate_left 2
        · (simp only [List.getElem?_toArray, List.getElem?_cons_succ, List.getElem?_cons_zero]; rfl)
        · exact fun _ _ _ h => h
        · (refine Or.inl ⟨by rfl, ?_⟩; intro w hSw; (try dsimp only at hSw); go_simp <;> with_reducible rfl)
        try simp only [Act.put, List.setIfInBounds_toArray, List.set_cons_zero, List.set_cons_succ]
        refine wpAnyH_ready (rs := [11]) (by kernel_rfl) (by simp) ?_
        refine AllReadyH.cons (o := ?_) ?_ (fun K hK => ?_) AllReadyH.nil
        rotate_left 1
        · (simp only [List.getElem?_toArray, List.getElem?_cons_succ, List.getElem?_cons_zero]; rfl)
        go_simp
        refine Calls.mono (HC.out _ HK1.out.drew1 x z hzx.out) ?_
        rintro e w2 ⟨v, rfl, hv, hb2⟩
        rw [HRR.out] at hv
        have O2 := HOl.out.drew.below hb2
        have HK2 := HK1.out.drew1.below1 hb2
        have cx2 := (hb2.cell (p := ⟨g, j, none⟩) HOl.out.lt.2).trans cx
        have cz2 := (hb2.cell (p := ⟨g, h, none⟩) HOl.out.lt.2).trans cz
        refine hK.out _ _ ⟨cx2, cz2⟩ (fun hHeld => ?_)
        clear hK K
        try simp only [Act.put, List.setIfInBounds_toArray, List.set_cons_zero, List.set_cons_succ]
        refine wpAnyH_take (i := 12) (oi := ?_) (v := ?_) ?_ (by kernel_rfl) (by kernel_rfl) (by kernel_rfl) ?_ ?_ (by assumption) ?_
        rotate_left 2
        · (simp only [List.getElem?_toArray, List.getElem?_cons_succ, List.getElem?_cons_zero]; rfl)
        · exact fun _ _ _ h => h
        · (refine Or.inl ⟨by rfl, ?_⟩; intro w hSw; (try dsimp only at hSw); go_simp <;> with_reducible rfl)
        try simp only [Act.put, List.setIfInBounds_toArray, List.set_cons_zero, List.set_cons_succ]
        refine wpAnyH_take (i := 13) (oi := ?_) (v := ?_) ?_ (by kernel_rfl) (by kernel_rfl) (by kernel_rfl) ?_ ?_ (by assumption) ?_
        rotate_left 2
        · (simp only [List.getElem?_toArray, List.getElem?_cons_succ, List.getElem?_cons_zero]; rfl)
        · exact fun _ _ _ h => h
        · (refine Or.inl ⟨by rfl, ?_⟩; intro w hSw; (try dsimp only at hSw); go_simp <;> with_reducible rfl)
        try simp only [Act.put, List.setIfInBounds_toArray, List.set_cons_zero, List.set_cons_succ]
        refine wpAnyH_done (by kernel_rfl) (NoPanic.normal ?_) _
        have HO2 := hide O2
        have HKK2 := hide HK2
        clear O2 HK2 hb2 cx cz cx2 cz2 hHeld j1
        cases q
        · have HB3 : Hid (h + 1 = s0 ∨ K (l0.getD (h + 1 - 1) 0) < K (l0.getD (mid + m - (h + 1)) 0)) := by
            refine .inr ?_
            have h3 := of_decide_eq_false HRR.out
            rw [show h + 1 - 1 = h by omega, show mid + m - (h + 1) = j by have := HJ.out; have := HPP.out; omega, ← HZ.out, ← HXX.out]
            rcases Nat.lt_or_ge (K z) (K x) with h | h
            · exact h
            · have e := hK z x (by omega)
              have := hzx.out
              rw [e] at this
              exact absurd this (by simp)
          go_wp2_with fail
          go_roundg (r - (h + 1))
          case measure => omega
          case rel => exact ⟨h + 1, r, by omega, by omega, by omega, rfl, by go_num, rfl, HO2, HKK2, HB3, HB2⟩
        · have HB3 : Hid (h = r0 ∨ K (l0.getD (mid + m - h - 1) 0) < K (l0.getD h 0)) := by
            refine .inr ?_
            have h3 := of_decide_eq_true HRR.out
            rw [show mid + m - h - 1 = j by have := HJ.out; have := HPP.out; omega, ← HZ.out, ← HXX.out]
            exact h3
          go_wp2_with fail
          go_roundg (h - s)
          case measure => omega
          case rel => exact ⟨s, h, hs, h1, by omega, rfl, rfl, rfl, HO2, HKK2, HB1, HB3⟩
      · obtain rfl : s = r := by omega
        clear hsr hlt
        have dss : decide ((s : Int) < (s : Int)) = false := decide_eq_false (by omega)
        go_wp2_with fail
        go_meet
        exact ⟨s, rfl, hs, hr, HOl, HK1, HB1, HB2⟩
  case rest =>
  obtain ⟨s, rfl, hss, hsr, HO1, HK1, HB1, HB2⟩ := hcut
  obtain ⟨e, he⟩ : ∃ e, e = mid + m - s := ⟨_, rfl⟩
  have hme : m ≤ e := by omega
  have heb : e ≤ b := by have := hs3.out; omega
  have has : a ≤ s := by omega
  have hsm : s ≤ m := by omega
  have hsmid : s ≤ mid := by omega
  have hmide : mid ≤ e := by omega
  have HSE : Hid (s + e = mid + m) := by show _ = _; omega
  have HPART : Hid (∀ x ∈ Srt.seg l0 a s ++ Srt.seg l0 m e, ∀ y ∈ Srt.seg l0 s m ++ Srt.seg l0 e b, K x < K y) := by
    refine Srt.parted HLS.out HRS.out has hsm hme heb (by rw [HLen.out]; exact hbn) ?_ ?_
    · rcases HB1.out with h | h
      · rcases hs0'.out with h' | h'
        · exact .inr (.inl (by omega))
        · exact .inl (by omega)
      · exact .inr (.inr (by rw [he]; exact h))
    · rcases HB2.out with h | h
      · rcases hs0'.out with h' | h'
        · exact .inl (by omega)
        · exact .inr (.inl (by omega))
      · exact .inr (.inr (by rw [he]; exact h))
  obtain ⟨wq, hwq⟩ : ∃ w2, w2 = wc := ⟨_, rfl⟩
  subst hwq
  clear HB1 HB2 HO hs0' HH HH2 he
  obtain ⟨L1, hL1⟩ : ∃ x, x = Srt.seg l0 a s := ⟨_, rfl⟩
  obtain ⟨L2, hL2⟩ : ∃ x, x = Srt.seg l0 s m := ⟨_, rfl⟩
  obtain ⟨R1, hR1⟩ : ∃ x, x = Srt.seg l0 m e := ⟨_, rfl⟩
  obtain ⟨R2, hR2⟩ : ∃ x, x = Srt.seg l0 e b := ⟨_, rfl⟩
  have hlen1 : L1.length = s - a := by rw [hL1]; exact Srt.seg_len has (by have := HLen.out; omega)
  have hlen2 : L2.length = m - s := by rw [hL2]; exact Srt.seg_len hsm (by have := HLen.out; omega)
  have hlen3 : R1.length = e - m := by rw [hR1]; exact Srt.seg_len hme (by have := HLen.out; omega)
  have hlen4 : R2.length = b - e := by rw [hR2]; exact Srt.seg_len heb (by have := HLen.out; omega)
  have hLL : L = L1 ++ L2 := by rw [← HE.out.2.1, hL1, hL2]; exact Srt.seg_seg has hsm
  have hRR : R = R1 ++ R2 := by rw [← HE.out.2.2, hR1, hR2]; exact Srt.seg_seg hme heb
  have HS : Hid (Srt.Sorted K L1 ∧ Srt.Sorted K L2 ∧ Srt.Sorted K R1 ∧ Srt.Sorted K R2) := by
    have h1 := HLS.out
    have h2 := HRS.out
    rw [HE.out.2.1, hLL] at h1
    rw [HE.out.2.2, hRR] at h2
    exact ⟨h1.left, h1.right, h2.left, h2.right⟩
  have HPART2 : Hid (∀ x ∈ L1 ++ R1, ∀ y ∈ L2 ++ R2, K x < K y) := by
    show ∀ x ∈ _, _
    rw [hL1, hL2, hR1, hR2]; exact HPART.out
  have HO2 : Hid (OwnB wq base (some ⟨g, 0, none⟩) n c (P ++ (L1 ++ (L2 ++ (R1 ++ (R2 ++ S)))))) := by
    show OwnB _ _ _ _ _ _
    have := HO1.out
    rw [HE.out.1, hLL, hRR] at this
    simpa using this
  have HLEN : Hid (L1.length = s - a ∧ L2.length = m - s ∧ R1.length = e - m ∧ R2.length = b - e) := ⟨hlen1, hlen2, hlen3, hlen4⟩
  have HLR := hide (And.intro hLL hRR)
  have HX2 : Hid ((∀ y ∈ L1, ∀ x ∈ R1, y < x) ∧ (∀ y ∈ L2, ∀ x ∈ R2, y < x)) := by
    have := HX.out
    rw [hLL, hRR] at this
    exact ⟨fun y hy x hx => this y (List.mem_append_left _ hy) x (List.mem_append_left _ hx), fun y hy x hx => this y (List.mem_append_right _ hy) x (List.mem_append_right _ hx)⟩
  clear hL1 hL2 hR1 hR2 hlen1 hlen2 hlen3 hlen4 hLL hRR HPART HO1 HLS HRS HLT HE HX HM HPP hs3
  go_upto_region 38 with fail
  go_cut [24] from 175 to 177 (fun s wx => s = .int .i64 (e : Int) ∧ wq = wx)
  case first =>
    go_wp2_with fail
    go_meet
    exact ⟨by congr 1; have := HSE.out; have := HSM.out; omega, rfl⟩
  case rest =>
  obtain ⟨rfl, rfl⟩ := hcut
  go_upto_region 39 with fail
  go_cut [185] from 178 to 185 (fun v wx => v = .bool (decide (s < m) && decide (m < e)) ∧ wq = wx)
  case first =>
    by_cases h : s < m
    · by_cases h' : m < e
      · go_wp2_with fail
        go_meet
        exact ⟨by simp [h, h'], rfl⟩
      · go_wp2_with fail
        go_meet
        exact ⟨by simp [h, h'], rfl⟩
    · go_wp2_with fail
      go_meet
      exact ⟨by simp [h], rfl⟩
  case rest =>
  obtain ⟨rfl, rfl⟩ := hcut
  go_upto_if 185 with fail
  go_cut [] from 185 to 191 (fun wx => Hid (OwnB wx base (some ⟨g, 0, none⟩) n c (P ++ (L1 ++ (R1 ++ (L2 ++ (R2 ++ S)))))) ∧ Hid (Keeps (fun k => k = g) w wx))
  case first =>
    by_cases h : s < m ∧ m < e
    · have e1 : decide (s < m) = true := decide_eq_true h.1
      have e2 : decide (m < e) = true := decide_eq_true h.2
      have h1 := h.1
      have h2' := h.2
      rw [e1, e2]
      go_wp2_with fail
      refine Calls.mono (sort_rotate (a := s) (m := m) (b := e) (P := P ++ L1) (U := L2) (V := R1) (S := R2 ++ S) HO2.out hn (by simp) (by have := HLEN.out; have := HP.out; rw [List.length_append]; omega) (by have := HLEN.out; omega) (by have := HLEN.out; omega) h1 h2' rfl rfl rfl) ?_
      rintro e w2 ⟨rfl, ho2, hk2⟩
      have O2 : Hid (OwnB w2 base (some ⟨g, 0, none⟩) n c (P ++ (L1 ++ (R1 ++ (L2 ++ (R2 ++ S)))))) := by show OwnB _ _ _ _ _ _; simpa using ho2
      have K2 := hide (HK1.out.trans hk2 fun _ _ h => h)
      clear ho2 hk2
      go_wp2_with fail
      go_meet
      exact ⟨O2, K2⟩
    · have e1 : (decide (s < m) && decide (m < e)) = false := by
        rw [← Bool.not_eq_true, Bool.and_eq_true]; simpa using h
      rw [e1]
      go_wp2_with fail
      go_meet
      refine ⟨?_, HK1⟩
      have hc : L2 = [] ∨ R1 = [] := by
        have := HLEN.out
        by_cases h3 : s < m
        · exact .inr (List.eq_nil_of_length_eq_zero (by omega))
        · exact .inl (List.eq_nil_of_length_eq_zero (by omega))
      show OwnB _ _ _ _ _ _
      have := HO2.out
      rcases hc with rfl | rfl
      · simpa using this
      · simpa using this
  case rest =>
  obtain ⟨HO3, HK3⟩ := hcut
  obtain ⟨wr, hwr⟩ : ∃ w2, w2 = wc := ⟨_, rfl⟩
  subst hwr
  clear HO2 HK1
  have i1 : ¬ (a < s ∧ s < mid) → L1 = [] ∨ R1 = [] := by
    intro h
    have := HLEN.out
    have := HSE.out
    by_cases h3 : a < s
    · exact .inr (List.eq_nil_of_length_eq_zero (by omega))
    · exact .inl (List.eq_nil_of_length_eq_zero (by omega))
  have i2 : ¬ (mid < e ∧ e < b) → L2 = [] ∨ R2 = [] := by
    intro h
    have := HLEN.out
    have := HSE.out
    by_cases h3 : mid < e
    · exact .inr (List.eq_nil_of_length_eq_zero (by omega))
    · exact .inl (List.eq_nil_of_length_eq_zero (by omega))
  have HI1 := hide i1
  have HI2 := hide i2
  clear i1 i2
  go_upto_region 41 with fail
  go_cut [199] from 192 to 199 (fun v wx => v = .bool (decide (a < s) && decide (s < mid)) ∧ wr = wx)
  case first =>
    by_cases h : a < s
    · by_cases h' : s < mid
      · go_wp2_with fail
        go_meet
        exact ⟨by simp [h, h'], rfl⟩
      · go_wp2_with fail
        go_meet
        exact ⟨by simp [h, h'], rfl⟩
    · go_wp2_with fail
      go_meet
      exact ⟨by simp [h], rfl⟩
  case rest =>
  obtain ⟨rfl, rfl⟩ := hcut
  go_upto_if 199 with fail
  go_cut [] from 199 to 205 (fun wx => ∃ M1 : List UInt8, Hid (OwnB wx base (some ⟨g, 0, none⟩) n c (P ++ (M1 ++ (L2 ++ (R2 ++ S))))) ∧ Hid (M1.Perm (L1 ++ R1) ∧ Srt.Sorted K M1) ∧ Hid (Keeps (fun k => k = g) w wx))
  case first =>
    by_cases h : a < s ∧ s < mid
    · have e1 : decide (a < s) = true := decide_eq_true h.1
      have e2 : decide (s < mid) = true := decide_eq_true h.2
      rw [e1, e2]
      go_wp2_with fail
      refine Calls.mono (HIH.out P L1 R1 (L2 ++ (R2 ++ S)) a s mid wr (by omega) HO3.out HP.out (by have := HLEN.out; omega) (by have := HLEN.out; have := HSE.out; omega) h.1 h.2 HS.out.1 HS.out.2.2.1 HX2.out.1 (HC.out.step HK3.out) _ _ _ rfl rfl rfl) ?_
      rintro e w2 ⟨rfl, M1, ho2, hp1, hs1, hk2⟩
      have O2 := hide ho2
      have PS := hide (And.intro hp1 hs1)
      have K2 := hide (HK3.out.trans hk2 fun _ _ h => h)
      clear ho2 hk2 hp1 hs1
      go_wp2_with fail
      go_meet
      exact ⟨M1, O2, PS, K2⟩
    · have e1 : (decide (a < s) && decide (s < mid)) = false := by
        rw [← Bool.not_eq_true, Bool.and_eq_true]; simpa using h
      rw [e1]
      go_wp2_with fail
      go_meet
      have hs := HS.out
      rcases HI1.out h with rfl | rfl
      · exact ⟨R1, HO3, ⟨List.Perm.refl _, hs.2.2.1⟩, HK3⟩
      · exact ⟨L1, HO3, ⟨by simp, hs.1⟩, HK3⟩
  case rest =>
  obtain ⟨M1, HO4, HM1, HK4⟩ := hcut
  obtain ⟨ws, hws⟩ : ∃ w2, w2 = wc := ⟨_, rfl⟩
  subst hws
  clear HO3 HK3
  have hM1 : Hid ((P ++ M1).length = mid) := by
    show _ = _
    have h1 := HM1.out.1.length_eq
    have := HLEN.out
    have := HSE.out
    have := HP.out
    rw [List.length_append] at h1
    rw [List.length_append]
    omega
  go_upto_region 43 with fail
  go_cut [213] from 206 to 213 (fun v wx => v = .bool (decide (mid < e) && decide (e < b)) ∧ ws = wx)
  case first =>
    by_cases h : mid < e
    · by_cases h' : e < b
      · go_wp2_with fail
        go_meet
        exact ⟨by simp [h, h'], rfl⟩
      · go_wp2_with fail
        go_meet
        exact ⟨by simp [h, h'], rfl⟩
    · go_wp2_with fail
      go_meet
      exact ⟨by simp [h], rfl⟩
  case rest =>
  obtain ⟨rfl, rfl⟩ := hcut
  have FIN : ∀ M2 : List UInt8, M2.Perm (L2 ++ R2) → Srt.Sorted K M2 → (M1 ++ M2).Perm (L ++ R) ∧ Srt.Sorted K (M1 ++ M2) := by
    intro M2 hp hs
    refine ⟨?_, ?_⟩
    · rw [HLR.out.1, HLR.out.2]
      exact (List.Perm.append HM1.out.1 hp).trans (Srt.perm_cross L1 L2 R1 R2)
    · refine HM1.out.2.append hs ?_
      intro x hx y hy
      exact HPART2.out x (HM1.out.1.mem_iff.1 hx) y (hp.mem_iff.1 hy)
  have HFIN := hide FIN
  clear FIN
  by_cases h : mid < e ∧ e < b
  · have e1 : decide (mid < e) = true := decide_eq_true h.1
    have e2 : decide (e < b) = true := decide_eq_true h.2
    rw [e1, e2]
    go_wp2_with fail
    refine Calls.mono (HIH.out (P ++ M1) L2 R2 S mid e b ws (by omega) (by simpa using HO4.out) hM1.out (by have := HLEN.out; have := HSE.out; omega) (by have := HLEN.out; have := HSE.out; omega) h.1 h.2 HS.out.2.1 HS.out.2.2.2 HX2.out.2 (HC.out.step HK4.out) _ _ _ rfl rfl rfl) ?_
    rintro e w2 ⟨rfl, M2, ho2, hp1, hs1, hk2⟩
    have O2 : Hid (OwnB w2 base (some ⟨g, 0, none⟩) n c (P ++ ((M1 ++ M2) ++ S))) := by show OwnB _ _ _ _ _ _; simpa using ho2
    have PS := hide (And.intro hp1 hs1)
    have K2 := hide (HK4.out.trans hk2 fun _ _ h => h)
    clear ho2 hk2 hp1 hs1
    go_wp2_with fail
    exact bodyPost_end (v := .tuple #[]) (by simp [results, go_sem]) rfl ⟨rfl, M1 ++ M2, O2.out, (HFIN.out M2 PS.out.1 PS.out.2).1, (HFIN.out M2 PS.out.1 PS.out.2).2, K2.out⟩
  · have e1 : (decide (mid < e) && decide (e < b)) = false := by
      rw [← Bool.not_eq_true, Bool.and_eq_true]; simpa using h
    rw [e1]
    have TL : ∃ M2 : List UInt8, M2 = L2 ++ R2 ∧ Srt.Sorted K M2 := by
      have hs := HS.out
      rcases HI2.out h with rfl | rfl
      · exact ⟨R2, rfl, hs.2.2.2⟩
      · exact ⟨L2, by simp, hs.2.1⟩
    obtain ⟨M2, hM2, hMs⟩ := TL
    have PS := hide (And.intro (show M2.Perm (L2 ++ R2) by rw [hM2]) hMs)
    have O2 : Hid (OwnB ws base (some ⟨g, 0, none⟩) n c (P ++ ((M1 ++ M2) ++ S))) := by show OwnB _ _ _ _ _ _; rw [hM2]; simpa using HO4.out
    clear hM2 hMs
    go_wp2_with fail
    exact bodyPost_end (v := .tuple #[]) (by simp [results, go_sem]) rfl ⟨rfl, M1 ++ M2, O2.out, (HFIN.out M2 PS.out.1 PS.out.2).1, (HFIN.out M2 PS.out.1 PS.out.2).2, HK4.out⟩
end Go.Proofs.Ytciogjnchpeaaaa
