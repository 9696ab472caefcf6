/-
  GuessFirst: the walk.
-/
import Derived.Test.YtciogjnchpeaaaaLaw19B
namespace Go.Proofs.Ytciogjnchpeaaaa
open Go.RowKit
set_option maxRecDepth 10000
set_option linter.unusedVariables false
open Prd
theorem hit_first {ls : List (List UInt8)} : ∀ k, hitB ls k = true → ∃ p, p < k ∧ hitB ls p = false ∧ (ls.getD p []).length = front ls
  | 0, h => by simp [hitB] at h
  | k + 1, h => by
    rw [hitB_succ] at h
    cases hk : hitB ls k
    · rw [hk, Bool.false_or, beq_iff_eq] at h
      exact ⟨k, by omega, hk, h⟩
    · obtain ⟨p, h1, h2, h3⟩ := hit_first k hk
      exact ⟨p, by omega, h2, h3⟩
theorem hit_all {ls : List (List UInt8)} (h0 : 0 < ls.length) : hitB ls ls.length = true := by
  obtain ⟨i, hi, e⟩ := frontK_mem ls ls.length (Nat.le_refl _) h0
  unfold hitB
  rw [List.any_eq_true]
  exact ⟨i, List.mem_range.2 hi, by rw [beq_iff_eq]; exact e.symm⟩
theorem gline_at (b : By) (past : List UInt8) (r tt : Nat) (h : past.length < tt) : (gline b past r tt).getD past.length 0 = (b.rank past).getD (r % 256) 0 := by
  rw [gline_odd b past r tt h, List.append_assoc, List.getD_eq_getElem?_getD, List.getElem?_append_right (Nat.le_refl _), Nat.sub_self]
  rfl
theorem rank_getD_inj (b : By) (past : List UInt8) {r s : Nat} (hr : r < 256) (hs : s < 256) (h : (b.rank past).getD r 0 = (b.rank past).getD s 0) : r = s := by
  have hS := b.rank_sorted past
  have hl := b.rank_len past
  rcases Nat.lt_trichotomy r s with h1 | h1 | h1
  · have := hS.idx h1 (by omega); rw [h] at this; omega
  · exact h1
  · have := hS.idx h1 (by omega); rw [h] at this; omega
theorem putAdd_all {l : List UInt8} (h : l.length ≤ 1000) : putAdd [] 0 l = l := by
  rw [putAdd, if_neg (by simp)]
  simp
  exact List.take_of_length_le h
theorem putErr_all {l : List UInt8} (h : l.length ≤ 1000) : putErr [] 0 l = 0 := by
  unfold putErr
  rw [if_neg (by omega), if_neg (by simp), if_neg (by simp; omega)]
theorem keeps_cell {S : Nat → Prop} {w w' : World} {a : Addr} {u : Value} (h : Keeps S w w') (hc : w.cell? a = some u) (hn : ¬ S a.block) : w'.cell? a = some u := (World.cell?_of_block (h.block a.block (World.block_lt_of_cell? w _ hc) hn)).trans hc
/-- The lines behind so many of the presses. -/
def lsAt (a b c : List UInt8) (p : Nat) : List (List UInt8) := if p = 0 then [[], [], []] else if p = 1 then [a, [], []] else if p = 2 then [a, b, []] else [a, b, c]
theorem last3 (past : List UInt8) (i : Nat) (hi : i < 3) : (gline ⟨1, 0, []⟩ past 0 (past.length + 3)).getD (past.length + i) 0 = endB past := by
  rw [gline_zero, g_last_chain, List.getD_eq_getElem?_getD, List.getElem?_append_right (by omega), List.getElem?_replicate, if_pos (by omega)]; rfl
theorem odd3 (past : List UInt8) (r i : Nat) (hi : i < 3) (hr : r < 256) : (gline ⟨1, 0, []⟩ past r (past.length + 3)).getD (past.length + i) 0 = (By.rank ⟨1, 0, []⟩ past).getD r 0 := by
  rw [gline_odd _ _ _ _ (by omega), g_last_chain, g_endB_snoc, Nat.mod_eq_of_lt hr, List.append_assoc, List.getD_eq_getElem?_getD, List.getElem?_append_right (by omega)]
  rw [show past.length + i - past.length = i by omega]
  rcases i with _ | i
  · rfl
  · rw [List.singleton_append, List.getElem?_cons_succ, List.getElem?_replicate, if_pos (by rw [List.length_append, List.length_singleton]; omega)]; rfl
theorem first_same (ls : List (List UInt8)) {r p0 p i : Nat} (h1 : hitB ls p0 = false) (h2 : (ls.getD p0 []).length = front ls) (hp0 : p0 < ls.length) (hp : p < ls.length) (hr1 : 1 ≤ r) (hr : r < 256) (hi : i < 3) :
    ((aheadAt ⟨1, 0, []⟩ ls 0 (front ls + 3) i).getD p 0 = (aheadAt ⟨1, 0, []⟩ ls r (front ls + 3) i).getD p 0) ↔ p ≠ p0 := by
  have e : ∀ r, (aheadAt ⟨1, 0, []⟩ ls r (front ls + 3) i).getD p 0 = (gline ⟨1, 0, []⟩ (ls.getD p []) (rankAt ls r p) (front ls + 3)).getD (front ls + i) 0 := by
    intro r
    unfold aheadAt
    rw [getD_map0 (fun x : List UInt8 => x.getD (front ls + i) 0) (fulls ⟨1, 0, []⟩ ls r (front ls + 3)) p [] 0 (by rw [fulls_len]; exact hp), fulls_getD _ _ _ _ _ hp]
  have z0 : rankAt ls 0 p = 0 := by
    unfold rankAt
    split
    · rfl
    · split <;> rfl
  rw [e, e, z0]
  by_cases hpp : p = p0
  · subst hpp
    have z1 : rankAt ls r p = r := by unfold rankAt; rw [if_neg (by rw [h1]; decide), if_pos h2]
    rw [z1, ← h2, last3 _ _ hi, odd3 _ _ _ hi hr]
    constructor
    · intro h
      exfalso
      have h3 : (By.rank ⟨1, 0, []⟩ (ls.getD p [])).getD 0 0 = (By.rank ⟨1, 0, []⟩ (ls.getD p [])).getD r 0 := by
        rw [← h]; exact g_last_first _
      have := rank_getD_inj ⟨1, 0, []⟩ _ (by omega) hr h3
      omega
    · intro h; exact absurd rfl h
  · have z1 : rankAt ls r p = 0 := by
      unfold rankAt
      split
      · rfl
      · rename_i hh
        rw [if_neg]
        intro hl
        rcases Nat.lt_trichotomy p p0 with h | h | h
        · have : hitB ls p0 = true := by
            unfold hitB
            rw [List.any_eq_true]
            exact ⟨p, List.mem_range.2 h, by rw [beq_iff_eq]; exact hl⟩
          rw [h1] at this; cases this
        · exact hpp h
        · apply hh
          unfold hitB
          rw [List.any_eq_true]
          exact ⟨p0, List.mem_range.2 h, by rw [beq_iff_eq]; exact h2⟩
    rw [z1]
    exact ⟨fun _ => hpp, fun _ => rfl⟩
theorem first_rank (ls : List (List UInt8)) {r p0 : Nat} (h1 : hitB ls p0 = false) (h2 : (ls.getD p0 []).length = front ls) (hp0 : p0 < ls.length) (hr : r < 256) :
    (aheadAt ⟨1, 0, []⟩ ls r (front ls + 3) 0).getD p0 0 = (By.rank ⟨1, 0, []⟩ (ls.getD p0 [])).getD r 0 := by
  unfold aheadAt
  rw [getD_map0 (fun x : List UInt8 => x.getD (front ls + 0) 0) (fulls ⟨1, 0, []⟩ ls r (front ls + 3)) p0 [] 0 (by rw [fulls_len]; exact hp0), fulls_getD _ _ _ _ _ hp0]
  have z1 : rankAt ls r p0 = r := by unfold rankAt; rw [if_neg (by rw [h1]; decide), if_pos h2]
  rw [z1, ← h2]
  exact odd3 _ _ _ (by omega) hr
set_option maxHeartbeats 4000000 in
set_option maxRecDepth 20000 in
theorem law_GuessFirst (A1 : Option Addr) (n1 c1 : Nat) (l1 : List UInt8) (A2 : Option Addr) (n2 c2 : Nat) (l2 : List UInt8) (A3 : Option Addr) (n3 c3 : Nat) (l3 : List UInt8) (ri : Int) (w : World) (hA1 : LiesB w w.heap.size A1 n1 l1) (hc1 : n1 ≤ c1) (hcm1 : c1 ≤ maxLen) (hA2 : LiesB w w.heap.size A2 n2 l2) (hc2 : n2 ≤ c2) (hcm2 : c2 ≤ maxLen)
    (hA3 : LiesB w w.heap.size A3 n3 l3) (hc3 : n3 ≤ c3) (hcm3 : c3 ≤ maxLen) (rl : -9223372036854775808 ≤ ri) (rh : ri ≤ 9223372036854775807) :
    Calls Try.prog 7 #[.slice A1 n1 c1, .slice A2 n2 c2, .slice A3 n3 c3, .int .i64 ri] w fun e w' => e = .returned (.bool true) ∧ Below w.heap.size w w' := by
  have HA1 := hide hA1
  have HA2 := hide hA2
  have HA3 := hide hA3
  clear hA1 hcm1 hA2 hcm2 hA3 hcm3
  go_enter Try.func7, Try.ntmps7
  go_wp2_with fail
  refine Calls.mono (begun19 w) ?_
  rintro e w1 ⟨rfl, hb1⟩
  have HB1 := hide hb1
  have hs1 := hb1.size
  clear hb1
  go_wp2_with fail
  refine Calls.mono (law_Short A1 n1 c1 6 6 w1 hc1 rfl (by omega)) ?_
  rintro e w2 ⟨rfl, rfl⟩
  obtain ⟨m1, hm1⟩ : ∃ m, m = min 6 n1 := ⟨_, rfl⟩
  rw [← hm1]
  have hm1b : m1 ≤ 6 := by omega
  have hm1c : m1 ≤ c1 := by omega
  obtain ⟨a1, ha1⟩ : ∃ a, a = l1.take 6 := ⟨_, rfl⟩
  have HP1 : Hid (LiesB w1 w.heap.size A1 m1 a1) := by
    have := (HA1.out.below HB1.out).take 6
    rwa [← hm1, ← ha1] at this
  have HL1 : Hid (a1.length = m1) := HP1.out.len
  clear hm1 ha1 HA1
  go_wp2_with fail
  refine Calls.mono (law_Short A2 n2 c2 6 6 w1 hc2 rfl (by omega)) ?_
  rintro e w2 ⟨rfl, rfl⟩
  obtain ⟨m2, hm2⟩ : ∃ m, m = min 6 n2 := ⟨_, rfl⟩
  rw [← hm2]
  have hm2b : m2 ≤ 6 := by omega
  have hm2c : m2 ≤ c2 := by omega
  obtain ⟨a2, ha2⟩ : ∃ a, a = l2.take 6 := ⟨_, rfl⟩
  have HP2 : Hid (LiesB w1 w.heap.size A2 m2 a2) := by
    have := (HA2.out.below HB1.out).take 6
    rwa [← hm2, ← ha2] at this
  have HL2 : Hid (a2.length = m2) := HP2.out.len
  clear hm2 ha2 HA2
  go_wp2_with fail
  refine Calls.mono (law_Short A3 n3 c3 6 6 w1 hc3 rfl (by omega)) ?_
  rintro e w2 ⟨rfl, rfl⟩
  obtain ⟨m3, hm3⟩ : ∃ m, m = min 6 n3 := ⟨_, rfl⟩
  rw [← hm3]
  have hm3b : m3 ≤ 6 := by omega
  have hm3c : m3 ≤ c3 := by omega
  obtain ⟨a3, ha3⟩ : ∃ a, a = l3.take 6 := ⟨_, rfl⟩
  have HP3 : Hid (LiesB w1 w.heap.size A3 m3 a3) := by
    have := (HA3.out.below HB1.out).take 6
    rwa [← hm3, ← ha3] at this
  have HL3 : Hid (a3.length = m3) := HP3.out.len
  clear hm3 ha3 HA3
  by_cases h0 : ri < 1
  · have d0 : decide (ri < 1) = true := decide_eq_true h0
    clear h0
    go_wp2_with fail
    go_ret
    exact ⟨rfl, HB1.out⟩
  have d0 : decide (ri < 1) = false := decide_eq_false h0
  by_cases h1 : ri > 255
  · have d1 : decide (ri > 255) = true := decide_eq_true h1
    clear h0 h1
    go_wp2_with fail
    go_ret
    exact ⟨rfl, HB1.out⟩
  have d1 : decide (ri > 255) = false := decide_eq_false h1
  obtain ⟨r, rfl⟩ : ∃ r : Nat, ri = (r : Int) := ⟨ri.toNat, by omega⟩
  have hr1 : 1 ≤ r := by omega
  have hr : r ≤ 255 := by omega
  clear h0 h1 rl rh
  go_wp2_with fail
  refine Calls.mono (queue_New 3 0 3 0 w1 (by decide) (by decide)) ?_
  rintro e w2 ⟨q, A, c, xs, rfl, hx, hq, hb2⟩
  have HQ := hide hq
  have HX := hide hx
  have HB12 := hide hb2
  have hs12 := hb2.size
  clear hx hq hb2
  go_upto_region 9 with fail
  generalize hw3 : World.alloc w2 _ = w3
  obtain ⟨gA, hgA⟩ : ∃ g, g = w2.heap.size := ⟨_, rfl⟩
  have T3 : Hid (Arr 23 w3 gA [.slice A1 m1 c1, .slice A2 m2 c2, .slice A3 m3 c3] ∧ QAt w1.heap.size w3 q A c xs (lsAt a1 a2 a3 0) ∧ Below w1.heap.size w1 w3) := by
    show _ ∧ _
    rw [← hw3, hgA]
    exact ⟨Arr.new 23 w2 _ _ rfl, HQ.out.below (Below_new _ _), Below_step HB12.out (Below_new _ _)⟩
  rw [← hgA]
  have hs13 : w1.heap.size ≤ w3.heap.size := T3.out.2.2.size
  clear hw3 hgA HQ HB12
  go_wp2_with fail
  go_loopg [12] 3 (fun gg s wr => ∃ (p : Nat) (ys : List (Nat × Option Nat)), p ≤ 3 ∧ gg = 3 - p ∧ s = .int .i64 (p : Int) ∧ Hid (ys.length = 3) ∧ Hid (Arr 23 wr gA [.slice A1 m1 c1, .slice A2 m2 c2, .slice A3 m3 c3]) ∧ Hid (QAt w1.heap.size wr q A c ys (lsAt a1 a2 a3 p)) ∧ Hid (Below w1.heap.size w1 wr))
  case atStart => exact ⟨0, xs, by omega, rfl, rfl, HX, T3.out.1, T3.out.2.1, T3.out.2.2⟩
  case round =>
    obtain ⟨W1, hW1⟩ : ∃ W1, W1 = wr := ⟨_, rfl⟩
    subst hW1
    obtain ⟨p, ys, hp3, rfl, rfl, HY, HAA, HQ, HB⟩ := hrel
    have hsW := HB.out.size
    by_cases hlt : p < 3
    · have hpx : Hid (p < ys.length) := by show p < _; rw [HY.out]; exact hlt
      have hy2 : Hid (ys.length ≤ 1000) := by show _ ≤ 1000; rw [HY.out]; omega
      obtain ⟨pp, hpp⟩ : ∃ pp, pp = (ys[p]'hpx.out).1 := ⟨_, rfl⟩
      have HPP := hide hpp
      obtain ⟨Ap, mp, cp, ap, hcell, hlie, hmp, hls0, hlsn⟩ : ∃ (Ap : Option Addr) (mp cp : Nat) (ap : List UInt8), W1.cell? ⟨gA, p, none⟩ = some (.slice Ap mp cp) ∧ LiesB w1 w.heap.size Ap mp ap ∧ mp ≤ 6 ∧ (lsAt a1 a2 a3 p).getD p [] = [] ∧ (lsAt a1 a2 a3 p).set p ap = lsAt a1 a2 a3 (p + 1) := by
        obtain rfl | rfl | rfl : p = 0 ∨ p = 1 ∨ p = 2 := by omega
        · exact ⟨A1, m1, c1, a1, HAA.out.cell (j := 0) (by simp), HP1.out, hm1b, rfl, rfl⟩
        · exact ⟨A2, m2, c2, a2, HAA.out.cell (j := 1) (by simp), HP2.out, hm2b, rfl, rfl⟩
        · exact ⟨A3, m3, c3, a3, HAA.out.cell (j := 2) (by simp), HP3.out, hm3b, rfl, rfl⟩
      have hLN : LineAt W1 pp (ys[p]'hpx.out).2 [] := by
        have := HQ.out.line p hpx.out
        rwa [← hpp, hls0] at this
      have hlie2 := hlie.below (HB.out.mono hs1)
      have HLN := hide hLN
      have HLI := hide hlie2
      have HLS := hide hlsn
      have hal : Hid (ap.length = mp) := hlie2.len
      have HD : Hid (∀ bk off, Ap = some ⟨bk, off, none⟩ → ap ≠ [] → ¬ lineBlocks pp (ys[p]'hpx.out).2 bk) := by
        show ∀ bk off, _
        intro bk off e1 e2 hbk
        obtain ⟨b2, o2, e3, hb2, -⟩ := hlie2.2 (by simpa using e2)
        rw [e3] at e1; injection e1 with e1; injection e1 with e1 _
        have hlb := HQ.out.lbase p hpx.out
        rcases hbk with hbk | hbk
        · rw [hpp] at hbk; omega
        · have := hlb.2 bk hbk.symm; omega
      have hpi : (p : Int) < 3 := by omega
      clear hpp hlie hls0 hlsn hLN hlie2
      go_upto_region 12 with fail
      refine wp_region_noPanic ?_
      refine wp_region_held_drew (S := (fun w' => w'.cell? ⟨gA, p, none⟩ = some (.slice Ap mp cp))) (by kernel_rfl) hcell (fun hHeld => ?_)
      refine wpAnyH_take (i := 0) (oi := ?_) (v := ?_) ?_ (by kernel_rfl) (by kernel_rfl) (by kernel_rfl) ?_ ?_ (by assumption) ?_
      rotate_left 2
      · (simp only [List.getElem?_toArray, List.getElem?_cons_zero]; rfl)
      · exact fun _ _ _ h => h
      · (refine Or.inl ⟨by rfl, ?_⟩; intro w hSw; (try dsimp only at hSw); go_simp <;> with_reducible rfl)
      try simp only [Act.put, List.setIfInBounds_toArray, List.set_cons_zero, List.set_cons_succ]
      refine wpAnyH_take (i := 1) (oi := ?_) (v := ?_) ?_ (by kernel_rfl) (by kernel_rfl) (by kernel_rfl) ?_ ?_ (by assumption) ?_
      rotate_left 2
      · (simp only [List.getElem?_toArray, List.getElem?_cons_succ, List.getElem?_cons_zero]; rfl)
      · exact fun _ _ _ h => h
      · (refine Or.inl ⟨by rfl, ?_⟩; intro w hSw; (try dsimp only at hSw); go_simp <;> with_reducible rfl)
      try simp only [Act.put, List.setIfInBounds_toArray, List.set_cons_zero, List.set_cons_succ]
      refine wpAnyH_take (i := 3) (oi := ?_) (v := ?_) ?_ (by kernel_rfl) (by kernel_rfl) (by kernel_rfl) ?_ ?_ (by assumption) ?_
      rotate_left 2
      · (simp only [List.getElem?_toArray, List.getElem?_cons_succ, List.getElem?_cons_zero]; rfl)
      · exact fun _ _ _ h => h
      · (refine Or.inl ⟨by rfl, ?_⟩; intro w hSw; (try dsimp only at hSw); go_simp <;> with_reducible rfl)
      try simp only [Act.put, List.setIfInBounds_toArray, List.set_cons_zero, List.set_cons_succ]
      refine wpAnyH_take (i := 4) (oi := ?_) (v := ?_) ?_ (by kernel_rfl) (by kernel_rfl) (by kernel_rfl) ?_ ?_ (by assumption) ?_
      rotate_left 2
      · (simp only [List.getElem?_toArray, List.getElem?_cons_succ, List.getElem?_cons_zero]; rfl)
      · exact fun _ _ _ h => h
      · (refine Or.inl ⟨by rfl, ?_⟩; intro w hSw; (try dsimp only at hSw); go_simp <;> with_reducible rfl)
      try simp only [Act.put, List.setIfInBounds_toArray, List.set_cons_zero, List.set_cons_succ]
      refine wpAnyH_take (i := 5) (oi := ?_) (v := ?_) ?_ (by kernel_rfl) (by kernel_rfl) (by kernel_rfl) ?_ ?_ (by assumption) ?_
      rotate_left 2
      · (simp only [List.getElem?_toArray, List.getElem?_cons_succ, List.getElem?_cons_zero]; rfl)
      · exact fun _ _ _ h => h
      · (refine Or.inl ⟨by rfl, ?_⟩; intro w hSw; (try dsimp only at hSw); go_simp <;> with_reducible rfl)
      try simp only [Act.put, List.setIfInBounds_toArray, List.set_cons_zero, List.set_cons_succ]
      refine wpAnyH_take (i := 6) (oi := ?_) (v := ?_) ?_ (by kernel_rfl) (by kernel_rfl) (by kernel_rfl) ?_ ?_ (by assumption) ?_
      rotate_left 2
      · (simp only [List.getElem?_toArray, List.getElem?_cons_succ, List.getElem?_cons_zero]; rfl)
      · exact fun _ _ _ h => h
      · (refine Or.inl ⟨by rfl, ?_⟩; intro w hSw; (try dsimp only at hSw); go_simp <;> with_reducible rfl)
      try simp only [Act.put, List.setIfInBounds_toArray, List.set_cons_zero, List.set_cons_succ]
      refine wpAnyH_ready (rs := [2]) (by kernel_rfl) (by simp) ?_
      refine AllReadyH.cons (o := ?_) ?_ (fun K hK => ?_) AllReadyH.nil
      rotate_left 1
      · (simp only [List.getElem?_toArray, List.getElem?_cons_succ, List.getElem?_cons_zero]; rfl)
      go_simp
      refine Calls.mono (queue_Line HQ.out.drew p hpx.out hy2.out rfl HPP.out) ?_
      rintro e w4 ⟨rfl, rfl⟩
      refine hK.out _ _ hcell (fun hHeld => ?_)
      clear hK K
      try simp only [Act.put, List.setIfInBounds_toArray, List.set_cons_zero, List.set_cons_succ]
      refine wpAnyH_ready (rs := [7]) (by kernel_rfl) (by simp) ?_
      refine AllReadyH.cons (o := ?_) ?_ (fun K hK => ?_) AllReadyH.nil
      rotate_left 1
      · (simp only [List.getElem?_toArray, List.getElem?_cons_succ, List.getElem?_cons_zero]; rfl)
      go_simp
      refine Calls.mono (line_Put_v pp _ [] 0 Ap mp cp ap ap (mp : Int) 0 _ (HLN.out.below (Below_drewN (Below.refl _ _) 1)) (HLI.out.drew.more (Nat.le_trans hs1 hsW)) HD.out (by decide) (by decide) (by omega) (putAdd_all (by rw [hal.out]; omega)) (by rw [hal.out]) (putErr_all (by rw [hal.out]; omega))) ?_
      rintro e w4 ⟨rfl, g4, k1, k2, k3⟩
      have HA4 := HAA.out.drew.keeps k2 (fun hs => HLN.out.ne_blk hs HAA.out (by decide) (by decide) rfl)
      have hc4 := keeps_cell k2 hcell (fun hs => HLN.out.ne_blk hs HAA.out (by decide) (by decide) rfl)
      refine hK.out _ _ hc4 (fun hHeld => ?_)
      clear hK K
      try simp only [Act.put, List.setIfInBounds_toArray, List.set_cons_zero, List.set_cons_succ]
      refine wpAnyH_done (by kernel_rfl) (NoPanic.normal ?_) _
      go_wp2_with fail
      go_roundg (3 - (p + 1))
      case measure => omega
      case rel =>
        refine ⟨p + 1, ys.set p ((ys[p]'hpx.out).1, g4), by omega, rfl, by go_num, ?_, HA4, ?_, ?_⟩
        · exact List.length_set.trans HY.out
        · show QAt _ _ _ _ _ _ _
          rw [← HLS.out]
          exact HQ.out.drew.put hsW p hpx.out (by rw [← HPP.out]; exact k1) (by rw [← HPP.out]; exact k2) k3
        · exact HB.out.drew.trans (k2.below hsW fun k hk hs => by
            have := HQ.out.lbase p hpx.out
            rcases hs with hs | hs
            · rw [HPP.out] at hs; omega
            · have := this.2 k hs.symm; omega)
    · obtain rfl : p = 3 := by omega
      obtain ⟨ls, hls⟩ : ∃ ls, ls = lsAt a1 a2 a3 3 := ⟨_, rfl⟩
      rw [← hls] at HQ
      have HLS := hide hls
      have hlen : ls.length = 3 := by rw [hls]; rfl
      have HLL : Hid (ls.length = 3) := hlen
      have HSH6 : Hid (∀ i, (ls.getD i []).length ≤ 6) := by
        show ∀ i, _
        intro i
        rw [hls]
        rcases i with _ | _ | _ | i
        · show a1.length ≤ 6; rw [HL1.out]; omega
        · show a2.length ≤ 6; rw [HL2.out]; omega
        · show a3.length ≤ 6; rw [HL3.out]; omega
        · show (([] : List UInt8)).length ≤ 6; simp
      have HSH : Hid (∀ i, (ls.getD i []).length ≤ 1000) := fun i => by have := HSH6.out i; omega
      have hz : Hid (0 < ys.length ∧ ys.length ≤ 1000) := by rw [HY.out]; exact ⟨by omega, by omega⟩
      obtain ⟨F, hF⟩ : ∃ F, F = front ls := ⟨_, rfl⟩
      have HF := hide hF
      have HFI : Hid ((F : Int) = (front ls : Int)) := by show _ = _; rw [hF]
      have hF1 : F ≤ 6 := by
        have := front_mem ls 0 (by rw [hlen]; omega)
        have := HSH6.out 0
        omega
      obtain ⟨p0, hp0, hh1, hh2⟩ := hit_first _ (hit_all (ls := ls) (by rw [hlen]; omega))
      rw [hlen] at hp0
      have HH := hide (And.intro hh1 hh2)
      have HLI : Hid (∀ i, i < 3 → ∃ (Ap : Option Addr) (mp cp : Nat), W1.cell? ⟨gA, i, none⟩ = some (.slice Ap mp cp) ∧ LiesB W1 w.heap.size Ap mp (ls.getD i []) ∧ mp ≤ cp) := by
        show ∀ i, _
        intro i hi
        have hb := HB.out.mono hs1
        rw [hls]
        obtain rfl | rfl | rfl : i = 0 ∨ i = 1 ∨ i = 2 := by omega
        · exact ⟨A1, m1, c1, HAA.out.cell (j := 0) (by simp), HP1.out.below hb, hm1c⟩
        · exact ⟨A2, m2, c2, HAA.out.cell (j := 1) (by simp), HP2.out.below hb, hm2c⟩
        · exact ⟨A3, m3, c3, HAA.out.cell (j := 2) (by simp), HP3.out.below hb, hm3c⟩
      have HBW : Hid (Below w.heap.size w W1) := HB1.out.trans (HB.out.mono hs1)
      have hsw := HBW.out.size
      clear hls hlen hF hh1 hh2 HB1 T3
      go_upto_region 14 with fail
      generalize hw5 : World.alloc W1 _ = w5
      obtain ⟨g5, hg5⟩ : ∃ g, g = W1.heap.size := ⟨_, rfl⟩
      have T5 : Hid (Arr 39 w5 g5 ((⟨1, 0, []⟩ : By).row (.slice none 0 0)) ∧ QAt w1.heap.size w5 q A c ys ls ∧ Below W1.heap.size W1 w5) := by
        show _ ∧ _
        rw [← hw5, hg5]
        exact ⟨Arr.new 39 W1 _ _ rfl, HQ.out.below (Below_new _ _), Below_new _ _⟩
      rw [← hg5]
      have hs15 : w1.heap.size ≤ w5.heap.size := by rw [← hw5, World.size_alloc]; omega
      have hsW5 := T5.out.2.2.size
      clear hw5 hg5 HQ
      have hwl : IntKind.i64.wrap ((F : Int) + 3) = (F : Int) + 3 := IntWalk.i64_in _ ⟨by omega, by omega⟩
      obtain ⟨LX, hLX⟩ : ∃ L, L = (List.range 3).map (aheadAt ⟨1, 0, []⟩ ls 0 (F + 3)) := ⟨_, rfl⟩
      obtain ⟨LY, hLY⟩ : ∃ L, L = (List.range 3).map (aheadAt ⟨1, 0, []⟩ ls r (F + 3)) := ⟨_, rfl⟩
      have hone : ∀ r : Nat, aheadOf ⟨1, 0, []⟩ ls (r : Int) ((F : Int) + 3) = (List.range 3).map (aheadAt ⟨1, 0, []⟩ ls r (F + 3)) := by
        intro r
        rw [aheadOf, if_pos ⟨by decide +kernel, by omega, by omega⟩, ← HF.out, Int.toNat_natCast, show ((F : Int) + 3).toNat = F + 3 by omega, Nat.add_sub_cancel_left]
      have HX1 : Hid (aheadOf ⟨1, 0, []⟩ ls 0 ((F : Int) + 3) = LX) := by show _ = _; rw [hLX]; exact hone 0
      have HY1 : Hid (aheadOf ⟨1, 0, []⟩ ls (r : Int) ((F : Int) + 3) = LY) := by show _ = _; rw [hLY]; exact hone r
      have HXL : Hid (LX.length = 3) := by show _ = _; rw [hLX]; simp
      have HYL2 : Hid (LY.length = 3) := by show _ = _; rw [hLY]; simp
      have HXI : Hid (∀ i, i < 3 → LX.getD i [] = aheadAt ⟨1, 0, []⟩ ls 0 (F + 3) i) := by
        show ∀ i, _
        intro i hi
        rw [hLX, List.getD_eq_getElem?_getD, List.getElem?_map, List.getElem?_range hi]; rfl
      have HYI : Hid (∀ i, i < 3 → LY.getD i [] = aheadAt ⟨1, 0, []⟩ ls r (F + 3) i) := by
        show ∀ i, _
        intro i hi
        rw [hLY, List.getD_eq_getElem?_getD, List.getElem?_map, List.getElem?_range hi]; rfl
      clear hone hLX hLY
      go_wp2_with fail
      refine Calls.mono (queue_Front T5.out.2.1 hz.out.1 hz.out.2 HFI.out) ?_
      rintro e w9 ⟨rfl, rfl⟩
      go_upto_region 15 with fail
      go_cut [15, 16] (fun s15 s16 wx => ∃ (B1 B2 : Option Addr) (d1 d2 : Nat) (ss1 ss2 : List Sl), s15 = .slice B1 3 d1 ∧ s16 = .slice B2 3 d2 ∧ Hid (LL w5.heap.size wx B1 3 d1 ss1 LX) ∧ Hid (LL w5.heap.size wx B2 3 d2 ss2 LY) ∧ Hid (Below w5.heap.size w5 wx))
      case first =>
        refine wp_region_noPanic ?_
        refine wp_region_held_drew (S := (fun w' => WholeY g5 ((⟨1, 0, []⟩ : By).val (.slice none 0 0)) w')) (by kernel_rfl) T5.out.1.drew.wholeY (fun hHeld => ?_)
        refine wpAnyH_take (i := 0) (oi := ?_) (v := ?_) ?_ (by kernel_rfl) (by kernel_rfl) (by kernel_rfl) ?_ ?_ (by assumption) ?_
        rotate_left 2
        · (simp only [List.getElem?_toArray, List.getElem?_cons_zero]; rfl)
        · exact fun _ _ _ h => h
        · (refine Or.inl ⟨by rfl, ?_⟩; intro w hSw; (try dsimp only at hSw); go_simp <;> with_reducible rfl)
        try simp only [Act.put, List.setIfInBounds_toArray, List.set_cons_zero, List.set_cons_succ]
        refine wpAnyH_take (i := 1) (oi := ?_) (v := (⟨1, 0, []⟩ : By).val (.slice none 0 0)) ?_ (by kernel_rfl) (by kernel_rfl) (by kernel_rfl) ?_ ?_ (by assumption) ?_
        rotate_left 1
        · (simp only [List.getElem?_toArray, List.getElem?_cons_succ, List.getElem?_cons_zero]; rfl)
        · exact fun _ _ _ h => h
        · (refine Or.inl ⟨by rfl, ?_⟩; intro w hSw; (try dsimp only at hSw); exact exec_wholeY (x := .tmp 13) hSw rfl rfl)
        try simp only [Act.put, List.setIfInBounds_toArray, List.set_cons_zero, List.set_cons_succ]
        refine wpAnyH_take (i := 2) (oi := ?_) (v := ?_) ?_ (by kernel_rfl) (by kernel_rfl) (by kernel_rfl) ?_ ?_ (by assumption) ?_
        rotate_left 2
        · (simp only [List.getElem?_toArray, List.getElem?_cons_succ, List.getElem?_cons_zero]; rfl)
        · exact fun _ _ _ h => h
        · (refine Or.inl ⟨by rfl, ?_⟩; intro w hSw; (try dsimp only at hSw); go_simp <;> with_reducible rfl)
        try simp only [Act.put, List.setIfInBounds_toArray, List.set_cons_zero, List.set_cons_succ]
        refine wpAnyH_take (i := 3) (oi := ?_) (v := ?_) ?_ (by kernel_rfl) (by kernel_rfl) (by kernel_rfl) ?_ ?_ (by assumption) ?_
        rotate_left 2
        · (simp only [List.getElem?_toArray, List.getElem?_cons_succ, List.getElem?_cons_zero]; rfl)
        · exact fun _ _ _ h => h
        · (refine Or.inl ⟨by rfl, ?_⟩; intro w hSw; (try dsimp only at hSw); go_simp <;> with_reducible rfl)
        try simp only [Act.put, List.setIfInBounds_toArray, List.set_cons_zero, List.set_cons_succ]
        refine wpAnyH_take (i := 5) (oi := ?_) (v := ?_) ?_ (by kernel_rfl) (by kernel_rfl) (by kernel_rfl) ?_ ?_ (by assumption) ?_
        rotate_left 2
        · (simp only [List.getElem?_toArray, List.getElem?_cons_succ, List.getElem?_cons_zero]; rfl)
        · exact fun _ _ _ h => h
        · (refine Or.inl ⟨by rfl, ?_⟩; intro w hSw; (try dsimp only at hSw); go_simp <;> with_reducible rfl)
        try simp only [Act.put, List.setIfInBounds_toArray, List.set_cons_zero, List.set_cons_succ]
        refine wpAnyH_take (i := 6) (oi := ?_) (v := (⟨1, 0, []⟩ : By).val (.slice none 0 0)) ?_ (by kernel_rfl) (by kernel_rfl) (by kernel_rfl) ?_ ?_ (by assumption) ?_
        rotate_left 1
        · (simp only [List.getElem?_toArray, List.getElem?_cons_succ, List.getElem?_cons_zero]; rfl)
        · exact fun _ _ _ h => h
        · (refine Or.inl ⟨by rfl, ?_⟩; intro w hSw; (try dsimp only at hSw); exact exec_wholeY (x := .tmp 13) hSw rfl rfl)
        try simp only [Act.put, List.setIfInBounds_toArray, List.set_cons_zero, List.set_cons_succ]
        refine wpAnyH_take (i := 7) (oi := ?_) (v := ?_) ?_ (by kernel_rfl) (by kernel_rfl) (by kernel_rfl) ?_ ?_ (by assumption) ?_
        rotate_left 2
        · (simp only [List.getElem?_toArray, List.getElem?_cons_succ, List.getElem?_cons_zero]; rfl)
        · exact fun _ _ _ h => h
        · (refine Or.inl ⟨by rfl, ?_⟩; intro w hSw; (try dsimp only at hSw); go_simp <;> with_reducible rfl)
        try simp only [Act.put, List.setIfInBounds_toArray, List.set_cons_zero, List.set_cons_succ]
        refine wpAnyH_take (i := 8) (oi := ?_) (v := ?_) ?_ (by kernel_rfl) (by kernel_rfl) (by kernel_rfl) ?_ ?_ (by assumption) ?_
        rotate_left 2
        · (simp only [List.getElem?_toArray, List.getElem?_cons_succ, List.getElem?_cons_zero]; rfl)
        · exact fun _ _ _ h => h
        · (refine Or.inl ⟨by rfl, ?_⟩; intro w hSw; (try dsimp only at hSw); go_simp <;> with_reducible rfl)
        try simp only [Act.put, List.setIfInBounds_toArray, List.set_cons_zero, List.set_cons_succ]
        refine wpAnyH_take (i := 9) (oi := ?_) (v := ?_) ?_ (by kernel_rfl) (by kernel_rfl) (by kernel_rfl) ?_ ?_ (by assumption) ?_
        rotate_left 2
        · (simp only [List.getElem?_toArray, List.getElem?_cons_succ, List.getElem?_cons_zero]; rfl)
        · exact fun _ _ _ h => h
        · (refine Or.inl ⟨by rfl, ?_⟩; intro w hSw; (try dsimp only at hSw); go_simp <;> with_reducible rfl)
        try simp only [Act.put, List.setIfInBounds_toArray, List.set_cons_zero, List.set_cons_succ]
        refine wpAnyH_ready (rs := [4]) (by kernel_rfl) (by simp) ?_
        refine AllReadyH.cons (o := ?_) ?_ (fun K hK => ?_) AllReadyH.nil
        rotate_left 1
        · (simp only [List.getElem?_toArray, List.getElem?_cons_succ, List.getElem?_cons_zero]; rfl)
        go_simp
        refine Calls.mono (guess_Ahead T5.out.2.1.drew hs15 hz.out.1 hz.out.2 HSH.out ⟨1, 0, []⟩ none 0 0 (LiesB.nil _ _ _) 0 ((F : Int) + 3) (by omega) (by omega) (by omega) (by omega)) ?_
        rintro e w8 ⟨A8, n8, c8, ss8, rfl, l8, hb8⟩
        rw [HX1.out] at l8
        obtain rfl : n8 = 3 := by rw [← l8.len]; exact HXL.out
        have HA8 := T5.out.1.drew.belowN hb8
        have HQ8 := T5.out.2.1.drew.below hb8
        have hs8 := hb8.size
        refine hK.out _ _ HA8.wholeY (fun hHeld => ?_)
        clear hK K
        try simp only [Act.put, List.setIfInBounds_toArray, List.set_cons_zero, List.set_cons_succ]
        refine wpAnyH_ready (rs := [10]) (by kernel_rfl) (by simp) ?_
        refine AllReadyH.cons (o := ?_) ?_ (fun K hK => ?_) AllReadyH.nil
        rotate_left 1
        · (simp only [List.getElem?_toArray, List.getElem?_cons_succ, List.getElem?_cons_zero]; rfl)
        go_simp
        refine Calls.mono (guess_Ahead HQ8 (Nat.le_trans hs15 hs8) hz.out.1 hz.out.2 HSH.out ⟨1, 0, []⟩ none 0 0 (LiesB.nil _ _ _) (r : Int) ((F : Int) + 3) (by omega) (by omega) (by omega) (by omega)) ?_
        rintro e w9 ⟨A9, n9, c9, ss9, rfl, l9, hb9⟩
        rw [HY1.out] at l9
        obtain rfl : n9 = 3 := by rw [← l9.len]; exact HYL2.out
        have HA9 := HA8.belowN hb9
        refine hK.out _ _ HA9.wholeY (fun hHeld => ?_)
        clear hK K
        try simp only [Act.put, List.setIfInBounds_toArray, List.set_cons_zero, List.set_cons_succ]
        refine wpAnyH_take (i := 11) (oi := ?_) (v := ?_) ?_ (by kernel_rfl) (by kernel_rfl) (by kernel_rfl) ?_ ?_ (by assumption) ?_
        rotate_left 2
        · (simp only [List.getElem?_toArray, List.getElem?_cons_succ, List.getElem?_cons_zero]; rfl)
        · exact fun _ _ _ h => h
        · (refine Or.inl ⟨by rfl, ?_⟩; intro w hSw; (try dsimp only at hSw); go_simp <;> with_reducible rfl)
        try simp only [Act.put, List.setIfInBounds_toArray, List.set_cons_zero, List.set_cons_succ]
        refine wpAnyH_take (i := 12) (oi := ?_) (v := ?_) ?_ (by kernel_rfl) (by kernel_rfl) (by kernel_rfl) ?_ ?_ (by assumption) ?_
        rotate_left 2
        · (simp only [List.getElem?_toArray, List.getElem?_cons_succ, List.getElem?_cons_zero]; rfl)
        · exact fun _ _ _ h => h
        · (refine Or.inl ⟨by rfl, ?_⟩; intro w hSw; (try dsimp only at hSw); go_simp <;> with_reducible rfl)
        try simp only [Act.put, List.setIfInBounds_toArray, List.set_cons_zero, List.set_cons_succ]
        refine wpAnyH_done (by kernel_rfl) (NoPanic.normal ?_) _
        go_wp2_with fail
        go_meet
        exact ⟨A8, A9, c8, c9, ss8, ss9, rfl, rfl, l8.below hb9, l9.base_le hs8, Below_step (⟨hb8.os, hb8.tape, hb8.output, hb8.size, hb8.block⟩ : Below w5.heap.size w5 w8) hb9⟩
      case rest =>
      obtain ⟨B1, B2, e1, e2, ss1, ss2, rfl, rfl, HXX, HYY, HBX⟩ := hcut
      obtain ⟨W2, hW2⟩ : ∃ W2, W2 = wc := ⟨_, rfl⟩
      subst hW2
      have HB12 : Hid (Below W1.heap.size W1 W2) := T5.out.2.2.trans (HBX.out.mono hsW5)
      have HA2 : Hid (∀ i, i < 3 → ∃ (Ap : Option Addr) (mp cp : Nat), W2.cell? ⟨gA, i, none⟩ = some (.slice Ap mp cp) ∧ LiesB W2 w.heap.size Ap mp (ls.getD i []) ∧ mp ≤ cp) := by
        show ∀ i, _
        intro i hi
        obtain ⟨Ap, mp, cp, q1, q2, q3⟩ := HLI.out i hi
        exact ⟨Ap, mp, cp, below_some' HB12.out q1, q2.below (HB12.out.mono hsw), q3⟩
      have HBY := hide (T5.out.1.belowN HBX.out)
      have HBF := hide (HBW.out.trans (HB12.out.mono hsw))
      clear HLI HP1 HP2 HP3 HAA
      go_wp2_with fail
      go_loopg [17] p0 (fun gg s wr => ∃ i : Nat, i ≤ p0 ∧ gg = p0 - i ∧ s = .int .i64 (i : Int) ∧ W2 = wr)
      case atStart => exact ⟨0, by omega, rfl, rfl, rfl⟩
      case round =>
        obtain ⟨i, hi0, rfl, rfl, rfl⟩ := hrel
        obtain ⟨Ai, mi, ci, hci, hli, -⟩ := HA2.out i (by omega)
        have hmi := hli.len
        have hi3 : (i : Int) < 3 := by omega
        have dge : decide ((i : Int) ≥ 3) = false := decide_eq_false (by omega)
        have dge2 : decide (3 ≤ i) = false := decide_eq_false (by omega)
        by_cases hip : i < p0
        · have hne : ¬ mi = F := by
            intro e
            have : hitB ls p0 = true := by
              unfold hitB
              rw [List.any_eq_true]
              exact ⟨i, List.mem_range.2 hip, by rw [beq_iff_eq, hmi, e, HF.out]⟩
            rw [HH.out.1] at this; cases this
          have dne : ((mi : Int) != (F : Int)) = true := by rw [bne_iff_ne]; omega
          clear hmi hli hne
          go_wp2_with fail
          go_roundg (p0 - (i + 1))
          case measure => omega
          case rel => exact ⟨i + 1, by omega, rfl, by go_num, rfl⟩
        · obtain rfl : i = p0 := by omega
          have heq : mi = F := by rw [← hmi, HH.out.2, HF.out]
          have dne : ((mi : Int) != (F : Int)) = false := by rw [heq]; simp
          have h33 : ((3 : Int) != 3) = false := by decide
          clear hmi hli heq
          go_wp2_with fail
          go_loopg [18, 19, 20] 3 (fun gg s18 s19 s20 wr => ∃ k nd : Nat, k ≤ 3 ∧ gg = 3 - k ∧ s18 = .int .i64 (k : Int) ∧ wr = W2.drewN nd)
          case atStart => exact ⟨0, 0, by omega, rfl, rfl, rfl⟩
          case round =>
            obtain ⟨k, nd, hk3, rfl, rfl, rfl⟩ := hrel
            by_cases hlt : k < 3
            · obtain ⟨g7, a7, k7, c7, rfl, hc7, hl7⟩ := HXX.out.cell hlt
              obtain ⟨g8, a8, k8, c8, rfl, hc8, hl8⟩ := HYY.out.cell hlt
              rw [HXI.out k hlt] at hl7
              rw [HYI.out k hlt] at hl8
              obtain rfl : k7 = 3 := by rw [← hl7.len, aheadAt, List.length_map, fulls_len, HLL.out]
              obtain rfl : k8 = 3 := by rw [← hl8.len, aheadAt, List.length_map, fulls_len, HLL.out]
              have HL7 := hide hl7
              have HL8 := hide hl8
              have hkI : (k : Int) < 3 := by omega
              clear hl7 hl8
              go_wp2_with fail
              go_loopg [19, 20] 3 (fun gg s19 s20 wr => ∃ p nd : Nat, p ≤ 3 ∧ gg = 3 - p ∧ s19 = .int .i64 (p : Int) ∧ wr = W2.drewN nd)
              case atStart => exact ⟨0, nd, by omega, rfl, rfl, rfl⟩
              case round =>
                obtain ⟨p, nd, hp3, rfl, rfl, rfl⟩ := hrel
                by_cases hlt2 : p < 3
                · obtain ⟨b8, o8, hl8, rfl, -, hx8⟩ := HL7.out.at_ hlt2
                  obtain ⟨b9, o9, hl9, rfl, -, hx9⟩ := HL8.out.at_ hlt2
                  obtain ⟨x, hx⟩ : ∃ x, x = (aheadAt ⟨1, 0, []⟩ ls 0 (F + 3) k)[p] := ⟨_, rfl⟩
                  obtain ⟨y, hy⟩ : ∃ y, y = (aheadAt ⟨1, 0, []⟩ ls r (F + 3) k)[p] := ⟨_, rfl⟩
                  rw [← hx] at hx8
                  rw [← hy] at hx9
                  have hpI : (p : Int) < 3 := by omega
                  obtain ⟨z, hz1⟩ : ∃ z : Bool, z = decide (p ≠ i) := ⟨_, rfl⟩
                  have hsame := first_same ls (r := r) (p0 := i) (p := p) (i := k) HH.out.1 HH.out.2 (by rw [HLL.out]; omega) (by rw [HLL.out]; omega) hr1 (by omega) hlt
                  rw [← HF.out, ← getE _ _ hl8, ← getE _ _ hl9, ← hx, ← hy] at hsame
                  have hxy : ((x.toNat : Int) == (y.toNat : Int)) = z := by
                    rw [hz1, Bool.eq_iff_iff, beq_iff_eq, decide_eq_true_iff, ← hsame]
                    constructor
                    · intro h; exact UInt8.toNat_inj.1 (by omega)
                    · intro h; rw [h]
                  have hpi : ((p : Int) != (i : Int)) = z := by
                    rw [hz1, Bool.eq_iff_iff, bne_iff_ne, decide_eq_true_iff]
                    constructor
                    · intro h e; exact h (by rw [e])
                    · intro h e; exact h (by omega)
                  have hzz : (z != z) = false := by simp
                  clear hx hy hz1 hsame hl8 hl9
                  go_wp2_with fail
                  go_quiet (fail)
                  go_wp2_with fail
                  go_roundg (3 - (p + 1))
                  case measure => omega
                  case rel => exact ⟨p + 1, _, by omega, rfl, by go_num, rfl⟩
                · obtain rfl : p = 3 := by omega
                  go_wp2_with fail
                  go_roundg (3 - (k + 1))
                  case measure => omega
                  case rel => exact ⟨k + 1, _, by omega, rfl, by go_num, rfl⟩
            · obtain rfl : k = 3 := by omega
              go_upto_region 32 with fail
              generalize hw6 : World.drewN W2 nd = w6
              obtain ⟨Ai, mi, ci, hci2, hli, hmic⟩ := HA2.out i (by omega)
              have T6 : Hid (Arr 39 w6 g5 ((⟨1, 0, []⟩ : By).row (.slice none 0 0)) ∧ w6.cell? ⟨gA, i, none⟩ = some (.slice Ai mi ci) ∧ LiesB w6 w.heap.size Ai mi (ls.getD i []) ∧ LL w5.heap.size w6 B2 3 e2 ss2 LY ∧ Below w.heap.size w w6) := by
                show _ ∧ _
                rw [← hw6]
                exact ⟨HBY.out.drewN nd, hci2, hli.drewN nd, HYY.out.drewN nd, Below_drewN HBF.out nd⟩
              have hmi6 : mi ≤ 6 := by have := HSH6.out i; have := hli.len; omega
              have hs6 := T6.out.2.2.2.2.size
              obtain ⟨past, hpast⟩ : ∃ p, p = ls.getD i [] := ⟨_, rfl⟩
              rw [← hpast] at T6
              have HPA := hide hpast
              clear hw6 hci2 hli hci hpast
              refine wp_region_noPanic ?_
              refine wp_region_held_drew (S := (fun w' => WholeY g5 ((⟨1, 0, []⟩ : By).val (.slice none 0 0)) w' ∧ w'.cell? ⟨gA, i, none⟩ = some (.slice Ai mi ci))) (by kernel_rfl) ⟨T6.out.1.drew.wholeY, T6.out.2.1⟩ (fun hHeld => ?_)
              refine wpAnyH_take (i := 0) (oi := ?_) (v := (⟨1, 0, []⟩ : By).val (.slice none 0 0)) ?_ (by kernel_rfl) (by kernel_rfl) (by kernel_rfl) ?_ ?_ (by assumption) ?_
              rotate_left 1
              · (simp only [List.getElem?_toArray, List.getElem?_cons_zero]; rfl)
              · exact fun _ _ _ h => h
              · (refine Or.inl ⟨by rfl, ?_⟩; intro w hSw; (try dsimp only at hSw); exact exec_wholeY (x := .tmp 13) hSw.1 rfl rfl)
              try simp only [Act.put, List.setIfInBounds_toArray, List.set_cons_zero, List.set_cons_succ]
              refine wpAnyH_take (i := 1) (oi := ?_) (v := ?_) ?_ (by kernel_rfl) (by kernel_rfl) (by kernel_rfl) ?_ ?_ (by assumption) ?_
              rotate_left 2
              · (simp only [List.getElem?_toArray, List.getElem?_cons_succ, List.getElem?_cons_zero]; rfl)
              · exact fun _ _ _ h => h
              · (refine Or.inl ⟨by rfl, ?_⟩; intro w hSw; (try dsimp only at hSw); go_simp <;> with_reducible rfl)
              try simp only [Act.put, List.setIfInBounds_toArray, List.set_cons_zero, List.set_cons_succ]
              refine wpAnyH_take (i := 2) (oi := ?_) (v := ?_) ?_ (by kernel_rfl) (by kernel_rfl) (by kernel_rfl) ?_ ?_ (by assumption) ?_
              rotate_left 2
              · (simp only [List.getElem?_toArray, List.getElem?_cons_succ, List.getElem?_cons_zero]; rfl)
              · exact fun _ _ _ h => h
              · (refine Or.inl ⟨by rfl, ?_⟩; intro w hSw; (try dsimp only at hSw); go_simp <;> with_reducible rfl)
              try simp only [Act.put, List.setIfInBounds_toArray, List.set_cons_zero, List.set_cons_succ]
              refine wpAnyH_take (i := 3) (oi := ?_) (v := ?_) ?_ (by kernel_rfl) (by kernel_rfl) (by kernel_rfl) ?_ ?_ (by assumption) ?_
              rotate_left 2
              · (simp only [List.getElem?_toArray, List.getElem?_cons_succ, List.getElem?_cons_zero]; rfl)
              · exact fun _ _ _ h => h
              · (refine Or.inl ⟨by rfl, ?_⟩; intro w hSw; (try dsimp only at hSw); go_simp <;> with_reducible rfl)
              try simp only [Act.put, List.setIfInBounds_toArray, List.set_cons_zero, List.set_cons_succ]
              refine wpAnyH_take (i := 4) (oi := ?_) (v := ?_) ?_ (by kernel_rfl) (by kernel_rfl) (by kernel_rfl) ?_ ?_ (by assumption) ?_
              rotate_left 2
              · (simp only [List.getElem?_toArray, List.getElem?_cons_succ, List.getElem?_cons_zero]; rfl)
              · exact fun _ _ _ h => h
              · (refine Or.inl ⟨by rfl, ?_⟩; intro w hSw; (try dsimp only at hSw); go_simp <;> with_reducible rfl)
              try simp only [Act.put, List.setIfInBounds_toArray, List.set_cons_zero, List.set_cons_succ]
              refine wpAnyH_ready (rs := [5]) (by kernel_rfl) (by simp) ?_
              refine AllReadyH.cons (o := ?_) ?_ (fun K hK => ?_) AllReadyH.nil
              rotate_left 1
              · (simp only [List.getElem?_toArray, List.getElem?_cons_succ, List.getElem?_cons_zero]; rfl)
              go_simp
              refine Calls.mono (pred_Rank ⟨1, 0, []⟩ none 0 0 Ai mi ci w.heap.size past 256 _ T6.out.2.2.1.drew (LiesB.nil _ _ _) hs6 hmic (by omega)) ?_
              rintro e w7 ⟨A7, n7, c7, rfl, l7, k7, hb7⟩
              rw [if_pos (by decide +kernel), show (min (max (256 : Int) 0) 256).toNat = 256 by decide, List.take_of_length_le (Nat.le_of_eq (By.rank_len _ _))] at l7
              obtain rfl : n7 = 256 := by have := l7.len; rw [By.rank_len] at this; omega
              have HY7 := T6.out.1.drew.belowN hb7
              have HLY := hide (T6.out.2.2.2.1.below (⟨hb7.os, hb7.tape, hb7.output, hb7.size, hb7.block⟩ : Below w6.heap.size w6 w7))
              have HB7 := hide (Below_step T6.out.2.2.2.2 (⟨hb7.os, hb7.tape, hb7.output, hb7.size, hb7.block⟩ : Below w6.heap.size w6 w7))
              refine hK.out _ _ ⟨HY7.wholeY, below_some' hb7 T6.out.2.1⟩ (fun hHeld => ?_)
              clear hK K
              try simp only [Act.put, List.setIfInBounds_toArray, List.set_cons_zero, List.set_cons_succ]
              refine wpAnyH_take (i := 6) (oi := ?_) (v := ?_) ?_ (by kernel_rfl) (by kernel_rfl) (by kernel_rfl) ?_ ?_ (by assumption) ?_
              rotate_left 2
              · (simp only [List.getElem?_toArray, List.getElem?_cons_succ, List.getElem?_cons_zero]; rfl)
              · exact fun _ _ _ h => h
              · (refine Or.inl ⟨by rfl, ?_⟩; intro w hSw; (try dsimp only at hSw); go_simp <;> with_reducible rfl)
              try simp only [Act.put, List.setIfInBounds_toArray, List.set_cons_zero, List.set_cons_succ]
              refine wpAnyH_done (by kernel_rfl) (NoPanic.normal ?_) _
              obtain ⟨b1, o1, hl1, rfl, -, hx1⟩ := l7.at_ (show r < 256 by omega)
              obtain ⟨g8, a8, k8, c8, rfl, hc8, hl8⟩ := HLY.out.cell (show 0 < 3 by omega)
              rw [HYI.out 0 (by omega)] at hl8
              obtain rfl : k8 = 3 := by rw [← hl8.len, aheadAt, List.length_map, fulls_len, HLL.out]
              obtain ⟨b9, o9, hl9, rfl, -, hx9⟩ := hl8.at_ (show i < 3 by omega)
              obtain ⟨x, hx⟩ : ∃ x, x = (By.rank ⟨1, 0, []⟩ past)[r] := ⟨_, rfl⟩
              have hfr := first_rank ls (r := r) (p0 := i) HH.out.1 HH.out.2 (by rw [HLL.out]; omega) (by omega)
              rw [← HF.out, ← getE _ _ hl9, ← HPA.out, ← getE _ _ hl1, ← hx] at hfr
              rw [← hx] at hx1
              rw [hfr] at hx9
              have hxx : ((x.toNat : Int) == (x.toNat : Int)) = true := by simp
              have hrI : (r : Int) < 256 := by omega
              have dr : decide ((256 : Int) > (r : Int)) = true := decide_eq_true (by omega)
              have dr2 : decide (r < 256) = true := decide_eq_true (by omega)
              clear hx hfr hl1 hl9 hl8 l7 k7 hb7
              go_wp2_with fail
              go_quiet (fail)
              go_wp2_with fail
              go_ret
              exact ⟨rfl, Below_drewN HB7.out _⟩
end Go.Proofs.Ytciogjnchpeaaaa
