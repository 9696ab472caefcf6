/-
  PredictRound: the walk.
-/
import Derived.Test.YtbeeddpbkniijaaLaw18
import Derived.Test.YtbeeddpbkniijaaPredChain
import Derived.Deep.QuietTactic
import Derived.BigQuiet
namespace Go.Proofs.Ytbeeddpbkniijaa
open Go.RowKit
set_option linter.unusedVariables false
open Prd
/-- Who goes round and round. -/
def Rnd (word past : List UInt8) (M : Nat) : Prop := past.length = M ∧ ∀ j, j < M → past.getD j 0 = word.getD (j % word.length) 0
theorem hit_one {past : List UInt8} {j : Nat} (h1 : 1 ≤ j) (h2 : j ≤ past.length) : hit 1 past j = (past.getD (j - 1) 0 == endB past) := by
  have e1 : (past.drop (j - 1)).take 1 = [past.getD (j - 1) 0] := by
    have hl : j - 1 < past.length := by omega
    rw [List.drop_eq_getElem_cons hl, List.getD_eq_getElem?_getD, List.getElem?_eq_getElem hl]; rfl
  have e2 : past.drop (past.length - 1) = [endB past] := by
    have hl : past.length - 1 < past.length := by omega
    rw [List.drop_eq_getElem_cons hl]
    unfold endB
    rw [List.getD_eq_getElem?_getD, List.getElem?_eq_getElem hl, List.drop_eq_nil_of_le (by omega)]; rfl
  unfold hit
  rw [e1, e2]
  rw [Bool.eq_iff_iff, beq_iff_eq, beq_iff_eq]
  simp
theorem Rnd.first {word past : List UInt8} {M : Nat} (h : Rnd word past M) (hL : 0 < word.length) (hM : 2 * word.length ≤ M) (hd : ∀ i, i < word.length → ∀ j, j < i → word.getD i 0 ≠ word.getD j 0) :
    By.first ⟨2, 1, []⟩ past = word.getD (M % word.length) 0 := by
  obtain ⟨hl, hg⟩ := h
  obtain ⟨L, hLL⟩ : ∃ L, L = word.length := ⟨_, rfl⟩
  rw [← hLL] at hL hM hg hd ⊢
  have hinj : ∀ i j, i < L → j < L → word.getD i 0 = word.getD j 0 → i = j := by
    intro i j hi hj e
    rcases Nat.lt_trichotomy i j with h | h | h
    · exact absurd e.symm (hd j hj i h)
    · exact h
    · exact absurd e (hd i hi j h)
  have hE : endB past = word.getD ((M - 1) % L) 0 := by
    unfold endB
    rw [hl]; exact hg _ (by omega)
  have hhit : ∀ j, 1 ≤ j → j < M → hit 1 past j = true → past.getD j 0 = word.getD (M % L) 0 := by
    intro j h1 h2 hh
    rw [hit_one h1 (by omega), beq_iff_eq, hE, hg _ (by omega)] at hh
    have := hinj _ _ (Nat.mod_lt _ hL) (Nat.mod_lt _ hL) hh
    rw [hg j h2]
    congr 1
    have e1 : j % L = ((j - 1) % L + 1) % L := by rw [Nat.mod_add_mod]; congr 1; omega
    have e2 : M % L = ((M - 1) % L + 1) % L := by rw [Nat.mod_add_mod]; congr 1; omega
    rw [e1, e2, this]
  have hw : ∀ x, x ≠ word.getD (M % L) 0 → By.wgt ⟨2, 1, []⟩ past x = 0 := by
    intro x hx
    unfold By.wgt
    rw [if_pos ⟨rfl, by show 1 ≤ _; omega⟩]
    have key : ∀ k, k ≤ M → cnt 1 past k x = 0 := by
      intro k
      induction k with
      | zero => intro _; rfl
      | succ k ih =>
        intro hk
        rw [cnt_succ, ih (by omega), if_neg]
        rintro ⟨h1, h2, h3⟩
        exact hx (h3.symm.trans (hhit k h1 (by omega) h2))
    rw [hl]; exact key M (Nat.le_refl _)
  have hpos : 0 < By.wgt ⟨2, 1, []⟩ past (word.getD (M % L) 0) := by
    unfold By.wgt
    rw [if_pos ⟨rfl, by show 1 ≤ _; omega⟩, hl]
    have key : ∀ k, M - L < k → k ≤ M → 0 < cnt 1 past k (word.getD (M % L) 0) := by
      intro k
      induction k with
      | zero => intro h; omega
      | succ k ih =>
        intro h1 h2
        show 0 < cnt (Int.toNat 1) past (k + 1) _
        rw [cnt_succ]
        by_cases he : k = M - L
        · rw [if_pos]
          · omega
          · subst he
            refine ⟨by show 1 ≤ _; omega, ?_, ?_⟩
            · show hit 1 past (M - L) = true
              rw [hit_one (by omega) (by omega), beq_iff_eq, hE, hg _ (by omega)]
              congr 1
              rw [show M - 1 = (M - L - 1) + L by omega, Nat.add_mod_right]
            · rw [hg _ (by omega)]
              congr 1
              conv => rhs; rw [show M = (M - L) + L by omega, Nat.add_mod_right]
        · have := ih (by omega) (by omega)
          show 0 < cnt 1 past k _ + _
          omega
    exact key M (by omega) (Nat.le_refl _)
  refine (By.first_best (b := ⟨2, 1, []⟩) (by decide) ?_ ?_).symm
  · intro x
    by_cases hx : x = word.getD (M % L) 0
    · rw [hx]; exact Nat.le_refl _
    · rw [hw x hx]; exact Nat.zero_le _
  · by_cases he : word.getD (M % L) 0 = endB past
    · exact .inl he
    · refine .inr ⟨by rw [hw _ (Ne.symm he)]; exact hpos, fun u hu => ?_⟩
      rw [hw u (fun e => by rw [e] at hu; omega)]
      exact hpos
theorem Rnd.chain {word past : List UInt8} {M : Nat} (h : Rnd word past M) (hL : 0 < word.length) (hM : 2 * word.length ≤ M) (hd : ∀ i, i < word.length → ∀ j, j < i → word.getD i 0 ≠ word.getD j 0) :
    ∀ n, Rnd word (past ++ By.chain ⟨2, 1, []⟩ n past) (M + n)
  | 0 => by simpa [By.chain] using h
  | n + 1 => by
    have ih := Rnd.chain h hL hM hd n
    have hf := ih.first hL (by omega) hd
    rw [By.chain_succ, hf]
    obtain ⟨i1, i2⟩ := ih
    refine ⟨by rw [← List.append_assoc, List.length_append, i1]; rfl, fun j hj => ?_⟩
    rw [← List.append_assoc, List.getD_eq_getElem?_getD]
    by_cases he : j < M + n
    · rw [List.getElem?_append_left (by omega), ← List.getD_eq_getElem?_getD]
      exact i2 j he
    · obtain rfl : j = M + n := by omega
      rw [List.getElem?_append_right (by omega), i1, Nat.sub_self]; rfl
theorem Rnd.getD {word past : List UInt8} {M : Nat} (h : Rnd word past M) (hL : 0 < word.length) (hM : 2 * word.length ≤ M) (hd : ∀ i, i < word.length → ∀ j, j < i → word.getD i 0 ≠ word.getD j 0) {n i : Nat} (hi : i < n) (h0 : M % word.length = 0) :
    (By.chain ⟨2, 1, []⟩ n past).getD i 0 = word.getD (i % word.length) 0 := by
  obtain ⟨h1, h2⟩ := h.chain hL hM hd n
  have := h2 (M + i) (by omega)
  rw [List.getD_eq_getElem?_getD, List.getElem?_append_right (by rw [h.1]; omega), h.1, show M + i - M = i by omega, ← List.getD_eq_getElem?_getD] at this
  rw [this]
  congr 1
  rw [← Nat.mod_add_mod, h0, Nat.zero_add]
theorem Rnd.times (word : List UInt8) (hL : 0 < word.length) : ∀ t, Rnd word (List.replicate t word).flatten (t * word.length)
  | 0 => ⟨by simp, fun j hj => by simp at hj⟩
  | t + 1 => by
    obtain ⟨h1, h2⟩ := Rnd.times word hL t
    refine ⟨by simp, fun j hj => ?_⟩
    rw [show List.replicate (t + 1) word = word :: List.replicate t word from rfl, List.flatten_cons, List.getD_eq_getElem?_getD]
    by_cases hlt : j < word.length
    · rw [List.getElem?_append_left hlt, Nat.mod_eq_of_lt hlt, List.getD_eq_getElem?_getD]
    · rw [List.getElem?_append_right (by omega), ← List.getD_eq_getElem?_getD, h2 (j - word.length) (by rw [Nat.succ_mul] at hj; omega)]
      congr 1
      conv => rhs; rw [show j = (j - word.length) + word.length by omega, Nat.add_mod_right]
def Rows_ok (word : List UInt8) (m : Nat) : Prop := ∀ i, i < m → ∀ j, j < i → word.getD i 0 ≠ word.getD j 0
set_option maxHeartbeats 4000000 in
set_option maxRecDepth 10000 in
theorem law_PredictRound (A : Option Addr) (n c : Nat) (l : List UInt8) (ti ni : Int) (w : World) (hA : LiesB w w.heap.size A n l) (hc : n ≤ c) (hcm : c ≤ maxLen) (tlo : -9223372036854775808 ≤ ti) (thi : ti ≤ 9223372036854775807) (lo : -9223372036854775808 ≤ ni) (hi : ni ≤ 9223372036854775807) :
    Calls Try.prog 7 #[.slice A n c, .int .i64 ti, .int .i64 ni] w fun e w' => e = .returned (.bool true) ∧ Below w.heap.size w w' := by
  have HA := hide hA
  clear hA hcm
  go_enter Try.func7, Try.ntmps7
  go_wp2_with fail
  refine Calls.mono (begun18 w) ?_
  rintro e w1 ⟨rfl, hb1⟩
  have HB1 := hide hb1
  clear hb1
  go_wp2_with fail
  refine Calls.mono (law_Short A n c 6 6 w1 hc rfl (by omega)) ?_
  rintro e w2 ⟨rfl, rfl⟩
  obtain ⟨m, hm⟩ : ∃ m, m = min 6 n := ⟨_, rfl⟩
  rw [← hm]
  have hm6 : m ≤ 6 := by omega
  have hmc : m ≤ c := by omega
  have hbs := HB1.out.size
  have HP : Hid (LiesB w1 w.heap.size A m (l.take 6)) := by
    have := (HA.out.below HB1.out).take 6
    rwa [← hm] at this
  obtain ⟨word, hp⟩ : ∃ p, p = l.take 6 := ⟨_, rfl⟩
  rw [← hp] at HP
  clear hm hp HA
  by_cases hz : m = 0
  · subst hz
    go_wp2_with fail
    go_ret
    exact ⟨rfl, HB1.out⟩
  have dz : ((m : Int) == 0) = false := by simpa using hz
  by_cases h0 : ti < 2
  · have d0 : decide (ti < 2) = true := decide_eq_true h0
    clear h0
    go_wp2_with fail
    go_ret
    exact ⟨rfl, HB1.out⟩
  have d0 : decide (ti < 2) = false := decide_eq_false h0
  by_cases h1 : ti > 8
  · have d1 : decide (ti > 8) = true := decide_eq_true h1
    clear h0 h1
    go_wp2_with fail
    go_ret
    exact ⟨rfl, HB1.out⟩
  have d1 : decide (ti > 8) = false := decide_eq_false h1
  by_cases h2 : ni < 0
  · have d2 : decide (ni < 0) = true := decide_eq_true h2
    clear h0 h1 h2
    go_wp2_with fail
    go_ret
    exact ⟨rfl, HB1.out⟩
  have d2 : decide (ni < 0) = false := decide_eq_false h2
  by_cases h3 : ni > 30
  · have d3 : decide (ni > 30) = true := decide_eq_true h3
    clear h0 h1 h2 h3
    go_wp2_with fail
    go_ret
    exact ⟨rfl, HB1.out⟩
  have d3 : decide (ni > 30) = false := decide_eq_false h3
  obtain ⟨t, rfl⟩ : ∃ t : Nat, ti = (t : Int) := ⟨ti.toNat, by omega⟩
  obtain ⟨k, rfl⟩ : ∃ k : Nat, ni = (k : Int) := ⟨ni.toNat, by omega⟩
  have ht2 : 2 ≤ t := by omega
  have ht8 : t ≤ 8 := by omega
  have hk : k ≤ 30 := by omega
  have HWL : Hid (word.length = m) := HP.out.len
  have hm0 : 0 < m := by omega
  clear tlo thi lo hi h0 h1 h2 h3 hz
  go_upto_block 0 with fail
  go_cut [] from 38 to 57 (fun wx => Hid (Rows_ok word m) ∧ ∃ nd, wx = w1.drewN nd)
  case first =>
    go_wp2_with fail
    go_loopg [8, 9] m (fun gg s8 s9 wr => ∃ i nd : Nat, i ≤ m ∧ gg = m - i ∧ s8 = .int .i64 (i : Int) ∧ Hid (Rows_ok word i) ∧ wr = w1.drewN nd)
    case atStart => exact ⟨0, 0, by omega, rfl, rfl, fun i hi => by omega, rfl⟩
    case round =>
      obtain ⟨i, nd, him, rfl, rfl, HI, rfl⟩ := hrel
      by_cases hlt : i < m
      · go_wp2_with fail
        go_loopg [9] i (fun gg s9 wr => ∃ j nd : Nat, j ≤ i ∧ gg = i - j ∧ s9 = .int .i64 (j : Int) ∧ Hid (∀ j', j' < j → word.getD i 0 ≠ word.getD j' 0) ∧ wr = w1.drewN nd)
        case atStart => exact ⟨0, nd, by omega, rfl, rfl, fun j hj => by omega, rfl⟩
        case round =>
          obtain ⟨j, nd2, hji, rfl, rfl, HJ, rfl⟩ := hrel
          by_cases hlt2 : j < i
          · obtain ⟨bl, off, hlp, rfl, -, hcp⟩ := HP.out.at_ hlt
            obtain ⟨bl2, off2, hlp2, heq, -, hcp2⟩ := HP.out.at_ (show j < m by omega)
            obtain ⟨rfl, rfl⟩ : bl = bl2 ∧ off = off2 := by
              injection heq with heq
              injection heq with e1 e2
              exact ⟨e1, e2⟩
            obtain ⟨x, hx⟩ : ∃ x, x = word[i] := ⟨_, rfl⟩
            obtain ⟨y, hy⟩ : ∃ y, y = word[j] := ⟨_, rfl⟩
            rw [← hx] at hcp
            rw [← hy] at hcp2
            have HX : Hid (word.getD i 0 = x) := by show _ = _; rw [List.getD_eq_getElem?_getD, List.getElem?_eq_getElem hlp, hx]; rfl
            have HY : Hid (word.getD j 0 = y) := by show _ = _; rw [List.getD_eq_getElem?_getD, List.getElem?_eq_getElem hlp2, hy]; rfl
            have hjm : (j : Int) < (m : Int) := by omega
            have him2 : (i : Int) < (m : Int) := by omega
            clear hx hy heq
            by_cases hxy : x = y
            · subst hxy
              go_wp2_with fail
              go_quiet (fail)
              go_wp2_with fail
              go_ret
              exact ⟨rfl, Below_drewN (Below_drewN HB1.out _) _⟩
            · have hnn : x.toNat ≠ y.toNat := fun e => hxy (UInt8.toNat_inj.1 e)
              have dne : ((x.toNat : Int) == (y.toNat : Int)) = false := by rw [beq_eq_false_iff_ne]; omega
              have HNE := hide hxy
              clear hnn hxy
              go_wp2_with fail
              go_quiet (fail)
              go_wp2_with fail
              go_roundg (i - (j + 1))
              case measure => omega
              case rel =>
                refine ⟨j + 1, _, by omega, rfl, by go_num, ?_, rfl⟩
                intro j' hj'
                rcases Nat.lt_or_ge j' j with h | h
                · exact HJ.out j' h
                · obtain rfl : j' = j := by omega
                  rw [HX.out, HY.out]; exact HNE.out
          · obtain rfl : j = i := by omega
            go_wp2_with fail
            go_roundg (m - (j + 1))
            case measure => omega
            case rel =>
              refine ⟨j + 1, _, by omega, rfl, by go_num, ?_, rfl⟩
              intro i' hi' j' hj'
              rcases Nat.lt_or_ge i' j with h | h
              · exact HI.out i' h j' hj'
              · obtain rfl : i' = j := by omega
                exact HJ.out j' hj'
      · obtain rfl : i = m := by omega
        go_wp2_with fail
        go_meet
        exact ⟨HI, _, rfl⟩
  case rest =>
  obtain ⟨HI, nd, rfl⟩ := hcut
  obtain ⟨w2, hw2⟩ : ∃ w2, w2 = w1.drewN nd := ⟨_, rfl⟩
  rw [← hw2]
  have HB2 : Hid (Below w.heap.size w w2) := by rw [hw2]; exact Below_drewN HB1.out _
  have HP2 : Hid (LiesB w2 w.heap.size A m word) := by rw [hw2]; exact HP.out.drewN _
  have hbs2 := HB2.out.size
  clear hw2 HB1 HP hbs
  go_wp2_with fail
  go_loopg [10, 11] t (fun gg s10 s11 wr => ∃ (i n' : Nat) (A' : Option Addr) (c' : Nat), i ≤ t ∧ n' ≤ 6 * i ∧ gg = t - i ∧ s11 = .int .i64 (i : Int) ∧ s10 = .slice A' n' c' ∧ Hid (n' = i * m) ∧ Hid (OwnB wr w2.heap.size A' n' c' (List.replicate i word).flatten) ∧ Hid (Below w2.heap.size w2 wr))
  case atStart => exact ⟨0, 0, none, 0, by omega, by omega, rfl, rfl, rfl, by show _ = _; omega, OwnB.nil _ _, Below.refl _ _⟩
  case round =>
    obtain ⟨i, n', A', c', hit, hn', rfl, rfl, rfl, HN, HO, HB⟩ := hrel
    have hsr := HB.out.size
    by_cases hlt : i < t
    · have HFL : Hid ((List.replicate i word).flatten ++ word = (List.replicate (i + 1) word).flatten) := by
        show _ = _
        rw [List.replicate_succ', List.flatten_append]; simp
      go_wp2_with (at_builtin; refine wpB_append3 rfl (.tmp 63) (.tmp 64) rfl w2.heap.size A' n' c' _ rfl HO.out _ A m c word rfl (HP2.out.below (HB.out.mono hbs2)) (n' + m) _ rfl HFL.out (by omega) hsr ?_; intro A3 c3 w3 own3 k3 hk3)
      go_roundg (t - (i + 1))
      case measure => omega
      case rel => exact ⟨i + 1, n' + m, A3, c3, by omega, by omega, rfl, by go_num, rfl, by show _ = _; rw [HN.out, Nat.succ_mul], own3, HB.out.trans (k3.belowOwn HO.out hsr)⟩
    · obtain rfl : i = t := by omega
      obtain ⟨past, hp⟩ : ∃ p, p = (List.replicate i word).flatten := ⟨_, rfl⟩
      rw [← hp] at HO
      have HRN : Hid (Rnd word past (i * m)) := by
        show Rnd _ _ _
        have := Rnd.times word (by rw [HWL.out]; exact hm0) i
        rwa [HWL.out, ← hp] at this
      have hcap := HO.out.cap
      have HB3 : Hid (Below w.heap.size w wr) := HB2.out.trans (HB.out.mono hbs2)
      have HP3 := hide (HP2.out.below (HB.out.mono hbs2))
      obtain ⟨w3, hw3⟩ : ∃ w3, w3 = wr := ⟨_, rfl⟩
      subst hw3
      have hbs3 := HB3.out.size
      clear hp HP2 HB2 HB
      go_wp2_with fail
      refine Calls.mono (pred_Chain ⟨2, 1, []⟩ none 0 0 A' n' c' w3.heap.size past k w3 HO.out.lies (LiesB.nil _ _ _) (Nat.le_refl _) hcap (by omega)) ?_
      rintro e w4 ⟨A4, n4, c4, rfl, l4, k4, hb4⟩
      rw [if_pos (by decide +kernel), show (min (max (k : Int) 0) 1000).toNat = k by omega] at l4
      obtain rfl : n4 = k := by have := l4.len; rw [By.chain_len] at this; exact this.symm
      have L4 := hide l4
      have HP4 := hide (HP3.out.below (hb4.mono hbs3))
      have B4 := hide (Below_step HB3.out hb4)
      clear l4 hb4 HB3 HP3 HO
      go_wp2_with fail
      go_loopg [13] n4 (fun gg s wr => ∃ j nd : Nat, j ≤ n4 ∧ gg = n4 - j ∧ s = .int .i64 (j : Int) ∧ wr = w4.drewN nd)
      case atStart => exact ⟨0, 0, by omega, rfl, rfl, rfl⟩
      case round =>
        obtain ⟨j, nd, hj, rfl, rfl, rfl⟩ := hrel
        by_cases hlt : j < n4
        · obtain ⟨bl, off, hlp, rfl, -, hcp⟩ := L4.out.at_ hlt
          obtain ⟨r, hr⟩ : ∃ r, r = j % m := ⟨_, rfl⟩
          have hrq : r < m := by rw [hr]; exact Nat.mod_lt _ hm0
          obtain ⟨b2, o2, hlq, rfl, -, hcq⟩ := HP4.out.at_ hrq
          have he : (By.chain ⟨2, 1, []⟩ n4 past)[j] = word[r] := by
            have h0 : 2 * word.length ≤ i * m := by rw [HWL.out]; exact Nat.mul_le_mul_right m ht2
            have := HRN.out.getD (by rw [HWL.out]; exact hm0) h0 (by rw [HWL.out]; exact HI.out) hlt (by rw [HWL.out]; exact Nat.mul_mod_left _ _)
            rw [HWL.out, ← hr, List.getD_eq_getElem?_getD, List.getElem?_eq_getElem hlp, List.getD_eq_getElem?_getD, List.getElem?_eq_getElem hlq] at this
            exact this
          rw [he] at hcp
          obtain ⟨x, hx⟩ : ∃ x, x = word[r] := ⟨_, rfl⟩
          rw [← hx] at hcp hcq
          have hmod : Int.tmod (j : Int) (m : Int) = (r : Int) := by rw [hr, Int.tmod_eq_emod_of_nonneg (by omega), Int.natCast_emod]
          have hri : (r : Int) < (m : Int) := by omega
          have hmz : ¬ m = 0 := by omega
          clear hx hr he
          go_wp2_with fail
          go_quiet (fail)
          go_wp2_with fail
          go_roundg (n4 - (j + 1))
          case measure => omega
          case rel => exact ⟨j + 1, _, by omega, rfl, by go_num, rfl⟩
        · obtain rfl : j = n4 := by omega
          go_wp2_with fail
          go_ret
          exact ⟨rfl, Below_drewN B4.out _⟩
end Go.Proofs.Ytbeeddpbkniijaa
