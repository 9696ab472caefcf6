/-
  The document's lines: what a row of them holds.
  The document's lines: the walks of Put, Front, Joint; Lines.
  The document's lines: the walks of Front, Joint; Lines.
  What the walks of law 21 stand on.
  A mail written; what a player is told.
-/
import Derived.Test.YtbcgffgiifminaaStand9
namespace Go.Proofs.Ytbcgffgiifminaa
open Go.RowKit
set_option maxRecDepth 10000
set_option linter.unusedVariables false
theorem elem_rline : Elem 118 122 (.agg #[.slice none 0 0]) 24 := ⟨Try.underlying118, by kernel_rfl, rfl⟩
/-- A slice: where, how long, with how much room. -/
abbrev Sl := Option Addr × Nat × Nat
@[reducible] def sv (x : Sl) : Value := .slice x.1 x.2.1 x.2.2
theorem sv_one (ss : List Sl) : ∀ u ∈ ss.map sv, u.oneCell' = true := by
  intro u hu
  obtain ⟨c, _, rfl⟩ := List.mem_map.1 hu
  rfl
/-- Block g holds lines (their blocks from B on). -/
structure RL (B : Nat) (w : World) (g n c : Nat) (ss : List Sl) (ls : List (List UInt8)) : Prop where
  row : OwnV 122 w B (some ⟨g, 0, none⟩) n c (ss.map sv)
  len : ls.length = n
  line : ∀ (i : Nat) (h : i < ss.length), OwnB w B ss[i].1 ss[i].2.1 ss[i].2.2 (ls.getD i [])
  apart : ∀ (i j : Nat) (hi : i < ss.length) (hj : j < ss.length), i ≠ j → ∀ k, (sv ss[i]).ownBlock = some k → (sv ss[j]).ownBlock ≠ some k
  short : ∀ i, (ls.getD i []).length ≤ 1000
/-- The blocks of one line. -/
def rlBlocks (g : Nat) (x : Sl) (k : Nat) : Prop := k = g ∨ some k = (sv x).ownBlock
section
variable {B : Nat} {w w' : World} {g n c : Nat} {ss : List Sl} {ls : List (List UInt8)}
theorem RL.slen (h : RL B w g n c ss ls) : ss.length = n := by have := h.row.len; rwa [List.length_map] at this
theorem RL.below (h : RL B w g n c ss ls) (hb : Below w.heap.size w w') : RL B w' g n c ss ls := ⟨h.row.below hb, h.len, fun i hi => (h.line i hi).below hb, h.apart, h.short⟩
theorem RL.drew (h : RL B w g n c ss ls) : RL B w.drew g n c ss ls := h.below ⟨rfl, rfl, rfl, Nat.le_refl _, fun _ _ => rfl⟩
theorem RL.gblk (h : RL B w g n c ss ls) (hn : 0 < n) : B ≤ g ∧ g < w.heap.size := by
  obtain ⟨g', e, h1, h2⟩ := h.row.form hn
  injection e with e; injection e with e
  subst e
  exact ⟨h1, h2⟩
theorem RL.keeps {S : Nat → Prop} (h : RL B w g n c ss ls) (hk : Keeps S w w') (h1 : ¬ S g) (h2 : ∀ (i : Nat) (hi : i < ss.length) k, some k = (sv ss[i]).ownBlock → ¬ S k) : RL B w' g n c ss ls :=
  ⟨h.row.keeps hk (fun k hk' => by
      have : k = g := by simpa [Value.ownBlock] using hk'
      subst this; exact h1), h.len, fun i hi => (h.line i hi).keeps hk (h2 i hi), h.apart, h.short⟩
theorem RL.cell (h : RL B w g n c ss ls) (i : Nat) (hi : i < n) : ∃ hs : i < ss.length, w.cell? ⟨g, i, none⟩ = some (.slice ss[i].1 ss[i].2.1 ss[i].2.2) ∧ w.frozen? ⟨g, i, none⟩ = false ∧ (ls.getD i []).length = ss[i].2.1 := by
  have hs : i < ss.length := by rw [h.slen]; exact hi
  obtain ⟨hl, hc⟩ := h.row.cell (j := i) hi
  refine ⟨hs, ?_, h.row.frozen i, (h.line i hs).len⟩
  rw [hc, List.getElem_map]
theorem RL.ne_g (h : RL B w g n c ss ls) (hn : 0 < n) (i : Nat) (hi : i < ss.length) : ∀ k, some k = (sv ss[i]).ownBlock → k ≠ g := by
  intro k hk e
  subst e
  exact h.row.apart (OwnV.of_B (h.line i hi)) (by decide) k (by rfl) hk
/-- One line is another one. -/
theorem RL.put (h : RL B w g n c ss ls) (i : Nat) (hi : i < n) {x : Sl} {l : List UInt8} (hr : OwnV 122 w' B (some ⟨g, 0, none⟩) n c ((ss.map sv).set i (sv x))) (ho : OwnB w' B x.1 x.2.1 x.2.2 l) (hs : i < ss.length)
    (hk : Keeps (rlBlocks g ss[i]) w w') (hx : (sv x).ownBlock = (sv ss[i]).ownBlock ∨ ∃ k, (sv x).ownBlock = some k ∧ w.heap.size ≤ k) (hl : l.length ≤ 1000) : RL B w' g n c (ss.set i x) (ls.set i l) := by
  have hls : i < ls.length := by rw [h.len]; exact hi
  have hg : ∀ j, (ls.set i l).getD j [] = if i = j then l else ls.getD j [] := by
    intro j
    by_cases e : i = j
    · subst e; rw [if_pos rfl, List.getD_eq_getElem?_getD, List.getElem?_set_self hls]; rfl
    · rw [if_neg e, List.getD_eq_getElem?_getD, List.getElem?_set_ne e, ← List.getD_eq_getElem?_getD]
  refine ⟨by rw [List.map_set]; exact hr, by rw [List.length_set]; exact h.len, ?_, ?_, ?_⟩
  · intro j hj
    rw [List.length_set] at hj
    rw [List.getElem_set, hg]
    by_cases e : i = j
    · subst e; rw [if_pos rfl, if_pos rfl]; exact ho
    · rw [if_neg e, if_neg e]
      refine (h.line j hj).keeps hk fun k hkj hki => ?_
      rcases hki with rfl | hki
      · exact h.ne_g (by omega) j hj _ hkj rfl
      · exact h.apart i j hs hj e k hki.symm hkj.symm
  · intro a b ha hb hab k
    rw [List.length_set] at ha hb
    rw [List.getElem_set, List.getElem_set]
    have fresh : ∀ j (hj : j < ss.length), i ≠ j → ∀ k, (sv x).ownBlock = some k → (sv ss[j]).ownBlock ≠ some k := by
      intro j hj e k hk' he
      rcases hx with hx | ⟨k2, hx, h2⟩
      · exact h.apart i j hs hj e k (by rw [← hx]; exact hk') he
      · rw [hx] at hk'; injection hk' with hk'
        have := ((h.line j hj).blk k he.symm).2
        omega
    by_cases e1 : i = a
    · subst e1
      rw [if_pos rfl, if_neg hab]
      exact fresh b hb hab k
    · rw [if_neg e1]
      by_cases e2 : i = b
      · subst e2
        rw [if_pos rfl]
        exact fun h1 h2 => fresh a ha e1 k h2 h1
      · rw [if_neg e2]
        exact h.apart a b ha hb hab k
  · intro j
    rw [hg]
    split
    · exact hl
    · exact h.short j
/-- One line more. -/
theorem RL.add {w2 w3 w4 : World} {g' c' : Nat} {x : Sl} {l : List UInt8} (h : n = 0 ∧ ss = [] ∧ ls = [] ∨ RL B w g n c ss ls) (hB : B ≤ w.heap.size) (hb : Below w.heap.size w w2) (ho : OwnB w2 w.heap.size x.1 x.2.1 x.2.2 l) (hb3 : Below w2.heap.size w2 w3) {A : Option Addr} (hA : n = 0 ∨ A = some ⟨g, 0, none⟩)
    (hr : OwnV 122 w4 B (some ⟨g', 0, none⟩) (n + 1) c' (ss.map sv ++ [sv x])) (hk : Keeps (Mine A n c) w3 w4) (hgm : n = 0 → (Value.slice A n c).ownBlock = none) (hl : l.length ≤ 1000) : RL B w4 g' (n + 1) c' (ss ++ [x]) (ls ++ [l]) := by
  have hns : ss.length = n := by
    rcases h with ⟨h1, h2, -⟩ | h
    · rw [h1, h2]; rfl
    · exact h.slen
  have hnl : ls.length = n := by
    rcases h with ⟨h1, -, h2⟩ | h
    · rw [h1, h2]; rfl
    · exact h.len
  have o3 := ho.below hb3
  have hmine : ∀ k, Mine A n c k → k = g ∧ 0 < n := by
    intro k hm
    rcases Nat.eq_zero_or_pos n with h0 | h0
    · have := hgm h0
      have hm' : some k = (Value.slice A n c).ownBlock := hm
      rw [this] at hm'; cases hm'
    · rcases hA with hA | hA
      · omega
      · subst hA
        have hm' : some k = (Value.slice (some ⟨g, 0, none⟩) n c).ownBlock := hm
        exact ⟨by simpa [Value.ownBlock] using hm', h0⟩
  have key : ∀ (i : Nat) (hi : i < (ss ++ [x]).length), (∃ h : i < ss.length, (ss ++ [x])[i] = ss[i]) ∨ (i = ss.length ∧ (ss ++ [x])[i] = x) := by
    intro i hi
    by_cases e : i < ss.length
    · exact .inl ⟨e, List.getElem_append_left e⟩
    · have : i = ss.length := by simp at hi; omega
      subst this
      exact .inr ⟨rfl, by simp⟩
  have gd : ∀ j, (ls ++ [l]).getD j [] = if j < n then ls.getD j [] else if j = n then l else [] := by
    intro j
    by_cases e : j < n
    · rw [if_pos e, List.getD_eq_getElem?_getD, List.getElem?_append_left (by rw [hnl]; exact e), ← List.getD_eq_getElem?_getD]
    · rw [if_neg e, List.getD_eq_getElem?_getD, List.getElem?_append_right (by rw [hnl]; omega), hnl]
      by_cases e2 : j = n
      · subst e2; rw [if_pos rfl, Nat.sub_self]; rfl
      · rw [if_neg e2]
        obtain ⟨q, hq⟩ : ∃ q, j - n = q + 1 := ⟨j - n - 1, by omega⟩
        rw [hq]; rfl
  refine ⟨by rw [List.map_append]; exact hr, by rw [List.length_append, hnl]; rfl, ?_, ?_, ?_⟩
  · intro i hi
    rcases key i hi with ⟨e, e2⟩ | ⟨e, e2⟩
    · rw [e2, gd, if_pos (by omega)]
      rcases h with ⟨h1, -, -⟩ | h
      · omega
      · have l4 : OwnB w3 B ss[i].1 ss[i].2.1 ss[i].2.2 (ls.getD i []) := ((h.line i e).below hb).below hb3
        exact l4.keeps hk fun k hk' hm => h.ne_g (hmine k hm).2 i e k hk' (hmine k hm).1
    · rw [e2, gd, if_neg (by omega), if_pos (by omega)]
      refine (o3.base_le hB).keeps hk fun k hk' hm => ?_
      rcases h with ⟨h1, -, -⟩ | h
      · have := (hmine k hm).2; omega
      · have h1 := (h.gblk (hmine k hm).2).2
        have h2 := (ho.blk k hk').1
        have := (hmine k hm).1
        omega
  · intro i j hi hj hij k
    rcases key i hi with ⟨e, e2⟩ | ⟨e, e2⟩
    · rcases key j hj with ⟨f, f2⟩ | ⟨f, f2⟩
      · rw [e2, f2]
        rcases h with ⟨h1, -, -⟩ | h
        · omega
        · exact h.apart i j e f hij k
      · rw [e2, f2]
        intro h1 h2
        rcases h with ⟨h1', -, -⟩ | h
        · omega
        · have := ((h.line i e).blk k h1.symm).2
          have := (ho.blk k h2.symm).1
          omega
    · rcases key j hj with ⟨f, f2⟩ | ⟨f, f2⟩
      · rw [e2, f2]
        intro h1 h2
        rcases h with ⟨h1', -, -⟩ | h
        · omega
        · have := ((h.line j f).blk k h2.symm).2
          have := (ho.blk k h1.symm).1
          omega
      · omega
  · intro j
    rw [gd]
    split
    · rcases h with ⟨h1, -, -⟩ | h
      · omega
      · exact h.short j
    · split
      · exact hl
      · simp
end
end Go.Proofs.Ytbcgffgiifminaa
namespace Go.Proofs.Ytbcgffgiifminaa
open Go.RowKit
set_option maxRecDepth 10000
set_option linter.unusedVariables false
theorem Below_newd (w : World) (o : Obj) : Below w.heap.size w (w.drew.alloc o) := have h := Below_new w.drew o; ⟨h.os, h.tape, h.output, h.size, h.block⟩
set_option maxHeartbeats 2000000 in
set_option maxRecDepth 10000 in
theorem ref_LinePut {B : Nat} {w : World} {g n c : Nat} {ss : List Sl} {ls : List (List UInt8)} (h : RL B w g n c ss ls) (hB : B ≤ w.heap.size) (i : Nat) (hi : i < n) {l : List UInt8} (hl : l = ls.getD i []) (first : Int) {A2 : Option Addr} {n2 c2 : Nat} {b : List UInt8}
    (hA : LiesB w B A2 n2 b) (h1 : -9223372036854775808 ≤ first) (h2 : first ≤ 9223372036854775807) (hn2 : n2 ≤ 9223372036854775807) {add : List UInt8} {N E : Int} (hadd : putAdd l first b = add) (hN : (add.length : Int) = N) (hE : putErr l first b = E) :
    Calls Try.prog 72 #[.pointer (some ⟨g, i, none⟩), .int .i64 first, .slice A2 n2 c2] w fun e w' =>
      e = .returned (.tuple #[.int .i64 N, .int .i64 E]) ∧ ∃ (x : Sl) (hs : i < ss.length), RL B w' g n c (ss.set i x) (ls.set i (l ++ add)) ∧ Keeps (rlBlocks g ss[i]) w w' ∧ ((sv x).ownBlock = (sv ss[i]).ownBlock ∨ ∃ k, (sv x).ownBlock = some k ∧ w.heap.size ≤ k) := by
  obtain ⟨hs, hc, hf, hlen⟩ := h.cell i hi
  have hll : l.length = ss[i].2.1 := by rw [hl]; exact hlen
  have hsh : l.length ≤ 1000 := by rw [hl]; exact h.short i
  obtain ⟨⟨A, m, cc⟩, hx⟩ : ∃ x, x = ss[i] := ⟨_, rfl⟩
  rw [← hx] at hc hll hlen
  simp only at hc hll hlen
  have HX := hide hx
  have H := hide h
  have HL := hide hl
  have HLL := hide hll
  have hm : m ≤ 1000 := by omega
  have same : Hid (ss.set i (A, m, cc) = ss) := by show _ = _; rw [hx]; exact List.set_getElem_self hs
  have same2 : Hid (ls.set i l = ls) := by
    show _ = _
    have hi2 : i < ls.length := by rw [h.len]; exact hi
    rw [hl, List.getD_eq_getElem?_getD, List.getElem?_eq_getElem hi2]
    exact List.set_getElem_self hi2
  by_cases hf0 : first < 0
  · have e1 : putAdd l first b = [] := by simp [putAdd, hf0]
    have e2 : putErr l first b = 1 := by simp [putErr, hf0]
    rw [e1] at hadd; rw [e2] at hE
    subst hadd hE hN
    have d : decide (first < 0) = true := decide_eq_true hf0
    clear hf0 hx h hl hll hA e1 e2 hc hf hlen
    go_enter Try.func72, Try.ntmps72
    go_wp2
    go_ret2
    exact ⟨rfl, (A, m, cc), hs, by rw [same.out, List.append_nil, same2.out]; exact H.out, Keeps.refl _ _, .inl (by rw [← HX.out])⟩
  have d : decide (first < 0) = false := decide_eq_false hf0
  by_cases hf1 : (m : Int) < first
  · have e1 : putAdd l first b = [] := by rw [putAdd, if_pos (.inr (by rw [hll]; exact hf1))]
    have e2 : putErr l first b = 2 := by rw [putErr, if_neg hf0, if_pos (by rw [hll]; exact hf1)]
    rw [e1] at hadd; rw [e2] at hE
    subst hadd hE hN
    have d2 : decide ((m : Int) < first) = true := decide_eq_true hf1
    clear hf0 hf1 hx h hl hll hA e1 e2 hlen
    go_enter Try.func72, Try.ntmps72
    go_wp2
    go_ret2
    exact ⟨rfl, (A, m, cc), hs, by rw [same.out, List.append_nil, same2.out]; exact H.out, Keeps.refl _ _, .inl (by rw [← HX.out])⟩
  have d2 : decide ((m : Int) < first) = false := decide_eq_false hf1
  obtain ⟨f, rfl⟩ : ∃ f : Nat, first = (f : Int) := ⟨first.toNat, by omega⟩
  have hfm : f ≤ m := by omega
  rw [putAdd_form (by omega), hll] at hadd
  rw [putErr_form (by omega)] at hE
  obtain ⟨s, hs'⟩ : ∃ s, s = m - f := ⟨_, rfl⟩
  rw [← hs'] at hadd
  have HA := hide hA
  have HS := hide hs'
  have HADD := hide hadd
  have HE := hide hE
  have HN := hide hN
  have hbl := hA.len
  have HBL := hide hbl
  clear hx h hl hll hA hadd hE hN hlen hs' hf0 hf1 hbl
  go_enter Try.func72, Try.ntmps72
  go_upto_region 5 with fail
  go_cut [8] (fun q wx => q = .int .i64 0 ∧ w = wx)
  case first =>
    go_wp2
    go_meet
    exact ⟨rfl, rfl⟩
  case rest =>
  obtain ⟨rfl, rfl⟩ := hcut
  clear hc hf
  go_wp2_with fail
  go_loopg [8, 9] n2 (fun gg s8 s9 wr => ∃ (k j : Nat) (x : Sl), k ≤ n2 ∧ gg = n2 - k ∧ s9 = .int .i64 k ∧ s8 = .int .i64 j ∧ j = k - s ∧ m + j ≤ 1000 ∧ Hid (RL B wr g n c (ss.set i x) (ls.set i (l ++ (b.drop s).take j))) ∧ Hid (Keeps (rlBlocks g ss[i]) w wr) ∧ Hid ((sv x).ownBlock = (sv ss[i]).ownBlock ∨ ∃ k, (sv x).ownBlock = some k ∧ w.heap.size ≤ k))
  case atStart => exact ⟨0, 0, (A, m, cc), by omega, rfl, rfl, rfl, by omega, by omega, by show RL _ _ _ _ _ _ _; rw [same.out, List.take_zero, List.append_nil, same2.out]; exact H.out, Keeps.refl _ _, .inl (by rw [← HX.out])⟩
  case round =>
    obtain ⟨W1, hW1⟩ : ∃ W1, W1 = wr := ⟨_, rfl⟩
    subst hW1
    obtain ⟨k, j, x, hk, rfl, rfl, rfl, hj, hj2, HR, HK, HXX⟩ := hrel
    have HJ := hide hj
    obtain ⟨hs3, hc, hf, hlen3⟩ := HR.out.cell i hi
    have hlen4 : (l ++ (b.drop s).take j).length = m + j ∨ n2 < k := by
      rw [List.length_append, HLL.out, List.length_take, List.length_drop, HBL.out]
      have := HJ.out; omega
    have hx3 : (ss.set i x)[i] = x := by simp
    rw [hx3] at hc hlen3
    have hi2 : i < ls.length := by rw [H.out.len]; exact hi
    have hgd : (ls.set i (l ++ (b.drop s).take j)).getD i [] = l ++ (b.drop s).take j := by
      rw [List.getD_eq_getElem?_getD, List.getElem?_set_self hi2]; rfl
    rw [hgd] at hlen3
    obtain ⟨A3, m3, c3⟩ := x
    have hm3 : m3 = m + j := by simp only at hlen3; omega
    subst hm3
    simp only at hc
    clear hj hlen3 hlen4 hx3 hgd
    by_cases hlt : k < n2
    · by_cases hsk : k < s
      · have hj0 : j = 0 := by have := HJ.out; omega
        subst hj0
        have d3 : decide ((k : Int) < (m : Int) - (f : Int)) = true := decide_eq_true (by have := HS.out; omega)
        have d4 : decide ((k : Int) < ((m + 0 : Nat) : Int) - (f : Int)) = true := decide_eq_true (by have := HS.out; omega)
        have HSK := hide hsk
        clear hsk
        go_wp2_with fail
        go_roundg (n2 - (k + 1))
        case measure => omega
        case rel => exact ⟨k + 1, 0, (A3, m + 0, c3), by omega, rfl, by go_num, rfl, by have := HSK.out; omega, by omega, HR, HK, HXX⟩
      · have hkj : Hid (k = s + j) := by show _ = _; have := HJ.out; omega
        have d3 : decide ((k : Int) < (m : Int) + (j : Int) - (f : Int)) = false := decide_eq_false (by have := HS.out; have := hkj.out; omega)
        by_cases hfull : 1000 ≤ m + j
        · have d4 : decide ((1000 : Int) ≤ (m : Int) + (j : Int)) = true := decide_eq_true (by omega)
          clear hsk hfull
          go_wp2_with fail
          go_ret2
          have hkj' := hkj.out
          have h1000 := of_decide_eq_true d4
          have e : add = (b.drop s).take j := by rw [← HADD.out]; congr 1; omega
          have hjl : ((b.drop s).take j).length = j := by rw [List.length_take, List.length_drop, HBL.out]; omega
          refine ⟨?_, (A3, m + j, c3), hs, by rw [e]; exact HR.out, HK.out, HXX.out⟩
          rw [← HN.out, ← HE.out, e, hjl, if_pos (by rw [HBL.out]; have := HS.out; omega)]
          rfl
        · have d4 : decide ((1000 : Int) ≤ (m : Int) + (j : Int)) = false := decide_eq_false (by omega)
          have hA1 := HA.out.keeps HK.out (by
            intro bk off e1 e2 hbk
            have hg := (H.out.gblk (by omega)).1
            obtain ⟨b2, o2, e3, hb2, -⟩ := HA.out.2 (by simpa using e2)
            rw [e3] at e1; injection e1 with e1; injection e1 with e1 _
            rcases hbk with hbk | hbk
            · omega
            · have := ((H.out.line i hs).blk bk hbk).1; omega)
          obtain ⟨ab, ao, hkb, hAA, hab, hcb⟩ := hA1.at_ hlt
          subst hAA
          obtain ⟨z, hz⟩ : ∃ z, z = b[k] := ⟨_, rfl⟩
          rw [← hz] at hcb
          have HZ := hide hz
          have HAB := hide hab
          clear hz hsk hfull hA1
          have HO : Hid (OwnB W1 B A3 (m + j) c3 (l ++ (b.drop s).take j)) := by
            show OwnB _ _ _ _ _ _
            have := HR.out.line i hs3
            simp only [List.getElem_set_self] at this
            rwa [List.getD_eq_getElem?_getD, List.getElem?_set_self hi2] at this
          have hgB := (HR.out.gblk (by omega)).1
          have hgW := (HR.out.gblk (by omega)).2
          have HGG := hide (show B ≤ g ∧ g < W1.heap.size from ⟨hgB, hgW⟩)
          have hBW : Hid (B ≤ W1.heap.size) := by show _ ≤ _; omega
          have FIN : Hid (∀ (w2 w5 : World) (A5 : Option Addr) (c5 : Nat), Below W1.heap.size W1 w2 → OwnB w5 B A5 (m + j + 1) c5 (l ++ (b.drop s).take (j + 1)) → Keeps (Mine A3 (m + j) c3) w2 w5 →
              ((Value.slice A5 (m + j + 1) c5).ownBlock = (Value.slice A3 (m + j) c3).ownBlock ∨ ∃ k, (Value.slice A5 (m + j + 1) c5).ownBlock = some k ∧ W1.heap.size ≤ k) → m + j < 1000 →
              RL B (w5.setCell ⟨g, i, none⟩ (.slice A5 (m + j + 1) c5)) g n c (ss.set i (A5, m + j + 1, c5)) (ls.set i (l ++ (b.drop s).take (j + 1))) ∧ Keeps (rlBlocks g ss[i]) w (w5.setCell ⟨g, i, none⟩ (.slice A5 (m + j + 1) c5)) ∧
              ((sv (A5, m + j + 1, c5)).ownBlock = (sv ss[i]).ownBlock ∨ ∃ k, (sv (A5, m + j + 1, c5)).ownBlock = some k ∧ w.heap.size ≤ k)) := by
            show ∀ (w2 w5 : World) (A5 : Option Addr) (c5 : Nat), _
            intro w2 w5 A5 c5 hb2 ho5 hk5 hx5 h1000
            have kc := Keeps.setCell w5 ⟨g, i, none⟩ (.slice A5 (m + j + 1) c5)
            have hrow2 : OwnV 122 w2 B (some ⟨g, 0, none⟩) n c ((ss.set i (A3, m + j, c3)).map sv) := HR.out.row.below hb2
            have hrow5 : OwnV 122 w5 B (some ⟨g, 0, none⟩) n c ((ss.set i (A3, m + j, c3)).map sv) := hrow2.keeps hk5 (fun k hkk hmm => by
              have ho2 : OwnB w2 B A3 (m + j) c3 (l ++ (b.drop s).take j) := HO.out.below hb2
              exact (OwnV.of_B ho2).apart hrow2 (by decide) k hmm hkk)
            have hkk : Keeps (rlBlocks g (A3, m + j, c3)) W1 (w5.setCell ⟨g, i, none⟩ (.slice A5 (m + j + 1) c5)) := by
              refine ((Keeps.of_below (S := rlBlocks g (A3, m + j, c3)) hb2).trans hk5 (fun k _ h => .inr h)).trans kc (fun k _ h => .inl h)
            have ho6 : OwnB (w5.setCell ⟨g, i, none⟩ (.slice A5 (m + j + 1) c5)) B A5 (m + j + 1) c5 (l ++ (b.drop s).take (j + 1)) := ho5.keeps kc (fun k hk1 hk2 => by
              have hk2 : k = g := hk2
              subst hk2
              exact (OwnV.of_B ho5).apart hrow5 (by decide) k hk1 (by rfl))
            have hput := HR.out.put i hi (x := (A5, m + j + 1, c5)) (l := l ++ (b.drop s).take (j + 1)) (hrow5.store i _) ho6 hs3 (by simp only [List.getElem_set_self]; exact hkk) (by simp only [List.getElem_set_self]; exact hx5) (by
              have := ho5.len; omega)
            rw [List.set_set, List.set_set] at hput
            refine ⟨hput, HK.out.trans hkk (fun k hkl hkx => ?_), ?_⟩
            · rcases hkx with h | h
              · exact .inl h
              · rcases HXX.out with e | ⟨k2, e, h2⟩
                · exact .inr (by rw [h, e])
                · rw [e] at h; injection h with h; omega
            · rcases hx5 with e | ⟨k2, e, h2⟩
              · rw [show (sv (A5, m + j + 1, c5)).ownBlock = _ from e]; exact HXX.out
              · exact .inr ⟨k2, e, Nat.le_trans HK.out.size h2⟩
          have HTK : Hid ((b.drop s).take (j + 1) = (b.drop s).take j ++ [z]) := by
            show _ = _
            have hkj' := hkj.out
            rw [List.take_succ_eq_append_getElem (by rw [List.length_drop, HBL.out]; omega), List.getElem_drop, HZ.out]
            subst hkj'
            rfl
          have hmj : Hid (m + j < 1000) := by show _ < _; have := of_decide_eq_false d4; omega
          clear hgB hgW
          go_upto_region 12 with fail
          refine wp_region_noPanic ?_
          refine wp_region_held_drew (S := (fun w' => w'.cell? ⟨ab, ao + k, none⟩ = some (.int .u8 (z.toNat : Int)))) (by kernel_rfl) hcb (fun hHeld => ?_)
          refine wpAnyH_take (i := 0) (oi := ?_) (v := ?_) ?_ (by kernel_rfl) (by kernel_rfl) (by kernel_rfl) ?_ ?_ (by assumption) ?_
          rotate_left 2
          · (simp only [List.getElem?_toArray, List.getElem?_cons_zero]; rfl)
          · exact fun _ _ _ h => h
          · (refine Or.inl ⟨by rfl, ?_⟩; intro w hSw; (try dsimp only at hSw); go_simp <;> with_reducible rfl)
          try simp only [Act.put, List.setIfInBounds_toArray, List.set_cons_zero, List.set_cons_succ]
          refine wpAnyH_take (i := 1) (oi := ?_) (v := ?_) ?_ (by kernel_rfl) (by kernel_rfl) (by kernel_rfl) ?_ ?_ (by assumption) ?_
          rotate_left 2
          · (simp only [List.getElem?_toArray, List.getElem?_cons_succ, List.getElem?_cons_zero]; rfl)
          · exact fun _ _ _ h => h
          · (refine Or.inl ⟨by rfl, ?_⟩; intro w hSw; (try dsimp only at hSw); go_simp <;> with_reducible rfl)
          try simp only [Act.put, List.setIfInBounds_toArray, List.set_cons_zero, List.set_cons_succ]
          refine wpAnyH_take (i := 2) (oi := ?_) (v := ?_) ?_ (by kernel_rfl) (by kernel_rfl) (by kernel_rfl) ?_ ?_ (by assumption) ?_
          rotate_left 2
          · (simp only [List.getElem?_toArray, List.getElem?_cons_succ, List.getElem?_cons_zero]; rfl)
          · exact fun _ _ _ h => h
          · (refine Or.inl ⟨by rfl, ?_⟩; intro w hSw; (try dsimp only at hSw); go_simp <;> with_reducible rfl)
          try simp only [Act.put, List.setIfInBounds_toArray, List.set_cons_zero, List.set_cons_succ]
          refine wpAnyH_take (i := 3) (oi := ?_) (v := ?_) ?_ (by kernel_rfl) (by kernel_rfl) (by kernel_rfl) ?_ ?_ (by assumption) ?_
          rotate_left 2
          · (simp only [List.getElem?_toArray, List.getElem?_cons_succ, List.getElem?_cons_zero]; rfl)
          · exact fun _ _ _ h => h
          · (refine Or.inl ⟨by rfl, ?_⟩; intro w hSw; (try dsimp only at hSw); go_simp <;> with_reducible rfl)
          try simp only [Act.put, List.setIfInBounds_toArray, List.set_cons_zero, List.set_cons_succ]
          refine wpAnyH_take (i := 5) (oi := ?_) (v := ?_) ?_ (by kernel_rfl) (by kernel_rfl) (by kernel_rfl) ?_ ?_ (by assumption) ?_
          rotate_left 2
          · (simp only [List.getElem?_toArray, List.getElem?_cons_succ, List.getElem?_cons_zero]; rfl)
          · exact fun _ _ _ h => h
          · (refine Or.inl ⟨by rfl, ?_⟩; intro w hSw; (try dsimp only at hSw); go_simp <;> with_reducible rfl)
          try simp only [Act.put, List.setIfInBounds_toArray, List.set_cons_zero, List.set_cons_succ]
          refine wpAnyH_take (i := 6) (oi := ?_) (v := ?_) ?_ (by kernel_rfl) (by kernel_rfl) (by kernel_rfl) ?_ ?_ (by assumption) ?_
          rotate_left 2
          · (simp only [List.getElem?_toArray, List.getElem?_cons_succ, List.getElem?_cons_zero]; rfl)
          · exact fun _ _ _ h => h
          · (refine Or.inl ⟨by rfl, ?_⟩; intro w hSw; (try dsimp only at hSw); go_simp <;> with_reducible rfl)
          try simp only [Act.put, List.setIfInBounds_toArray, List.set_cons_zero, List.set_cons_succ]
          refine wpAnyH_take (i := 7) (oi := ?_) (v := ?_) ?_ (by kernel_rfl) (by kernel_rfl) (by kernel_rfl) ?_ ?_ (by assumption) ?_
          rotate_left 2
          · (simp only [List.getElem?_toArray, List.getElem?_cons_succ, List.getElem?_cons_zero]; rfl)
          · exact fun _ _ _ h => h
          · (refine Or.inl ⟨by rfl, ?_⟩; intro w hSw; (try dsimp only at hSw); go_simp <;> with_reducible rfl)
          try simp only [Act.put, List.setIfInBounds_toArray, List.set_cons_zero, List.set_cons_succ]
          refine wpAnyH_take (i := 8) (oi := ?_) (v := ?_) ?_ (by kernel_rfl) (by kernel_rfl) (by kernel_rfl) ?_ ?_ (by assumption) ?_
          rotate_left 2
          · (simp only [List.getElem?_toArray, List.getElem?_cons_succ, List.getElem?_cons_zero]; rfl)
          · exact fun _ _ _ h => h
          · (refine Or.inl ⟨by rfl, ?_⟩; intro w hSw; (try dsimp only at hSw); go_simp <;> with_reducible rfl)
          try simp only [Act.put, List.setIfInBounds_toArray, List.set_cons_zero, List.set_cons_succ]
          refine wpAnyH_ready (rs := [4, 9]) (by kernel_rfl) (by simp) ?_
          refine AllReadyH.cons (o := ?_) ?_ (fun K hK => ?_) ?_
          rotate_left 1
          · (simp only [List.getElem?_toArray, List.getElem?_cons_succ, List.getElem?_cons_zero]; rfl)
          · go_simp
            skip
            refine hK.out _ _ hcb (fun hHeld => ?_)
            clear hK K
            try simp only [Act.put, List.setIfInBounds_toArray, List.set_cons_zero, List.set_cons_succ]
            refine wpAnyH_ready (rs := [9]) (by kernel_rfl) (by simp) ?_
            refine AllReadyH.cons (o := ?_) ?_ (fun K hK => ?_) AllReadyH.nil
            rotate_left 1
            · (simp only [List.getElem?_toArray, List.getElem?_cons_succ, List.getElem?_cons_zero]; rfl)
            go_simp
            have hb2 : Below W1.heap.size W1 (W1.drew.alloc (.cells #[.int .u8 (z.toNat : Int)] 5)) := Below_newd W1 _
            have own2 := HO.out.below hb2
            have hcb2 : (W1.drew.alloc (.cells #[.int .u8 (z.toNat : Int)] 5)).cell? ⟨ab, ao + k, none⟩ = some (.int .u8 (z.toNat : Int)) := (hb2.cell (p := ⟨ab, ao + k, none⟩) (by have := HAB.out; have := hBW.out; show ab < _; omega)).trans hcb
            refine hK.out _ _ hcb2 (fun hHeld => ?_)
            clear hK K
            try simp only [Act.put, List.setIfInBounds_toArray, List.set_cons_zero, List.set_cons_succ]
            refine wpAnyH_ready (rs := [10]) (by kernel_rfl) (by simp) ?_
            refine AllReadyH.cons (o := ?_) ?_ (fun K hK => ?_) AllReadyH.nil
            rotate_left 1
            · (simp only [List.getElem?_toArray, List.getElem?_cons_succ, List.getElem?_cons_zero]; rfl)
            (refine step_appendB rfl (.tmp 45) (.tmp 50) rfl B A3 (m + j) c3 _ rfl own2 _ _ 1 1 [z] rfl (LiesB.new W1.drew _ _ _ _ _ rfl rfl) (m + j + 1) (l ++ (b.drop s).take (j + 1)) rfl (by rw [HTK.out, List.append_assoc]) (by omega) (Nat.le_trans hBW.out hb2.size) ?_; intro A5 c5 w5 own5 k5 hk5)
            have hg5 := (((HR.out.row.below hb2).keeps k5 (fun q h1 h2 => (OwnV.of_B own2).apart (HR.out.row.below hb2) (by decide) q h2 h1)))
            obtain ⟨_, hc5⟩ := hg5.cell (j := i) hi
            have hf5 := hg5.frozen i
            have hcb5 : w5.cell? ⟨ab, ao + k, none⟩ = some (.int .u8 (z.toNat : Int)) := (World.cell?_of_block (k5.block ab (World.block_lt_of_cell? _ _ hcb2) (fun h => by have := (own2.blk ab h).1; have := HAB.out; omega))).trans hcb2
            refine hK.out _ _ hcb5 (fun hHeld => ?_)
            clear hK K
            try simp only [Act.put]
            refine wpAnyH_take (i := 11) (oi := ?_) (v := ?_) ?_ (by kernel_rfl) (by kernel_rfl) (by kernel_rfl) ?_ ?_ (by assumption) ?_
            rotate_left 2
            · (simp only [List.getElem?_toArray, List.getElem?_cons_succ, List.getElem?_cons_zero]; rfl)
            · exact fun _ _ _ h => h
            · (refine Or.inl ⟨by rfl, ?_⟩; intro w hSw; (try dsimp only at hSw); go_simp <;> with_reducible rfl)
            try simp only [Act.put, List.setIfInBounds_toArray, List.set_cons_zero, List.set_cons_succ]
            refine wpAnyH_take (i := 12) (oi := ?_) (v := ?_) ?_ (by kernel_rfl) (by kernel_rfl) (by kernel_rfl) ?_ ?_ (by assumption) ?_
            rotate_left 2
            · (simp only [List.getElem?_toArray, List.getElem?_cons_succ, List.getElem?_cons_zero]; rfl)
            · exact fun _ _ _ h => h
            · (refine Or.inl ⟨by rfl, ?_⟩; intro w hSw; (try dsimp only at hSw); go_simp <;> with_reducible rfl)
            try simp only [Act.put, List.setIfInBounds_toArray, List.set_cons_zero, List.set_cons_succ]
            refine wpAnyH_ready (rs := [13]) (by kernel_rfl) (by simp) ?_
            refine AllReadyH.cons (o := ?_) ?_ (fun K hK => ?_) AllReadyH.nil
            rotate_left 1
            · (simp only [List.getElem?_toArray, List.getElem?_cons_succ, List.getElem?_cons_zero]; rfl)
            go_simp
            have hcb6 : (w5.setCell ⟨g, i, none⟩ (.slice A5 (m + j + 1) c5)).cell? ⟨ab, ao + k, none⟩ = some (.int .u8 (z.toNat : Int)) := (World.cell?_of_block (Below.heap_setCell w5 ⟨g, i, none⟩ _ ab (by have h1 := HGG.out; have h2 := HAB.out; show ab ≠ g; omega))).trans hcb5
            refine hK.out _ _ hcb6 (fun hHeld => ?_)
            clear hK K
            try simp only [Act.put]
            refine wpAnyH_done (by kernel_rfl) (NoPanic.normal ?_) _
            obtain ⟨FR, FK, FX⟩ := FIN.out _ w5 A5 c5 hb2 own5 k5 (hk5.imp id fun h => ⟨_, h, hb2.size⟩) hmj.out
            have HFR := hide FR
            have HFK := hide FK
            have HFX := hide FX
            clear FR FK FX hcb5 hcb6 hc5 hf5 hg5 k5 hk5 own5
            go_wp2_with fail
            go_roundg (n2 - (k + 1))
            case measure => omega
            case rel => exact ⟨k + 1, j + 1, (A5, m + j + 1, c5), by omega, rfl, by go_num, by go_num, by have := hkj.out; omega, by have := hmj.out; omega, HFR, HFK, HFX⟩
          refine AllReadyH.cons (o := ?_) ?_ (fun K hK => ?_) ?_
          rotate_left 1
          · (simp only [List.getElem?_toArray, List.getElem?_cons_succ, List.getElem?_cons_zero]; rfl)
          · go_simp
            skip
            have hb2 : Below W1.heap.size W1 (W1.drew.alloc (.cells #[.int .u8 (z.toNat : Int)] 5)) := Below_newd W1 _
            have own2 := HO.out.below hb2
            have hcb2 : (W1.drew.alloc (.cells #[.int .u8 (z.toNat : Int)] 5)).cell? ⟨ab, ao + k, none⟩ = some (.int .u8 (z.toNat : Int)) := (hb2.cell (p := ⟨ab, ao + k, none⟩) (by have := HAB.out; have := hBW.out; show ab < _; omega)).trans hcb
            refine hK.out _ _ hcb2 (fun hHeld => ?_)
            clear hK K
            try simp only [Act.put, List.setIfInBounds_toArray, List.set_cons_zero, List.set_cons_succ]
            have hcq : (W1.alloc (.cells #[.int .u8 (z.toNat : Int)] 5)).cell? ⟨g, i, none⟩ = some (.slice A3 (m + j) c3) := ((Below_new W1 _).cell (p := ⟨g, i, none⟩) HGG.out.2).trans hc
            refine wpAnyH_ready (rs := [4]) (by kernel_rfl) (by simp) ?_
            refine AllReadyH.cons (o := ?_) ?_ (fun K hK => ?_) AllReadyH.nil
            rotate_left 1
            · (simp only [List.getElem?_toArray, List.getElem?_cons_succ, List.getElem?_cons_zero]; rfl)
            go_simp
            refine hK.out _ _ hcb2 (fun hHeld => ?_)
            clear hK K
            try simp only [Act.put, List.setIfInBounds_toArray, List.set_cons_zero, List.set_cons_succ]
            refine wpAnyH_ready (rs := [10]) (by kernel_rfl) (by simp) ?_
            refine AllReadyH.cons (o := ?_) ?_ (fun K hK => ?_) AllReadyH.nil
            rotate_left 1
            · (simp only [List.getElem?_toArray, List.getElem?_cons_succ, List.getElem?_cons_zero]; rfl)
            (refine step_appendB rfl (.tmp 45) (.tmp 50) rfl B A3 (m + j) c3 _ rfl own2 _ _ 1 1 [z] rfl (LiesB.new W1.drew _ _ _ _ _ rfl rfl) (m + j + 1) (l ++ (b.drop s).take (j + 1)) rfl (by rw [HTK.out, List.append_assoc]) (by omega) (Nat.le_trans hBW.out hb2.size) ?_; intro A5 c5 w5 own5 k5 hk5)
            have hg5 := (((HR.out.row.below hb2).keeps k5 (fun q h1 h2 => (OwnV.of_B own2).apart (HR.out.row.below hb2) (by decide) q h2 h1)))
            obtain ⟨_, hc5⟩ := hg5.cell (j := i) hi
            have hf5 := hg5.frozen i
            have hcb5 : w5.cell? ⟨ab, ao + k, none⟩ = some (.int .u8 (z.toNat : Int)) := (World.cell?_of_block (k5.block ab (World.block_lt_of_cell? _ _ hcb2) (fun h => by have := (own2.blk ab h).1; have := HAB.out; omega))).trans hcb2
            refine hK.out _ _ hcb5 (fun hHeld => ?_)
            clear hK K
            try simp only [Act.put]
            refine wpAnyH_take (i := 11) (oi := ?_) (v := ?_) ?_ (by kernel_rfl) (by kernel_rfl) (by kernel_rfl) ?_ ?_ (by assumption) ?_
            rotate_left 2
            · (simp only [List.getElem?_toArray, List.getElem?_cons_succ, List.getElem?_cons_zero]; rfl)
            · exact fun _ _ _ h => h
            · (refine Or.inl ⟨by rfl, ?_⟩; intro w hSw; (try dsimp only at hSw); go_simp <;> with_reducible rfl)
            try simp only [Act.put, List.setIfInBounds_toArray, List.set_cons_zero, List.set_cons_succ]
            refine wpAnyH_take (i := 12) (oi := ?_) (v := ?_) ?_ (by kernel_rfl) (by kernel_rfl) (by kernel_rfl) ?_ ?_ (by assumption) ?_
            rotate_left 2
            · (simp only [List.getElem?_toArray, List.getElem?_cons_succ, List.getElem?_cons_zero]; rfl)
            · exact fun _ _ _ h => h
            · (refine Or.inl ⟨by rfl, ?_⟩; intro w hSw; (try dsimp only at hSw); go_simp <;> with_reducible rfl)
            try simp only [Act.put, List.setIfInBounds_toArray, List.set_cons_zero, List.set_cons_succ]
            refine wpAnyH_ready (rs := [13]) (by kernel_rfl) (by simp) ?_
            refine AllReadyH.cons (o := ?_) ?_ (fun K hK => ?_) AllReadyH.nil
            rotate_left 1
            · (simp only [List.getElem?_toArray, List.getElem?_cons_succ, List.getElem?_cons_zero]; rfl)
            go_simp
            have hcb6 : (w5.setCell ⟨g, i, none⟩ (.slice A5 (m + j + 1) c5)).cell? ⟨ab, ao + k, none⟩ = some (.int .u8 (z.toNat : Int)) := (World.cell?_of_block (Below.heap_setCell w5 ⟨g, i, none⟩ _ ab (by have h1 := HGG.out; have h2 := HAB.out; show ab ≠ g; omega))).trans hcb5
            refine hK.out _ _ hcb6 (fun hHeld => ?_)
            clear hK K
            try simp only [Act.put]
            refine wpAnyH_done (by kernel_rfl) (NoPanic.normal ?_) _
            obtain ⟨FR, FK, FX⟩ := FIN.out _ w5 A5 c5 hb2 own5 k5 (hk5.imp id fun h => ⟨_, h, hb2.size⟩) hmj.out
            have HFR := hide FR
            have HFK := hide FK
            have HFX := hide FX
            clear FR FK FX hcb5 hcb6 hc5 hf5 hg5 k5 hk5 own5
            go_wp2_with fail
            go_roundg (n2 - (k + 1))
            case measure => omega
            case rel => exact ⟨k + 1, j + 1, (A5, m + j + 1, c5), by omega, rfl, by go_num, by go_num, by have := hkj.out; omega, by have := hmj.out; omega, HFR, HFK, HFX⟩
          exact AllReadyH.nil
    · obtain rfl : k = n2 := by omega
      go_wp2_with fail
      go_ret2
      have e : add = (b.drop s).take j := by
        rw [← HADD.out, List.take_of_length_le (by rw [List.length_drop, HBL.out]; have := HJ.out; omega), List.take_of_length_le (by rw [List.length_drop, HBL.out]; have := HJ.out; omega)]
      have hjl : ((b.drop s).take j).length = j := by rw [List.length_take, List.length_drop, HBL.out]; have := HJ.out; omega
      refine ⟨?_, (A3, m + j, c3), hs, by rw [e]; exact HR.out, HK.out, HXX.out⟩
      rw [← HN.out, ← HE.out, e, hjl, if_neg (by rw [HBL.out]; have := HS.out; have := HJ.out; omega)]
      rfl
end Go.Proofs.Ytbcgffgiifminaa
namespace Go.Proofs.Ytbcgffgiifminaa
open Go.RowKit
set_option maxRecDepth 10000
set_option linter.unusedVariables false
set_option maxHeartbeats 1000000 in
set_option maxRecDepth 10000 in
theorem ref_Front {B : Nat} {w : World} {g n c : Nat} {ss : List Sl} {ls : List (List UInt8)} (h : RL B w g n c ss ls) (hn : 0 < n) (hn8 : n ≤ 1000) {f : Int} (hf : f = (front ls : Int)) :
    Calls Try.prog 85 #[.slice (some ⟨g, 0, none⟩) n c] w fun e w' => e = .returned (.int .i64 f) ∧ w = w' := by
  obtain ⟨hs0, hc0, -, hl0⟩ := h.cell 0 hn
  have H := hide h
  have HF := hide hf
  have HN := hide h.len
  obtain ⟨⟨A0, m0, k0⟩, hx0⟩ : ∃ x, x = ss[0] := ⟨_, rfl⟩
  rw [← hx0] at hc0 hl0
  simp only at hc0 hl0
  have H1 : Hid (frontK ls 1 = m0) := by
    show _ = _
    rw [frontK_succ _ _ (by rw [h.len]; omega), hl0]
    show min (ls.getD 0 []).length m0 = m0
    rw [hl0]; omega
  clear h hf hx0 hl0
  go_enter Try.func85, Try.ntmps85
  go_wp2
  go_loop [3, 4] (fun s i => ∃ (k m : Nat), 1 ≤ k ∧ k ≤ n ∧ i = .int .i64 k ∧ s = .int .i64 m ∧ Hid (m = frontK ls k)) (fun _ i => n - (intOf i).toNat)
  case atStart => exact ⟨1, m0, by omega, by omega, rfl, rfl, H1.out.symm⟩
  case round =>
    obtain ⟨k, m, hk1, hk, rfl, rfl, hm⟩ := hrel
    by_cases hlt : k < n
    · obtain ⟨hs, hc, -, hl⟩ := H.out.cell k hlt
      obtain ⟨⟨A1, m1, c1⟩, hx1⟩ : ∃ x, x = ss[k] := ⟨_, rfl⟩
      rw [← hx1] at hc hl
      simp only at hc hl
      have HM : Hid (frontK ls (k + 1) = min m m1) := by show _ = _; rw [frontK_succ _ _ (by rw [HN.out]; omega), hl, hm.out]
      clear hx1 hl hm hc0
      go_wp2
      go_round
      case rel => exact ⟨k + 1, min m m1, by omega, by omega, by go_num, by first | rfl | go_num | (congr 1; omega), HM.out.symm⟩
      case measure => simp [intOf]; omega
    · obtain rfl : k = n := by omega
      clear hc0
      go_wp2
      go_ret
      exact ⟨by rw [HF.out, front, HN.out, ← hm.out]; rfl, rfl⟩
theorem OwnV.slice_nil {e : TypeId} {w : World} {base c : Nat} {A : Option Addr} {l : List Value} (h : OwnV e w base A 0 c l) : l = [] := List.eq_nil_of_length_eq_zero h.len
end Go.Proofs.Ytbcgffgiifminaa

namespace Go.Proofs.Ytbcgffgiifminaa
open Go.RowKit
set_option maxRecDepth 10000
set_option linter.unusedVariables false
/-- A mail: from, to, and where its bytes lie. -/
theorem info_mail : (Try.prog.info? 47).map (·.size) = some 3 := by kernel_rfl
def mailRow (f t : Int) (b : Value) : List Value := [.int .i64 f, .int .i64 t, b]
theorem results_Mail {fn : Func} {p : Tmp} (h : fn.results = #[.cell p 47]) (tmps : Array Value) (w : World) (g : Nat) (hp : tmps.getD p undef = .pointer (some ⟨g, 0, none⟩)) (f t : Int) (b : Value) (hg : Arr 47 w g (mailRow f t b)) :
    (results fn tmps).run Try.prog w = .ok (.agg #[.int .i64 f, .int .i64 t, b]) w :=
  results_cell_row h tmps w g 47 (mailRow f t b).toArray (0, 0) _ hp hg Try.underlying47 rfl info_mail
/-- A variable that holds a row is written whole, inside a region that draws. -/
theorem step_putA {ops : Array Oper} {o : Oper} {a : Act} {w : World} {K : Act → World → Prop} {Q : Exit → Act → World → Prop} {E : Prop} (hgd : o.guard = none) (ty : TypeId) (x y : Operand) (ho : o.op = .store ty x y)
    (g : Nat) (l : List Value) (hx : a.eval x = .pointer (some ⟨g, 0, none⟩)) (hy : a.eval y = .agg l.toArray) (T : TypeId) {R : List Value} (hg : Arr T w g R) (n : Nat) (hi : (Try.prog.info? ty).map (·.size) = some n) (hR : R.length = n) (hl : l.length = n) (h1 : ∀ u ∈ l, u.oneCell' = true)
    (h : ∀ w', Arr T w' g l → Keeps (fun k => k = g) w w' → w'.heap.size = w.heap.size → K (a.put o.dst undef) w') :
    if Region.wanted o (yielded ops a.tmps) = true then Oper.wp Try.prog o a w K Q else E := by
  have hw : Region.wanted o (yielded ops a.tmps) = true := by simp [Region.wanted, hgd]
  rw [if_pos hw]
  exact wp_store_row ty x y ho g l.toArray hx hy T R.toArray hg (by rw [hi]; simp [hl]) (by simp [hR, hl]) (Array.all_eq_true_iff_forall_mem.2 fun v hv => h1 v (by simpa using hv))
    (h _ (setRow_heap w g _ _ T _ hg) ⟨rfl, rfl, rfl, by simp, fun k _ hk => setRow_other w g k _ hk⟩ (by simp))
/-- The packet as it is sent. -/
def Pkt.sent (p : Pkt) (me dt id : Int) : Pkt := { p with src := me, dst := dt, id := id }
set_option maxHeartbeats 4000000 in
theorem core_mail {B : Nat} {w : World} {x : Nat} {p : CP} {s : Co} (h : CAt B w x p s) (k : Pkt) {A : Option Addr} {n c B' : Nat} (hA : LiesB w B' A n k.press) (hB' : B' ≤ w.heap.size) (hn : n ≤ 10000) (hw : k.WF) (dt : Int) :
    Calls Try.prog 65 #[.pointer (some ⟨x, 0, none⟩), k.val (.slice A n c), .int .i64 dt] w fun r w' => ∃ A' n' c', r = .returned (.agg #[.int .i64 s.cfg.me, .int .i64 dt, .slice A' n' c']) ∧ OwnB w' w.heap.size A' n' c' (k.sent s.cfg.me dt s.cfg.id).enc ∧ Below w.heap.size w w' := by
  have H := hide h
  have HA := hide hA
  have HB' := hide hB'
  have HW := hide hw
  have HX := hide (h.head.lt)
  obtain ⟨q, hq⟩ : ∃ q, q = k.sent s.cfg.me dt s.cfg.id := ⟨_, rfl⟩
  have HQ := hide hq
  obtain ⟨me, hme⟩ : ∃ me, me = s.cfg.me := ⟨_, rfl⟩
  obtain ⟨id, hid⟩ : ∃ id, id = s.cfg.id := ⟨_, rfl⟩
  rw [← hq, ← hme]
  have HME := hide hme
  have HID := hide hid
  have c1 := h.cell (coRow_me s p)
  have c2 := h.cell (coRow_id s p)
  rw [← hme] at c1
  rw [← hid] at c2
  clear h hA hB' hw hq hme hid
  obtain ⟨kind, src, dst, kid, first, press, ack, frame, sum⟩ := k
  go_enter Try.func65, Try.ntmps65
  go_upto_region 1 with fail
  have HP : Hid (Arr 41 (w.alloc (.cells (Pkt.row ⟨kind, src, dst, kid, first, press, ack, frame, sum⟩ (.slice A n c)).toArray 41)) w.heap.size (Pkt.row ⟨kind, src, dst, kid, first, press, ack, frame, sum⟩ (.slice A n c))) := Arr.new 41 w _ _ rfl
  have HB : Hid (Below w.heap.size w (w.alloc (.cells (Pkt.row ⟨kind, src, dst, kid, first, press, ack, frame, sum⟩ (.slice A n c)).toArray 41))) := Below_new _ _
  have HZ : Hid ((w.alloc (.cells (Pkt.row ⟨kind, src, dst, kid, first, press, ack, frame, sum⟩ (.slice A n c)).toArray 41)).heap.size = w.heap.size + 1) := World.size_alloc _ _
  simp only [Pkt.row] at HP HB HZ
  generalize World.alloc w _ = w1 at HP HB HZ ⊢
  have HM : Hid (Arr 47 (w1.alloc (.cells (mailRow 0 0 (.slice none 0 0)).toArray 47)) (w.heap.size + 1) (mailRow 0 0 (.slice none 0 0))) := by show Arr _ _ _ _; rw [← HZ.out]; exact Arr.new 47 w1 _ _ rfl
  have HP2 := hide (HP.out.belowN (Below_new w1 (.cells (mailRow 0 0 (.slice none 0 0)).toArray 47)))
  have HB2 := hide (Below_step HB.out (Below_new w1 (.cells (mailRow 0 0 (.slice none 0 0)).toArray 47)))
  simp only [mailRow] at HM HP2 HB2
  generalize World.alloc w1 _ = w2 at HM HP2 HB2 ⊢
  obtain ⟨g, hg⟩ : ∃ g, g = w.heap.size := ⟨_, rfl⟩
  have HG := hide hg
  have hxg : x ≠ g := by have := HX.out; omega
  rw [← hg] at HP2 HM ⊢
  have c1 := below_cell HB2.out c1
  have c2 := below_cell HB2.out c2
  have p1 := HP2.out.cell (j := 1) (by simp)
  have p2 := HP2.out.cell (j := 2) (by simp)
  have p3 := HP2.out.cell (j := 3) (by simp)
  simp only [List.getElem_cons_zero, List.getElem_cons_succ] at p1 p2 p3
  have f1 := HP2.out.frozen 1
  have f2 := HP2.out.frozen 2
  have f3 := HP2.out.frozen 3
  clear HP HB HZ hg
  go_cut [12] (fun s12 wx => Arr 41 wx g (Pkt.row ⟨kind, me, dt, id, first, press, ack, frame, sum⟩ (.slice A n c)) ∧ Arr 47 wx (g + 1) (mailRow 0 0 (.slice none 0 0)) ∧ Below w.heap.size w2 wx)
  case first =>
    go_region
    go_wp2_with fail
    go_meet
    have HR : Hid (Arr 41 (((w2.setCell ⟨g, 1, none⟩ (.int .i64 me)).setCell ⟨g, 2, none⟩ (.int .i64 dt)).setCell ⟨g, 3, none⟩ (.int .i64 id)) g (Pkt.row ⟨kind, me, dt, id, first, press, ack, frame, sum⟩ (.slice A n c))) := ((HP2.out.set 1 _).set 2 _).set 3 _
    have K1 := (Keeps.setCell w2 ⟨g, 1, none⟩ (.int .i64 me)).trans (Keeps.setCell (w2.setCell ⟨g, 1, none⟩ (.int .i64 me)) ⟨g, 2, none⟩ (.int .i64 dt)) (fun k _ hk => hk)
    have K2 := K1.trans (Keeps.setCell ((w2.setCell ⟨g, 1, none⟩ (.int .i64 me)).setCell ⟨g, 2, none⟩ (.int .i64 dt)) ⟨g, 3, none⟩ (.int .i64 id)) (fun k _ hk => hk)
    refine ⟨HR.out.drew, (HM.out.keeps K2 (by show ¬ g + 1 = g; omega)).drew, (K2.below HB2.out.size (fun k hk => by have := HG.out; show ¬ k = g; omega)).drew⟩
  case rest =>
    obtain ⟨ha3, hm3, hb3⟩ := hcut
    obtain ⟨w3, hw3⟩ : ∃ w3, w3 = wc := ⟨_, rfl⟩
    subst hw3
    have HP3 := hide ha3
    have HM3 := hide hm3
    have HB3 := hide (HB2.out.trans hb3)
    have HQ2 : Hid (q = ⟨kind, me, dt, id, first, press, ack, frame, sum⟩) := by show _ = _; rw [HQ.out, HME.out, HID.out]; rfl
    have HA3 := hide (HA.out.below (HB3.out.mono HB'.out))
    have HB3' := hide (Nat.le_trans HB'.out HB3.out.size)
    have q1 := HP3.out.cell (j := 1) (by simp)
    have q2 := HP3.out.cell (j := 2) (by simp)
    simp only [List.getElem_cons_zero, List.getElem_cons_succ] at q1 q2
    have hgg : g + 1 < w3.heap.size := HM3.out.lt
    clear ha3 hm3 hb3 c1 c2 p1 p2 p3 f1 f2 f3 HP2 HM HB2
    go_upto_region 2 with fail
    refine wp_region_noPanic ?_
    refine wp_region_held_drew (S := (fun w' => WholeP g (Pkt.val ⟨kind, me, dt, id, first, press, ack, frame, sum⟩ (.slice A n c)) w' ∧ w'.cell? ⟨g, 1, none⟩ = some (.int .i64 me) ∧ w'.cell? ⟨g, 2, none⟩ = some (.int .i64 dt))) (by kernel_rfl) ⟨HP3.out.drew.wholeP, q1, q2⟩ (fun hHeld => ?_)
    refine wpAnyH_take (i := 0) (oi := ?_) (v := ?_) ?_ (by kernel_rfl) (by kernel_rfl) (by kernel_rfl) ?_ ?_ (by assumption) ?_
    rotate_left 2
    · (simp only [List.getElem?_toArray, List.getElem?_cons_zero]; rfl)
    · exact fun _ _ _ h => h
    · (refine Or.inl ⟨by rfl, ?_⟩; intro w hSw; (try dsimp only at hSw); go_simp <;> with_reducible rfl)
    try simp only [Act.put, List.setIfInBounds_toArray, List.set_cons_zero, List.set_cons_succ]
    refine wpAnyH_take (i := 1) (oi := ?_) (v := ?_) ?_ (by kernel_rfl) (by kernel_rfl) (by kernel_rfl) ?_ ?_ (by assumption) ?_
    rotate_left 2
    · (simp only [List.getElem?_toArray, List.getElem?_cons_succ, List.getElem?_cons_zero]; rfl)
    · exact fun _ _ _ h => h
    · (refine Or.inl ⟨by rfl, ?_⟩; intro w hSw; (try dsimp only at hSw); go_simp <;> with_reducible rfl)
    try simp only [Act.put, List.setIfInBounds_toArray, List.set_cons_zero, List.set_cons_succ]
    refine wpAnyH_take (i := 2) (oi := ?_) (v := ?_) ?_ (by kernel_rfl) (by kernel_rfl) (by kernel_rfl) ?_ ?_ (by assumption) ?_
    rotate_left 2
    · (simp only [List.getElem?_toArray, List.getElem?_cons_succ, List.getElem?_cons_zero]; rfl)
    · exact fun _ _ _ h => h
    · (refine Or.inl ⟨by rfl, ?_⟩; intro w hSw; (try dsimp only at hSw); go_simp <;> with_reducible rfl)
    try simp only [Act.put, List.setIfInBounds_toArray, List.set_cons_zero, List.set_cons_succ]
    refine wpAnyH_take (i := 3) (oi := ?_) (v := ?_) ?_ (by kernel_rfl) (by kernel_rfl) (by kernel_rfl) ?_ ?_ (by assumption) ?_
    rotate_left 2
    · (simp only [List.getElem?_toArray, List.getElem?_cons_succ, List.getElem?_cons_zero]; rfl)
    · exact fun _ _ _ h => h
    · (refine Or.inl ⟨by rfl, ?_⟩; intro w hSw; (try dsimp only at hSw); go_simp <;> with_reducible rfl)
    try simp only [Act.put, List.setIfInBounds_toArray, List.set_cons_zero, List.set_cons_succ]
    refine wpAnyH_take (i := 4) (oi := ?_) (v := Pkt.val ⟨kind, me, dt, id, first, press, ack, frame, sum⟩ (.slice A n c)) ?_ (by kernel_rfl) (by kernel_rfl) (by kernel_rfl) ?_ ?_ (by assumption) ?_
    rotate_left 1
    · (simp only [List.getElem?_toArray, List.getElem?_cons_succ, List.getElem?_cons_zero]; rfl)
    · exact fun _ _ _ h => h
    · (refine Or.inl ⟨by rfl, ?_⟩; intro w hSw; (try dsimp only at hSw); exact exec_wholeP (x := .tmp 4) hSw.1 rfl rfl)
    try simp only [Act.put, List.setIfInBounds_toArray, List.set_cons_zero, List.set_cons_succ]
    refine wpAnyH_ready (rs := [5]) (by kernel_rfl) (by simp) ?_
    refine AllReadyH.cons (o := ?_) ?_ (fun K hK => ?_) AllReadyH.nil
    rotate_left 1
    · (simp only [List.getElem?_toArray, List.getElem?_cons_succ, List.getElem?_cons_zero]; rfl)
    go_simp
    refine Calls.mono (packet_Encode ⟨kind, me, dt, id, first, press, ack, frame, sum⟩ (HA3.out.drew) HB3'.out hn HW.out) ?_
    rintro e w4 ⟨A4, n4, c4, rfl, ho4, hb4, -⟩
    have HP4 := hide (HP3.out.drew.belowN hb4)
    have HM4 := hide (HM3.out.drew.belowN hb4)
    have HB4 := hide (Below_step HB3.out.drew hb4)
    have HO4 := hide (OwnB.base_le ho4 HB3.out.size)
    refine hK.out _ _ ⟨HP4.out.wholeP, below_cell hb4 q1, below_cell hb4 q2⟩ (fun hHeld => ?_)
    clear hK K
    try simp only [Act.put, List.setIfInBounds_toArray, List.set_cons_zero, List.set_cons_succ]
    refine wpAnyH_take (i := 6) (oi := ?_) (v := .agg #[.int .i64 me, .int .i64 dt, .slice A4 n4 c4]) ?_ (by kernel_rfl) (by kernel_rfl) (by kernel_rfl) ?_ ?_ (by assumption) ?_
    rotate_left 1
    · (simp only [List.getElem?_toArray, List.getElem?_cons_succ, List.getElem?_cons_zero]; rfl)
    · exact fun _ _ _ h => h
    · (refine Or.inl ⟨by rfl, ?_⟩; intro w hSw; (try dsimp only at hSw); (go_simp <;> with_reducible rfl))
    try simp only [Act.put, List.setIfInBounds_toArray, List.set_cons_zero, List.set_cons_succ]
    refine wpAnyH_ready (rs := [7]) (by kernel_rfl) (by simp) ?_
    refine AllReadyH.cons (o := ?_) ?_ (fun K hK => ?_) AllReadyH.nil
    rotate_left 1
    · (simp only [List.getElem?_toArray, List.getElem?_cons_succ, List.getElem?_cons_zero]; rfl)
    (refine step_putA rfl 47 (.tmp 6) (.tmp 27) rfl (g + 1) (mailRow me dt (.slice A4 n4 c4)) rfl rfl 47 HM4.out 3 info_mail rfl rfl (by simp [mailRow, Value.oneCell']) ?_; intro w5 ha5 hk5 hs5)
    have HP5 := hide (HP4.out.keeps hk5 (by omega))
    have HO5 := hide (OwnB.base_le (OwnB.keeps ho4 hk5 (fun j hj hm => by have hl := ho4.blk j hj; have e : w3.drew.heap.size = w3.heap.size := rfl; omega)) HB3.out.size)
    have HB5 := hide (HB4.out.trans (hk5.below HB4.out.size (fun k hk => by have := HG.out; omega)))
    refine hK.out _ _ ⟨HP5.out.wholeP, HP5.out.cell (j := 1) (by simp), HP5.out.cell (j := 2) (by simp)⟩ (fun hHeld => ?_)
    clear hK K
    try simp only [Act.put]
    refine wpAnyH_done (by kernel_rfl) (NoPanic.normal ?_) _
    go_wp2_with fail
    refine bodyPost_ret (results_Mail (fn := Try.f65) rfl _ _ (g + 1) rfl me dt (.slice A4 n4 c4) ha5) rfl ⟨A4, n4, c4, rfl, ?_, HB5.out⟩
    rw [HQ2.out]
    exact HO5.out
end Go.Proofs.Ytbcgffgiifminaa
