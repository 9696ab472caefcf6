/-
  guess.Ahead: what all press.
-/
import Derived.Test.YtciogjnchpeaaaaGuess1
import Derived.Test.YtciogjnchpeaaaaGBase
import Derived.Test.YtciogjnchpeaaaaLaw13
namespace Go.Proofs.Ytciogjnchpeaaaa
open Go.RowKit
set_option maxRecDepth 10000
set_option linter.unusedVariables false
open Prd
theorem elem_rows : Elem 37 23 (.slice none 0 0) 24 := ⟨Try.underlying37, by kernel_rfl, rfl⟩
/-- Rows of bytes of the call's own. -/
structure LL (B : Nat) (w : World) (A : Option Addr) (n c : Nat) (ss : List Sl) (ls : List (List UInt8)) : Prop where
  row : OwnV 23 w B A n c (ss.map sv)
  len : ls.length = n
  line : ∀ (i : Nat) (h : i < ss.length), ∃ c', OwnB w B ss[i].1 ss[i].2.1 c' (ls.getD i [])
section
variable {B B' : Nat} {w w' : World} {n c : Nat} {A : Option Addr} {ss : List Sl} {ls : List (List UInt8)}
theorem LL.nil (B : Nat) (w : World) : LL B w none 0 0 [] [] := ⟨OwnV.nil _ _ _, rfl, fun i h => by simp at h⟩
theorem LL.slen (h : LL B w A n c ss ls) : ss.length = n := by have := h.row.len; rwa [List.length_map] at this
theorem LL.below (h : LL B w A n c ss ls) (hb : Below w.heap.size w w') : LL B w' A n c ss ls := ⟨h.row.below hb, h.len, fun i hi => by obtain ⟨c', o⟩ := h.line i hi; exact ⟨c', o.below hb⟩⟩
theorem LL.drewN (h : LL B w A n c ss ls) (k : Nat) : LL B (w.drewN k) A n c ss ls := h.below (Below_drewN (Below.refl _ _) k)
theorem LL.base_le (h : LL B w A n c ss ls) (hb : B' ≤ B) : LL B' w A n c ss ls := ⟨h.row.base_le hb, h.len, fun i hi => by obtain ⟨c', o⟩ := h.line i hi; exact ⟨c', o.base_le hb⟩⟩
theorem LL.cell (h : LL B w A n c ss ls) {i : Nat} (hi : i < n) : ∃ (g : Nat) (a : Option Addr) (k c' : Nat), A = some ⟨g, 0, none⟩ ∧ w.cell? ⟨g, i, none⟩ = some (.slice a k c') ∧ LiesB w w.heap.size a k (ls.getD i []) := by
  obtain ⟨g, rfl, _, _⟩ := h.row.form (by omega)
  have hs : i < ss.length := by rw [h.slen]; exact hi
  obtain ⟨hl, hc⟩ := h.row.cell (j := i) hi
  obtain ⟨c', o⟩ := h.line i hs
  refine ⟨g, ss[i].1, ss[i].2.1, ss[i].2.2, rfl, ?_, o.lies⟩
  rw [hc, List.getElem_map]
theorem LL.add {w2 w4 : World} {A4 : Option Addr} {c4 : Nat} {x : Sl} {l : List UInt8} {c' : Nat} (h : LL B w A n c ss ls) (hx : OwnB w B x.1 x.2.1 c' l) (hb : Below w.heap.size w w2) (own4 : OwnV 23 w4 B A4 (n + 1) c4 (ss.map sv ++ [sv x])) (k4 : Keeps (Mine A n c) w2 w4) :
    LL B w4 A4 (n + 1) c4 (ss ++ [x]) (ls ++ [l]) := by
  refine ⟨by rw [List.map_append]; exact own4, by rw [List.length_append, h.len]; rfl, fun i hi => ?_⟩
  have hr2 := h.row.below hb
  have keep : ∀ {a : Option Addr} {k c1 : Nat} {y : List UInt8}, OwnB w B a k c1 y → OwnB w4 B a k c1 y := fun o =>
    (o.below hb).keeps k4 fun j hj hm => (OwnV.of_B (o.below hb)).apart hr2 (by decide) j hj hm
  by_cases he : i < ss.length
  · rw [List.getElem_append_left he]
    obtain ⟨c1, o⟩ := h.line i he
    have e : (ls ++ [l]).getD i [] = ls.getD i [] := by
      rw [List.getD_eq_getElem?_getD, List.getElem?_append_left (by rw [h.len, ← h.slen]; exact he), ← List.getD_eq_getElem?_getD]
    rw [e]
    exact ⟨c1, keep o⟩
  · have he2 : i = ss.length := by rw [List.length_append, List.length_singleton] at hi; omega
    subst he2
    rw [List.getElem_append_right (Nat.le_refl _)]
    simp only [Nat.sub_self, List.getElem_cons_zero]
    have e : (ls ++ [l]).getD ss.length [] = l := by
      rw [List.getD_eq_getElem?_getD, List.getElem?_append_right (by rw [h.len, ← h.slen]; exact Nat.le_refl _), h.len, h.slen, Nat.sub_self]; rfl
    rw [e]
    exact ⟨c', keep hx⟩
end
/-- Was there a player whose frame is not known, among the first ones? -/
def hitB (ls : List (List UInt8)) (p : Nat) : Bool := (List.range p).any fun j => (ls.getD j []).length == front ls
theorem hitB_succ (ls : List (List UInt8)) (p : Nat) : hitB ls (p + 1) = (hitB ls p || ((ls.getD p []).length == front ls)) := by
  unfold hitB
  rw [List.range_succ, List.any_append]; simp
/-- By which rank a player's line is guessed on; which one is left for those behind. -/
def rankAt (ls : List (List UInt8)) (r p : Nat) : Nat := if hitB ls p = true then 0 else if (ls.getD p []).length = front ls then r else 0
def restAt (ls : List (List UInt8)) (r p : Nat) : Nat := if hitB ls p = true then 0 else r
theorem restAt_le (ls : List (List UInt8)) (r p : Nat) : restAt ls r p ≤ r := by unfold restAt; split <;> omega
theorem rank_hit {ls : List (List UInt8)} {r p : Nat} (h : (ls.getD p []).length = front ls) : rankAt ls r p = restAt ls r p ∧ restAt ls r (p + 1) = 0 := by
  unfold rankAt restAt
  rw [hitB_succ, if_pos h, h]
  simp
theorem rank_miss {ls : List (List UInt8)} {r p : Nat} (h : ¬ (ls.getD p []).length = front ls) : rankAt ls r p = 0 ∧ restAt ls r (p + 1) = restAt ls r p := by
  unfold rankAt restAt
  have e : ((ls.getD p []).length == front ls) = false := by simpa using h
  rw [hitB_succ, if_neg h, e, Bool.or_false]
  simp
def fulls (b : By) (ls : List (List UInt8)) (r tt : Nat) : List (List UInt8) := (List.range ls.length).map fun p => gline b (ls.getD p []) (rankAt ls r p) tt
def aheadAt (b : By) (ls : List (List UInt8)) (r tt i : Nat) : List UInt8 := (fulls b ls r tt).map fun x => x.getD (front ls + i) 0
def aheadOf (b : By) (ls : List (List UInt8)) (ri ti : Int) : List (List UInt8) :=
  if b.may = true ∧ 0 ≤ ri ∧ ti ≤ 1000 then (List.range (ti.toNat - front ls)).map (aheadAt b ls ri.toNat ti.toNat) else []
theorem range_map_take {α : Type} (f : Nat → α) (m i : Nat) (h : i < m) : ((List.range m).map f).take (i + 1) = ((List.range m).map f).take i ++ [f i] := by
  have hl : i < ((List.range m).map f).length := by simpa using h
  rw [List.take_succ_eq_append_getElem hl]; simp
theorem getD_map0 {α β : Type} (f : α → β) (l : List α) (k : Nat) (d : α) (e : β) (h : k < l.length) : (l.map f).getD k e = f (l.getD k d) := by
  rw [List.getD_eq_getElem?_getD, List.getElem?_map, List.getD_eq_getElem?_getD, List.getElem?_eq_getElem h]; rfl
theorem getE (l : List UInt8) (f : Nat) (h : f < l.length) : l[f] = l.getD f 0 := by rw [List.getD_eq_getElem?_getD, List.getElem?_eq_getElem h]; rfl
theorem fulls_len (b : By) (ls : List (List UInt8)) (r tt : Nat) : (fulls b ls r tt).length = ls.length := by simp [fulls]
theorem fulls_getD (b : By) (ls : List (List UInt8)) (r tt p : Nat) (h : p < ls.length) : (fulls b ls r tt).getD p [] = gline b (ls.getD p []) (rankAt ls r p) tt := by
  unfold fulls
  rw [List.getD_eq_getElem?_getD, List.getElem?_map, List.getElem?_range h]; rfl
set_option maxHeartbeats 4000000 in
set_option maxRecDepth 10000 in
theorem guess_Ahead {B : Nat} {w : World} {q c : Nat} {A : Option Addr} {xs : List (Nat × Option Nat)} {ls : List (List UInt8)} (h : QAt B w q A c xs ls) (hB : B ≤ w.heap.size) (h0 : 0 < xs.length) (h8 : xs.length ≤ 1000) (hsh : ∀ i, (ls.getD i []).length ≤ 1000)
    (b : By) (A0 : Option Addr) (n0 c0 : Nat) (hT : LiesB w w.heap.size A0 n0 b.table) (ri ti : Int) (r1 : -9223372036854775808 ≤ ri) (r2 : ri ≤ 9223372036854775807) (t1 : -9223372036854775808 ≤ ti) (t2 : ti ≤ 9223372036854775807) :
    Calls Try.prog 13 #[.pointer (some ⟨q, 0, none⟩), b.val (.slice A0 n0 c0), .int .i64 ri, .int .i64 ti] w fun e w' => ∃ A' n' c' ss', e = .returned (.slice A' n' c') ∧ LL w.heap.size w' A' n' c' ss' (aheadOf b ls ri ti) ∧ Below w.heap.size w w' := by
  have HQ := hide h
  have HTB := hide hT
  obtain ⟨R, hR⟩ : ∃ R, R = aheadOf b ls ri ti := ⟨_, rfl⟩
  rw [← hR]
  have HR := hide hR
  obtain ⟨F, hF⟩ : ∃ F, F = front ls := ⟨_, rfl⟩
  have HF := hide hF
  obtain ⟨m, hm⟩ : ∃ m, m = xs.length := ⟨_, rfl⟩
  have HX := hide hm
  have HLL : Hid (ls.length = m) := by show _ = _; rw [h.len, hm]
  have hm0 : 0 < m := by omega
  have hm8 : m ≤ 1000 := by omega
  have HSH := hide hsh
  have hF1 : F ≤ 1000 := by
    obtain ⟨i, -, e⟩ := frontK_mem ls ls.length (Nat.le_refl _) (by rw [HLL.out]; omega)
    have := hsh i
    rw [hF, front, e]; exact this
  clear h hT hR hF hm h0 h8 hsh
  rw [show b.val (.slice A0 n0 c0) = .agg #[.int .i64 b.kind, .int .i64 b.order, .slice A0 n0 c0] from rfl]
  go_enter Try.func13, Try.ntmps13
  go_upto_region 1 with fail
  generalize hw0 : World.alloc w _ = w0
  have hA0 : Arr 39 w0 w.heap.size (b.row (.slice A0 n0 c0)) := by rw [← hw0]; exact Arr.new 39 w _ _ rfl
  have HB0 : Hid (Below w.heap.size w w0) := by show Below _ _ _; rw [← hw0]; exact Below_new w _
  have HA0 := hide hA0
  have hsz0 : w.heap.size < w0.heap.size := hA0.lt
  clear hw0 hA0
  go_wp2_with (refine wpYG_load rfl (.tmp 5) rfl w.heap.size rfl b (.slice A0 n0 c0) HA0.out ?_)
  refine Calls.mono (pred_May b A0 n0 c0 w0 (HTB.out.len)) ?_
  rintro e w1 ⟨rfl, hb1⟩
  have HB1 := hide (Below_step HB0.out hb1)
  have HA1 := hide (HA0.out.belowN hb1)
  have HQ1 := hide (HQ.out.below HB1.out)
  have HT1 := hide (HTB.out.below HB1.out)
  have hs1 := HB1.out.size
  clear hb1 HA0 HB0 HQ HTB hsz0
  cases hm : b.may
  · have HRn : Hid (R = []) := by show _ = _; rw [HR.out, aheadOf, if_neg (by rw [hm]; rintro ⟨h, _⟩; cases h)]
    go_wp2_with fail
    go_ret
    exact ⟨none, 0, 0, [], rfl, by rw [HRn.out]; exact LL.nil _ _, HB1.out⟩
  have HM := hide hm
  clear hm
  by_cases h0 : ri < 0
  · have d0 : decide (ri < 0) = true := decide_eq_true h0
    have HRn : Hid (R = []) := by show _ = _; rw [HR.out, aheadOf, if_neg (by rintro ⟨_, h, _⟩; omega)]
    clear h0
    go_wp2_with fail
    go_ret
    exact ⟨none, 0, 0, [], rfl, by rw [HRn.out]; exact LL.nil _ _, HB1.out⟩
  have d0 : decide (ri < 0) = false := decide_eq_false h0
  by_cases h1 : ti > 1000
  · have d1 : decide (ti > 1000) = true := decide_eq_true h1
    have HRn : Hid (R = []) := by show _ = _; rw [HR.out, aheadOf, if_neg (by rintro ⟨_, _, h⟩; omega)]
    clear h0 h1
    go_wp2_with fail
    go_ret
    exact ⟨none, 0, 0, [], rfl, by rw [HRn.out]; exact LL.nil _ _, HB1.out⟩
  have d1 : decide (ti > 1000) = false := decide_eq_false h1
  obtain ⟨r, rfl⟩ : ∃ r : Nat, ri = (r : Int) := ⟨ri.toNat, by omega⟩
  obtain ⟨tt, htt⟩ : ∃ tt : Nat, tt = ti.toNat := ⟨_, rfl⟩
  have HR2 : Hid (R = (List.range (tt - F)).map (aheadAt b ls r tt)) := by
    show _ = _
    rw [HR.out, aheadOf, if_pos ⟨HM.out, by omega, by omega⟩, ← HF.out, ← htt, Int.toNat_natCast]
  have htm : max ti 0 = (tt : Int) := by omega
  have htt1 : tt ≤ 1000 := by omega
  have hr3 : r ≤ 9223372036854775807 := by omega
  have HTM := hide (And.intro htm t1)
  clear htt htm h0 h1 r1 r2 t1 t2 HR
  have hFI : Hid ((F : Int) = (front ls : Int)) := by show _ = _; rw [HF.out]
  have hMI : Hid ((m : Int) = (xs.length : Int)) := by show _ = _; rw [HX.out]
  have hx0 : Hid (0 < xs.length ∧ xs.length ≤ 1000) := by rw [← HX.out]; exact ⟨hm0, hm8⟩
  go_wp2_with fail
  refine Calls.mono (queue_Front HQ1.out hx0.out.1 hx0.out.2 hFI.out) ?_
  rintro e w2 ⟨rfl, rfl⟩
  go_wp2_with fail
  refine Calls.mono (queue_N HQ1.out hMI.out) ?_
  rintro e w2 ⟨rfl, rfl⟩
  go_wp2_with fail
  obtain ⟨FL, hFL⟩ : ∃ FL, FL = fulls b ls r tt := ⟨_, rfl⟩
  have HFL := hide hFL
  have HFLL : Hid (FL.length = m) := by show _ = _; rw [hFL, fulls_len, HLL.out]
  clear hFL
  go_loopg [2, 10, 11, 12, 13, 38] m (fun gg s2 s10 s11 s12 s13 s38 wr => ∃ (p rho : Nat) (A' : Option Addr) (c' : Nat) (ss' : List Sl), p ≤ m ∧ gg = m - p ∧ rho ≤ r ∧ s38 = .int .i64 (p : Int) ∧ s2 = .int .i64 (rho : Int) ∧ s10 = .slice A' p c' ∧ Hid (rho = restAt ls r p) ∧ Hid (LL w1.heap.size wr A' p c' ss' (FL.take p)) ∧ Hid (Below w1.heap.size w1 wr))
  case atStart => exact ⟨0, r, none, 0, [], by omega, rfl, Nat.le_refl _, rfl, rfl, rfl, by show _ = _; simp [restAt, hitB], LL.nil _ _, Below.refl _ _⟩
  case round =>
    obtain ⟨W1, hW1⟩ : ∃ W1, W1 = wr := ⟨_, rfl⟩
    subst hW1
    obtain ⟨p, rho, A', c', ss', hpm, rfl, hrho, rfl, rfl, rfl, HRO, HL, HB⟩ := hrel
    have hsW := HB.out.size
    by_cases hlt : p < m
    · have hpx : Hid (p < xs.length) := by rw [← HX.out]; exact hlt
      obtain ⟨pp, hpp⟩ : ∃ pp, pp = (xs[p]'hpx.out).1 := ⟨_, rfl⟩
      have HPP := hide hpp
      obtain ⟨past, hpast⟩ : ∃ past, past = ls.getD p [] := ⟨_, rfl⟩
      have HPA := hide hpast
      obtain ⟨n5, hn5⟩ : ∃ n5, n5 = past.length := ⟨_, rfl⟩
      have hn51 : n5 ≤ 1000 := by have := HSH.out p; rw [hn5, hpast]; exact this
      have HN5 : Hid (past.length = n5) := hn5.symm
      have HQW := hide (HQ1.out.below HB.out)
      have HAW := hide (HA1.out.belowN HB.out)
      have HTW := hide (HT1.out.below (HB.out.mono hs1))
      have HLN : Hid (LineAt W1 pp (xs[p]'hpx.out).2 past) := by
        have := HQW.out.line p hpx.out
        rw [← HPP.out, ← HPA.out] at this
        exact this
      clear hpp hpast hn5
      go_wp2_with fail
      refine Calls.mono (queue_Line HQW.out p hpx.out hx0.out.2 rfl HPP.out) ?_
      rintro e w5 ⟨rfl, rfl⟩
      go_wp2_with fail
      refine Calls.mono (line_All_v pp _ past n5 W1 HLN.out HN5.out) ?_
      rintro e w5 ⟨A5, c5, rfl, own5, hb5⟩
      have HO5 := hide (own5.base_le hsW)
      have HL5 := hide (HL.out.below hb5)
      have HB5 := hide (Below_step HB.out hb5)
      have HA5 := hide (HAW.out.belowN hb5)
      have HT5 := hide (HTW.out.below (hb5.mono (Nat.le_trans hs1 hsW)))
      have hs5 := HB5.out.size
      obtain ⟨kap, hkap⟩ : ∃ kap, kap = rankAt ls r p := ⟨_, rfl⟩
      obtain ⟨rho2, hrho2⟩ : ∃ rho2, rho2 = restAt ls r (p + 1) := ⟨_, rfl⟩
      have HK := hide (And.intro hkap hrho2)
      have hkapr : kap ≤ r := by
        rw [hkap]; unfold rankAt; split
        · omega
        · split <;> omega
      have hrhor : rho2 ≤ r := by rw [hrho2]; exact restAt_le _ _ _
      clear own5 hb5 hkap hrho2 HQW HAW HTW HLN HL HB
      go_upto_if 48 with fail
      go_cut [2, 13] from 39 to 58 (fun s2 s13 wx => s13 = .int .i64 (kap : Int) ∧ s2 = .int .i64 (rho2 : Int) ∧ w5 = wx)
      case first =>
        by_cases hF5 : n5 = F
        · have e : Hid (kap = rho ∧ rho2 = 0) := by
            have := rank_hit (ls := ls) (r := r) (p := p) (by rw [← HPA.out, HN5.out, hF5, HF.out])
            exact ⟨by rw [HK.out.1, this.1, HRO.out], by rw [HK.out.2, this.2]⟩
          have d5 : ((n5 : Int) == (F : Int)) = true := by rw [beq_iff_eq]; omega
          clear hF5
          go_wp2_with fail
          go_meet
          exact ⟨by rw [e.out.1], by rw [e.out.2]; rfl, rfl⟩
        · have e : Hid (kap = 0 ∧ rho2 = rho) := by
            have := rank_miss (ls := ls) (r := r) (p := p) (by rw [← HPA.out, HN5.out, ← HF.out]; exact hF5)
            exact ⟨by rw [HK.out.1, this.1], by rw [HK.out.2, this.2, HRO.out]⟩
          have d5 : ((n5 : Int) == (F : Int)) = false := by rw [beq_eq_false_iff_ne]; omega
          clear hF5
          go_wp2_with fail
          go_meet
          exact ⟨by rw [e.out.1]; rfl, by rw [e.out.2], rfl⟩
      case rest =>
      obtain ⟨rfl, rfl, rfl⟩ := hcut
      go_wp2_with (refine wpY_load rfl (.tmp 5) rfl w.heap.size rfl b (.slice A0 n0 c0) HA5.out ?_)
      refine Calls.mono (guess_line b A0 n0 c0 A5 n5 c5 w1.heap.size past kap tt ti w5 HO5.out (HT5.out.more (Nat.le_trans hs1 hs5)) hs5 hn51 (by omega) htt1 HTM.out.1 HTM.out.2 HM.out) ?_
      rintro e w6 ⟨A6, n6, c6, c6', rfl, hc6, own6, hb6⟩
      have HO6 := hide own6
      have HL6 := hide (HL5.out.below hb6)
      have HB6 := hide (Below_step HB5.out hb6)
      have hs6 := HB6.out.size
      have HNX : Hid (FL.take (p + 1) = FL.take p ++ [gline b past kap tt]) := by
        show _ = _
        rw [HFL.out, fulls, range_map_take _ _ _ (by rw [HLL.out]; exact hlt), HK.out.1, HPA.out]
      clear own6 hb6 HL5 HB5 HO5 HA5 HT5
      go_wp2_with (at_builtin; refine wpV_append elem_rows rfl (.tmp 50) (.tmp 56) rfl w1.heap.size A' p c' _ rfl (HL6.out.row.below (Below_new _ _)) _ _ 1 1 [sv (A6, n6, c6)] rfl rfl (Lies.new _ _ _ _) (by simp [Value.oneCell']) (by omega) (p + 1) _ rfl rfl (by omega) (by omega) (by simp; omega) ?_; intro A7 c7 w7 own7 k7 hk7)
      go_roundg (m - (p + 1))
      case measure => omega
      case rel =>
        refine ⟨p + 1, rho2, A7, c7, ss' ++ [(A6, n6, c6)], by omega, rfl, hrhor, by go_num, rfl, rfl, HK.out.2, ?_, ?_⟩
        · show LL _ _ _ _ _ _ _
          rw [HNX.out]
          exact HL6.out.add (x := (A6, n6, c6)) HO6.out (Below_new _ _) own7 k7
        · exact HB6.out.trans (((Below_new _ _).mono hs6).trans (k7.belowV HL6.out.row (by simp; omega)))
    · obtain rfl : p = m := by omega
      have HLM : Hid (LL w1.heap.size W1 A' p c' ss' FL) := by
        show LL _ _ _ _ _ _ _
        have := HL.out
        rwa [List.take_of_length_le (Nat.le_of_eq HFLL.out)] at this
      obtain ⟨M, hM⟩ : ∃ M, M = tt - F := ⟨_, rfl⟩
      rw [← hM] at HR2
      have hMt : M ≤ tt := by omega
      have HMM := hide hM
      clear hM HL HRO
      go_wp2_with fail
      go_loopg [14, 15, 16, 18] M (fun gg s14 s15 s16 s18 wr => ∃ (i f : Nat) (A2 : Option Addr) (c2 : Nat) (ss2 : List Sl), i ≤ M ∧ gg = M - i ∧ f ≤ F + M ∧ s15 = .int .i64 (f : Int) ∧ s14 = .slice A2 i c2 ∧ Hid (f = F + i) ∧ Hid (LL W1.heap.size wr A2 i c2 ss2 (R.take i)) ∧ Hid (Below W1.heap.size W1 wr))
      case atStart => exact ⟨0, F, none, 0, [], by omega, rfl, by omega, rfl, rfl, rfl, LL.nil _ _, Below.refl _ _⟩
      case round =>
        obtain ⟨W2, hW2⟩ : ∃ W2, W2 = wr := ⟨_, rfl⟩
        subst hW2
        obtain ⟨i, f, A2, c2, ss2, hiM, rfl, hfM, rfl, rfl, HFI, HL2, HB2⟩ := hrel
        have hs2 := HB2.out.size
        by_cases hlt2 : i < M
        · have hft : f < tt := by have := HFI.out; have := HMM.out; omega
          have hfti : (f : Int) < ti := by have := HTM.out; omega
          obtain ⟨J, hJ⟩ : ∃ J, J = FL.map (fun x => x.getD f 0) := ⟨_, rfl⟩
          have HJ := hide hJ
          have HRN : Hid (R.take (i + 1) = R.take i ++ [J]) := by
            show _ = _
            rw [HR2.out, range_map_take _ _ _ hlt2, hJ, HFI.out, HFL.out, HF.out]; rfl
          have HJL : Hid (J.length = p) := by show _ = _; rw [hJ, List.length_map, HFLL.out]
          clear hJ
          go_wp2_with fail
          go_loopg [16, 18, 67] p (fun gg s16 s18 s67 wr => ∃ (k : Nat) (A3 : Option Addr) (c3 : Nat), k ≤ p ∧ gg = p - k ∧ s67 = .int .i64 (k : Int) ∧ s16 = .slice A3 k c3 ∧ Hid (OwnB wr W2.heap.size A3 k c3 (J.take k)) ∧ Hid (Below W2.heap.size W2 wr))
          case atStart => exact ⟨0, none, 0, by omega, rfl, rfl, rfl, OwnB.nil _ _, Below.refl _ _⟩
          case round =>
            obtain ⟨k, A3, c3, hkp, rfl, rfl, rfl, HO3, HB3⟩ := hrel
            have hs3 := HB3.out.size
            by_cases hlt3 : k < p
            · obtain ⟨g7, a7, k7, c7, rfl, hc7, hl7⟩ := (HLM.out.below (HB2.out.trans (HB3.out.mono hs2))).cell hlt3
              have hk7 : f < k7 := by
                rw [← hl7.len, HFL.out, fulls_getD _ _ _ _ _ (by rw [HLL.out]; exact hlt3), gline_len]; omega
              obtain ⟨b8, o8, hl8, rfl, -, hc8⟩ := hl7.at_ hk7
              obtain ⟨x, hx⟩ : ∃ x, x = (FL.getD k [])[f] := ⟨_, rfl⟩
              rw [← hx] at hc8
              have HJN : Hid (J.take k ++ [x] = J.take (k + 1)) := by
                show _ = _
                have hkJ : k < J.length := by rw [HJL.out]; exact hlt3
                rw [List.take_succ_eq_append_getElem hkJ]
                congr 2
                have e := getD_map0 (fun x : List UInt8 => x.getD f 0) FL k [] 0 (by rw [HFLL.out]; exact hlt3)
                rw [← HJ.out, List.getD_eq_getElem?_getD, List.getElem?_eq_getElem hkJ] at e
                rw [hx]
                refine Eq.trans ?_ e.symm
                exact getE _ _ hl8
              have hfk : (f : Int) < (k7 : Int) := by omega
              clear hx hl7
              go_wp2_with (at_builtin; refine wpB_append3 rfl (.tmp 71) (.tmp 76) rfl W2.heap.size A3 k c3 _ rfl (HO3.out.below (Below_new _ _)) _ _ 1 1 [x] rfl (LiesB.new _ _ _ _ _ _ rfl rfl) (k + 1) _ rfl HJN.out (by omega) (by simp; omega) ?_; intro A9 c9 w9 own9 k9 hk9)
              go_roundg (p - (k + 1))
              case measure => omega
              case rel => exact ⟨k + 1, A9, c9, by omega, rfl, by go_num, rfl, own9, HB3.out.trans (((Below_new _ _).mono hs3).trans (k9.belowOwn HO3.out (by simp; omega)))⟩
            · obtain rfl : k = p := by omega
              have HO4 : Hid (OwnB wr W2.heap.size A3 k c3 J) := by
                show OwnB _ _ _ _ _ _
                have := HO3.out
                rwa [List.take_of_length_le (Nat.le_of_eq HJL.out)] at this
              obtain ⟨W3, hW3⟩ : ∃ W3, W3 = wr := ⟨_, rfl⟩
              subst hW3
              have HL3 := hide (HL2.out.below HB3.out)
              have HB4 := hide (HB2.out.trans (HB3.out.mono hs2))
              have hs4 := HB4.out.size
              clear HO3 HL2 HB2 HB3
              go_wp2_with (at_builtin; refine wpV_append elem_rows rfl (.tmp 79) (.tmp 81) rfl W1.heap.size A2 i c2 _ rfl (HL3.out.row.below (Below_new _ _)) _ _ 1 1 [sv (A3, k, c3)] rfl rfl (Lies.new _ _ _ _) (by simp [Value.oneCell']) (by omega) (i + 1) _ rfl rfl (by omega) (by omega) (by simp; omega) ?_; intro A9 c9 w9 own9 k9 hk9)
              go_roundg (M - (i + 1))
              case measure => omega
              case rel =>
                refine ⟨i + 1, f + 1, A9, c9, ss2 ++ [(A3, k, c3)], by omega, rfl, by have := HFI.out; omega, by go_num, rfl, ?_, ?_, ?_⟩
                · show _ = _; have := HFI.out; omega
                · show LL _ _ _ _ _ _ _
                  rw [HRN.out]
                  exact HL3.out.add (x := (A3, k, c3)) (HO4.out.base_le hs2) (Below_new _ _) own9 k9
                · exact HB4.out.trans (((Below_new _ _).mono hs4).trans (k9.belowV HL3.out.row (by simp; omega)))
        · obtain rfl : i = M := by omega
          have hfti : ¬ (f : Int) < ti := by have := HTM.out; have := HMM.out; have := HFI.out; omega
          go_wp2_with fail
          go_ret
          refine ⟨A2, i, c2, rfl, ⟨ss2, ?_⟩, ?_⟩
          · have := HL2.out
            rw [List.take_of_length_le (by rw [HR2.out]; simp)] at this
            exact this.base_le (Nat.le_trans hs1 hsW)
          · exact HB1.out.trans ((HB.out.mono hs1).trans (HB2.out.mono (Nat.le_trans hs1 hsW)))
end Go.Proofs.Ytciogjnchpeaaaa
