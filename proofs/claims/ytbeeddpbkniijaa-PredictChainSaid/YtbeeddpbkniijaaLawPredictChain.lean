/-
  PredictChain: the walk. (its opening printed by wip/mk18.py)
-/
import Derived.Test.YtbeeddpbkniijaaLaw18B
import Derived.Test.YtbeeddpbkniijaaOpenB
import Derived.Test.YtbeeddpbkniijaaRegion
import Derived.Deep.QuietTactic
import Derived.BigQuiet
namespace Go.Proofs.Ytbeeddpbkniijaa
open Go.RowKit
set_option linter.unusedVariables false
open Prd
theorem By.chain_parts (b : By) (a e : Nat) (past : List UInt8) : (b.chain (a + e) past).take a = b.chain a past ∧ (b.chain (a + e) past).drop a = b.chain e (past ++ b.chain a past) := by
  rw [By.chain_add]
  have h := b.chain_len a past
  exact ⟨List.take_left' h, List.drop_left' h⟩
theorem By.rank_one' (b : By) (L : List UInt8) : (b.rank L).take 1 = [b.first L] := by
  have h := b.rank_len L
  unfold By.first
  cases hr : b.rank L with
  | nil => rw [hr] at h; simp at h
  | cons x r => rfl
theorem below_some {w w' : World} {a : Addr} {u : Value} (h : Below w.heap.size w w') (hc : w.cell? a = some u) : w'.cell? a = some u := (h.cell (World.block_lt_of_cell? w _ hc)).trans hc
set_option maxHeartbeats 4000000 in
set_option maxRecDepth 10000 in
theorem law_PredictChain (b0 : By) (A0 : Option Addr) (n0 c0 : Nat) (A : Option Addr) (n c : Nat) (l : List UInt8) (ki ai : Int) (w : World) (hT : LiesB w w.heap.size A0 n0 b0.table) (hc0 : n0 ≤ c0) (hcm0 : c0 ≤ maxLen) (hik : Is64 b0.kind) (hio : Is64 b0.order) (hA : LiesB w w.heap.size A n l) (hc : n ≤ c) (hcm : c ≤ maxLen) (klo : -9223372036854775808 ≤ ki) (khi : ki ≤ 9223372036854775807) (lo : -9223372036854775808 ≤ ai) (hi : ai ≤ 9223372036854775807) :
    Calls Try.prog 8 #[b0.val (.slice A0 n0 c0), .slice A n c, .int .i64 ki, .int .i64 ai] w fun e w' => e = .returned (.bool true) ∧ Below w.heap.size w w' := by
  have HA := hide hA
  have HT0 := hide hT
  clear hA hcm hT hcm0
  rw [show b0.val (.slice A0 n0 c0) = .agg #[.int .i64 b0.kind, .int .i64 b0.order, .slice A0 n0 c0] from rfl]
  go_enter Try.func8, Try.ntmps8
  go_upto_region 1 with fail
  generalize hw0 : World.alloc w _ = w0
  have hA0 : Arr 24 w0 w.heap.size (b0.row (.slice A0 n0 c0)) := by rw [← hw0]; exact Arr.new 24 w _ _ rfl
  have HB0 : Hid (Below w.heap.size w w0) := by show Below _ _ _; rw [← hw0]; exact Below_new w _
  have hsz0 : w.heap.size < w0.heap.size := hA0.lt
  have HA0 := hide hA0
  clear hw0 hA0
  go_wp2_with fail
  refine Calls.mono (begun18 w0) ?_
  rintro e w1 ⟨rfl, hb1⟩
  have HB1 := hide (Below_step HB0.out hb1)
  have HA1 := hide (HA0.out.belowN hb1)
  have hs1 := hb1.size
  clear hb1 HA0 HB0
  go_wp2_with (refine wpZ_load rfl (.tmp 4) rfl w.heap.size rfl b0 (.slice A0 n0 c0) HA1.out ?_)
  refine Calls.mono (law_Cut b0 A0 n0 c0 w1 hc0) ?_
  rintro e w2 ⟨rfl, hb2⟩
  have HB2 := hide (Below_step HB1.out hb2)
  have HA2 := hide (HA1.out.belowN hb2)
  have hs2 := hb2.size
  clear hb2 HA1 HB1
  obtain ⟨b, hb⟩ : ∃ b : By, b = b0.cut 40 := ⟨_, rfl⟩
  obtain ⟨m, hm⟩ : ∃ m, m = min 40 n := ⟨_, rfl⟩
  obtain ⟨q, hq⟩ : ∃ q, q = min 40 n0 := ⟨_, rfl⟩
  rw [show b0.val (.slice A0 (min 40 n0) c0) = b.val (.slice A0 q c0) by rw [hb, hq]; rfl]
  have hm60 : m ≤ 40 := by omega
  have hmc : m ≤ c := by omega
  have hq40 : q ≤ 40 := by omega
  have hqc : q ≤ c0 := by omega
  have HCU := hide (And.intro hb (And.intro hm hq))
  clear hb hm hq
  go_wp2_with fail
  refine Calls.mono (law_Short A n c 40 40 w2 hc rfl (by omega)) ?_
  rintro e w3 ⟨rfl, rfl⟩
  rw [← HCU.out.2.1]
  go_upto_region 5 with (refine wpZ_store rfl (.tmp 4) (.tmp 18) rfl w.heap.size b A0 q c0 rfl rfl b0 (.slice A0 n0 c0) HA2.out ?_; intro w4 ha4 hk4 hs4)
  have HA4 := hide ha4
  have HB4 := hide (HB2.out.trans (hk4.below (by omega) (fun k hk => by omega)))
  have hsz4 : w.heap.size < w4.heap.size := by omega
  have HP : Hid (LiesB w4 w.heap.size A m (l.take 40)) := by
    have := (HA.out.below HB4.out).take 40
    rwa [← HCU.out.2.1] at this
  have HQ : Hid (LiesB w4 w.heap.size A0 q b.table) := by
    have := (HT0.out.below HB4.out).take 40
    rw [HCU.out.1]
    rwa [← HCU.out.2.2] at this
  obtain ⟨past, hp⟩ : ∃ p, p = l.take 40 := ⟨_, rfl⟩
  rw [← hp] at HP
  clear ha4 hk4 hs4 hp HA HT0 HCU HA2 HB2 hs1 hs2
  go_wp2_with (refine wpZ_load rfl (.tmp 4) rfl w.heap.size rfl b (.slice A0 q c0) HA4.out ?_)
  refine Calls.mono (ref_MayBy b A0 q c0 w4 HQ.out.len) ?_
  rintro e w5 ⟨rfl, hb5⟩
  have HB5 := hide (Below_step HB4.out hb5)
  have HA5 := hide (HA4.out.belowN hb5)
  have HP5 := hide (HP.out.below (hb5.mono (Nat.le_of_lt hsz4)))
  have HQ5 := hide (HQ.out.below (hb5.mono (Nat.le_of_lt hsz4)))
  have hsz5 := HB5.out.size
  clear hb5 HA4 HB4 HP HQ hsz4
  cases hm : b.may
  · go_wp2_with fail
    go_ret
    exact ⟨rfl, HB5.out⟩
  have HM := hide hm
  clear hm
  by_cases h0 : ki < 0
  · have d0 : decide (ki < 0) = true := decide_eq_true h0
    clear h0
    go_wp2_with fail
    go_ret
    exact ⟨rfl, HB5.out⟩
  have d0 : decide (ki < 0) = false := decide_eq_false h0
  by_cases h1 : ki > 20
  · have d1 : decide (ki > 20) = true := decide_eq_true h1
    clear h0 h1
    go_wp2_with fail
    go_ret
    exact ⟨rfl, HB5.out⟩
  have d1 : decide (ki > 20) = false := decide_eq_false h1
  by_cases h2 : ai < 0
  · have d2 : decide (ai < 0) = true := decide_eq_true h2
    clear h0 h1 h2
    go_wp2_with fail
    go_ret
    exact ⟨rfl, HB5.out⟩
  have d2 : decide (ai < 0) = false := decide_eq_false h2
  by_cases h3 : ai > ki
  · have d3 : decide (ai > ki) = true := decide_eq_true h3
    clear h0 h1 h2 h3
    go_wp2_with fail
    go_ret
    exact ⟨rfl, HB5.out⟩
  have d3 : decide (ai > ki) = false := decide_eq_false h3
  obtain ⟨k, rfl⟩ : ∃ k : Nat, ki = (k : Int) := ⟨ki.toNat, by omega⟩
  obtain ⟨a, rfl⟩ : ∃ a : Nat, ai = (a : Int) := ⟨ai.toNat, by omega⟩
  have hk : k ≤ 20 := by omega
  have hak : a ≤ k := by omega
  clear lo hi klo khi h0 h1 h2 h3
  obtain ⟨C, hC⟩ : ∃ C, C = b.chain k past := ⟨_, rfl⟩
  obtain ⟨D, hD⟩ : ∃ D, D = b.chain a past := ⟨_, rfl⟩
  obtain ⟨e, he⟩ : ∃ e, e = k - a := ⟨_, rfl⟩
  obtain ⟨E, hE⟩ : ∃ E, E = b.chain e (past ++ D) := ⟨_, rfl⟩
  have hpt := By.chain_parts b a e past
  rw [show a + e = k by omega, ← hC, ← hD, ← hE] at hpt
  have HCDE := hide (And.intro hC (And.intro hD (And.intro hE hpt)))
  have HKE := hide he
  have HCL : Hid (C.length = k) := by show _ = _; rw [hC]; exact b.chain_len _ _
  have HDL : Hid (D.length = a) := by show _ = _; rw [hD]; exact b.chain_len _ _
  clear hC hD hE hpt he
  go_wp2_with (refine wpZ_load rfl (.tmp 4) rfl w.heap.size rfl b (.slice A0 q c0) HA5.out ?_)
  refine Calls.mono (law_Of b A0 q c0 w5) ?_
  rintro e w6 ⟨rfl, hb6⟩
  have HB6 := hide (Below_step HB5.out hb6)
  have HA6 := hide (HA5.out.belowN hb6)
  have HP6 := hide (HP5.out.below (hb6.mono hsz5))
  have HQ6 := hide (HQ5.out.below (hb6.mono hsz5))
  have hsz6 := HB6.out.size
  clear hb6 HA5 HB5 HP5 HQ5 hsz5
  go_wp2_with fail
  refine Calls.mono (pred_Chain b A0 q c0 A m c w.heap.size past k w6 HP6.out HQ6.out hsz6 hmc (by omega)) ?_
  rintro e' w7 ⟨A7, n7, c7, rfl, l7, k7, hb7⟩
  rw [if_pos HM.out, show (min (max (k : Int) 0) 1000).toNat = k by omega, ← HCDE.out.1] at l7
  obtain rfl : n7 = k := by have := l7.len; rw [HCL.out] at this; omega
  have L7 := hide l7
  have HB7 := hide (Below_step HB6.out hb7)
  have HA7 := hide (HA6.out.belowN hb7)
  have HP7 := hide (HP6.out.below (hb7.mono hsz6))
  have HQ7 := hide (HQ6.out.below (hb7.mono hsz6))
  have hsz7 := HB7.out.size
  clear l7 hb7 HA6 HB6 HP6 HQ6 hsz6
  go_wp2_with (refine wpZ_load rfl (.tmp 4) rfl w.heap.size rfl b (.slice A0 q c0) HA7.out ?_)
  refine Calls.mono (law_Of b A0 q c0 w7) ?_
  rintro e w8 ⟨rfl, hb8⟩
  have HB8 := hide (Below_step HB7.out hb8)
  have HA8 := hide (HA7.out.belowN hb8)
  have HP8 := hide (HP7.out.below (hb8.mono hsz7))
  have HQ8 := hide (HQ7.out.below (hb8.mono hsz7))
  have hsz8 := HB8.out.size
  have L8 := hide ((L7.out.below hb8).more hb8.size)
  clear L7
  clear hb8 HA7 HB7 HP7 HQ7 hsz7
  go_wp2_with fail
  refine Calls.mono (pred_Chain b A0 q c0 A m c w.heap.size past a w8 HP8.out HQ8.out hsz8 hmc (by omega)) ?_
  rintro e' w9 ⟨A9, n9, c9, rfl, l9, k9, hb9⟩
  rw [if_pos HM.out, show (min (max (a : Int) 0) 1000).toNat = a by omega, ← HCDE.out.2.1] at l9
  obtain rfl : n9 = a := by have := l9.len; rw [HDL.out] at this; omega
  have HB9 := hide (Below_step HB8.out hb9)
  have HA9 := hide (HA8.out.belowN hb9)
  have HP9 := hide (HP8.out.below (hb9.mono hsz8))
  have HQ9 := hide (HQ8.out.below (hb9.mono hsz8))
  have L79 := hide ((L8.out.below hb9).more hb9.size)
  have L7 : LiesB w9 w9.heap.size A7 n9 D := by
    have := L79.out.take n9
    rw [HCDE.out.2.2.2.1] at this
    rwa [Nat.min_eq_left hak] at this
  have L9 := hide l9
  have hs1 := fun j => run_stringB (c := c7) (L7.drewN j)
  have hs2 := fun j => run_stringB (c := c9) (l9.drewN j)
  have hTT : (D != D) = false := by simp
  have hnn : ((n7 : Int) != (n7 : Int)) = false := by simp
  have hkc : n9 ≤ c7 := by omega
  clear hb9 HB8 HA8 HP8 HQ8 hsz8 L8 l9 L7
  go_wp2_with fail
  go_quiet (fail)
  clear hs1 hs2 hTT hnn
  go_upto_region 11 with fail
  by_cases hnk : n9 = n7
  · subst hnk
    go_wp2_with fail
    go_ret
    exact ⟨rfl, Below_drewN HB9.out _⟩
  have dnk : ((n9 : Int) == (n7 : Int)) = false := by rw [beq_eq_false_iff_ne]; omega
  go_upto_region 13 with fail
  generalize hw10 : World.drewN w9 nq = w10
  have T10 : Hid (Arr 24 w10 w.heap.size (b.row (.slice A0 q c0)) ∧ LiesB w10 w.heap.size A m past ∧ LiesB w10 w.heap.size A0 q b.table ∧ LiesB w10 w10.heap.size A7 n7 C ∧ LiesB w10 w10.heap.size A9 n9 D ∧ Below w.heap.size w w10) := by
    show _ ∧ _
    rw [← hw10]
    exact ⟨HA9.out.drewN nq, HP9.out.drewN nq, HQ9.out.drewN nq, L79.out.drewN nq, L9.out.drewN nq, Below_drewN HB9.out nq⟩
  have hlt : n9 < n7 := by omega
  have hbs10 := T10.out.2.2.2.2.2.size
  have hpl := T10.out.2.1.len
  clear hw10 HA9 HP9 HQ9 HB9 L79 L9 hnk
  go_upto_region 14 with (first
    | (at_builtin; refine wpB_append3 rfl (.const (.slice none 0 0)) (.tmp 67) rfl w10.heap.size none 0 0 [] rfl (OwnB.nil _ _) w.heap.size A m c past rfl T10.out.2.1 m past (by omega) (by simp) (by omega) (Nat.le_refl _) ?_; intro A11 c11 w11 own11 k11 hk11)
    | (at_builtin; refine wpB_append3 rfl (.tmp 68) (.tmp 69) rfl w10.heap.size A11 m c11 past rfl own11 w10.heap.size A9 n9 c9 D rfl (T10.out.2.2.2.2.1.below (k11.belowOwn (OwnB.nil w10 w10.heap.size) (Nat.le_refl _))) (m + n9) (past ++ D) rfl rfl (by omega) k11.size ?_; intro A12 c12 w12 own12 k12 hk12))
  have hb12 : Below w10.heap.size w10 w12 := (k11.belowOwn (OwnB.nil w10 w10.heap.size) (Nat.le_refl _)).trans (k12.belowOwn own11 k11.size)
  have T12 : Hid (Arr 24 w12 w.heap.size (b.row (.slice A0 q c0)) ∧ LiesB w12 w.heap.size A0 q b.table ∧ LiesB w12 w10.heap.size A7 n7 C ∧ LiesB w12 w12.heap.size A12 (m + n9) (past ++ D) ∧ Below w.heap.size w w12) :=
    ⟨T10.out.1.belowN hb12, T10.out.2.2.1.below (hb12.mono hbs10), T10.out.2.2.2.1.below hb12, own12.lies, Below_step T10.out.2.2.2.2.2 hb12⟩
  have hc12 := own12.cap
  have hs12 := hb12.size
  have HX12 := hide own12
  clear own11 k11 hk11 own12 k12 hk12 hb12 T10 hpl
  go_wp2_with (refine wpZ_load rfl (.tmp 4) rfl w.heap.size rfl b (.slice A0 q c0) T12.out.1 ?_)
  refine Calls.mono (law_Of b A0 q c0 w12) ?_
  rintro e' w13 ⟨rfl, hb13⟩
  have T13 : Hid (Arr 24 w13 w.heap.size (b.row (.slice A0 q c0)) ∧ LiesB w13 w13.heap.size A0 q b.table ∧ LiesB w13 w13.heap.size A7 n7 C ∧ LiesB w13 w13.heap.size A12 (m + n9) (past ++ D) ∧ Below w.heap.size w w13) :=
    ⟨T12.out.1.belowN hb13, ((T12.out.2.1.more T12.out.2.2.2.2.size).below hb13).more hb13.size, ((T12.out.2.2.1.more hs12).below hb13).more hb13.size, (T12.out.2.2.2.1.below hb13).more hb13.size, Below_step T12.out.2.2.2.2 hb13⟩
  clear hb13 T12 HX12
  go_wp2_with fail
  refine Calls.mono (pred_Rank b A0 q c0 A12 (m + n9) c12 w13.heap.size (past ++ D) 1 w13 T13.out.2.2.2.1 T13.out.2.1 (Nat.le_refl _) hc12 (by omega)) ?_
  rintro e' w14 ⟨A14, n14, c14, rfl, l14, k14, hb14⟩
  rw [if_pos HM.out, show (min (max (1 : Int) 0) 256).toNat = 1 by decide, By.rank_one'] at l14
  obtain rfl : n14 = 1 := by have := l14.len; simpa using this.symm
  have T14 : Hid (Arr 24 w14 w.heap.size (b.row (.slice A0 q c0)) ∧ LiesB w14 w14.heap.size A0 q b.table ∧ LiesB w14 w14.heap.size A7 n7 C ∧ LiesB w14 w14.heap.size A12 (m + n9) (past ++ D) ∧ Below w.heap.size w w14) :=
    ⟨T13.out.1.belowN hb14, (T13.out.2.1.below hb14).more hb14.size, (T13.out.2.2.1.below hb14).more hb14.size, (T13.out.2.2.2.1.below hb14).more hb14.size, Below_step T13.out.2.2.2.2 hb14⟩
  obtain ⟨x, hx⟩ : ∃ x, x = b.first (past ++ D) := ⟨_, rfl⟩
  rw [← hx] at l14
  obtain ⟨bl, off, hlp, rfl, -, hcp⟩ := l14.at_ (k := 0) (by omega)
  obtain ⟨bl2, off2, hlq, rfl, -, hcq⟩ := T14.out.2.2.1.at_ hlt
  have hxe : C[n9] = x := by
    have h1 := HCDE.out.2.2.2.2
    have h2 : E = x :: b.chain (e - 1) (past ++ D ++ [x]) := by
      obtain ⟨e1, he1⟩ : ∃ e1, e = e1 + 1 := ⟨e - 1, by have := HKE.out; omega⟩
      rw [HCDE.out.2.2.1, he1, By.chain, ← hx]; rfl
    rw [List.drop_eq_getElem_cons hlq, h2] at h1
    exact (List.cons.inj h1).1
  rw [hxe] at hcq
  simp only [List.getElem_cons_zero, Nat.add_zero] at hcp
  have hL15 := hide (l14)
  have hne : (n7 : Int) - (n9 : Int) = (e : Int) := by have := HKE.out; omega
  have hne2 : n7 - n9 = e := HKE.out.symm
  have hEE : (E == E) = true := by simp
  have hltI : (n9 : Int) < (n7 : Int) := by omega
  have he20 : e ≤ 20 := by omega
  have hwe : IntKind.i64.wrap (e : Int) = (e : Int) := IntWalk.i64_in _ ⟨by omega, by omega⟩
  have LE : LiesB w14 w14.heap.size (cutA (some ⟨bl2, off2, none⟩) c7 n9 1) e E := by
    have := T14.out.2.2.1.cut (k := n9) k7
    rw [HCDE.out.2.2.2.2, hne2] at this
    exact this
  have HLE := hide LE
  have hxc : x.toNat < 256 := x.toNat_lt
  clear hb14 T13 hx l14 k14 hxe hlp hlq LE
  go_upto_region 15 with fail
  refine wp_region_noPanic ?_
  refine wp_region_held_drew (S := (fun w' => WholeZ w.heap.size (b.val (.slice A0 q c0)) w' ∧ w'.cell? ⟨bl, off, none⟩ = some (.int .u8 (x.toNat : Int)) ∧ w'.cell? ⟨bl2, off2 + n9, none⟩ = some (.int .u8 (x.toNat : Int)) ∧ Reads (cutA (some ⟨bl2, off2, none⟩) c7 n9 1) e (c7 - n9) E w')) (by kernel_rfl) ⟨T14.out.1.drew.wholeZ, hcp, hcq, HLE.out.drew.reads⟩ (fun hHeld => ?_)
  refine wpAnyH_take (i := 0) (oi := ?_) (v := ?_) ?_ (by kernel_rfl) (by kernel_rfl) (by kernel_rfl) ?_ ?_ (by assumption) ?_
  rotate_left 2
  · (simp only [List.getElem?_toArray, List.getElem?_cons_zero]; rfl)
  · exact fun _ _ _ h => h
  · (refine Or.inl ⟨by rfl, ?_⟩; intro w hSw; (try dsimp only at hSw); go_simp <;> with_reducible rfl)
  try simp only [Act.put, List.setIfInBounds_toArray, List.set_cons_zero, List.set_cons_succ]
  refine wpAnyH_take (i := 1) (oi := ?_) (v := ?_) ?_ (by kernel_rfl) (by kernel_rfl) (by kernel_rfl) ?_ ?_ (by assumption) ?_
  rotate_left 2
  · (simp only [List.getElem?_toArray, List.getElem?_cons_succ, List.getElem?_cons_zero]; rfl)
  · exact fun _ _ _ h => h
  · (refine Or.inl ⟨by rfl, ?_⟩; intro w hSw; (try dsimp only at hSw); go_simp <;> with_reducible rfl)
  try simp only [Act.put, List.setIfInBounds_toArray, List.set_cons_zero, List.set_cons_succ]
  refine wpAnyH_take (i := 2) (oi := ?_) (v := ?_) ?_ (by kernel_rfl) (by kernel_rfl) (by kernel_rfl) ?_ ?_ (by assumption) ?_
  rotate_left 2
  · (simp only [List.getElem?_toArray, List.getElem?_cons_succ, List.getElem?_cons_zero]; rfl)
  · exact fun _ _ _ h => h
  · (refine Or.inl ⟨by rfl, ?_⟩; intro w hSw; (try dsimp only at hSw); go_simp <;> with_reducible rfl)
  try simp only [Act.put, List.setIfInBounds_toArray, List.set_cons_zero, List.set_cons_succ]
  refine wpAnyH_take (i := 3) (oi := ?_) (v := ?_) ?_ (by kernel_rfl) (by kernel_rfl) (by kernel_rfl) ?_ ?_ (by assumption) ?_
  rotate_left 2
  · (simp only [List.getElem?_toArray, List.getElem?_cons_succ, List.getElem?_cons_zero]; rfl)
  · exact fun _ _ _ h => h
  · (refine Or.inl ⟨by rfl, ?_⟩; intro w hSw; (try dsimp only at hSw); go_simp <;> with_reducible rfl)
  try simp only [Act.put, List.setIfInBounds_toArray, List.set_cons_zero, List.set_cons_succ]
  refine wpAnyH_take (i := 4) (oi := ?_) (v := ?_) ?_ (by kernel_rfl) (by kernel_rfl) (by kernel_rfl) ?_ ?_ (by assumption) ?_
  rotate_left 2
  · (simp only [List.getElem?_toArray, List.getElem?_cons_succ, List.getElem?_cons_zero]; rfl)
  · exact fun _ _ _ h => h
  · (refine Or.inl ⟨by rfl, ?_⟩; intro w hSw; (try dsimp only at hSw); go_simp <;> with_reducible rfl)
  try simp only [Act.put, List.setIfInBounds_toArray, List.set_cons_zero, List.set_cons_succ]
  refine wpAnyH_take (i := 5) (oi := ?_) (v := ?_) ?_ (by kernel_rfl) (by kernel_rfl) (by kernel_rfl) ?_ ?_ (by assumption) ?_
  rotate_left 2
  · (simp only [List.getElem?_toArray, List.getElem?_cons_succ, List.getElem?_cons_zero]; rfl)
  · exact fun _ _ _ h => h
  · (refine Or.inl ⟨by rfl, ?_⟩; intro w hSw; (try dsimp only at hSw); go_simp <;> with_reducible rfl)
  try simp only [Act.put, List.setIfInBounds_toArray, List.set_cons_zero, List.set_cons_succ]
  refine wpAnyH_take (i := 6) (oi := ?_) (v := ?_) ?_ (by kernel_rfl) (by kernel_rfl) (by kernel_rfl) ?_ ?_ (by assumption) ?_
  rotate_left 2
  · (simp only [List.getElem?_toArray, List.getElem?_cons_succ, List.getElem?_cons_zero]; rfl)
  · exact fun _ _ _ h => h
  · (refine Or.inl ⟨by rfl, ?_⟩; intro w hSw; (try dsimp only at hSw); go_simp <;> with_reducible rfl)
  try simp only [Act.put, List.setIfInBounds_toArray, List.set_cons_zero, List.set_cons_succ]
  refine wpAnyH_take (i := 7) (oi := ?_) (v := ?_) ?_ (by kernel_rfl) (by kernel_rfl) (by kernel_rfl) ?_ ?_ (by assumption) ?_
  rotate_left 2
  · (simp only [List.getElem?_toArray, List.getElem?_cons_succ, List.getElem?_cons_zero]; rfl)
  · exact fun _ _ _ h => h
  · (refine Or.inl ⟨by rfl, ?_⟩; intro w hSw; (try dsimp only at hSw); go_simp <;> with_reducible rfl)
  try simp only [Act.put, List.setIfInBounds_toArray, List.set_cons_zero, List.set_cons_succ]
  refine wpAnyH_take (i := 8) (oi := ?_) (v := ?_) ?_ (by kernel_rfl) (by kernel_rfl) (by kernel_rfl) ?_ ?_ (by assumption) ?_
  rotate_left 2
  · (simp only [List.getElem?_toArray, List.getElem?_cons_succ, List.getElem?_cons_zero]; rfl)
  · exact fun _ _ _ h => h
  · (refine Or.inl ⟨by rfl, ?_⟩; intro w hSw; (try dsimp only at hSw); go_simp <;> with_reducible rfl)
  try simp only [Act.put, List.setIfInBounds_toArray, List.set_cons_zero, List.set_cons_succ]
  refine wpAnyH_take (i := 9) (oi := ?_) (v := ?_) ?_ (by kernel_rfl) (by kernel_rfl) (by kernel_rfl) ?_ ?_ (by assumption) ?_
  rotate_left 2
  · (simp only [List.getElem?_toArray, List.getElem?_cons_succ, List.getElem?_cons_zero]; rfl)
  · exact fun _ _ _ h => h
  · (refine Or.inl ⟨by rfl, ?_⟩; intro w hSw; (try dsimp only at hSw); go_simp <;> with_reducible rfl)
  try simp only [Act.put, List.setIfInBounds_toArray, List.set_cons_zero, List.set_cons_succ]
  refine wpAnyH_take (i := 10) (oi := ?_) (v := ?_) ?_ (by kernel_rfl) (by kernel_rfl) (by kernel_rfl) ?_ ?_ (by assumption) ?_
  rotate_left 2
  · (simp only [List.getElem?_toArray, List.getElem?_cons_succ, List.getElem?_cons_zero]; rfl)
  · exact fun _ _ _ h => h
  · (refine Or.inl ⟨by rfl, ?_⟩; intro w hSw; (try dsimp only at hSw); go_simp <;> with_reducible rfl)
  try simp only [Act.put, List.setIfInBounds_toArray, List.set_cons_zero, List.set_cons_succ]
  refine wpAnyH_take (i := 11) (oi := ?_) (v := ?_) ?_ (by kernel_rfl) (by kernel_rfl) (by kernel_rfl) ?_ ?_ (by assumption) ?_
  rotate_left 2
  · (simp only [List.getElem?_toArray, List.getElem?_cons_succ, List.getElem?_cons_zero]; rfl)
  · exact fun _ _ _ h => h
  · (refine Or.inl ⟨by rfl, ?_⟩; intro w hSw; (try dsimp only at hSw); go_simp <;> with_reducible rfl)
  try simp only [Act.put, List.setIfInBounds_toArray, List.set_cons_zero, List.set_cons_succ]
  refine wpAnyH_take (i := 12) (oi := ?_) (v := ?_) ?_ (by kernel_rfl) (by kernel_rfl) (by kernel_rfl) ?_ ?_ (by assumption) ?_
  rotate_left 2
  · (simp only [List.getElem?_toArray, List.getElem?_cons_succ, List.getElem?_cons_zero]; rfl)
  · exact fun _ _ _ h => h
  · (refine Or.inl ⟨by rfl, ?_⟩; intro w hSw; (try dsimp only at hSw); go_simp <;> with_reducible rfl)
  try simp only [Act.put, List.setIfInBounds_toArray, List.set_cons_zero, List.set_cons_succ]
  refine wpAnyH_take (i := 13) (oi := ?_) (v := ?_) ?_ (by kernel_rfl) (by kernel_rfl) (by kernel_rfl) ?_ ?_ (by assumption) ?_
  rotate_left 2
  · (simp only [List.getElem?_toArray, List.getElem?_cons_succ, List.getElem?_cons_zero]; rfl)
  · exact fun _ _ _ h => h
  · (refine Or.inl ⟨by rfl, ?_⟩; intro w hSw; (try dsimp only at hSw); go_simp <;> with_reducible rfl)
  try simp only [Act.put, List.setIfInBounds_toArray, List.set_cons_zero, List.set_cons_succ]
  refine wpAnyH_take (i := 14) (oi := ?_) (v := b.val (.slice A0 q c0)) ?_ (by kernel_rfl) (by kernel_rfl) (by kernel_rfl) ?_ ?_ (by assumption) ?_
  rotate_left 1
  · (simp only [List.getElem?_toArray, List.getElem?_cons_succ, List.getElem?_cons_zero]; rfl)
  · exact fun _ _ _ h => h
  · (refine Or.inl ⟨by rfl, ?_⟩; intro w hSw; (try dsimp only at hSw); exact exec_wholeZ (x := .tmp 4) hSw.1 rfl rfl)
  try simp only [Act.put, List.setIfInBounds_toArray, List.set_cons_zero, List.set_cons_succ]
  refine wpAnyH_take (i := 16) (oi := ?_) (v := ?_) ?_ (by kernel_rfl) (by kernel_rfl) (by kernel_rfl) ?_ ?_ (by assumption) ?_
  rotate_left 2
  · (simp only [List.getElem?_toArray, List.getElem?_cons_succ, List.getElem?_cons_zero]; rfl)
  · exact fun _ _ _ h => h
  · (refine Or.inl ⟨by rfl, ?_⟩; intro w hSw; (try dsimp only at hSw); go_simp <;> with_reducible rfl)
  try simp only [Act.put, List.setIfInBounds_toArray, List.set_cons_zero, List.set_cons_succ]
  refine wpAnyH_take (i := 17) (oi := ?_) (v := ?_) ?_ (by kernel_rfl) (by kernel_rfl) (by kernel_rfl) ?_ ?_ (by assumption) ?_
  rotate_left 2
  · (simp only [List.getElem?_toArray, List.getElem?_cons_succ, List.getElem?_cons_zero]; rfl)
  · exact fun _ _ _ h => h
  · (refine Or.inl ⟨by rfl, ?_⟩; intro w hSw; (try dsimp only at hSw); go_simp <;> with_reducible rfl)
  try simp only [Act.put, List.setIfInBounds_toArray, List.set_cons_zero, List.set_cons_succ]
  refine wpAnyH_take (i := 18) (oi := ?_) (v := ?_) ?_ (by kernel_rfl) (by kernel_rfl) (by kernel_rfl) ?_ ?_ (by assumption) ?_
  rotate_left 2
  · (simp only [List.getElem?_toArray, List.getElem?_cons_succ, List.getElem?_cons_zero]; rfl)
  · exact fun _ _ _ h => h
  · (refine Or.inl ⟨by rfl, ?_⟩; intro w hSw; (try dsimp only at hSw); go_simp <;> with_reducible rfl)
  try simp only [Act.put, List.setIfInBounds_toArray, List.set_cons_zero, List.set_cons_succ]
  refine wpAnyH_take (i := 19) (oi := ?_) (v := ?_) ?_ (by kernel_rfl) (by kernel_rfl) (by kernel_rfl) ?_ ?_ (by assumption) ?_
  rotate_left 2
  · (simp only [List.getElem?_toArray, List.getElem?_cons_succ, List.getElem?_cons_zero]; rfl)
  · exact fun _ _ _ h => h
  · (refine Or.inl ⟨by rfl, ?_⟩; intro w hSw; (try dsimp only at hSw); go_simp <;> with_reducible rfl)
  try simp only [Act.put, List.setIfInBounds_toArray, List.set_cons_zero, List.set_cons_succ]
  refine wpAnyH_take (i := 22) (oi := ?_) (v := ?_) ?_ (by kernel_rfl) (by kernel_rfl) (by kernel_rfl) ?_ ?_ (by assumption) ?_
  rotate_left 2
  · (simp only [List.getElem?_toArray, List.getElem?_cons_succ, List.getElem?_cons_zero]; rfl)
  · exact fun _ _ _ h => h
  · (refine Or.inl ⟨by rfl, ?_⟩; intro w hSw; (try dsimp only at hSw); go_simp <;> with_reducible rfl)
  try simp only [Act.put, List.setIfInBounds_toArray, List.set_cons_zero, List.set_cons_succ]
  refine wpAnyH_take (i := 23) (oi := ?_) (v := ?_) ?_ (by kernel_rfl) (by kernel_rfl) (by kernel_rfl) ?_ ?_ (by assumption) ?_
  rotate_left 2
  · (simp only [List.getElem?_toArray, List.getElem?_cons_succ, List.getElem?_cons_zero]; rfl)
  · exact fun _ _ _ h => h
  · (refine Or.inl ⟨by rfl, ?_⟩; intro w hSw; (try dsimp only at hSw); go_simp <;> with_reducible rfl)
  try simp only [Act.put, List.setIfInBounds_toArray, List.set_cons_zero, List.set_cons_succ]
  refine wpAnyH_take (i := 24) (oi := ?_) (v := ?_) ?_ (by kernel_rfl) (by kernel_rfl) (by kernel_rfl) ?_ ?_ (by assumption) ?_
  rotate_left 2
  · (simp only [List.getElem?_toArray, List.getElem?_cons_succ, List.getElem?_cons_zero]; rfl)
  · exact fun _ _ _ h => h
  · (refine Or.inl ⟨by rfl, ?_⟩; intro w hSw; (try dsimp only at hSw); go_simp <;> with_reducible rfl)
  try simp only [Act.put, List.setIfInBounds_toArray, List.set_cons_zero, List.set_cons_succ]
  refine wpAnyH_take (i := 25) (oi := ?_) (v := ?_) ?_ (by kernel_rfl) (by kernel_rfl) (by kernel_rfl) ?_ ?_ (by assumption) ?_
  rotate_left 2
  · (simp only [List.getElem?_toArray, List.getElem?_cons_succ, List.getElem?_cons_zero]; rfl)
  · exact fun _ _ _ h => h
  · (refine Or.inl ⟨by rfl, ?_⟩; intro w hSw; (try dsimp only at hSw); have q1 := hSw.2.2.2; unfold Reads at q1; go_simp <;> with_reducible rfl)
  try simp only [Act.put, List.setIfInBounds_toArray, List.set_cons_zero, List.set_cons_succ]
  refine wpAnyH_ready (rs := [15]) (by kernel_rfl) (by simp) ?_
  refine AllReadyH.cons (o := ?_) ?_ (fun K hK => ?_) AllReadyH.nil
  rotate_left 1
  · (simp only [List.getElem?_toArray, List.getElem?_cons_succ, List.getElem?_cons_zero]; rfl)
  go_simp
  refine Calls.mono (law_Of b A0 q c0 _) ?_
  rintro e' w16 ⟨rfl, hb16⟩
  have HA16 := T14.out.1.drew.belowN hb16
  have HQ16 := (T14.out.2.1.drew.below hb16).more hb16.size
  have HX16 := (T14.out.2.2.2.1.drew.below hb16).more hb16.size
  have HB16 := Below_step T14.out.2.2.2.2.drew hb16
  have HC16 : w16.cell? ⟨bl, off, none⟩ = some (.int .u8 (x.toNat : Int)) ∧ w16.cell? ⟨bl2, off2 + n9, none⟩ = some (.int .u8 (x.toNat : Int)) := ⟨(below_some hb16 hcp), (below_some hb16 hcq)⟩
  refine hK.out _ _ ⟨HA16.wholeZ, HC16.1, HC16.2, (HLE.out.drew.below hb16).reads⟩ (fun hHeld => ?_)
  clear hK K
  try simp only [Act.put, List.setIfInBounds_toArray, List.set_cons_zero, List.set_cons_succ]
  refine wpAnyH_ready (rs := [20]) (by kernel_rfl) (by simp) ?_
  refine AllReadyH.cons (o := ?_) ?_ (fun K hK => ?_) AllReadyH.nil
  rotate_left 1
  · (simp only [List.getElem?_toArray, List.getElem?_cons_succ, List.getElem?_cons_zero]; rfl)
  go_simp
  refine Calls.mono (pred_Chain b A0 q c0 A12 (m + n9) c12 w16.heap.size (past ++ D) e _ HX16 HQ16 (Nat.le_refl _) hc12 (by omega)) ?_
  rintro e' w17 ⟨A17, n17, c17, rfl, l17, k17, hb17⟩
  rw [if_pos HM.out, show (min (max (e : Int) 0) 1000).toNat = e by omega, ← HCDE.out.2.2.1] at l17
  have HB17 := Below_step HB16 hb17
  have M17 : (fun w' => WholeZ w.heap.size (b.val (.slice A0 q c0)) w' ∧ w'.cell? ⟨bl, off, none⟩ = some (.int .u8 (x.toNat : Int)) ∧ w'.cell? ⟨bl2, off2 + n9, none⟩ = some (.int .u8 (x.toNat : Int)) ∧ Reads (cutA (some ⟨bl2, off2, none⟩) c7 n9 1) e (c7 - n9) E w') w17 := ⟨(HA16.belowN hb17).wholeZ, below_some hb17 HC16.1, below_some hb17 HC16.2, ((HLE.out.drew.below hb16).below (hb17.mono hb16.size)).reads⟩
  refine hK.out _ _ M17 (fun hHeld => ?_)
  clear hK K
  try simp only [Act.put, List.setIfInBounds_toArray, List.set_cons_zero, List.set_cons_succ]
  refine wpAnyH_mono (S' := (fun w' => Reads A17 n17 c17 E w' ∧ (fun w' => WholeZ w.heap.size (b.val (.slice A0 q c0)) w' ∧ w'.cell? ⟨bl, off, none⟩ = some (.int .u8 (x.toNat : Int)) ∧ w'.cell? ⟨bl2, off2 + n9, none⟩ = some (.int .u8 (x.toNat : Int)) ∧ Reads (cutA (some ⟨bl2, off2, none⟩) c7 n9 1) e (c7 - n9) E w') w')) (fun _ h => h.2) _ _ _ _ ?_
  have hHeld2 := (⟨l17.reads, M17⟩ : (fun w' => Reads A17 n17 c17 E w' ∧ (fun w' => WholeZ w.heap.size (b.val (.slice A0 q c0)) w' ∧ w'.cell? ⟨bl, off, none⟩ = some (.int .u8 (x.toNat : Int)) ∧ w'.cell? ⟨bl2, off2 + n9, none⟩ = some (.int .u8 (x.toNat : Int)) ∧ Reads (cutA (some ⟨bl2, off2, none⟩) c7 n9 1) e (c7 - n9) E w') w') w17)
  refine wpAnyH_take (i := 21) (oi := ?_) (v := ?_) ?_ (by kernel_rfl) (by kernel_rfl) (by kernel_rfl) ?_ ?_ (by assumption) ?_
  rotate_left 2
  · (simp only [List.getElem?_toArray, List.getElem?_cons_succ, List.getElem?_cons_zero]; rfl)
  · exact fun _ _ _ h => h
  · (refine Or.inl ⟨by rfl, ?_⟩; intro w hSw; (try dsimp only at hSw); have q1 := hSw.1; unfold Reads at q1; go_simp <;> with_reducible rfl)
  try simp only [Act.put, List.setIfInBounds_toArray, List.set_cons_zero, List.set_cons_succ]
  refine wpAnyH_take (i := 26) (oi := ?_) (v := ?_) ?_ (by kernel_rfl) (by kernel_rfl) (by kernel_rfl) ?_ ?_ (by assumption) ?_
  rotate_left 2
  · (simp only [List.getElem?_toArray, List.getElem?_cons_succ, List.getElem?_cons_zero]; rfl)
  · exact fun _ _ _ h => h
  · (refine Or.inl ⟨by rfl, ?_⟩; intro w hSw; (try dsimp only at hSw); go_simp <;> with_reducible rfl)
  try simp only [Act.put, List.setIfInBounds_toArray, List.set_cons_zero, List.set_cons_succ]
  refine wpAnyH_take (i := 27) (oi := ?_) (v := ?_) ?_ (by kernel_rfl) (by kernel_rfl) (by kernel_rfl) ?_ ?_ (by assumption) ?_
  rotate_left 2
  · (simp only [List.getElem?_toArray, List.getElem?_cons_succ, List.getElem?_cons_zero]; rfl)
  · exact fun _ _ _ h => h
  · (refine Or.inl ⟨by rfl, ?_⟩; intro w hSw; (try dsimp only at hSw); go_simp <;> with_reducible rfl)
  try simp only [Act.put, List.setIfInBounds_toArray, List.set_cons_zero, List.set_cons_succ]
  refine wpAnyH_take (i := 28) (oi := ?_) (v := ?_) ?_ (by kernel_rfl) (by kernel_rfl) (by kernel_rfl) ?_ ?_ (by assumption) ?_
  rotate_left 2
  · (simp only [List.getElem?_toArray, List.getElem?_cons_succ, List.getElem?_cons_zero]; rfl)
  · exact fun _ _ _ h => h
  · (refine Or.inl ⟨by rfl, ?_⟩; intro w hSw; (try dsimp only at hSw); go_simp <;> with_reducible rfl)
  try simp only [Act.put, List.setIfInBounds_toArray, List.set_cons_zero, List.set_cons_succ]
  refine wpAnyH_done (by kernel_rfl) (NoPanic.normal ?_) _
  go_wp2_with fail
  go_ret
  exact ⟨rfl, HB17⟩
end Go.Proofs.Ytbeeddpbkniijaa
