/-
  The document's order of all values.
-/
import Derived.Test.YtciogjnchpeaaaaPredAhead
import Derived.Test.YtciogjnchpeaaaaKeepB
import Derived.Deep.CutBlock
namespace Go.Proofs.Ytciogjnchpeaaaa
open Go.RowKit
set_option maxRecDepth 10000
set_option linter.unusedVariables false
open Prd
/-- A mark for each value. -/
def bl (f : UInt8 → Bool) : List Value := (List.range 256).map fun v => .bool (f (UInt8.ofNat v))
theorem bl_len (f : UInt8 → Bool) : (bl f).length = 256 := by simp [bl]
theorem bl_get? (f : UInt8 → Bool) (x : UInt8) : (bl f)[x.toNat]? = some (.bool (f x)) := by
  unfold bl
  rw [List.getElem?_map, List.getElem?_range x.toNat_lt]
  simp
theorem bl_set (f : UInt8 → Bool) (x : UInt8) : (bl f).set x.toNat (.bool true) = bl (fun y => f y || decide (y = x)) := by
  apply List.ext_getElem?
  intro i
  rw [List.getElem?_set]
  unfold bl
  rw [List.getElem?_map, List.getElem?_map, List.length_map, List.length_range]
  by_cases hi : i < 256
  · rw [List.getElem?_range hi]
    by_cases he : x.toNat = i
    · subst he
      rw [if_pos rfl, if_pos hi]
      simp
    · rw [if_neg he]
      have : ¬ UInt8.ofNat i = x := by
        intro e
        apply he
        rw [← e, UInt8.toNat_ofNat_of_lt' hi]
      simp [this]
  · rw [List.getElem?_eq_none (by simpa using hi)]
    have := x.toNat_lt
    rw [if_neg (by omega)]
    rfl
theorem Arr.bcell {w : World} {g : Nat} {f : UInt8 → Bool} (h : Arr 77 w g (bl f)) (x : UInt8) : w.cell? ⟨g, x.toNat, none⟩ = some (.bool (f x)) := by
  have hl : x.toNat < (bl f).length := by rw [bl_len]; exact x.toNat_lt
  rw [h.cell hl]
  have := bl_get? f x
  rw [List.getElem?_eq_getElem hl] at this
  exact this
theorem zero_b (w : World) : Sem.run Try.prog (zeroValue 77) w = .ok (.agg (bl fun _ => false).toArray) w := by
  have h : (Try.prog.info? 77).map (·.zero) = some (some (.agg (bl fun _ => false).toArray)) := by kernel_rfl
  cases hq : Try.prog.info? 77 with
  | none => simp [hq] at h
  | some t =>
    have hs : t.zero = some (.agg (bl fun _ => false).toArray) := by simpa [hq] using h
    unfold zeroValue
    simp [typeInfo, Sem.run_bind, hq, hs]
/-- The whole of the weights is read behind a guard. -/
theorem wpAG_load {ops : Array Oper} {rest : List Oper} {o : Oper} {a : Act} {w : World} {Q : Exit → Act → World → Prop} (hgd : Region.wanted o (yielded ops a.tmps) = true) (x : Operand) (ho : o.op = .load 67 x)
    (g : Nat) (hx : a.eval x = .pointer (some ⟨g, 0, none⟩)) (f : UInt8 → Nat) (hg : Arr 67 w g (wl f)) (h : wpList Try.prog ops Q rest (a.put o.dst (.agg (wl f).toArray)) w) : wpList Try.prog ops Q (o :: rest) a w :=
  wpList_step fun K hK => by
    rw [if_pos hgd]
    exact wp_load_row 67 x ho g hx 67 (wl f).toArray (0, 0) _ hg Try.underlying67 rfl (by rw [info_w]; simp [wl_len]) (hK _ _ h)
/-- The next one of those that were not taken. -/
theorem By.next_one {b : By} {past : List UInt8} {j : Nat} {z : UInt8} (hj : j < 256) (hz : z ∉ (b.rank past).take j) (hm : ∀ u, u ∉ (b.rank past).take j → b.key past z ≤ b.key past u) : (b.rank past).take (j + 1) = (b.rank past).take j ++ [z] := by
  have hl : j < (b.rank past).length := by rw [b.rank_len past]; exact hj
  rw [List.take_succ_eq_append_getElem hl]
  congr 2
  refine b.key_inj past _ _ (Nat.le_antisymm ?_ ?_)
  · have hmem := b.rank_mem past z
    obtain ⟨k, hk, rfl⟩ := List.mem_iff_getElem.1 hmem
    have hjk : j ≤ k := by
      by_cases h : k < j
      · refine absurd ?_ hz
        refine List.mem_iff_getElem.2 ⟨k, by rw [List.length_take]; omega, by rw [List.getElem_take]⟩
      · omega
    rcases Nat.eq_or_lt_of_le hjk with h | h
    · subst h; exact Nat.le_refl _
    · have := (List.pairwise_iff_getElem.1 (b.rank_sorted past)) j k hl hk h
      exact Nat.le_of_lt this
  · refine hm _ ?_
    intro hin
    obtain ⟨k, hk, e⟩ := List.mem_iff_getElem.1 hin
    rw [List.length_take] at hk
    rw [List.getElem_take] at e
    have := (List.pairwise_iff_getElem.1 (b.rank_sorted past)) k j (by omega) hl (by omega)
    rw [e] at this
    exact absurd this (Nat.lt_irrefl _)
/-- The best one of those below v that were not taken. -/
def Best (b : By) (past T : List UInt8) (v : Nat) (s : Int) : Prop :=
  (s = -1 ∧ ∀ u : UInt8, u.toNat < v → u ∈ T) ∨ ∃ z : UInt8, s = (z.toNat : Int) ∧ z.toNat < v ∧ z ∉ T ∧ ∀ u : UInt8, u.toNat < v → u ∉ T → b.key past z ≤ b.key past u
theorem Best.skip {b : By} {past T : List UInt8} {v : Nat} {s : Int} {x : UInt8} (h : Best b past T v s) (hx : x.toNat = v) (hm : x ∈ T) : Best b past T (v + 1) s := by
  rcases h with ⟨h1, h2⟩ | ⟨z, h1, h2, h3, h4⟩
  · refine .inl ⟨h1, fun u hu => ?_⟩
    by_cases he : u.toNat = v
    · obtain rfl : u = x := UInt8.toNat_inj.1 (by omega)
      exact hm
    · exact h2 u (by omega)
  · refine .inr ⟨z, h1, by omega, h3, fun u hu hn => ?_⟩
    by_cases he : u.toNat = v
    · obtain rfl : u = x := UInt8.toNat_inj.1 (by omega)
      exact absurd hm hn
    · exact h4 u (by omega) hn
theorem Best.new {b : By} {past T : List UInt8} {v : Nat} {x : UInt8} (h : ∀ u : UInt8, u.toNat < v → u ∈ T) (hx : x.toNat = v) (hm : x ∉ T) : Best b past T (v + 1) (x.toNat : Int) := by
  refine .inr ⟨x, rfl, by omega, hm, fun u hu hn => ?_⟩
  by_cases he : u.toNat = v
  · obtain rfl : u = x := UInt8.toNat_inj.1 (by omega)
    exact Nat.le_refl _
  · exact absurd (h u (by omega)) hn
theorem Best.better {b : By} {past T : List UInt8} {v : Nat} {x z : UInt8} (h4 : ∀ u : UInt8, u.toNat < v → u ∉ T → b.key past z ≤ b.key past u) (hx : x.toNat = v) (hm : x ∉ T) (hk : b.key past x < b.key past z) : Best b past T (v + 1) (x.toNat : Int) := by
  refine .inr ⟨x, rfl, by omega, hm, fun u hu hn => ?_⟩
  by_cases he : u.toNat = v
  · obtain rfl : u = x := UInt8.toNat_inj.1 (by omega)
    exact Nat.le_refl _
  · have := h4 u (by omega) hn; omega
theorem Best.keep {b : By} {past T : List UInt8} {v : Nat} {x z : UInt8} (h2 : z.toNat < v) (h3 : z ∉ T) (h4 : ∀ u : UInt8, u.toNat < v → u ∉ T → b.key past z ≤ b.key past u) (hx : x.toNat = v) (hk : ¬ b.key past x < b.key past z) : Best b past T (v + 1) (z.toNat : Int) := by
  refine .inr ⟨z, rfl, by omega, h3, fun u hu hn => ?_⟩
  by_cases he : u.toNat = v
  · obtain rfl : u = x := UInt8.toNat_inj.1 (by omega)
    omega
  · exact h4 u (by omega) hn
theorem Best.end_ {b : By} {past : List UInt8} {j : Nat} {s : Int} (h : Best b past ((b.rank past).take j) 256 s) (hj : j < 256) : ∃ z : UInt8, s = (z.toNat : Int) ∧ (b.rank past).take (j + 1) = (b.rank past).take j ++ [z] := by
  rcases h with ⟨h1, h2⟩ | ⟨z, h1, h2, h3, h4⟩
  · exfalso
    have hl : j < (b.rank past).length := by rw [b.rank_len past]; exact hj
    have hin := h2 ((b.rank past)[j]) (UInt8.toNat_lt _)
    obtain ⟨k, hk, e⟩ := List.mem_iff_getElem.1 hin
    rw [List.length_take] at hk
    rw [List.getElem_take] at e
    have := (List.pairwise_iff_getElem.1 (b.rank_sorted past)) k j (by omega) hl (by omega)
    rw [e] at this
    exact absurd this (Nat.lt_irrefl _)
  · exact ⟨z, h1, By.next_one hj h3 fun u hu => h4 u u.toNat_lt hu⟩
set_option maxHeartbeats 4000000 in
set_option maxRecDepth 10000 in
theorem ref_Rank (b : By) (A0 : Option Addr) (n0 c0 : Nat) (A : Option Addr) (n c B : Nat) (past : List UInt8) (ki : Int) (w : World) (hA : LiesB w B A n past) (hT : LiesB w B A0 n0 b.table) (hB : B ≤ w.heap.size) (hnc : n ≤ c) (hn : n ≤ 1000000) :
    Calls Try.prog 30 #[b.val (.slice A0 n0 c0), .slice A n c, .int .i64 ki] w fun e w' => ∃ A' n' c', e = .returned (.slice A' n' c') ∧ OwnB w' w.heap.size A' n' c' (if b.may = true then (b.rank past).take (min (max ki 0) 256).toNat else []) ∧ Below w.heap.size w w' := by
  have HA := hide hA
  have HTB := hide hT
  clear hA hT
  obtain ⟨R, hR⟩ : ∃ R, R = (if b.may = true then (b.rank past).take (min (max ki 0) 256).toNat else []) := ⟨_, rfl⟩
  rw [← hR]
  have HR := hide hR
  clear hR
  rw [show b.val (.slice A0 n0 c0) = .agg #[.int .i64 b.kind, .int .i64 b.order, .slice A0 n0 c0] from rfl]
  go_enter Try.func30, Try.ntmps30
  go_upto_region 1 with fail
  generalize hw0 : World.alloc w _ = w0
  have hA0 : Arr 25 w0 w.heap.size (b.row (.slice A0 n0 c0)) := by rw [← hw0]; exact Arr.new 25 w _ _ rfl
  have HB0 : Hid (Below w.heap.size w w0) := by show Below _ _ _; rw [← hw0]; exact Below_new w _
  have HA0 := hide hA0
  have hsz0 : w.heap.size < w0.heap.size := hA0.lt
  clear hw0 hA0
  go_wp2_with (refine wpZ_load rfl (.tmp 3) rfl w.heap.size rfl b (.slice A0 n0 c0) HA0.out ?_)
  refine Calls.mono (ref_MayBy b A0 n0 c0 w0 (HTB.out.len)) ?_
  rintro e w1 ⟨rfl, hb1⟩
  have HB1 := hide (Below_step HB0.out hb1)
  have HA1 := hide (HA0.out.belowN hb1)
  have hs1 := hb1.size
  clear hb1 HA0
  cases hm : b.may
  · have HRn : Hid (R = []) := by show _ = _; rw [HR.out, hm]; rfl
    go_wp2_with fail
    go_ret
    exact ⟨none, 0, 0, rfl, by rw [HRn.out]; exact OwnB.nil _ _, HB1.out⟩
  · have HF := hide (By.may_facts hm)
    have HMM := hide hm
    by_cases hk1 : ki < 1
    · have dk : decide (ki < 1) = true := decide_eq_true hk1
      have HRn : Hid (R = []) := by
        show _ = _
        rw [HR.out, if_pos hm, show (min (max ki 0) 256).toNat = 0 by omega]; rfl
      clear hm
      go_wp2_with fail
      go_ret
      exact ⟨none, 0, 0, rfl, by rw [HRn.out]; exact OwnB.nil _ _, HB1.out⟩
    · have dk : decide (ki < 1) = false := decide_eq_false hk1
      obtain ⟨k, hk⟩ : ∃ k : Nat, ki = (k : Int) := ⟨ki.toNat, by omega⟩
      subst hk
      have HR2 : Hid (R = (b.rank past).take (min k 256)) := by
        show _ = _
        rw [HR.out, if_pos hm, show (min (max (k : Int) 0) 256).toNat = min k 256 by omega]
      clear hm
      go_wp2_with (refine wpZ_load rfl (.tmp 3) rfl w.heap.size rfl b (.slice A0 n0 c0) HA1.out ?_)
      refine Calls.mono (ref_weights b A0 n0 c0 A n c B past w1 (HA.out.below (HB1.out.mono hB)) (by omega) hnc hn (fun _ => ⟨HF.out.2.1, by have := HF.out; omega⟩)) ?_
      rintro e w2 ⟨rfl, hb2⟩
      have HB2 := hide (Below_step HB1.out hb2)
      have HA2 := hide (HA1.out.belowN hb2)
      have hs2 := hb2.size
      obtain ⟨f, hf⟩ : ∃ f, f = b.wgt past := ⟨_, rfl⟩
      rw [← hf]
      have HFW := hide hf
      clear hb2 HA1 hf
      go_wp2_with fail
      rw [zero_w]
      obtain ⟨e0, he0⟩ : ∃ e0, e0 = endB past := ⟨_, rfl⟩
      have HE0 := hide he0
      clear he0
      go_upto_if 26 with (refine wpA_init rfl 67 (.tmp 7) (.tmp 23) rfl (wl f) rfl rfl 256 info_w (by simp [wl_len]) (wl_len f) (wl_one f) ?_; intro w3 ha3 hb3 hs3)
      have HB3 := hide (Below_step HB2.out hb3)
      have HA3 := hide (HA2.out.belowN hb3)
      have HW3 := hide ha3
      obtain ⟨gw, hgw⟩ : ∃ g, g = w2.heap.size := ⟨_, rfl⟩
      rw [← hgw] at HW3 ⊢
      have hgw2 : w.heap.size < gw := by omega
      have hs3' : w2.heap.size ≤ w3.heap.size := hb3.size
      clear ha3 hb3 HA2 hgw
      go_cut [8] from 26 to 33 (fun s wx => s = .int .i64 (e0.toNat : Int) ∧ w3 = wx)
      case first =>
        by_cases h0 : n = 0
        · subst h0
          have HE : Hid (e0 = 0) := by
            show _ = _
            have := HA.out.len
            rw [HE0.out, List.length_eq_zero_iff.1 this]; rfl
          go_wp2_with fail
          go_meet
          exact ⟨by rw [HE.out]; rfl, rfl⟩
        · obtain ⟨m, rfl⟩ : ∃ m, n = m + 1 := ⟨n - 1, by omega⟩
          obtain ⟨bl, off, hlp, rfl, -, hcp⟩ := (HA.out.below (HB3.out.mono hB)).at_ (k := m) (by omega)
          obtain ⟨x, hx⟩ : ∃ x, x = past[m] := ⟨_, rfl⟩
          rw [← hx] at hcp
          have hx256 : (x.toNat : Int) < 256 := by have := x.toNat_lt; omega
          have HE : Hid (e0 = x) := by
            show _ = _
            rw [HE0.out]
            unfold endB
            rw [HA.out.len, Nat.add_sub_cancel, List.getD_eq_getElem?_getD, List.getElem?_eq_getElem hlp, hx]; rfl
          have d0 : decide (((m + 1 : Nat) : Int) > 0) = true := decide_eq_true (by omega)
          have e1 : ((m + 1 : Nat) : Int) - 1 = (m : Int) := by omega
          have hm : (m : Int) < ((m + 1 : Nat) : Int) := by omega
          clear hx h0
          go_wp2_with fail
          go_meet
          exact ⟨by rw [HE.out], rfl⟩
      case rest =>
      obtain ⟨rfl, rfl⟩ := hcut
      go_upto_region 8 with fail
      have q0 := HA3.out.cell (j := 0) (by simp [By.row])
      have q2 := HA3.out.cell (j := 2) (by simp [By.row])
      simp only [By.row, List.getElem_cons_zero, List.getElem_cons_succ] at q0 q2
      obtain ⟨q, hq⟩ : ∃ q, (b.kind == 3) = q := ⟨_, rfl⟩
      have HQ := hide hq
      go_upto_if 36 with fail
      obtain ⟨dr, hdr⟩ : ∃ dr, dr = b.draw past := ⟨_, rfl⟩
      have HDR := hide hdr
      clear hq hdr
      go_cut [9] from 34 to 47 (fun s wx => s = .int .i64 dr ∧ ∃ nd, wx = w3.drewN nd)
      case first =>
        cases q
        · have HD : Hid (dr = -1) := by
            show _ = _
            have := HQ.out
            rw [HDR.out]; unfold Prd.By.draw
            rw [if_neg (by simpa using this)]
          go_wp2_with fail
          go_meet
          exact ⟨by rw [HD.out], 0, rfl⟩
        · have k3 : b.kind = 3 := by simpa using HQ.out
          obtain ⟨t1, t2⟩ := HF.out.2.2.2 k3
          have hlt := HTB.out.len
          obtain ⟨r, hr⟩ : ∃ r, r = n % n0 := ⟨_, rfl⟩
          have hr2 : r < n0 := by rw [hr]; exact Nat.mod_lt _ (by omega)
          have hn00 : ¬ n0 = 0 := by omega
          have hmod : Int.tmod (n : Int) (n0 : Int) = (r : Int) := by rw [hr, Int.tmod_eq_emod_of_nonneg (by omega)]; omega
          have hri : (r : Int) < (n0 : Int) := by omega
          obtain ⟨bl, off, hlp, rfl, -, hcp⟩ := (HTB.out.below (HB3.out.mono hB)).at_ hr2
          obtain ⟨x, hx⟩ : ∃ x, x = b.table[r] := ⟨_, rfl⟩
          rw [← hx] at hcp
          have hx256 : (x.toNat : Int) < 256 := by have := x.toNat_lt; omega
          have HD : Hid (dr = (x.toNat : Int)) := by
            show _ = _
            rw [HDR.out]
            unfold Prd.By.draw
            rw [if_pos k3]
            unfold By.tb
            rw [HA.out.len, hlt, ← hr, List.getD_eq_getElem?_getD, List.getElem?_eq_getElem hlp, hx]; rfl
          clear hx hr hlt k3
          go_wp2_with fail
          go_quiet (fail)
          go_wp2_with fail
          go_meet
          exact ⟨by rw [HD.out], _, rfl⟩
      case rest =>
      obtain ⟨rfl, nd, hnd⟩ := hcut
      obtain ⟨w4, hw4⟩ : ∃ w2, w2 = wc := ⟨_, rfl⟩
      subst hw4
      have HB4 : Hid (Below w.heap.size w w4) := by show Below _ _ _; rw [hnd]; exact Below_drewN HB3.out nd
      have HW4 : Hid (Arr 67 w4 gw (wl f)) := by show Arr _ _ _ _; rw [hnd]; exact HW3.out.drewN nd
      have hs4 : w3.heap.size = w4.heap.size := by rw [hnd]; rfl
      clear hnd q0 q2 HQ HA3 HW3
      go_upto_region 11 with fail
      rw [zero_b]
      go_upto_region 11 with fail
      generalize hw5 : World.alloc w4 _ = w5
      obtain ⟨gt, hgt⟩ : ∃ g, g = w4.heap.size := ⟨_, rfl⟩
      have T5 : Hid (Arr 77 w5 gt (bl fun _ => false) ∧ Arr 67 w5 gw (wl f) ∧ Below w.heap.size w w5) := by
        show _ ∧ _
        rw [← hw5, hgt]
        exact ⟨Arr.new 77 w4 _ _ rfl, HW4.out.belowN (Below_new _ _), Below_step HB4.out (Below_new _ _)⟩
      rw [← hgt]
      have hgw4 : gw < gt := by rw [hgt]; exact HW4.out.lt
      have hgt5 : gt < w5.heap.size := T5.out.1.lt
      clear hw5 hgt HW4 HB4
      go_wp2_with fail
      go_loopg [11, 12, 13] 256 (fun gg s11 s12 s13 wr => ∃ (j : Nat) (A' : Option Addr) (c' : Nat), j ≤ 256 ∧ j ≤ k ∧ gg = 256 - j ∧ s11 = .slice A' j c' ∧ w5.heap.size ≤ wr.heap.size ∧ Hid (OwnB wr w5.heap.size A' j c' ((b.rank past).take j)) ∧ Hid (Arr 77 wr gt (bl fun x => decide (x ∈ (b.rank past).take j)) ∧ Arr 67 wr gw (wl f) ∧ Below w.heap.size w wr))
      case atStart => exact ⟨0, none, 0, by omega, by omega, rfl, rfl, Nat.le_refl _, OwnB.nil _ _, by simpa using T5.out.1, T5.out.2⟩
      case round =>
        obtain ⟨W1, hW1⟩ : ∃ W1, W1 = wr := ⟨_, rfl⟩
        subst hW1
        obtain ⟨j, A', c', hj, hjk, rfl, rfl, hsr, HO, HI⟩ := hrel
        obtain ⟨T, hT⟩ : ∃ T, T = (b.rank past).take j := ⟨_, rfl⟩
        rw [← hT] at HO HI
        have HTT := hide hT
        clear hT
        by_cases hlt : j < k ∧ j < 256
        · obtain ⟨hlt1, hlt2⟩ := hlt
          have dj1 : decide ((j : Int) < (k : Int)) = true := decide_eq_true (by omega)
          have dj2 : decide ((j : Int) < 256) = true := decide_eq_true (by omega)
          have hsg : gw < W1.heap.size := by omega
          have hsg2 : gt < W1.heap.size := by omega
          go_upto_block 2 with fail
          go_cut [12, 13] from 57 to 77 (fun s12 s13 wx => ∃ z : UInt8, s12 = .int .i64 (z.toNat : Int) ∧ Hid ((b.rank past).take (j + 1) = T ++ [z]) ∧ Hid (Below W1.heap.size W1 wx))
          case first =>
            go_wp2_with fail
            go_loopg [12, 13] 256 (fun gg s12 s13 wr => ∃ (v : Nat) (s : Int), v ≤ 256 ∧ gg = 256 - v ∧ s12 = .int .i64 s ∧ s13 = .int .i64 (v : Int) ∧ Hid (Best b past T v s) ∧ Hid (Below W1.heap.size W1 wr))
            case atStart => exact ⟨0, -1, by omega, rfl, rfl, rfl, .inl ⟨rfl, fun u hu => absurd hu (Nat.not_lt_zero _)⟩, Below.refl _ _⟩
            case round =>
              obtain ⟨W2, hW2⟩ : ∃ W2, W2 = wr := ⟨_, rfl⟩
              subst hW2
              obtain ⟨v, s, hv, rfl, rfl, rfl, HBE, HB⟩ := hrel
              by_cases hlt3 : v < 256
              · obtain ⟨x, hx⟩ : ∃ x, x = UInt8.ofNat v := ⟨_, rfl⟩
                have hxv : x.toNat = v := by rw [hx]; exact UInt8.toNat_ofNat_of_lt' hlt3
                have cb := (HI.out.1.below HB.out hsg2).bcell x
                rw [hxv] at cb
                have HXV := hide hxv
                have HW2 := hide (HI.out.2.1.below HB.out hsg)
                have hs2 := HB.out.size
                have hvi : (v : Int) < 256 := by omega
                clear hx hxv
                by_cases hm : x ∈ T
                · rw [decide_eq_true hm] at cb
                  have HBE2 := hide (HBE.out.skip HXV.out hm)
                  clear hm
                  go_wp2_with fail
                  go_roundg (256 - (v + 1))
                  case measure => omega
                  case rel => exact ⟨v + 1, s, by omega, rfl, rfl, by go_num, HBE2, HB⟩
                · rw [decide_eq_false hm] at cb
                  rcases HBE.out with ⟨h1, h2⟩ | ⟨z, h1, h2, h3, h4⟩
                  · subst h1
                    have HBE2 : Hid (Best b past T (v + 1) (v : Int)) := by
                      have := Best.new (b := b) (past := past) h2 HXV.out hm
                      rwa [HXV.out] at this
                    clear hm h2
                    go_wp2_with fail
                    go_roundg (256 - (v + 1))
                    case measure => omega
                    case rel => exact ⟨v + 1, _, by omega, rfl, rfl, by go_num, HBE2, HB⟩
                  · subst h1
                    have dz : decide ((z.toNat : Int) < 0) = false := decide_eq_false (by omega)
                    have hzx : z < x := UInt8.lt_iff_toNat_lt.2 (by have := HXV.out; omega)
                    have HZX := hide hzx
                    have HBT : Hid (b.key past x < b.key past z → Best b past T (v + 1) (v : Int)) := by
                      intro hk
                      have := Best.better h4 HXV.out hm hk
                      rwa [HXV.out] at this
                    have HBK : Hid (¬ b.key past x < b.key past z → Best b past T (v + 1) (z.toNat : Int)) := fun hk => Best.keep h2 h3 h4 HXV.out hk
                    clear hm h2 h3 h4 hzx
                    go_wp2_with (refine wpAG_load rfl (.tmp 7) rfl gw rfl f HW2.out ?_)
                    refine Calls.mono (ref_ahead (b := b) (past := past) (by rw [HA.out.len]; exact hn) x z HZX.out (by rw [HXV.out]) rfl (by rw [HE0.out]) HDR.out HFW.out) ?_
                    rintro e w6 ⟨rfl, hb6⟩
                    obtain ⟨r, hr⟩ : ∃ r, r = decide (b.key past x < b.key past z) := ⟨_, rfl⟩
                    rw [← hr]
                    have HRR := hide hr
                    have HB6 := hide (HB.out.trans (hb6.mono hs2))
                    clear hr hb6
                    cases r
                    · have HBE2 := hide (HBK.out (of_decide_eq_false HRR.out.symm))
                      go_wp2_with fail
                      go_roundg (256 - (v + 1))
                      case measure => omega
                      case rel => exact ⟨v + 1, _, by omega, rfl, rfl, by go_num, HBE2, HB6⟩
                    · have HBE2 := hide (HBT.out (of_decide_eq_true HRR.out.symm))
                      go_wp2_with fail
                      go_roundg (256 - (v + 1))
                      case measure => omega
                      case rel => exact ⟨v + 1, _, by omega, rfl, rfl, by go_num, HBE2, HB6⟩
              · obtain rfl : v = 256 := by omega
                have hE := HBE.out
                rw [HTT.out] at hE
                obtain ⟨z, rfl, hz2⟩ := hE.end_ hlt2
                rw [← HTT.out] at hz2
                have HZ2 := hide hz2
                clear hE hz2
                go_wp2_with fail
                go_meet
                exact ⟨z, rfl, HZ2, HB⟩
          case rest =>
          obtain ⟨z, rfl, HZ2, HB⟩ := hcut
          obtain ⟨W2, hW2⟩ : ∃ W2, W2 = wc := ⟨_, rfl⟩
          subst hW2
          have hs2 := HB.out.size
          have hz256 : z.toNat < 256 := z.toNat_lt
          have hzi : (z.toNat : Int) < 256 := by omega
          have cb := (HI.out.1.below HB.out hsg2).bcell z
          have fb := (HI.out.1.below HB.out hsg2).frozen z.toNat
          obtain ⟨q, hq⟩ : ∃ q, q = decide (z ∈ T) := ⟨_, rfl⟩
          rw [← hq] at cb
          have KS : Keeps (fun g => g = gt) W2 (W2.setCell ⟨gt, z.toNat, none⟩ (.bool true)) := Keeps.setCell W2 ⟨gt, z.toNat, none⟩ _
          have HI2 : Hid (Arr 77 (W2.setCell ⟨gt, z.toNat, none⟩ (.bool true)) gt (bl fun x => decide (x ∈ T ++ [z])) ∧ Arr 67 (W2.setCell ⟨gt, z.toNat, none⟩ (.bool true)) gw (wl f) ∧ Below w.heap.size w (W2.setCell ⟨gt, z.toNat, none⟩ (.bool true))) := by
            refine ⟨?_, (HI.out.2.1.below HB.out hsg).keeps KS (by omega), (HI.out.2.2.trans (HB.out.mono (by omega))).trans (KS.below (by omega) (fun k hk => by omega))⟩
            have h1 := (HI.out.1.below HB.out hsg2).set z.toNat (.bool true)
            rw [bl_set] at h1
            have e : (fun y => decide (y ∈ T) || decide (y = z)) = fun x => decide (x ∈ T ++ [z]) := by
              funext y; simp
            rw [e] at h1
            exact h1
          have HO2 : Hid (OwnB (W2.setCell ⟨gt, z.toNat, none⟩ (.bool true)) w5.heap.size A' j c' T) := by
            have h1 := HO.out.below HB.out
            refine h1.keeps KS ?_
            intro k hk
            have := (h1.blk k hk).1
            omega
          have hsz3 : (W2.setCell ⟨gt, z.toNat, none⟩ (.bool true)).heap.size = W2.heap.size := by simp [World.setCell]
          clear KS hq
          go_upto_region 20 with fail
          generalize World.setCell W2 _ _ = W3 at HI2 HO2 hsz3 ⊢
          have hsz4 : w5.heap.size ≤ W3.heap.size := by omega
          clear hsz3
          have X1 := HO2.out.below (Below_new W3 (.cells #[Value.int IntKind.u8 ↑z.toNat] 5))
          have X2 := LiesB.new W3 #[Value.int IntKind.u8 ↑z.toNat] 5 (0, 0) [z] 1 rfl rfl
          have X3 : w5.heap.size ≤ (W3.alloc (.cells #[Value.int IntKind.u8 ↑z.toNat] 5)).heap.size := by simp; omega
          go_wp2_with (at_builtin; refine wpB_append3 rfl (.tmp 80) (.tmp 83) rfl w5.heap.size A' j c' _ rfl X1 _ _ 1 1 [z] rfl X2 (j + 1) _ rfl HZ2.out.symm (by omega) X3 ?_; intro A4 c4 w8 own8 k8 hk8)
          clear X1 X2 X3
          have hb8 : Below w5.heap.size W3 w8 := ((Below_new W3 _).mono (by omega)).trans (k8.belowOwn HO2.out (by simp; omega))
          have HI3 : Hid (Arr 77 w8 gt (bl fun x => decide (x ∈ (b.rank past).take (j + 1))) ∧ Arr 67 w8 gw (wl f) ∧ Below w.heap.size w w8) := by
            rw [HZ2.out]
            exact ⟨HI2.out.1.below hb8 hgt5, HI2.out.2.1.below hb8 (by omega), HI2.out.2.2.trans (hb8.mono (by omega))⟩
          have hs8 := hb8.size
          clear hb8
          go_roundg (256 - (j + 1))
          case measure => omega
          case rel => exact ⟨j + 1, A4, c4, by omega, by omega, rfl, rfl, by omega, own8, HI3⟩
        · have hjm : j = min k 256 := by omega
          have HF2 : Hid (OwnB W1 w.heap.size A' j c' R) := by
            show OwnB _ _ _ _ _ _
            rw [HR2.out, ← hjm, ← HTT.out]
            exact HO.out.base_le (by omega)
          by_cases hjk2 : j < k
          · have dj1 : decide ((j : Int) < (k : Int)) = true := decide_eq_true (by omega)
            have dj2 : decide ((j : Int) < 256) = false := decide_eq_false (by omega)
            clear hjm hlt
            go_wp2_with fail
            go_ret
            exact ⟨A', j, c', rfl, HF2.out, HI.out.2.2⟩
          · have dj1 : decide ((j : Int) < (k : Int)) = false := decide_eq_false (by omega)
            clear hjm hlt
            go_wp2_with fail
            go_ret
            exact ⟨A', j, c', rfl, HF2.out, HI.out.2.2⟩
end Go.Proofs.Ytciogjnchpeaaaa
