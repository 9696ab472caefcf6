/-
  PacketBytes: the walk.
-/
import Derived.Test.YtcjcmjkpfijhdaaPktTells
import Derived.Test.YtcjcmjkpfijhdaaOpenP
import Derived.Test.YtcjcmjkpfijhdaaPktSpoil
namespace Go.Proofs.Ytcjcmjkpfijhdaa
open Go.RowKit
set_option linter.unusedVariables false
/-- append under a guard that lets it. -/
theorem wpBG_append3 {ops : Array Oper} {rest : List Oper} {o : Oper} {a : Act} {w : World} {Q : Exit → Act → World → Prop} (hgd : Region.wanted o (yielded ops a.tmps) = true) (s x : Operand)
    (ho : o.op = .call { callee := .builtin .append, args := #[s, x], argTypes := #[22, 22] })
    (base : Nat) (A : Option Addr) (n c : Nat) (l : List UInt8) (hs : a.eval s = .slice A n c) (hown : OwnB w base A n c l)
    (B : Nat) (A2 : Option Addr) (m c2 : Nat) (l2 : List UInt8) (hx : a.eval x = .slice A2 m c2) (hr : LiesB w B A2 m l2) (k : Nat) (l3 : List UInt8) (hk : n + m = k) (hl3 : l ++ l2 = l3) (hsum : k ≤ 140737488355328) (hbase : base ≤ w.heap.size)
    (h : ∀ A' c' w', OwnB w' base A' k c' l3 → Keeps (Mine A n c) w w' →
      ((Value.slice A' k c').ownBlock = (Value.slice A n c).ownBlock ∨ (Value.slice A' k c').ownBlock = some w.heap.size) → wpList Try.prog ops Q rest (a.put o.dst (.slice A' k c')) w') : wpList Try.prog ops Q (o :: rest) a w := by
  subst hk hl3
  obtain ⟨A', c', w', hrun, h2, h3, h4⟩ := run_appendB w base o.type A n c l hown B A2 m c2 l2 hr hsum hbase
  refine wpList_step fun K hK => ?_
  rw [if_pos hgd]
  unfold Oper.wp execOp
  simp only [ho, resolve, invoke, builtin, Sem.run_bind, Sem.run_pure, Result.andThen_ok, List.map_toArray, List.map_cons, List.map_nil, hs, hx, hrun]
  exact hK _ _ (h A' c' w' h2 (Keeps.grown h3) h4)
set_option maxHeartbeats 2000000 in
set_option maxRecDepth 10000 in
theorem law_PacketBytes (p0 : Pkt) (A : Option Addr) (n c : Nat) (at' cut x : Int) (w : World) (hA : LiesB w w.heap.size A n p0.press) (hc : n ≤ c) (hcm : c ≤ maxLen) (hwf : p0.WF) (hin : p0.Ints)
    (lo1 : -9223372036854775808 ≤ at') (hi1 : at' ≤ 9223372036854775807) (lo2 : -9223372036854775808 ≤ cut) (hi2 : cut ≤ 9223372036854775807) (lo : 0 ≤ x) (hi : x ≤ 255) :
    Calls Try.prog 3 #[p0.val (.slice A n c), .int .i64 at', .int .i64 cut, .int .u8 x] w fun e w' => e = .returned (.bool true) ∧ Below w.heap.size w w' := by
  obtain ⟨d, rfl⟩ : ∃ d : UInt8, x = (d.toNat : Int) := ⟨UInt8.ofNat x.toNat, by rw [UInt8.toNat_ofNat_of_lt' (by show x.toNat < 256; omega)]; omega⟩
  have HA := hide hA
  have HC := hide hc
  have HWF : Hid (p0.cut 40).WF := hwf
  have HP0 : Hid (Arr 25 (w.alloc (.cells (p0.row (.slice A n c)).toArray 25)) w.heap.size (p0.row (.slice A n c))) := Arr.new 25 w _ _ rfl
  have HB0 : Hid (Below w.heap.size w (w.alloc (.cells (p0.row (.slice A n c)).toArray 25))) := Below_new _ _
  clear hA hc hcm hwf hin lo hi
  go_enter Try.func3, Try.ntmps3
  go_upto_region 1 with fail
  generalize World.alloc w _ = w0 at HP0 HB0 ⊢
  go_upto_region 2 with fail
  refine Calls.mono (begun15 _) ?_
  rintro e w1 ⟨rfl, hb1⟩
  have HP1 := hide (HP0.out.belowN hb1)
  have HB1 := hide (Below_step HB0.out hb1)
  clear hb1 HP0 HB0
  go_wp2_with (refine wpP_load rfl (.tmp 4) rfl w.heap.size rfl p0 (.slice A n c) HP1.out ?_)
  refine Calls.mono (law_Cut p0 HC.out) ?_
  rintro e w2 ⟨rfl, hb2⟩
  have HP2 := hide (HP1.out.belowN hb2)
  have HB2 := hide (Below_step HB1.out hb2)
  have hrow : Hid ((p0.row (.slice A n c)).length = 9) := rfl
  clear hb2 HP1 HB1
  obtain ⟨p, hp⟩ : ∃ q, q = p0.cut 40 := ⟨_, rfl⟩
  have HPR : Hid (p.press = p0.press.take 40) := by show _ = _; rw [hp]
  rw [← hp] at HWF ⊢
  clear hp
  obtain ⟨m, hm⟩ : ∃ m, m = min 40 n := ⟨_, rfl⟩
  rw [← hm]
  have HM := hide hm
  have hm40 : m ≤ 40 := by omega
  clear hm
  go_upto_region 5 with (refine wpP_put rfl (.tmp 4) (.tmp 18) rfl w.heap.size rfl p A m c rfl HP2.out hrow.out ?_; intro w3 ha3 hk3 hs3)
  have HP3 := hide ha3
  have HB3 := hide (HB2.out.trans (hk3.below HB2.out.size (fun k hk => by omega)))
  have HL3 : Hid (LiesB w3 w.heap.size A m p.press) := by show LiesB _ _ _ _ _; rw [HPR.out, HM.out]; exact (HA.out.below HB3.out).take 40
  clear ha3 hk3 hs3 HP2 HB2 HA HC HM HPR hrow
  go_wp2_with (refine wpP_load rfl (.tmp 4) rfl w.heap.size rfl p (.slice A m c) HP3.out ?_)
  refine Calls.mono (packet_Encode p HL3.out HB3.out.size (by omega) HWF.out) ?_
  rintro e w4 ⟨A4, n4, c4, rfl, own4, hb4, -⟩
  obtain ⟨b, hb⟩ : ∃ b, b = p.enc := ⟨_, rfl⟩
  rw [← hb] at own4
  have HBE := hide hb
  have HP4 := hide (HP3.out.belowN hb4)
  have HB4 := hide (Below_step HB3.out hb4)
  have HL4 := hide (HL3.out.below (hb4.mono HB3.out.size))
  have O4 := hide (own4.base_le HB3.out.size)
  have HN4 := hide own4.len
  have hc4 := own4.cap
  have hn100 : n4 ≤ 100 := by have := Pkt.enc_short p; have := own4.len; rw [hb] at this; omega
  obtain ⟨r, hr⟩ : ∃ r, r = p.may := ⟨_, rfl⟩
  have HR := hide hr
  have hmn : Hid (p.press.length = m) := HL3.out.len
  have hrr : (r != r) = false := by simp
  have hbb : (b == b) = true := by simp
  have hbb2 : (b != b) = false := by simp
  have HBX : Hid (p.enc = b) := hb.symm
  clear own4 hb4 hb hr HP3 HB3 HL3
  go_upto_region 6 with fail
  go_cut [33] (fun s wx => s = .bool false ∧ Hid (Arr 25 wx w.heap.size (p.row (.slice A m c))) ∧ Hid (Below w.heap.size w wx) ∧ Hid (LiesB wx w.heap.size A m p.press) ∧ Hid (OwnB wx w.heap.size A4 n4 c4 b))
  case first =>
    refine wp_region_noPanic ?_
    refine wp_region_held_drew (S := (fun w' => WholeP w.heap.size (p.val (.slice A m c)) w' ∧ Reads A4 n4 c4 b w')) (by kernel_rfl) ⟨HP4.out.drew.wholeP, run_stringB O4.out.lies.drew⟩ (fun hHeld => ?_)
    refine wpAnyH_take (i := 0) (oi := ?_) (v := p.val (.slice A m c)) ?_ (by kernel_rfl) (by kernel_rfl) (by kernel_rfl) ?_ ?_ (by assumption) ?_
    rotate_left 1
    · (simp only [List.getElem?_toArray, List.getElem?_cons_zero]; rfl)
    · exact fun _ _ _ h => h
    · (refine Or.inl ⟨by rfl, ?_⟩; intro w hSw; (try dsimp only at hSw); exact exec_wholeP (x := .tmp 4) hSw.1 rfl rfl)
    try simp only [Act.put, List.setIfInBounds_toArray, List.set_cons_zero, List.set_cons_succ]
    refine wpAnyH_take (i := 2) (oi := ?_) (v := p.val (.slice A m c)) ?_ (by kernel_rfl) (by kernel_rfl) (by kernel_rfl) ?_ ?_ (by assumption) ?_
    rotate_left 1
    · (simp only [List.getElem?_toArray, List.getElem?_cons_succ, List.getElem?_cons_zero]; rfl)
    · exact fun _ _ _ h => h
    · (refine Or.inl ⟨by rfl, ?_⟩; intro w hSw; (try dsimp only at hSw); exact exec_wholeP (x := .tmp 4) hSw.1 rfl rfl)
    try simp only [Act.put, List.setIfInBounds_toArray, List.set_cons_zero, List.set_cons_succ]
    refine wpAnyH_ready (rs := [1]) (by kernel_rfl) (by simp) ?_
    refine AllReadyH.cons (o := ?_) ?_ (fun K hK => ?_) AllReadyH.nil
    rotate_left 1
    · (simp only [List.getElem?_toArray, List.getElem?_cons_succ, List.getElem?_cons_zero]; rfl)
    go_simp
    refine Calls.mono (packet_May p hmn.out (by omega) HR.out) ?_
    rintro e w5 ⟨rfl, hb5⟩
    have HP5 := HP4.out.drew.belowN hb5
    have HB5 := Below_step HB4.out.drew hb5
    have O5 := O4.out.drew.below hb5
    have HL5 := HL4.out.drew.below (hb5.mono HB4.out.size)
    refine hK.out _ _ ⟨HP5.wholeP, run_stringB O5.lies⟩ (fun hHeld => ?_)
    clear hK K
    try simp only [Act.put, List.setIfInBounds_toArray, List.set_cons_zero, List.set_cons_succ]
    refine wpAnyH_ready (rs := [3]) (by kernel_rfl) (by simp) ?_
    refine AllReadyH.cons (o := ?_) ?_ (fun K hK => ?_) AllReadyH.nil
    rotate_left 1
    · (simp only [List.getElem?_toArray, List.getElem?_cons_succ, List.getElem?_cons_zero]; rfl)
    go_simp
    refine Calls.mono (ref_MayPacket p hmn.out (by omega) HR.out) ?_
    rintro e w6 ⟨rfl, hb6⟩
    have HP6 := HP5.belowN hb6
    have O6 := O5.below hb6
    have HL6 := HL5.below (hb6.mono HB5.size)
    have HB6 := Below_step HB5 hb6
    refine hK.out _ _ ⟨HP6.wholeP, run_stringB O6.lies⟩ (fun hHeld => ?_)
    clear hK K
    try simp only [Act.put, List.setIfInBounds_toArray, List.set_cons_zero, List.set_cons_succ]
    refine wpAnyH_take (i := 4) (oi := ?_) (v := ?_) ?_ (by kernel_rfl) (by kernel_rfl) (by kernel_rfl) ?_ ?_ (by assumption) ?_
    rotate_left 2
    · (simp only [List.getElem?_toArray, List.getElem?_cons_succ, List.getElem?_cons_zero]; rfl)
    · exact fun _ _ _ h => h
    · (refine Or.inl ⟨by rfl, ?_⟩; intro w hSw; (try dsimp only at hSw); go_simp <;> with_reducible rfl)
    try simp only [Act.put, List.setIfInBounds_toArray, List.set_cons_zero, List.set_cons_succ]
    refine wpAnyH_take (i := 5) (oi := ?_) (v := ?_) ?_ (by kernel_rfl) (by kernel_rfl) (by kernel_rfl) ?_ ?_ (by assumption) ?_
    rotate_left 2
    · (simp only [List.getElem?_toArray, List.getElem?_cons_succ, List.getElem?_cons_zero]; rfl)
    · exact fun _ _ _ h => h
    · (refine Or.inl ⟨by rfl, ?_⟩; intro w hSw; (try dsimp only at hSw); go_simp <;> with_reducible rfl)
    try simp only [Act.put, List.setIfInBounds_toArray, List.set_cons_zero, List.set_cons_succ]
    refine wpAnyH_take (i := 6) (oi := ?_) (v := ?_) ?_ (by kernel_rfl) (by kernel_rfl) (by kernel_rfl) ?_ ?_ (by assumption) ?_
    rotate_left 2
    · (simp only [List.getElem?_toArray, List.getElem?_cons_succ, List.getElem?_cons_zero]; rfl)
    · exact fun _ _ _ h => h
    · (refine Or.inl ⟨by rfl, ?_⟩; intro w hSw; (try dsimp only at hSw); go_simp <;> with_reducible rfl)
    try simp only [Act.put, List.setIfInBounds_toArray, List.set_cons_zero, List.set_cons_succ]
    refine wpAnyH_take (i := 7) (oi := ?_) (v := ?_) ?_ (by kernel_rfl) (by kernel_rfl) (by kernel_rfl) ?_ ?_ (by assumption) ?_
    rotate_left 2
    · (simp only [List.getElem?_toArray, List.getElem?_cons_succ, List.getElem?_cons_zero]; rfl)
    · exact fun _ _ _ h => h
    · (refine Or.inl ⟨by rfl, ?_⟩; intro w hSw; (try dsimp only at hSw); have q1 := hSw.2; unfold Reads at q1; go_simp <;> with_reducible rfl)
    try simp only [Act.put, List.setIfInBounds_toArray, List.set_cons_zero, List.set_cons_succ]
    refine wpAnyH_take (i := 8) (oi := ?_) (v := p.val (.slice A m c)) ?_ (by kernel_rfl) (by kernel_rfl) (by kernel_rfl) ?_ ?_ (by assumption) ?_
    rotate_left 1
    · (simp only [List.getElem?_toArray, List.getElem?_cons_succ, List.getElem?_cons_zero]; rfl)
    · exact fun _ _ _ h => h
    · (refine Or.inl ⟨by rfl, ?_⟩; intro w hSw; (try dsimp only at hSw); exact exec_wholeP (x := .tmp 4) hSw.1 rfl rfl)
    try simp only [Act.put, List.setIfInBounds_toArray, List.set_cons_zero, List.set_cons_succ]
    refine wpAnyH_ready (rs := [9]) (by kernel_rfl) (by simp) ?_
    refine AllReadyH.cons (o := ?_) ?_ (fun K hK => ?_) AllReadyH.nil
    rotate_left 1
    · (simp only [List.getElem?_toArray, List.getElem?_cons_succ, List.getElem?_cons_zero]; rfl)
    go_simp
    refine Calls.mono (ref_Packet p HL6 HB6.size (by omega) HWF.out) ?_
    rintro e w7 ⟨A7, n7, c7, rfl, own7, hb7⟩
    rw [HBX.out] at own7
    have HP7 := HP6.belowN hb7
    have O7 := O6.below hb7
    have HL7 := HL6.below (hb7.mono HB6.size)
    have HB7 := Below_step HB6 hb7
    refine hK.out _ _ ⟨HP7.wholeP, run_stringB O7.lies⟩ (fun hHeld => ?_)
    clear hK K
    try simp only [Act.put, List.setIfInBounds_toArray, List.set_cons_zero, List.set_cons_succ]
    refine wpAnyH_mono (S' := (fun w' => Reads A7 n7 c7 b w' ∧ (fun w' => WholeP w.heap.size (p.val (.slice A m c)) w' ∧ Reads A4 n4 c4 b w') w')) (fun _ h => h.2) _ _ _ _ ?_
    have hHeld2 := (⟨run_stringB own7.lies, HP7.wholeP, run_stringB O7.lies⟩ : (fun w' => Reads A7 n7 c7 b w' ∧ (fun w' => WholeP w.heap.size (p.val (.slice A m c)) w' ∧ Reads A4 n4 c4 b w') w') w7)
    refine wpAnyH_take (i := 10) (oi := ?_) (v := ?_) ?_ (by kernel_rfl) (by kernel_rfl) (by kernel_rfl) ?_ ?_ (by assumption) ?_
    rotate_left 2
    · (simp only [List.getElem?_toArray, List.getElem?_cons_succ, List.getElem?_cons_zero]; rfl)
    · exact fun _ _ _ h => h
    · (refine Or.inl ⟨by rfl, ?_⟩; intro w hSw; (try dsimp only at hSw); have q1 := hSw.1; unfold Reads at q1; go_simp <;> with_reducible rfl)
    try simp only [Act.put, List.setIfInBounds_toArray, List.set_cons_zero, List.set_cons_succ]
    refine wpAnyH_take (i := 11) (oi := ?_) (v := ?_) ?_ (by kernel_rfl) (by kernel_rfl) (by kernel_rfl) ?_ ?_ (by assumption) ?_
    rotate_left 2
    · (simp only [List.getElem?_toArray, List.getElem?_cons_succ, List.getElem?_cons_zero]; rfl)
    · exact fun _ _ _ h => h
    · (refine Or.inl ⟨by rfl, ?_⟩; intro w hSw; (try dsimp only at hSw); go_simp <;> with_reducible rfl)
    try simp only [Act.put, List.setIfInBounds_toArray, List.set_cons_zero, List.set_cons_succ]
    refine wpAnyH_take (i := 12) (oi := ?_) (v := ?_) ?_ (by kernel_rfl) (by kernel_rfl) (by kernel_rfl) ?_ ?_ (by assumption) ?_
    rotate_left 2
    · (simp only [List.getElem?_toArray, List.getElem?_cons_succ, List.getElem?_cons_zero]; rfl)
    · exact fun _ _ _ h => h
    · (refine Or.inl ⟨by rfl, ?_⟩; intro w hSw; (try dsimp only at hSw); go_simp <;> with_reducible rfl)
    try simp only [Act.put, List.setIfInBounds_toArray, List.set_cons_zero, List.set_cons_succ]
    refine wpAnyH_done (by kernel_rfl) (NoPanic.normal ?_) _
    go_wp2_with fail
    go_meet
    exact ⟨rfl, HP7, HB7, HL7, O7⟩
  case rest =>
  obtain ⟨rfl, HP, HB, HL, HO⟩ := hcut
  clear HP4 HB4 HL4 O4 hrr hbb hbb2
  by_cases h0 : n4 = 0
  · have d1 : ((n4 : Int) == 0) = true := by simp [h0]
    clear h0
    go_wp2_with fail
    go_ret
    exact ⟨rfl, HB.out⟩
  have d1 : ((n4 : Int) == 0) = false := by simp [h0]
  have hpos : 0 < n4 := by omega
  have HIS : Hid (Pkt.Is b p) := by
    show Pkt.Is b p
    have hm : p.may = true := by
      cases hm : p.may
      · have h1 := Pkt.enc_nil_iff.2 hm
        rw [HBX.out] at h1
        have := HN4.out; rw [h1] at this; simp at this; omega
      · rfl
    have := Pkt.enc_is hm HWF.out
    rwa [HBX.out] at this
  clear h0 HR
  have HEQ : Hid (true = Pkt.eqb p p) := (Pkt.eqb_self p).symm
  go_wp2_with fail
  refine Calls.mono (packet_Decode_yes p HIS.out HO.out.lies (Nat.le_refl _) hc4 (by omega)) ?_
  rintro e w5 ⟨A5, n5, c5, rfl, l5, hc5, hn5, hb5⟩
  have HP5 := hide (HP.out.belowN hb5)
  have HB5 := hide (Below_step HB.out hb5)
  have HL5 := hide (HL.out.below (hb5.mono HB.out.size))
  have HO5 := hide (HO.out.below hb5)
  have L5 := hide l5
  clear l5 hb5 HP HB HL HO
  go_upto_region 11 with fail
  generalize hw6 : World.alloc w5 _ = w6
  have hb6 : Below w5.heap.size w5 w6 := by rw [← hw6]; exact Below_new w5 _
  have HQ6 : Hid (Arr 25 w6 w5.heap.size (p.row (.slice A5 n5 c5))) := by show Arr _ _ _ _; rw [← hw6]; exact Arr.new 25 w5 _ _ rfl
  have HP6 := hide (HP5.out.belowN hb6)
  have HB6 := hide (Below_step HB5.out hb6)
  have HL6 := hide (HL5.out.below (hb6.mono HB5.out.size))
  have HO6 := hide (HO5.out.below hb6)
  have L6 := hide ((L5.out.below hb6).more hb6.size)
  have HGB : Hid (w.heap.size < w5.heap.size) := HP5.out.lt
  obtain ⟨g, hg⟩ : ∃ g, g = w5.heap.size := ⟨_, rfl⟩
  rw [← hg] at HQ6 HGB ⊢
  have HGO : Hid (∀ k, some k = (Value.slice A4 n4 c4).ownBlock → ¬ k = g) := by
    show ∀ k, _
    intro k hk
    have := (HO5.out.blk k hk).2
    omega
  clear hw6 hb6 HP5 HB5 HL5 HO5 L5 hg
  go_wp2_with (first | (refine wpPG_load rfl (.tmp 4) rfl w.heap.size rfl p (.slice A m c) HP6.out ?_) | (refine wpPG_load rfl (.tmp 11) rfl g rfl p (.slice A5 n5 c5) HQ6.out ?_))
  refine Calls.mono (ref_EqPacket p p HL6.out L6.out HB6.out.size (Nat.le_refl _) HEQ.out) ?_
  rintro e w7 ⟨rfl, hb7⟩
  have HQ7 := hide (HQ6.out.belowN hb7)
  have HB7 := hide (Below_step HB6.out hb7)
  have HO7 := hide (HO6.out.below hb7)
  clear hb7 HP6 HQ6 HB6 HL6 HO6 L6
  go_upto_region 13 with fail
  go_cut [67] (fun s wx => s = .bool false ∧ Hid (Arr 25 wx g (p.row (.slice A5 n5 c5))) ∧ Hid (Below w.heap.size w wx) ∧ Hid (OwnB wx w.heap.size A4 n4 c4 b))
  case first =>
    by_cases h1 : 0 < cut
    · have d2 : decide (0 < cut) = true := decide_eq_true h1
      by_cases h2 : cut ≤ (n4 : Int)
      · have d3 : decide (cut ≤ (n4 : Int)) = true := decide_eq_true h2
        obtain ⟨k, rfl⟩ : ∃ k : Nat, cut = (k : Int) := ⟨cut.toNat, by omega⟩
        have hk : k ≤ n4 := by omega
        have a1 : IntKind.i64.wrap ((n4 : Int) - (k : Int)) = ((n4 - k : Nat) : Int) := by rw [IntKind.wrap_i64]; omega
        have a2 : (n4 : Int) - (k : Int) = ((n4 - k : Nat) : Int) := by omega
        have A1 := hide a1
        have A2 := hide a2
        have hkc : n4 - k ≤ c4 := by omega
        have LT : Hid (LiesB w7 w7.heap.size A4 (n4 - k) (b.take (n4 - k))) := by
          show LiesB _ _ _ _ _
          have := HO7.out.lies.take (n4 - k)
          rwa [Nat.min_eq_left (by omega)] at this
        clear a1 a2
        go_wp2_with fail
        refine Calls.mono (law_tells LT.out (Nat.le_refl _) hkc (by omega)) ?_
        rintro e w8 ⟨rfl, hb8⟩
        have HQ8 := hide (HQ7.out.belowN hb8)
        have HO8 := hide (HO7.out.below hb8)
        have HB8 := hide (Below_step HB7.out hb8)
        clear hb8
        go_wp2_with fail
        go_meet
        exact ⟨rfl, HQ8, HB8, HO8⟩
      · have d3 : decide (cut ≤ (n4 : Int)) = false := decide_eq_false h2
        clear h1 h2
        go_wp2_with fail
        go_meet
        exact ⟨rfl, HQ7, HB7, HO7⟩
    · have d2 : decide (0 < cut) = false := decide_eq_false h1
      clear h1
      go_wp2_with fail
      go_meet
      exact ⟨rfl, HQ7, HB7, HO7⟩
  case rest =>
  obtain ⟨rfl, HQ, HB, HO⟩ := hcut
  clear HQ7 HB7 HO7
  by_cases h1 : at' < 0
  · have d2 : decide (at' < 0) = true := decide_eq_true h1
    clear h1
    go_wp2_with fail
    go_ret
    exact ⟨rfl, HB.out⟩
  have d2 : decide (at' < 0) = false := decide_eq_false h1
  by_cases h2 : d = 0
  · subst h2
    go_wp2_with fail
    go_ret
    exact ⟨rfl, HB.out⟩
  have d3 : ((d.toNat : Int) == 0) = false := by
    rw [beq_eq_false_iff_ne]
    intro h
    exact h2 (UInt8.toNat_inj.1 (by show d.toNat = 0; omega))
  have HD := hide h2
  clear h2
  have hnil := hide (OwnB.nil wc wc.heap.size)
  go_upto_region 18 with (at_builtin; refine wpB_append3 rfl (.const (.slice none 0 0)) (.tmp 74) rfl wc.heap.size none 0 0 [] rfl hnil.out _ A4 n4 c4 b rfl HO.out.lies n4 b (by omega) (by simp) (by omega) (Nat.le_refl _) ?_; intro A8 c8 w8 own8 k8 hk8)
  have hb8 := k8.belowOwn hnil.out (Nat.le_refl _)
  have HB8 := hide (Below_step HB.out hb8)
  have HO8 := hide (HO.out.below hb8)
  have HQ8 := hide (HQ.out.belowN hb8)
  obtain ⟨g8, rfl, hg8, hg8'⟩ := own8.form hpos
  obtain ⟨K, hK⟩ : ∃ K : Nat, at'.tmod (n4 : Int) = (K : Int) := ⟨(at'.tmod (n4 : Int)).toNat, by rw [Int.tmod_eq_emod_of_nonneg (by omega)]; have := Int.emod_nonneg at' (show (n4 : Int) ≠ 0 by omega); omega⟩
  have hK2 : at' % (n4 : Int) = (K : Int) := by rw [← hK, Int.tmod_eq_emod_of_nonneg (by omega)]
  have hKn : K < n4 := by have := Int.emod_lt_of_pos at' (show (0 : Int) < n4 by omega); omega
  have hKi : (K : Int) < (n4 : Int) := by omega
  obtain ⟨hib, hcell⟩ := own8.cell hKn
  have hfr := own8.frozen K
  obtain ⟨z, hz⟩ : ∃ z, z = b[K] := ⟨_, rfl⟩
  rw [← hz] at hcell
  have HZ := hide hz
  have hx := bits_xor8 z d
  obtain ⟨y, hy⟩ : ∃ y, y = z ^^^ d := ⟨_, rfl⟩
  rw [← hy] at hx
  have HY := hide hy
  have HO8b := hide own8
  have HG8 := hide hg8
  have hcap8 := own8.cap
  have HGB8 : Hid (g < wc.heap.size) := HQ.out.lt
  have HOB : Hid (∀ k, some k = (Value.slice A4 n4 c4).ownBlock → k < wc.heap.size) := fun k hk => (HO.out.blk k hk).2
  clear hy hz own8 k8 hk8 hb8 hnil hg8 h1 HB HO HQ
  go_upto_region 19 with fail
  have O9 : Hid (OwnB (w8.setCell ⟨g8, K, none⟩ (.int .u8 (y.toNat : Int))) wc.heap.size (some ⟨g8, 0, none⟩) n4 c8 (b.set K y)) := HO8b.out.store K y
  have KK := Keeps.setCell w8 ⟨g8, K, none⟩ (.int .u8 (y.toNat : Int))
  have HO9 : Hid (OwnB (w8.setCell ⟨g8, K, none⟩ (.int .u8 (y.toNat : Int))) w.heap.size A4 n4 c4 b) := by
    refine HO8.out.keeps KK fun k hk => ?_
    have := HOB.out k hk
    have := HG8.out
    show ¬ k = g8
    omega
  have HQ9 : Hid (Arr 25 (w8.setCell ⟨g8, K, none⟩ (.int .u8 (y.toNat : Int))) g (p.row (.slice A5 n5 c5))) := HQ8.out.keeps KK (by show ¬ g = g8; have := HG8.out; have := HGB8.out; omega)
  have HB9 : Hid (Below w.heap.size w (w8.setCell ⟨g8, K, none⟩ (.int .u8 (y.toNat : Int)))) := HB8.out.trans (KK.below HB8.out.size fun k hk => by have := HG8.out; have := HGB8.out; have := HGB.out; show k = g8 → _; omega)
  generalize World.setCell w8 _ _ = w9 at O9 HO9 HQ9 HB9 ⊢
  have HNO : Hid (∀ q', ¬ Pkt.Is (b.set K y) q') := by
    show ∀ q', _
    intro q'
    have := Pkt.spoilt HIS.out K hib d HD.out q'
    rwa [← HZ.out, ← HY.out] at this
  clear hcell hfr hx HO8 HO8b KK HB8 HQ8 hK hK2
  go_wp2_with fail
  refine Calls.mono (packet_Decode_no HNO.out O9.out.lies (Nat.le_refl _) hcap8 (by omega)) ?_
  rintro e w10 ⟨rfl, hb10⟩
  have HB10 := hide (Below_step HB9.out hb10)
  have HO10 := hide (HO9.out.below hb10)
  have HQ10 := hide (HQ9.out.belowN hb10)
  have hr9 : Hid ((p.row (.slice A5 n5 c5)).length = 9) := rfl
  clear hb10 HB9 HO9 HQ9 O9
  go_upto_region 20 with (refine wpP_put rfl (.tmp 11) (.tmp 89) rfl g rfl Pkt.zero none 0 0 rfl HQ10.out hr9.out ?_; intro w11 ha11 hk11 hs11)
  have HB11 := hide (HB10.out.trans (hk11.below HB10.out.size (fun k hk => by have := HGB.out; omega)))
  have HO11 := hide (HO10.out.keeps hk11 (fun k hk => HGO.out k hk))
  have c0 := ha11.cell (j := 0) (by simp)
  simp only [List.getElem_cons_zero] at c0
  have hz0 : Pkt.zero.kind = 0 := rfl
  rw [hz0] at c0
  clear ha11 hk11 hs11 HB10 HO10 HQ10
  have hnil := hide (OwnB.nil w11 w11.heap.size)
  have HN0 := HN4.out
  go_wp2_with (first | (at_builtin; refine wpBG_append3 rfl (.const (.slice none 0 0)) (.tmp 99) rfl w11.heap.size none 0 0 [] rfl hnil.out _ A4 n4 c4 b rfl HO11.out.lies n4 b (by omega) (by simp) (by omega) (Nat.le_refl _) ?_; intro A12 c12 w12 own12 k12 hk12) | (at_builtin; refine wpBG_append3 rfl (.tmp 100) (.tmp 102) rfl w11.heap.size A12 n4 c12 b rfl (own12.below (Below_new _ _)) _ _ 1 1 [d] rfl (LiesB.new _ _ _ _ _ _ rfl rfl) (n4 + 1) (b ++ [d]) rfl rfl (by omega) (by have := k12.size; simp; omega) ?_; intro A13 c13 w13 own13 k13 hk13))
  have hb13 : Below w11.heap.size w11 w13 := (k12.belowOwn hnil.out (Nat.le_refl _)).trans (((Below_new w12 _).mono k12.size).trans (k13.belowOwn own12 (by have := k12.size; simp; omega)))
  have HB13 := hide (Below_step HB11.out hb13)
  have L13 := hide own13.lies
  have hc13 := own13.cap
  clear own12 own13 k12 k13 hk12 hk13 hb13 c0
  refine Calls.mono (law_tells L13.out (Nat.le_refl _) hc13 (by omega)) ?_
  rintro e w14 ⟨rfl, hb14⟩
  have HB14 := hide (Below_step HB13.out hb14)
  clear hb14
  go_wp2_with fail
  go_ret
  exact ⟨rfl, HB14.out⟩
end Go.Proofs.Ytcjcmjkpfijhdaa
