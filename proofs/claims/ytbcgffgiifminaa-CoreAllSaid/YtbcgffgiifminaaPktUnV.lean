/-
  The walk of Unpacket: the presses lie in a block of their own.
-/
import Derived.Test.YtbcgffgiifminaaDocE
namespace Go.Proofs.Ytbcgffgiifminaa
open Go.RowKit
set_option maxRecDepth 10000
set_option linter.unusedVariables false
/-- What Unpacket answers. -/
inductive Pkt.UnSaidV (N : Nat) (b : List UInt8) (w' : World) : Ending → Prop
  | yes (p : Pkt) (A : Option Addr) (n c : Nat) (h : Pkt.Is b p) (hl : LiesB w' w'.heap.size A n p.press) (hn : n ≤ 32) (hf : ∀ bk off, A = some ⟨bk, off, none⟩ → p.press ≠ [] → N ≤ bk) : Pkt.UnSaidV N b w' (.returned (.tuple #[p.val (.slice A n c), .bool true]))
  | no (q : Pkt) (A : Option Addr) (n c : Nat) (h : ∀ p, ¬ Pkt.Is b p) : Pkt.UnSaidV N b w' (.returned (.tuple #[q.val (.slice A n c), .bool false]))
/-- Read to the end: only this packet may have these bytes. -/
def UnEndV (b : List UInt8) (w wx : World) : Prop := ∃ (q : Pkt) (A : Option Addr) (n c : Nat) (L : List Int), US w wx (q.row (.slice A n c)) L ∧ LiesB wx wx.heap.size A n q.press ∧ n ≤ 32 ∧ q.WF ∧ (∀ b off, A = some ⟨b, off, none⟩ → q.press ≠ [] → w.heap.size < b) ∧ ∀ p, Pkt.Is b p → p = q
set_option maxHeartbeats 4000000 in
set_option maxRecDepth 10000 in
theorem ref_UnpacketV {A : Option Addr} {n c B : Nat} {b : List UInt8} {w : World} (hA : LiesB w B A n b) (hB : B ≤ w.heap.size) (hnc : n ≤ c) (hn : n ≤ 1000000) :
    Calls Try.prog 23 #[.slice A n c] w fun e w' => Pkt.UnSaidV w.heap.size b w' e ∧ Below w.heap.size w w' := by
  have LA := hide hA
  have hl := hA.len
  have HBB := hide hB
  have HP : Hid (Arr 41 (w.alloc (.cells (Pkt.zero.row (.slice none 0 0)).toArray 41)) w.heap.size (Pkt.zero.row (.slice none 0 0))) := Arr.new 41 w _ _ rfl
  have HB : Hid (Below w.heap.size w (w.alloc (.cells (Pkt.zero.row (.slice none 0 0)).toArray 41))) := Below_new _ _
  have hsz : (w.alloc (.cells (Pkt.zero.row (.slice none 0 0)).toArray 41)).heap.size = w.heap.size + 1 := by simp
  simp only [Pkt.row, Pkt.zero] at HP HB hsz
  clear hA hB
  by_cases h7 : n < 8
  · have d1 : decide ((n : Int) < 8) = true := decide_eq_true (by omega)
    have HN : Hid (∀ p, ¬ Pkt.Is b p) := fun p hp => by have := (Pkt.is_head hp).1; omega
    clear h7 hsz
    go_enter Try.func23, Try.ntmps23
    go_upto_region 1 with fail
    generalize World.alloc w _ = wx at HP HB ⊢
    go_wp2_with (refine wpP_put rfl (.tmp 2) (.tmp 22) rfl w.heap.size rfl Pkt.zero none 0 0 rfl HP.out rfl ?_; intro w1 ha1 hk1 hs1)
    refine bodyPost_ret (results_P2 (fn := Try.f23) rfl _ _ w.heap.size rfl _ rfl Pkt.zero (.slice none 0 0) ha1) rfl ?_
    exact ⟨.no _ _ _ _ HN.out, HB.out.trans (hk1.below HB.out.size (fun k hk => by omega))⟩
  · obtain ⟨m, rfl⟩ : ∃ m, n = m + 4 := ⟨n - 4, by omega⟩
    have hm3 : 4 ≤ m := by omega
    have d1 : decide (((m + 4 : Nat) : Int) < 8) = false := decide_eq_false (by omega)
    obtain ⟨ab, ao, hl0, rfl, hab, -⟩ := LA.out.at_ (k := 0) (by omega)
    obtain ⟨kb, sb, db, tb, hbt⟩ : ∃ k s d t, b = k :: s :: d :: t := by
      match b, hl with
      | k :: s :: d :: t, _ => exact ⟨k, s, d, t, rfl⟩
      | [], h => simp at h
      | [_], h => simp at h
      | [_, _], h => simp at h
    have CC : Hid (∀ w', Below w.heap.size w w' → w'.cell? ⟨ab, ao, none⟩ = some (.int .u8 (kb.toNat : Int)) ∧ w'.cell? ⟨ab, ao + 1, none⟩ = some (.int .u8 (sb.toNat : Int)) ∧ w'.cell? ⟨ab, ao + 2, none⟩ = some (.int .u8 (db.toNat : Int))) := by
      intro w' hb
      have L := LA.out.below (hb.mono HBB.out)
      obtain ⟨_, _, _, e0, -, q0⟩ := L.at_ (k := 0) (by omega)
      obtain ⟨_, _, _, e1, -, q1⟩ := L.at_ (k := 1) (by omega)
      obtain ⟨_, _, _, e2, -, q2⟩ := L.at_ (k := 2) (by omega)
      injection e0 with e0; injection e0 with e00 e01; subst e00 e01
      injection e1 with e1; injection e1 with e10 e11; subst e10 e11
      injection e2 with e2; injection e2 with e20 e21; subst e20 e21
      simp only [hbt, List.getElem_cons_zero, List.getElem_cons_succ] at q0 q1 q2
      exact ⟨q0, q1, q2⟩
    have HBT := hide hbt
    clear h7 hbt
    go_enter Try.func23, Try.ntmps23
    go_upto_region 1 with fail
    generalize World.alloc w _ = wx at HP HB hsz ⊢
    have HSZ := hide hsz
    clear hsz
    go_upto_region 4 with fail
    go_cut [5] (fun s4 wy => s4 = .pointer (some ⟨w.heap.size + 1, 0, none⟩) ∧ Hid (Arr 41 wy (w.heap.size + 1) (Pkt.row ⟨kb.toNat, sb.toNat, db.toNat, 0, 0, [], 0, 0, 0⟩ (.slice none 0 0))) ∧ Hid (Arr 41 wy w.heap.size (Pkt.zero.row (.slice none 0 0))) ∧ Hid (Below w.heap.size w wy) ∧ Hid (wy.heap.size = w.heap.size + 2))
    case first =>
      have cc := CC.out wx HB.out
      obtain ⟨hc0, hc1, hc2⟩ := cc
      have HP1 : Arr 41 (wx.alloc (.cells (Pkt.zero.row (.slice none 0 0)).toArray 41)) (w.heap.size + 1) (Pkt.zero.row (.slice none 0 0)) := by rw [← HSZ.out]; exact Arr.new 41 wx _ _ rfl
      have HP2 : Arr 41 (wx.alloc (.cells (Pkt.zero.row (.slice none 0 0)).toArray 41)) w.heap.size (Pkt.zero.row (.slice none 0 0)) := Arr.belowN HP.out (Below_new _ _)
      have HB2 := Below_step HB.out (Below_new wx (.cells (Pkt.zero.row (.slice none 0 0)).toArray 41))
      have i0 : (0 : Int) < (m : Int) + 4 := by omega
      have i1 : (1 : Int) < (m : Int) + 4 := by omega
      have i2 : (2 : Int) < (m : Int) + 4 := by omega
      have wk : IntKind.i64.wrap (kb.toNat : Int) = kb.toNat := by rw [IntKind.wrap_i64]; have := kb.toNat_lt; omega
      have ws : IntKind.i64.wrap (sb.toNat : Int) = sb.toNat := by rw [IntKind.wrap_i64]; have := sb.toNat_lt; omega
      have wd : IntKind.i64.wrap (db.toNat : Int) = db.toNat := by rw [IntKind.wrap_i64]; have := db.toNat_lt; omega
      refine wp_region_noPanic ?_
      refine wp_region_held_drew (S := (fun w' => w'.cell? ⟨ab, ao, none⟩ = some (.int .u8 (kb.toNat : Int)) ∧ w'.cell? ⟨ab, ao + 1, none⟩ = some (.int .u8 (sb.toNat : Int)) ∧ w'.cell? ⟨ab, ao + 2, none⟩ = some (.int .u8 (db.toNat : Int)))) (by kernel_rfl) ⟨hc0, hc1, hc2⟩ (fun hHeld => ?_)
      refine tk0 0 ?_
      refine tk 1 ?_
      refine tk 2 ?_
      refine tk 3 ?_
      refine tk 4 ?_
      refine tk 5 ?_
      refine tk 6 ?_
      refine tk 7 ?_
      refine tk 8 ?_
      refine tk 9 ?_
      refine tk 10 ?_
      refine tk 11 ?_
      refine tk 12 ?_
      refine rdy 13 fun K hK => ?_
      go_simp
      refine hK.out _ _ (CC.out _ HB2.drew) (fun hHeld => ?_)
      clear hK K
      try simp only [Act.put, List.setIfInBounds_toArray, List.set_cons_zero, List.set_cons_succ]
      refine rdy 14 fun K hK => ?_
      (refine step_storeP rfl (.tmp 5) (.tmp 40) rfl wx.heap.size rfl ⟨kb.toNat, sb.toNat, db.toNat, 0, 0, [], 0, 0, 0⟩ Pkt.zero none none 0 0 0 0 rfl (by rw [HSZ.out]; exact HP1.drew) ?_; intro w3 ha3 hk3 hs3)
      refine hK.out _ _ (CC.out _ (HB2.drew.trans (hk3.below (by show w.heap.size ≤ _; exact HB2.size) (fun k hk => by have := HSZ.out; omega)))) (fun hHeld => ?_)
      clear hK K
      try simp only [Act.put]
      refine wpAnyH_done (by kernel_rfl) (NoPanic.normal ?_) _
      go_wp2_with fail
      go_meet
      rw [HSZ.out] at ha3 hk3
      exact ⟨by rw [HSZ.out], ha3, HP2.drew.keeps hk3 (by omega), HB2.drew.trans (hk3.below (by show w.heap.size ≤ _; exact HB2.size) (fun k hk => by omega)), by rw [hs3]; show (World.alloc wx _).heap.size = _; simp; exact HSZ.out⟩
    case rest =>
      obtain ⟨rfl, HP1, HP0, HB1, HZ⟩ := hcut
      clear HP HB HSZ
      go_upto_region 6 with fail
      generalize hw1 : World.alloc wc _ = w1
      have U0 : Hid (US w w1 (Pkt.row ⟨kb.toNat, sb.toNat, db.toNat, 0, 0, [], 0, 0, 0⟩ (.slice none 0 0)) [0, 0, 0, 0]) := by
        show US _ _ _ _
        rw [← hw1]
        refine ⟨HP0.out.belowN (Below_new _ _), HP1.out.belowN (Below_new _ _), ?_, Below_step HB1.out (Below_new _ _)⟩
        rw [← HZ.out]
        exact Arr.new 103 wc _ _ rfl
      rw [HZ.out]
      clear hw1 HP0 HP1 HB1 HZ CC
      obtain ⟨x, hx⟩ : ∃ x, x = (b.take m).drop 3 := ⟨_, rfl⟩
      have HX := hide hx
      obtain ⟨xo, hxo⟩ : ∃ xo, cutA (some ⟨ab, ao, none⟩) c 3 1 = some ⟨ab, xo, none⟩ := ⟨_, by unfold cutA; rw [if_neg (by omega)]; rfl⟩
      rw [hxo]
      have LX : Hid (∀ w', Below w.heap.size w w' → LiesB w' B (some ⟨ab, xo, none⟩) (m - 3) x) := by
        rw [← hxo]
        show ∀ w', _
        intro w' hb
        have := (LA.out.below (hb.mono HBB.out)).take m
        rw [Nat.min_eq_left (by omega)] at this
        rw [hx]
        exact this.cut (by omega)
      clear hxo
      have hxl : x.length = m - 3 := (LX.out _ U0.out.bel).len
      obtain ⟨N, hN⟩ : ∃ N, N = if (kb.toNat : Int) = 1 then 4 else 1 := ⟨_, rfl⟩
      have HNF : Hid (∀ p, Pkt.Is b p → p.fields.length = N ∧ p.kind = kb.toNat ∧ p.src = sb.toNat ∧ p.dst = db.toNat) := by
        show ∀ p, _
        intro p hp
        obtain ⟨-, k, s, d, t, hb, k1, s1, d1, -⟩ := Pkt.is_head hp
        have hbt := HBT.out
        rw [hb] at hbt
        simp only [List.cons.injEq] at hbt
        obtain ⟨rfl, rfl, rfl, -⟩ := hbt
        refine ⟨?_, k1.symm, s1.symm, d1.symm⟩
        rw [hN, Pkt.fields, ← k1]
        split <;> rfl
      have HW0 : Hid (Pkt.Went b x 0 0 []) := by
        show Pkt.Went _ _ _ _ _
        have := Pkt.went_zero b
        rwa [hl, show m + 4 - 4 = m by omega, ← hx] at this
      have hN4 : N ≤ 4 := by rw [hN]; split <;> omega
      have hN1 : 1 ≤ N := by rw [hN]; split <;> omega
      have HN := hide hN
      clear hx hN hl
      go_upto_region 8 with fail
      have c0 := U0.out.p.cell (j := 0) (by simp)
      simp only [List.getElem_cons_zero] at c0
      go_upto_if 43 with fail
      go_cut [8] (fun s wx => s = .int .i64 N ∧ w1 = wx)
      case first =>
        by_cases hk : (kb.toNat : Int) = 1
        · have d2 : ((kb.toNat : Int) == 1) = true := by simp [hk]
          have e : Hid (N = 4) := by show _ = _; rw [HN.out, if_pos hk]
          clear hk
          go_wp2_with fail
          go_meet
          rw [e.out]
          exact ⟨rfl, rfl⟩
        · have d2 : ((kb.toNat : Int) == 1) = false := by simp [hk]
          have e : Hid (N = 1) := by show _ = _; rw [HN.out, if_neg hk]
          clear hk
          go_wp2_with fail
          go_meet
          rw [e.out]
          exact ⟨rfl, rfl⟩
      case rest =>
      obtain ⟨rfl, rfl⟩ := hcut
      clear c0
      go_upto_region 11 with fail
      go_loopg [7, 9] N (fun g s7 s9 wr => ∃ (i at' : Nat) (vs : List Int), i ≤ N ∧ g = N - i ∧ s9 = .int .i64 i ∧ s7 = .int .i64 at' ∧ at' ≤ m - 3 ∧ Hid (vs.length = i) ∧ Hid (US w wr (Pkt.row ⟨kb.toNat, sb.toNat, db.toNat, 0, 0, [], 0, 0, 0⟩ (.slice none 0 0)) (vs ++ List.replicate (4 - i) 0)) ∧ Hid (Pkt.Went b x i at' vs))
      case atStart => exact ⟨0, 0, [], by omega, rfl, rfl, rfl, by omega, rfl, U0, HW0⟩
      case round =>
        obtain ⟨i, at', vs, hi, rfl, rfl, rfl, hat, HVL, HU, HW⟩ := hrel
        by_cases hlt : i < N
        · have HL := hide ((LX.out _ HU.out.bel).cut (k := at') (cap := c - 3) (by omega))
          obtain ⟨⟨v, k, e⟩, hg⟩ : ∃ y, Var.get 0 0 (x.drop at') = y := ⟨_, rfl⟩
          have HG := hide hg
          have hik : i < 4 := by omega
          have hatc : at' ≤ c - 3 := by omega
          have HNI : Hid (∀ p, Pkt.Is b p → i < p.fields.length) := fun p hp => by rw [(HNF.out p hp).1]; exact hlt
          clear hg
          go_wp2_with fail
          refine Calls.mono (ref_Get _ _ _ _ _ _ HL.out (by omega) v k e HG.out) ?_
          rintro e' w2 ⟨rfl, rfl⟩
          have BAD : e ≠ 0 ∨ v < 0 ∨ 1099511627776 < v → Hid (∀ p, ¬ Pkt.Is b p) := fun h => HW.out.bad HG.out h HNI.out
          by_cases he : e = 0
          · subst he
            by_cases hv : v < 0
            · have HNO := BAD (.inr (.inl hv))
              have d3 : decide (v < 0) = true := decide_eq_true hv
              clear BAD hv
              go_wp2_with (refine wpP_put rfl (.tmp 2) (.tmp 67) rfl w.heap.size rfl Pkt.zero none 0 0 rfl HU.out.res rfl ?_; intro w12 ha12 hk12 hs12)
              refine bodyPost_ret (results_P2 (fn := Try.f23) rfl _ _ w.heap.size rfl _ rfl Pkt.zero (.slice none 0 0) ha12) rfl ?_
              exact ⟨.no _ _ _ _ HNO.out, HU.out.bel.trans (hk12.below HU.out.bel.size (fun k hk => by omega))⟩
            · have d3 : decide (v < 0) = false := decide_eq_false hv
              by_cases hv2 : 1099511627776 < v
              · have HNO := BAD (.inr (.inr hv2))
                have d4 : decide (1099511627776 < v) = true := decide_eq_true hv2
                clear BAD hv hv2
                go_wp2_with (refine wpP_put rfl (.tmp 2) (.tmp 67) rfl w.heap.size rfl Pkt.zero none 0 0 rfl HU.out.res rfl ?_; intro w12 ha12 hk12 hs12)
                refine bodyPost_ret (results_P2 (fn := Try.f23) rfl _ _ w.heap.size rfl _ rfl Pkt.zero (.slice none 0 0) ha12) rfl ?_
                exact ⟨.no _ _ _ _ HNO.out, HU.out.bel.trans (hk12.below HU.out.bel.size (fun k hk => by omega))⟩
              · have d4 : decide (1099511627776 < v) = false := decide_eq_false hv2
                have hk : at' + k ≤ m - 3 := by have := (Var.get_back0 HG.out).2; rw [List.length_drop] at this; omega
                have HW2 := hide (HW.out.next HG.out HNI.out)
                have c1 := HU.out.l.cell (j := i) (by simp [HVL.out]; omega)
                have f1 := HU.out.l.frozen i
                have U2 := hide (HU.out.setL i v)
                rw [nums_set vs i HVL.out hik v] at U2
                clear BAD hv hv2
                have hii : (i : Int) < 4 := by omega
                go_upto_region 17 with fail
                generalize World.setCell wr _ _ = w3 at U2 ⊢
                go_wp2_with fail
                go_roundg (N - (i + 1))
                case measure => omega
                case rel => exact ⟨i + 1, at' + k, vs ++ [v], by omega, rfl, by go_num, by go_num, hk, by show _ = _; rw [List.length_append, HVL.out]; rfl, U2, HW2⟩
          · have HNO := BAD (.inl he)
            have d3 : (e != 0) = true := by simp [he]
            clear BAD he
            go_wp2_with (refine wpP_put rfl (.tmp 2) (.tmp 67) rfl w.heap.size rfl Pkt.zero none 0 0 rfl HU.out.res rfl ?_; intro w12 ha12 hk12 hs12)
            refine bodyPost_ret (results_P2 (fn := Try.f23) rfl _ _ w.heap.size rfl _ rfl Pkt.zero (.slice none 0 0) ha12) rfl ?_
            exact ⟨.no _ _ _ _ HNO.out, HU.out.bel.trans (hk12.below HU.out.bel.size (fun k hk => by omega))⟩
        · obtain rfl : i = N := by omega
          obtain ⟨l0, l1, l2, l3, hL4⟩ : ∃ l0 l1 l2 l3 : Int, vs ++ List.replicate (4 - i) 0 = [l0, l1, l2, l3] := by
            have h4 : (vs ++ List.replicate (4 - i) 0).length = 4 := by rw [List.length_append, HVL.out, List.length_replicate]; omega
            match vs ++ List.replicate (4 - i) 0, h4 with
            | [a, b, c, d], _ => exact ⟨a, b, c, d, rfl⟩
          have U1 := HU
          rw [hL4] at U1
          have HL4 := hide hL4
          have HAT := hide hat
          clear hL4 HU
          have CL : Hid (∀ w' R, US w w' R [l0, l1, l2, l3] → w'.cell? ⟨w.heap.size + 2, 0, none⟩ = some (.int .i64 l0) ∧ w'.cell? ⟨w.heap.size + 2, 1, none⟩ = some (.int .i64 l1) ∧ w'.cell? ⟨w.heap.size + 2, 2, none⟩ = some (.int .i64 l2) ∧ w'.cell? ⟨w.heap.size + 2, 3, none⟩ = some (.int .i64 l3)) := by
            show ∀ w' R, _
            intro w' R h
            exact ⟨h.l.cell (j := 0) (by simp), h.l.cell (j := 1) (by simp), h.l.cell (j := 2) (by simp), h.l.cell (j := 3) (by simp)⟩
          go_upto_region 18 with fail
          go_cut [] (fun wx => Hid (US w wx (Pkt.row ⟨kb.toNat, sb.toNat, db.toNat, l0, l1, [], l2, l3, 0⟩ (.slice none 0 0)) [l0, l1, l2, l3]))
          case first =>
            have p3 := U1.out.p.cell (j := 3) (by simp)
            have p4 := U1.out.p.cell (j := 4) (by simp)
            have p6 := U1.out.p.cell (j := 6) (by simp)
            have p7 := U1.out.p.cell (j := 7) (by simp)
            have f3 := U1.out.p.frozen 3
            have f4 := U1.out.p.frozen 4
            have f6 := U1.out.p.frozen 6
            have f7 := U1.out.p.frozen 7
            simp only [List.getElem_cons_zero, List.getElem_cons_succ] at p3 p4 p6 p7
            refine wp_region_noPanic ?_
            refine wp_region_held_drew (S := (fun w' => w'.cell? ⟨w.heap.size + 2, 0, none⟩ = some (.int .i64 l0) ∧ w'.cell? ⟨w.heap.size + 2, 1, none⟩ = some (.int .i64 l1) ∧ w'.cell? ⟨w.heap.size + 2, 2, none⟩ = some (.int .i64 l2) ∧ w'.cell? ⟨w.heap.size + 2, 3, none⟩ = some (.int .i64 l3))) (by kernel_rfl) (CL.out _ _ U1.out.drew) (fun hHeld => ?_)
            refine tk0 0 ?_
            refine tk 1 ?_
            refine tk 2 ?_
            refine tk 3 ?_
            refine tk 4 ?_
            refine tk 5 ?_
            refine tk 6 ?_
            refine tk 7 ?_
            refine tk 8 ?_
            have V1 := U1.out.drew
            refine rdy 9 fun K hK => ?_
            go_simp
            have V2 := V1.setP 3 (.int .i64 l0)
            refine hK.out _ _ (CL.out _ _ V2) (fun hHeld => ?_)
            clear hK K
            try simp only [Act.put]
            refine tk 10 ?_
            refine rdy 11 fun K hK => ?_
            go_simp
            have V3 := V2.setP 4 (.int .i64 l1)
            refine hK.out _ _ (CL.out _ _ V3) (fun hHeld => ?_)
            clear hK K
            try simp only [Act.put]
            refine tk 12 ?_
            refine rdy 13 fun K hK => ?_
            go_simp
            have V4 := V3.setP 6 (.int .i64 l2)
            refine hK.out _ _ (CL.out _ _ V4) (fun hHeld => ?_)
            clear hK K
            try simp only [Act.put]
            refine tk 14 ?_
            refine rdy 15 fun K hK => ?_
            go_simp
            have V5 := V4.setP 7 (.int .i64 l3)
            refine hK.out _ _ (CL.out _ _ V5) (fun hHeld => ?_)
            clear hK K
            try simp only [Act.put]
            refine wpAnyH_done (by kernel_rfl) (NoPanic.normal ?_) _
            go_wp2_with fail
            go_meet
            exact V5
          case rest =>
          have U2 := hcut
          clear hcut U1 CL
          have k0 := U2.out.p.cell (j := 0) (by simp)
          simp only [List.getElem_cons_zero] at k0
          go_upto_if 88 with fail
          go_cut [] (fun wx => Hid (UnEndV b w wx))
          case first =>
            by_cases hk : (kb.toNat : Int) = 1
            · have d2 : ((kb.toNat : Int) == 1) = true := by simp [hk]
              obtain rfl : i = 4 := by have := HN.out; rw [if_pos hk] at this; exact this
              have HV4 : Hid (vs = [l0, l1, l2, l3]) := by show _ = _; have := HL4.out; simpa using this
              have HNOB : Hid (∀ p, Pkt.Is b p → p.kind = 1) := fun p hp => by rw [(HNF.out p hp).2.1]; exact hk
              have HSP : Hid (∀ p, Pkt.Is b p → x.drop at' = be32 p.sum ++ (Var.put (Var.zig (p.press.length : Int)) ++ Runs.enc 0 p.press) ∧ [l0, l1, l2, l3] = [p.id, p.first, p.ack, p.frame]) := fun p hp => by
                have := HW.out.four hp (HNOB.out p hp)
                rwa [HV4.out] at this
              clear hk
              by_cases h4 : m - 3 < at' + 4
              · have d3 : decide (((m - 3 : Nat) : Int) - (at' : Int) < 4) = true := decide_eq_true (by omega)
                have HNO : Hid (∀ p, ¬ Pkt.Is b p) := fun p hp => by
                  have := congrArg List.length (HSP.out p hp).1
                  rw [List.length_drop, List.length_append, be32_length] at this
                  omega
                clear h4
                go_wp2_with (refine wpP_put rfl (.tmp 2) (.tmp 94) rfl w.heap.size rfl Pkt.zero none 0 0 rfl U2.out.res rfl ?_; intro w12 ha12 hk12 hs12)
                refine bodyPost_ret (results_P2 (fn := Try.f23) rfl _ _ w.heap.size rfl _ rfl Pkt.zero (.slice none 0 0) ha12) rfl ?_
                exact ⟨.no _ _ _ _ HNO.out, U2.out.bel.trans (hk12.below U2.out.bel.size (fun k hk => by omega))⟩
              · have d3 : decide (((m - 3 : Nat) : Int) - (at' : Int) < 4) = false := decide_eq_false (by omega)
                obtain ⟨y, hy⟩ : ∃ y, y = x.drop at' := ⟨_, rfl⟩
                have HY := hide hy
                have hyl : y.length = m - 3 - at' := by rw [hy, List.length_drop]; omega
                have HYL := hide hyl
                have h4' : at' + 4 ≤ m - 3 := by omega
                clear hy hyl h4
                go_upto_region 22 with fail
                rw [show ((4 : Nat) : Int) = 4 from rfl]
                go_cut [13] (fun s wx => s = .int .i64 0 ∧ wc = wx)
                case first =>
                  go_wp2_with fail
                  go_meet
                  exact ⟨rfl, rfl⟩
                case rest =>
                obtain ⟨rfl, rfl⟩ := hcut
                go_wp2_with fail
                go_loopg [13] 4 (fun g s wz => ∃ k : Nat, k ≤ 4 ∧ g = 4 - k ∧ s = .int .i64 k ∧ Hid (US w wz (Pkt.row ⟨kb.toNat, sb.toNat, db.toNat, l0, l1, [], l2, l3, ((Pkt.val4 y k : Nat) : Int)⟩ (.slice none 0 0)) [l0, l1, l2, l3]))
                case atStart => exact ⟨0, by omega, rfl, rfl, U2⟩
                case round =>
                  obtain ⟨k, hk, rfl, rfl, HU⟩ := hrel
                  by_cases hlt : k < 4
                  · have HLk := LX.out _ HU.out.bel
                    obtain ⟨xb', xo', hxk, e1, -, hcx⟩ := HLk.at_ (k := at' + k) (by omega)
                    injection e1 with e1; injection e1 with e10 e11; subst e10 e11
                    obtain ⟨z, hz⟩ : ∃ z, z = x[at' + k] := ⟨_, rfl⟩
                    rw [← hz] at hcx
                    have HCX : Hid (∀ w', Below w.heap.size w w' → w'.cell? ⟨ab, xo + (at' + k), none⟩ = some (.int .u8 (z.toNat : Int))) := by
                      show ∀ w', _
                      intro w' hb
                      obtain ⟨_, _, _, e1, -, h⟩ := (LX.out _ hb).at_ (k := at' + k) (by omega)
                      injection e1 with e1; injection e1 with e10 e11; subst e10 e11
                      rw [h, hz]
                    obtain ⟨V, hV⟩ : ∃ V, V = Pkt.val4 y k := ⟨_, rfl⟩
                    have hkl : k < y.length := by have := HYL.out; omega
                    have hyk : y[k] = z := by rw [hz]; have := HY.out; subst this; rw [List.getElem_drop]
                    have hV2 := Pkt.val4_lt y k hlt (by omega)
                    have hVs := Pkt.val4_succ y k hkl
                    rw [hyk, ← hV] at hVs
                    rw [← hV] at hV2 HU
                    have hV3 : V < 16777216 := by
                      have : 256 ^ k ≤ 256 ^ 3 := Nat.pow_le_pow_right (by omega) (by omega)
                      omega
                    have HVS : Hid (((V * 256 + z.toNat : Nat) : Int) = ((Pkt.val4 y (k + 1) : Nat) : Int)) := by show _ = _; rw [hVs]
                    have hzt := z.toNat_lt
                    have c8 := HU.out.p.cell (j := 8) (by simp)
                    have f8 := HU.out.p.frozen 8
                    simp only [List.getElem_cons_zero, List.getElem_cons_succ] at c8
                    have w1 : IntKind.u32.wrap ((V : Int) * 256) = (V : Int) * 256 := by rw [IntKind.wrap_u32]; omega
                    have w3 : IntKind.u32.wrap (z.toNat : Int) = (z.toNat : Int) := by rw [IntKind.wrap_u32]; omega
                    have w2 : IntKind.u32.wrap ((V : Int) * 256 + (z.toNat : Int)) = (V : Int) * 256 + (z.toNat : Int) := by rw [IntKind.wrap_u32]; omega
                    have a1 : IntKind.i64.wrap ((at' : Int) + (k : Int)) = (at' : Int) + (k : Int) := by rw [IntKind.wrap_i64]; omega
                    have a2 : (0 : Int) ≤ (at' : Int) + (k : Int) := by omega
                    have a3 : ((at' : Int) + (k : Int)).toNat = at' + k := by omega
                    have a4 : (at' : Int) + (k : Int) < ((m - 3 : Nat) : Int) := by omega
                    have U5 : Hid (US w (wr.drew.setCell ⟨w.heap.size + 1, 8, none⟩ (.int .u32 ((V : Int) * 256 + (z.toNat : Int)))) (Pkt.row ⟨kb.toNat, sb.toNat, db.toNat, l0, l1, [], l2, l3, (V : Int) * 256 + (z.toNat : Int)⟩ (.slice none 0 0)) [l0, l1, l2, l3]) := HU.out.drew.setP 8 _
                    clear hz hV hyk hV2 hVs HLk
                    go_upto_region 25 with fail
                    refine wp_region_noPanic ?_
                    refine wp_region_held_drew (S := (fun w' => w'.cell? ⟨ab, xo + (at' + k), none⟩ = some (.int .u8 (z.toNat : Int)))) (by kernel_rfl) hcx (fun hHeld => ?_)
                    refine tk0 0 ?_
                    refine tk 3 ?_
                    refine tk 4 ?_
                    refine tk 5 ?_
                    refine tk 6 ?_
                    refine tk 7 ?_
                    refine tk 8 ?_
                    refine tk 9 ?_
                    refine rdy 1 fun K hK => ?_
                    go_simp
                    refine hK.out _ _ hcx (fun hHeld => ?_)
                    clear hK K
                    try simp only [Act.put, List.setIfInBounds_toArray, List.set_cons_zero, List.set_cons_succ]
                    refine tk 2 ?_
                    refine tk 10 ?_
                    refine tk 11 ?_
                    refine rdy 12 fun K hK => ?_
                    go_simp
                    refine hK.out _ _ (HCX.out _ U5.out.bel) (fun hHeld => ?_)
                    clear hK K
                    try simp only [Act.put]
                    refine wpAnyH_done (by kernel_rfl) (NoPanic.normal ?_) _
                    clear w1 w2 w3 a1 a2 a3 a4 c8 f8 hcx
                    go_wp2_with fail
                    go_roundg (4 - (k + 1))
                    case measure => omega
                    case rel => exact ⟨k + 1, by omega, rfl, by go_num, by rw [← HVS.out]; exact U5.out⟩
                  · obtain rfl : k = 4 := by omega
                    have hyl4 : 4 ≤ y.length := by have := HYL.out; omega
                    obtain ⟨S, hS⟩ : ∃ S, S = Pkt.get4 y := ⟨_, rfl⟩
                    rw [Pkt.val4_four y hyl4, ← hS] at HU
                    have HSS := hide hS
                    have HSR := hide (Pkt.get4_range y)
                    rw [← hS] at HSR
                    clear hS hyl4
                    have HL := hide ((LX.out _ HU.out.bel).cut (k := at' + 4) (cap := c - 3) (by omega))
                    obtain ⟨⟨v, q, e⟩, hg⟩ : ∃ Y, Var.get 0 0 (x.drop (at' + 4)) = Y := ⟨_, rfl⟩
                    have HG := hide hg
                    clear hg
                    have hatc : at' + 4 ≤ c - 3 := by omega
                    have SP2 : Hid (∀ p, Pkt.Is b p → x.drop (at' + 4) = Var.put (Var.zig (p.press.length : Int)) ++ Runs.enc 0 p.press ∧ p.press.length ≤ 32 ∧ p.sum = S) := by
                      show ∀ p, _
                      intro p hp
                      have h1 := (HSP.out p hp).1
                      have hw := hp.2.1
                      have h2 := HSS.out
                      rw [HY.out, h1, Pkt.get4_be32 hw.1 hw.2] at h2
                      refine ⟨?_, ?_, h2.symm⟩
                      · rw [← List.drop_drop, h1, List.drop_append, List.drop_eq_nil_of_le (by rw [be32_length]; omega), be32_length]; rfl
                      · rcases (Pkt.may_iff.1 hp.1).kind with ⟨-, -, -, -, h⟩ | ⟨-, -, -, -, h, -⟩
                        · exact h
                        · rw [h]; simp
                    have SP3 : Hid (∀ p, Pkt.Is b p → v = p.press.length ∧ q = (Var.put (Var.zig (p.press.length : Int))).length ∧ e = 0 ∧ p.press.length ≤ 32) := by
                      show ∀ p, _
                      intro p hp
                      obtain ⟨h1, h2, -⟩ := SP2.out p hp
                      have h3 := HG.out
                      rw [h1, Var.get_put0 _ _ (Var.zig_lt _ (by omega) (by omega)), Var.unzig_zig] at h3
                      simp only [Prod.mk.injEq] at h3
                      exact ⟨h3.1.symm, h3.2.1.symm, h3.2.2.symm, h2⟩
                    go_wp2_with fail
                    refine Calls.mono (ref_Get _ _ _ _ _ _ HL.out (by omega) v q e HG.out) ?_
                    rintro e' w2 ⟨rfl, rfl⟩
                    by_cases he : e = 0
                    · subst he
                      by_cases hv : v < 0
                      · have HNO : Hid (∀ p, ¬ Pkt.Is b p) := fun p hp => by have := (SP3.out p hp).1; omega
                        have d4 : decide (v < 0) = true := decide_eq_true hv
                        clear hv
                        go_wp2_with (refine wpP_put rfl (.tmp 2) (.tmp 131) rfl w.heap.size rfl Pkt.zero none 0 0 rfl HU.out.res rfl ?_; intro w12 ha12 hk12 hs12)
                        refine bodyPost_ret (results_P2 (fn := Try.f23) rfl _ _ w.heap.size rfl _ rfl Pkt.zero (.slice none 0 0) ha12) rfl ?_
                        exact ⟨.no _ _ _ _ HNO.out, HU.out.bel.trans (hk12.below HU.out.bel.size (fun k hk => by omega))⟩
                      · have d4 : decide (v < 0) = false := decide_eq_false hv
                        by_cases hv2 : 32 < v
                        · have HNO : Hid (∀ p, ¬ Pkt.Is b p) := fun p hp => by have := SP3.out p hp; omega
                          have d5 : decide (32 < v) = true := decide_eq_true hv2
                          clear hv hv2
                          go_wp2_with (refine wpP_put rfl (.tmp 2) (.tmp 131) rfl w.heap.size rfl Pkt.zero none 0 0 rfl HU.out.res rfl ?_; intro w12 ha12 hk12 hs12)
                          refine bodyPost_ret (results_P2 (fn := Try.f23) rfl _ _ w.heap.size rfl _ rfl Pkt.zero (.slice none 0 0) ha12) rfl ?_
                          exact ⟨.no _ _ _ _ HNO.out, HU.out.bel.trans (hk12.below HU.out.bel.size (fun k hk => by omega))⟩
                        · have d5 : decide (32 < v) = false := decide_eq_false hv2
                          have hq : at' + 4 + q ≤ m - 3 := by have := (Var.get_back0 HG.out).2; rw [List.length_drop] at this; omega
                          have hqc : at' + 4 + q ≤ c - 3 := by omega
                          have HL2 := hide ((LX.out _ HU.out.bel).cut (k := at' + 4 + q) (cap := c - 3) (by omega))
                          obtain ⟨⟨y2, f⟩, hR⟩ : ∃ Y, Runs.dec 32 true 0 [] (x.drop (at' + 4 + q)) = Y := ⟨_, rfl⟩
                          have HR := hide hR
                          clear hR hv hv2
                          have SP4 : Hid (∀ p, Pkt.Is b p → y2 = p.press ∧ f = 0) := by
                            show ∀ p, _
                            intro p hp
                            obtain ⟨h1, h2, -⟩ := SP2.out p hp
                            have h3 := HR.out
                            rw [← List.drop_drop, h1, (SP3.out p hp).2.1, List.drop_left, Runs.dec_enc0 _ _ (by omega), if_pos h2] at h3
                            simp only [Prod.mk.injEq] at h3
                            exact ⟨h3.1.symm, h3.2.symm⟩
                          go_wp2_with fail
                          refine Calls.mono (ref_Unruns _ _ _ _ _ 32 32 _ HL2.out (by omega) (Nat.le_trans HBB.out HU.out.bel.size) (by omega) (by omega) (by omega) (by decide) (y2, f) HR.out (.inl (by omega))) ?_
                          rintro e' w3 ⟨A3, n3, c3, rfl, own3, hb3⟩
                          have U3 := hide (HU.out.below hb3)
                          have O3 := hide own3
                          have HB3 := hide hb3
                          clear own3 hb3
                          by_cases hf : f = 0
                          · subst hf
                            have c5 := U3.out.p.cell (j := 5) (by simp)
                            have f5 := U3.out.p.frozen 5
                            simp only [List.getElem_cons_zero, List.getElem_cons_succ] at c5
                            go_wp2_with fail
                            go_meet
                            refine ⟨⟨kb.toNat, sb.toNat, db.toNat, l0, l1, y2, l2, l3, S⟩, A3, n3, c3, _, U3.out.setP 5 (.slice A3 n3 c3), (O3.out.keeps (Keeps.setCell w3 ⟨w.heap.size + 1, 5, none⟩ (.slice A3 n3 c3)) (fun k hk => ?_)).lies, ?_, ⟨HSR.out.1, HSR.out.2⟩, ?_, ?_⟩
                            · have h1 := (O3.out.blk k hk).1
                              have h2 := HU.out.p.lt
                              show ¬ k = w.heap.size + 1
                              omega
                            · have h1 := (Runs.dec_back0 HR.out rfl).2
                              have h2 := O3.out.len
                              omega
                            · intro b' off' e1 e2
                              have h1 : 0 < n3 := by rcases Nat.eq_zero_or_pos n3 with h | h; · have := O3.out.len; rw [h] at this; exact absurd (List.eq_nil_of_length_eq_zero this) e2
                                                     · exact h
                              obtain ⟨g, hg, hg2, -⟩ := O3.out.form h1
                              rw [e1] at hg
                              injection hg with hg
                              injection hg with hg
                              have h2 := HU.out.res.lt
                              omega
                            · intro p hp
                              obtain ⟨-, k1, k2, k3⟩ := HNF.out p hp
                              have h1 := (HSP.out p hp).2
                              have h2 := (SP2.out p hp).2.2
                              have h3 := (SP4.out p hp).1
                              cases p
                              simp only [List.cons.injEq, Pkt.mk.injEq] at *
                              exact ⟨k1, k2, k3, h1.1.symm, h1.2.1.symm, h3.symm, h1.2.2.1.symm, h1.2.2.2.1.symm, h2⟩
                          · have HNO : Hid (∀ p, ¬ Pkt.Is b p) := fun p hp => hf (SP4.out p hp).2
                            have d6 : (f != 0) = true := by simp [hf]
                            clear hf
                            go_wp2_with (refine wpP_put rfl (.tmp 2) (.tmp 143) rfl w.heap.size rfl Pkt.zero none 0 0 rfl U3.out.res rfl ?_; intro w12 ha12 hk12 hs12)
                            refine bodyPost_ret (results_P2 (fn := Try.f23) rfl _ _ w.heap.size rfl _ rfl Pkt.zero (.slice none 0 0) ha12) rfl ?_
                            exact ⟨.no _ _ _ _ HNO.out, U3.out.bel.trans (hk12.below U3.out.bel.size (fun k hk => by omega))⟩
                    · have HNO : Hid (∀ p, ¬ Pkt.Is b p) := fun p hp => he (SP3.out p hp).2.2.1
                      have d4 : (e != 0) = true := by simp [he]
                      clear he
                      go_wp2_with (refine wpP_put rfl (.tmp 2) (.tmp 131) rfl w.heap.size rfl Pkt.zero none 0 0 rfl HU.out.res rfl ?_; intro w12 ha12 hk12 hs12)
                      refine bodyPost_ret (results_P2 (fn := Try.f23) rfl _ _ w.heap.size rfl _ rfl Pkt.zero (.slice none 0 0) ha12) rfl ?_
                      exact ⟨.no _ _ _ _ HNO.out, HU.out.bel.trans (hk12.below HU.out.bel.size (fun k hk => by omega))⟩
            · have d2 : ((kb.toNat : Int) == 1) = false := by simp [hk]
              obtain rfl : i = 1 := by have := HN.out; rw [if_neg hk] at this; exact this
              have HV1 : Hid (vs = [l0] ∧ l1 = 0 ∧ l2 = 0 ∧ l3 = 0) := by
                have := HL4.out
                have h1 := HVL.out
                match vs, h1 with
                | [v], _ =>
                  simp only [List.singleton_append, List.replicate_succ, List.replicate_zero, List.cons.injEq] at this
                  obtain ⟨rfl, rfl, rfl, rfl, -⟩ := this
                  exact ⟨rfl, rfl, rfl, rfl⟩
              have HQ : Hid (∀ p, Pkt.Is b p → p = ⟨kb.toNat, sb.toNat, db.toNat, l0, l1, [], l2, l3, 0⟩) := by
                show ∀ p, _
                intro p hp
                obtain ⟨-, k1, k2, k3⟩ := HNF.out p hp
                obtain ⟨e1, rfl, rfl, rfl⟩ := HV1.out
                have hw := HW.out
                rw [e1] at hw
                have hid := hw.one hp
                rcases (Pkt.may_iff.1 hp.1).kind with ⟨h, -⟩ | ⟨h, a1, a2, a3, a4, a5⟩
                · omega
                · cases p
                  simp only [Pkt.mk.injEq] at *
                  exact ⟨k1, k2, k3, hid, a1, a4, a2, a3, a5⟩
              clear hk
              go_wp2_with fail
              go_meet
              exact ⟨_, _, _, _, _, U2.out, LiesB.nil _ _ _, by omega, ⟨by show (0 : Int) ≤ 0; decide, by show (0 : Int) < 4294967296; decide⟩, (fun b off h => by cases h), HQ.out⟩
          case rest =>
          obtain ⟨q, Aq, nq, cq, L, hU, hl, hn32, hwf, hap, hq⟩ := hcut.out
          have HAP := hide hap
          have HU := hide hU
          have HLQ := hide hl
          have HWF := hide hwf
          have HQ := hide hq
          have HLB := hide (LA.out.below (hU.bel.mono HBB.out))
          obtain ⟨r, hr⟩ : ∃ r, (q.enc == b) = r := ⟨_, rfl⟩
          have HR := hide hr
          clear hcut hU hl hwf hq hap U2 k0 HW HNF HN HL4 HVL U0 HX LX hxl HW0
          go_upto_region 34 with fail
          refine wp_region_noPanic ?_
          refine wp_region_held_drew (S := (fun w' => WholeP (w.heap.size + 1) (q.val (.slice Aq nq cq)) w' ∧ Reads (some ⟨ab, ao, none⟩) (m + 4) c b w')) (by kernel_rfl) ⟨HU.out.p.drew.wholeP, run_stringB HLB.out.drew⟩ (fun hHeld => ?_)
          refine tk0 0 (v := q.val (.slice Aq nq cq)) (hy := by refine Or.inl ⟨by rfl, ?_⟩; intro w hSw; (try dsimp only at hSw); exact exec_wholeP (x := .tmp 5) hSw.1 rfl rfl) ?_
          refine tk 1 (v := q.val (.slice Aq nq cq)) (hy := by refine Or.inl ⟨by rfl, ?_⟩; intro w hSw; (try dsimp only at hSw); exact exec_wholeP (x := .tmp 5) hSw.1 rfl rfl) ?_
          refine tk 4 ?_
          refine tk 5 (hy := by refine Or.inl ⟨by rfl, ?_⟩; intro w hSw; (try dsimp only at hSw); have q1 := hSw.2; unfold Reads at q1; go_simp <;> with_reducible rfl) ?_
          refine rdy 2 fun K hK => ?_
          go_simp
          refine Calls.mono (ref_Packet q HLQ.out.drew (Nat.le_refl _) (by omega) HWF.out) ?_
          rintro e w9 ⟨A9, n9, c9, rfl, own9, hb9⟩
          have U9 := HU.out.drew.below hb9
          have L9 := HLB.out.drew.below (hb9.mono (Nat.le_trans HBB.out HU.out.bel.size))
          have LQ9 := (HLQ.out.drew.below hb9).more hb9.size
          refine hK.out _ _ ⟨U9.p.wholeP, run_stringB L9⟩ (fun hHeld => ?_)
          clear hK K
          try simp only [Act.put, List.setIfInBounds_toArray, List.set_cons_zero, List.set_cons_succ]
          refine wpAnyH_mono (S' := (fun w' => Reads A9 n9 c9 q.enc w' ∧ (fun w' => WholeP (w.heap.size + 1) (q.val (.slice Aq nq cq)) w' ∧ Reads (some ⟨ab, ao, none⟩) (m + 4) c b w') w')) (fun _ h => h.2) _ _ _ _ ?_
          have hHeld2 := (⟨run_stringB own9.lies, U9.p.wholeP, run_stringB L9⟩ : (fun w' => Reads A9 n9 c9 q.enc w' ∧ (fun w' => WholeP (w.heap.size + 1) (q.val (.slice Aq nq cq)) w' ∧ Reads (some ⟨ab, ao, none⟩) (m + 4) c b w') w') w9)
          refine tk 3 (hy := by refine Or.inl ⟨by rfl, ?_⟩; intro w hSw; (try dsimp only at hSw); have q1 := hSw.1; unfold Reads at q1; go_simp <;> with_reducible rfl) ?_
          refine tk 6 ?_
          refine rdy 7 fun K hK => ?_
          (refine step_putP rfl (.tmp 2) (.tmp 146) rfl w.heap.size rfl q Aq nq cq rfl U9.res rfl ?_; intro w10 ha10 hk10 hs10)
          have L10 := L9.keeps hk10 (by intro b' off' e1 _; injection e1 with e1; injection e1 with e10 e11; have := HBB.out; omega)
          have O10 := own9.keeps hk10 (by intro k hk h; have h1 := (own9.blk k hk).1; have h2 := HU.out.p.drew.lt; omega)
          have P10 := U9.p.keeps hk10 (by omega)
          refine hK.out _ _ ⟨run_stringB O10.lies, P10.wholeP, run_stringB L10⟩ (fun hHeld => ?_)
          clear hK K
          try simp only [Act.put]
          refine tk 8 ?_
          refine wpAnyH_done (by kernel_rfl) (NoPanic.normal ?_) _
          have LQ10 := LQ9.keeps hk10 (fun b off h1 h2 hm => by have := HAP.out b off h1 h2; omega)
          rw [← hs10] at LQ10
          go_wp2_with fail
          refine bodyPost_ret (results_P2 (fn := Try.f23) rfl _ _ w.heap.size rfl (.bool r) rfl q (.slice Aq nq cq) ha10) rfl ?_
          refine ⟨?_, U9.bel.trans (hk10.below U9.bel.size (fun k hk => by omega))⟩
          cases r
          · refine .no q Aq nq cq fun p hp => ?_
            obtain rfl := HQ.out p hp
            have := HR.out
            rw [← Pkt.is_enc hp] at this
            simp at this
          · refine .yes q Aq nq cq ?_ LQ10 hn32 (fun b off h1 h2 => Nat.le_of_lt (HAP.out b off h1 h2))
            have he : q.enc = b := eq_of_beq HR.out
            have hm : q.may = true := by
              cases h : q.may
              · have h1 := Pkt.enc_nil_iff.2 h
                rw [he] at h1
                rw [h1] at hl0; simp at hl0
              · rfl
            have := Pkt.enc_is hm HWF.out
            rwa [he] at this
theorem ref_Unpacket_fresh (p : Pkt) {A : Option Addr} {n c B : Nat} {b : List UInt8} {w : World} (h : Pkt.Is b p) (hA : LiesB w B A n b) (hB : B ≤ w.heap.size) (hnc : n ≤ c) (hn : n ≤ 1000000) :
    Calls Try.prog 23 #[.slice A n c] w fun e w' => ∃ A' n' c', e = .returned (.tuple #[p.val (.slice A' n' c'), .bool true]) ∧ LiesB w' w'.heap.size A' n' p.press ∧ n' ≤ 32 ∧ Below w.heap.size w w' ∧ ∀ bk off, A' = some ⟨bk, off, none⟩ → p.press ≠ [] → w.heap.size ≤ bk := by
  refine (ref_UnpacketV hA hB hnc hn).mono ?_
  rintro e w' ⟨hs, hb⟩
  cases hs with
  | yes q A n c h2 hl hn hf => obtain rfl := Pkt.is_inj h h2; exact ⟨A, n, c, rfl, hl, hn, hb, hf⟩
  | no q A n c h2 => exact absurd h (h2 p)
end Go.Proofs.Ytbcgffgiifminaa
