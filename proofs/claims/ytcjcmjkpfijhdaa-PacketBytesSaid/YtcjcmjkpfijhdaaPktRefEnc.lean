/-
  The walk of the document's Packet. (printed by wip/mkpkt2.py)
-/
import Derived.Test.YtcjcmjkpfijhdaaPktEnc
namespace Go.Proofs.Ytcjcmjkpfijhdaa
open Go.RowKit
set_option linter.unusedVariables false
theorem ref_Put_v {v : Int} {x : List UInt8} {w : World} (lo : -9223372036854775808 ≤ v) (hi : v ≤ 9223372036854775807) (hx : Var.put (Var.zig v) = x) :
    Calls Try.prog 27 #[.int .i64 v] w fun e w' => ∃ A' n' c', e = .returned (.slice A' n' c') ∧ OwnB w' w.heap.size A' n' c' x ∧ Below w.heap.size w w' := by subst hx; exact ref_Put v w lo hi
theorem ref_Four_v {a : Int} {x : List UInt8} {w : World} (h1 : 0 ≤ a) (h2 : a < 4294967296) (hx : be32 a = x) : Calls Try.prog 28 #[.int .u32 a] w fun e w' =>
    ∃ A' n' c', e = .returned (.slice A' n' c') ∧ OwnB w' w.heap.size A' n' c' x ∧ Below w.heap.size w w' := by
  subst hx
  refine (ref_Four a w h1 h2).mono ?_
  rintro e w' ⟨A, c, rfl, h, hb⟩
  exact ⟨A, 4, c, rfl, h, hb⟩
theorem ref_Runs_v {A : Option Addr} {n c B : Nat} {l x : List UInt8} {w : World} (hA : LiesB w B A n l) (hB : B ≤ w.heap.size) (hn : n ≤ 10000) (hx : Runs.enc 0 l = x) :
    Calls Try.prog 29 #[.slice A n c] w fun e w' => ∃ A' n' c', e = .returned (.slice A' n' c') ∧ OwnB w' w.heap.size A' n' c' x ∧ Below w.heap.size w w' := by subst hx; exact ref_Runs A n c B l w hA hB hn
theorem ref_Sum_v {A : Option Addr} {n c B : Nat} {l : List UInt8} {w : World} {s : Int} (hA : LiesB w B A n l) (hm : n ≤ 9223372036854775807) (hs : s = ((Crc.sum l).toNat : Int)) :
    Calls Try.prog 30 #[.slice A n c] w fun e w' => e = .returned (.int .u32 s) ∧ w = w' := by subst hs; exact ref_Sum A n c B l w hA hm
theorem OwnB.apart {wy w' : World} {by' n c ny cy : Nat} {A Ay : Option Addr} {ly : List UInt8} (hy : OwnB wy by' Ay ny cy ly) (hk : Keeps (Mine A n c) wy w') (hA : ∀ k, some k = (Value.slice A n c).ownBlock → k < by') : OwnB w' by' Ay ny cy ly :=
  hy.keeps hk fun k hk1 hm => by
    have h1 := (hy.blk k hk1).1
    have h2 := hA k hm
    omega
set_option maxHeartbeats 4000000 in
set_option maxRecDepth 10000 in
theorem ref_Packet (p : Pkt) {A : Option Addr} {n c B : Nat} {w : World} (hA : LiesB w B A n p.press) (hB : B ≤ w.heap.size) (hn : n ≤ 10000) (hw : p.WF) :
    Calls Try.prog 15 #[p.val (.slice A n c)] w fun e w' => ∃ A' n' c', e = .returned (.slice A' n' c') ∧ OwnB w' w.heap.size A' n' c' p.enc ∧ Below w.heap.size w w' := by
  have LA := hide hA
  have HL := hide hA.len
  have HBB := hide hB
  have HP : Hid (Arr 25 (w.alloc (.cells (p.row (.slice A n c)).toArray 25)) w.heap.size (p.row (.slice A n c))) := Arr.new 25 w _ _ rfl
  have HB : Hid (Below w.heap.size w (w.alloc (.cells (p.row (.slice A n c)).toArray 25))) := Below_new _ _
  cases hm : p.may
  · have HE : Hid (p.enc = []) := Pkt.enc_nil_iff.2 hm
    have HM := hide hm
    clear hm hA hB hw
    go_enter Try.func15, Try.ntmps15
    go_upto_region 1 with fail
    generalize World.alloc w _ = wx at HP HB ⊢
    go_wp2_with (refine wpP_load rfl (.tmp 1) rfl w.heap.size rfl p (.slice A n c) HP.out ?_)
    refine Calls.mono (ref_MayPacket p HL.out (by omega) HM.out.symm) ?_
    rintro e w1 ⟨rfl, hb1⟩
    have HB1 := hide (Below_step HB.out hb1)
    clear hb1
    go_wp2_with fail
    go_ret
    exact ⟨none, 0, 0, rfl, by rw [HE.out]; exact OwnB.nil _ _, HB1.out⟩
  · have hf := Pkt.may_iff.1 hm
    have HE : Hid (p.enc = Pkt.sealB p.body) := by show _ = _; rw [Pkt.enc, if_pos hm]
    have HM := hide hm
    obtain ⟨kind, src, dst, id, first, press, ack, frame, sum⟩ := p
    obtain ⟨-, -, -, hid, hk⟩ := hf
    simp only at hid hk hw LA HL
    have HW1 := hide hw.1
    have HW2 := hide hw.2
    simp only at HW1 HW2
    have HK := hide hk
    obtain ⟨x0, hx0⟩ : ∃ x, Var.put (Var.zig id) = x := ⟨_, rfl⟩
    have X0 := hide hx0
    have hx0l : x0.length ≤ 10 := by rw [← hx0]; exact Var.put_len10 _ (Var.zig_lt id (by omega) (by omega))
    clear hm hA hB hw hk hx0
    go_enter Try.func15, Try.ntmps15
    go_upto_region 1 with fail
    simp only [Pkt.row] at HP HB
    generalize World.alloc w _ = wx at HP HB ⊢
    go_wp2_with (refine wpP_load rfl (.tmp 1) rfl w.heap.size rfl ⟨kind, src, dst, id, first, press, ack, frame, sum⟩ (.slice A n c) HP.out ?_)
    refine Calls.mono (ref_MayPacket ⟨kind, src, dst, id, first, press, ack, frame, sum⟩ HL.out (by omega) HM.out.symm) ?_
    rintro e w1 ⟨rfl, hb1⟩
    have HB1 := hide (Below_step HB.out hb1)
    have HP := hide (HP.out.belowN hb1)
    clear hb1 HB
    go_upto_region 3 with fail
    obtain ⟨b1, hb1⟩ : ∃ b, [Pkt.byte kind, Pkt.byte src, Pkt.byte dst] ++ x0 = b := ⟨_, rfl⟩
    have HB1' := hide hb1
    have hb1l : b1.length ≤ 13 := by rw [← hb1, List.length_append]; simp; omega
    clear hb1
    go_cut [3] (fun s wx => ∃ (A2 : Option Addr) (n2 c2 : Nat), s = .slice A2 n2 c2 ∧ Hid (Grow w wx w.heap.size (Pkt.row ⟨kind, src, dst, id, first, press, ack, frame, sum⟩ (.slice A n c)) A2 n2 c2 b1))
    case first =>
      have c0 := HP.out.cell (j := 0) (by simp)
      have c1 := HP.out.cell (j := 1) (by simp)
      have c2 := HP.out.cell (j := 2) (by simp)
      have c3 := HP.out.cell (j := 3) (by simp)
      simp only [List.getElem_cons_zero, List.getElem_cons_succ] at c0 c1 c2 c3
      have GN : Hid (∀ wy, Below w.heap.size w wy → Arr 25 wy w.heap.size (Pkt.row ⟨kind, src, dst, id, first, press, ack, frame, sum⟩ (.slice A n c)) → Grow w (wy.alloc (.cells #[.int .u8 (IntKind.u8.wrap kind), .int .u8 (IntKind.u8.wrap src), .int .u8 (IntKind.u8.wrap dst)] 5)) w.heap.size (Pkt.row ⟨kind, src, dst, id, first, press, ack, frame, sum⟩ (.slice A n c)) (some ⟨wy.heap.size, 0, none⟩) 3 3 [Pkt.byte kind, Pkt.byte src, Pkt.byte dst]) := fun wy hb hp =>
        ⟨(OwnB.new wy _ 3 [Pkt.byte kind, Pkt.byte src, Pkt.byte dst] rfl (by simp [maxLen]) (by simp only [List.map_cons, List.map_nil, Pkt.bv_byte, IntKind.wrap_u8])).base_le hb.size, hp.belowN (Below_new _ _), Below_step hb (Below_new _ _)⟩
      refine wp_region_noPanic ?_
      refine wp_region_held_drew (S := (fun w' => w'.cell? ⟨w.heap.size, 0, none⟩ = some (.int .i64 kind) ∧ w'.cell? ⟨w.heap.size, 1, none⟩ = some (.int .i64 src) ∧ w'.cell? ⟨w.heap.size, 2, none⟩ = some (.int .i64 dst) ∧ w'.cell? ⟨w.heap.size, 3, none⟩ = some (.int .i64 id))) (by kernel_rfl) ⟨c0, c1, c2, c3⟩ (fun hHeld => ?_)
      refine wpAnyH_take (i := 0) (oi := ?_) (v := ?_) ?_ (by kernel_rfl) (by kernel_rfl) (by kernel_rfl) ?_ ?_ (by assumption) ?_
      rotate_left 2
      · (simp only [List.getElem?_toArray, List.getElem?_cons_zero]; rfl)
      · exact fun _ _ _ h => h
      · (refine Or.inl ⟨by rfl, ?_⟩; intro w hSw; (try dsimp only at hSw); go_simp <;> with_reducible rfl)
      try simp only [Act.put, List.setIfInBounds_toArray, List.set_cons_zero, List.set_cons_succ]
      refine wpAnyH_take (i := 1) (oi := ?_) (v := ?_) ?_ (by kernel_rfl) (by kernel_rfl) (by kernel_rfl) ?_ ?_ (by assumption) ?_
      rotate_left 2
      · (simp only [List.getElem?_toArray, List.getElem?_cons_succ, List.getElem?_cons_zero]; rfl)
      · exact fun _ _ _ h => h
      · (refine Or.inl ⟨by rfl, ?_⟩; intro w hSw; (try dsimp only at hSw); go_simp <;> with_reducible rfl)
      try simp only [Act.put, List.setIfInBounds_toArray, List.set_cons_zero, List.set_cons_succ]
      refine wpAnyH_take (i := 2) (oi := ?_) (v := ?_) ?_ (by kernel_rfl) (by kernel_rfl) (by kernel_rfl) ?_ ?_ (by assumption) ?_
      rotate_left 2
      · (simp only [List.getElem?_toArray, List.getElem?_cons_succ, List.getElem?_cons_zero]; rfl)
      · exact fun _ _ _ h => h
      · (refine Or.inl ⟨by rfl, ?_⟩; intro w hSw; (try dsimp only at hSw); go_simp <;> with_reducible rfl)
      try simp only [Act.put, List.setIfInBounds_toArray, List.set_cons_zero, List.set_cons_succ]
      refine wpAnyH_take (i := 3) (oi := ?_) (v := ?_) ?_ (by kernel_rfl) (by kernel_rfl) (by kernel_rfl) ?_ ?_ (by assumption) ?_
      rotate_left 2
      · (simp only [List.getElem?_toArray, List.getElem?_cons_succ, List.getElem?_cons_zero]; rfl)
      · exact fun _ _ _ h => h
      · (refine Or.inl ⟨by rfl, ?_⟩; intro w hSw; (try dsimp only at hSw); go_simp <;> with_reducible rfl)
      try simp only [Act.put, List.setIfInBounds_toArray, List.set_cons_zero, List.set_cons_succ]
      refine wpAnyH_take (i := 4) (oi := ?_) (v := ?_) ?_ (by kernel_rfl) (by kernel_rfl) (by kernel_rfl) ?_ ?_ (by assumption) ?_
      rotate_left 2
      · (simp only [List.getElem?_toArray, List.getElem?_cons_succ, List.getElem?_cons_zero]; rfl)
      · exact fun _ _ _ h => h
      · (refine Or.inl ⟨by rfl, ?_⟩; intro w hSw; (try dsimp only at hSw); go_simp <;> with_reducible rfl)
      try simp only [Act.put, List.setIfInBounds_toArray, List.set_cons_zero, List.set_cons_succ]
      refine wpAnyH_take (i := 5) (oi := ?_) (v := ?_) ?_ (by kernel_rfl) (by kernel_rfl) (by kernel_rfl) ?_ ?_ (by assumption) ?_
      rotate_left 2
      · (simp only [List.getElem?_toArray, List.getElem?_cons_succ, List.getElem?_cons_zero]; rfl)
      · exact fun _ _ _ h => h
      · (refine Or.inl ⟨by rfl, ?_⟩; intro w hSw; (try dsimp only at hSw); go_simp <;> with_reducible rfl)
      try simp only [Act.put, List.setIfInBounds_toArray, List.set_cons_zero, List.set_cons_succ]
      refine wpAnyH_take (i := 6) (oi := ?_) (v := ?_) ?_ (by kernel_rfl) (by kernel_rfl) (by kernel_rfl) ?_ ?_ (by assumption) ?_
      rotate_left 2
      · (simp only [List.getElem?_toArray, List.getElem?_cons_succ, List.getElem?_cons_zero]; rfl)
      · exact fun _ _ _ h => h
      · (refine Or.inl ⟨by rfl, ?_⟩; intro w hSw; (try dsimp only at hSw); go_simp <;> with_reducible rfl)
      try simp only [Act.put, List.setIfInBounds_toArray, List.set_cons_zero, List.set_cons_succ]
      refine wpAnyH_take (i := 7) (oi := ?_) (v := ?_) ?_ (by kernel_rfl) (by kernel_rfl) (by kernel_rfl) ?_ ?_ (by assumption) ?_
      rotate_left 2
      · (simp only [List.getElem?_toArray, List.getElem?_cons_succ, List.getElem?_cons_zero]; rfl)
      · exact fun _ _ _ h => h
      · (refine Or.inl ⟨by rfl, ?_⟩; intro w hSw; (try dsimp only at hSw); go_simp <;> with_reducible rfl)
      try simp only [Act.put, List.setIfInBounds_toArray, List.set_cons_zero, List.set_cons_succ]
      refine wpAnyH_take (i := 8) (oi := ?_) (v := ?_) ?_ (by kernel_rfl) (by kernel_rfl) (by kernel_rfl) ?_ ?_ (by assumption) ?_
      rotate_left 2
      · (simp only [List.getElem?_toArray, List.getElem?_cons_succ, List.getElem?_cons_zero]; rfl)
      · exact fun _ _ _ h => h
      · (refine Or.inl ⟨by rfl, ?_⟩; intro w hSw; (try dsimp only at hSw); go_simp <;> with_reducible rfl)
      try simp only [Act.put, List.setIfInBounds_toArray, List.set_cons_zero, List.set_cons_succ]
      refine wpAnyH_take (i := 10) (oi := ?_) (v := ?_) ?_ (by kernel_rfl) (by kernel_rfl) (by kernel_rfl) ?_ ?_ (by assumption) ?_
      rotate_left 2
      · (simp only [List.getElem?_toArray, List.getElem?_cons_succ, List.getElem?_cons_zero]; rfl)
      · exact fun _ _ _ h => h
      · (refine Or.inl ⟨by rfl, ?_⟩; intro w hSw; (try dsimp only at hSw); go_simp <;> with_reducible rfl)
      try simp only [Act.put, List.setIfInBounds_toArray, List.set_cons_zero, List.set_cons_succ]
      refine wpAnyH_take (i := 11) (oi := ?_) (v := ?_) ?_ (by kernel_rfl) (by kernel_rfl) (by kernel_rfl) ?_ ?_ (by assumption) ?_
      rotate_left 2
      · (simp only [List.getElem?_toArray, List.getElem?_cons_succ, List.getElem?_cons_zero]; rfl)
      · exact fun _ _ _ h => h
      · (refine Or.inl ⟨by rfl, ?_⟩; intro w hSw; (try dsimp only at hSw); go_simp <;> with_reducible rfl)
      try simp only [Act.put, List.setIfInBounds_toArray, List.set_cons_zero, List.set_cons_succ]
      refine wpAnyH_ready (rs := [9, 12]) (by kernel_rfl) (by simp) ?_
      refine AllReadyH.cons (o := ?_) ?_ (fun K hK => ?_) ?_
      rotate_left 1
      · (simp only [List.getElem?_toArray, List.getElem?_cons_succ, List.getElem?_cons_zero]; rfl)
      · go_simp
        skip
        have G0 := (GN.out w1 HB1.out HP.out).drew
        refine hK.out _ _ ⟨G0.arr.cell (j := 0) (by simp), G0.arr.cell (j := 1) (by simp), G0.arr.cell (j := 2) (by simp), G0.arr.cell (j := 3) (by simp)⟩ (fun hHeld => ?_)
        clear hK K
        try simp only [Act.put, List.setIfInBounds_toArray, List.set_cons_zero, List.set_cons_succ]
        refine wpAnyH_ready (rs := [12]) (by kernel_rfl) (by simp) ?_
        refine AllReadyH.cons (o := ?_) ?_ (fun K hK => ?_) AllReadyH.nil
        rotate_left 1
        · (simp only [List.getElem?_toArray, List.getElem?_cons_succ, List.getElem?_cons_zero]; rfl)
        go_simp
        (go_at_call 27; (refine Calls.mono (ref_Put_v (by omega) (by omega) X0.out) ?_); rintro e w4 ⟨A4, n4, c4, rfl, own4, hb4⟩)
        have G4 := G0.below hb4
        have hl4 := own4.len
        refine hK.out _ _ ⟨G4.arr.cell (j := 0) (by simp), G4.arr.cell (j := 1) (by simp), G4.arr.cell (j := 2) (by simp), G4.arr.cell (j := 3) (by simp)⟩ (fun hHeld => ?_)
        clear hK K
        try simp only [Act.put, List.setIfInBounds_toArray, List.set_cons_zero, List.set_cons_succ]
        refine wpAnyH_ready (rs := [13]) (by kernel_rfl) (by simp) ?_
        refine AllReadyH.cons (o := ?_) ?_ (fun K hK => ?_) AllReadyH.nil
        rotate_left 1
        · (simp only [List.getElem?_toArray, List.getElem?_cons_succ, List.getElem?_cons_zero]; rfl)
        (refine step_appendB rfl (.tmp 16) (.tmp 19) rfl w.heap.size _ 3 3 _ rfl G4.own _ A4 n4 c4 _ rfl own4.lies (3 + n4) b1 rfl HB1'.out (by omega) G4.size ?_; intro A5 c5 w5 own5 k5 hk5)
        have G5 := G4.put k5 own5
        refine hK.out _ _ ⟨G5.arr.cell (j := 0) (by simp), G5.arr.cell (j := 1) (by simp), G5.arr.cell (j := 2) (by simp), G5.arr.cell (j := 3) (by simp)⟩ (fun hHeld => ?_)
        clear hK K
        try simp only [Act.put]
        refine wpAnyH_take (i := 14) (oi := ?_) (v := ?_) ?_ (by kernel_rfl) (by kernel_rfl) (by kernel_rfl) ?_ ?_ (by assumption) ?_
        rotate_left 2
        · (simp only [List.getElem?_toArray, List.getElem?_cons_succ, List.getElem?_cons_zero]; rfl)
        · exact fun _ _ _ h => h
        · (refine Or.inl ⟨by rfl, ?_⟩; intro w hSw; (try dsimp only at hSw); go_simp <;> with_reducible rfl)
        try simp only [Act.put, List.setIfInBounds_toArray, List.set_cons_zero, List.set_cons_succ]
        refine wpAnyH_done (by kernel_rfl) (NoPanic.normal ?_) _
        go_wp2_with fail
        go_meet
        exact ⟨_, _, _, rfl, G5⟩
      refine AllReadyH.cons (o := ?_) ?_ (fun K hK => ?_) ?_
      rotate_left 1
      · (simp only [List.getElem?_toArray, List.getElem?_cons_succ, List.getElem?_cons_zero]; rfl)
      · go_simp
        refine Calls.mono (ref_Put_v (by omega) (by omega) X0.out) ?_
        rintro e w4 ⟨A4, n4, c4, rfl, own4, hb4⟩
        have HB4 : Below w.heap.size w w4 := Below_step (Below_drewN HB1.out 1) hb4
        have HP4 : Arr 25 w4 w.heap.size (Pkt.row ⟨kind, src, dst, id, first, press, ack, frame, sum⟩ (.slice A n c)) := HP.out.drew.belowN hb4
        have hl4 := own4.len
        refine hK.out _ _ ⟨HP4.cell (j := 0) (by simp), HP4.cell (j := 1) (by simp), HP4.cell (j := 2) (by simp), HP4.cell (j := 3) (by simp)⟩ (fun hHeld => ?_)
        clear hK K
        try simp only [Act.put, List.setIfInBounds_toArray, List.set_cons_zero, List.set_cons_succ]
        refine wpAnyH_ready (rs := [9]) (by kernel_rfl) (by simp) ?_
        refine AllReadyH.cons (o := ?_) ?_ (fun K hK => ?_) AllReadyH.nil
        rotate_left 1
        · (simp only [List.getElem?_toArray, List.getElem?_cons_succ, List.getElem?_cons_zero]; rfl)
        go_simp
        have G0 := GN.out w4 HB4 HP4
        have own4 := own4.below (Below_new w4 (.cells #[.int .u8 (IntKind.u8.wrap kind), .int .u8 (IntKind.u8.wrap src), .int .u8 (IntKind.u8.wrap dst)] 5))
        refine hK.out _ _ ⟨G0.arr.cell (j := 0) (by simp), G0.arr.cell (j := 1) (by simp), G0.arr.cell (j := 2) (by simp), G0.arr.cell (j := 3) (by simp)⟩ (fun hHeld => ?_)
        clear hK K
        try simp only [Act.put, List.setIfInBounds_toArray, List.set_cons_zero, List.set_cons_succ]
        refine wpAnyH_ready (rs := [13]) (by kernel_rfl) (by simp) ?_
        refine AllReadyH.cons (o := ?_) ?_ (fun K hK => ?_) AllReadyH.nil
        rotate_left 1
        · (simp only [List.getElem?_toArray, List.getElem?_cons_succ, List.getElem?_cons_zero]; rfl)
        (refine step_appendB rfl (.tmp 16) (.tmp 19) rfl w.heap.size _ 3 3 _ rfl G0.own _ A4 n4 c4 _ rfl own4.lies (3 + n4) b1 rfl HB1'.out (by omega) G0.size ?_; intro A5 c5 w5 own5 k5 hk5)
        have G5 := G0.put k5 own5
        refine hK.out _ _ ⟨G5.arr.cell (j := 0) (by simp), G5.arr.cell (j := 1) (by simp), G5.arr.cell (j := 2) (by simp), G5.arr.cell (j := 3) (by simp)⟩ (fun hHeld => ?_)
        clear hK K
        try simp only [Act.put]
        refine wpAnyH_take (i := 14) (oi := ?_) (v := ?_) ?_ (by kernel_rfl) (by kernel_rfl) (by kernel_rfl) ?_ ?_ (by assumption) ?_
        rotate_left 2
        · (simp only [List.getElem?_toArray, List.getElem?_cons_succ, List.getElem?_cons_zero]; rfl)
        · exact fun _ _ _ h => h
        · (refine Or.inl ⟨by rfl, ?_⟩; intro w hSw; (try dsimp only at hSw); go_simp <;> with_reducible rfl)
        try simp only [Act.put, List.setIfInBounds_toArray, List.set_cons_zero, List.set_cons_succ]
        refine wpAnyH_done (by kernel_rfl) (NoPanic.normal ?_) _
        go_wp2_with fail
        go_meet
        exact ⟨_, _, _, rfl, G5⟩
      exact AllReadyH.nil
    case rest =>
      obtain ⟨A2, n2, c2, rfl, G⟩ := hcut
      clear HP HB1
      have c0 := G.out.arr.cell (j := 0) (by simp)
      simp only [List.getElem_cons_zero] at c0
      by_cases k1 : kind = 1
      · subst k1
        obtain ⟨hfi, hac, hfr, hpl⟩ : (0 ≤ first ∧ first ≤ 1000) ∧ (0 ≤ ack ∧ ack ≤ 1000) ∧ (0 ≤ frame ∧ frame ≤ 1000) ∧ press.length ≤ 32 := by
          rcases HK.out with h | h
          · exact h.2
          · exact absurd h.1 (by decide)
        have hnp : press.length = n := HL.out
        obtain ⟨x1, hx1⟩ : ∃ x, Var.put (Var.zig first) = x := ⟨_, rfl⟩
        obtain ⟨x2, hx2⟩ : ∃ x, Var.put (Var.zig ack) = x := ⟨_, rfl⟩
        obtain ⟨x3, hx3⟩ : ∃ x, Var.put (Var.zig frame) = x := ⟨_, rfl⟩
        obtain ⟨x4, hx4⟩ : ∃ x, be32 sum = x := ⟨_, rfl⟩
        obtain ⟨x5, hx5⟩ : ∃ x, Var.put (Var.zig (n : Int)) = x := ⟨_, rfl⟩
        obtain ⟨x6, hx6⟩ : ∃ x, Runs.enc 0 press = x := ⟨_, rfl⟩
        have X1 := hide hx1
        have X2 := hide hx2
        have X3 := hide hx3
        have X4 := hide hx4
        have X5 := hide hx5
        have X6 := hide hx6
        have hx1l : x1.length ≤ 10 := by rw [← hx1]; exact Var.put_len10 _ (Var.zig_lt first (by omega) (by omega))
        have hx2l : x2.length ≤ 10 := by rw [← hx2]; exact Var.put_len10 _ (Var.zig_lt ack (by omega) (by omega))
        have hx3l : x3.length ≤ 10 := by rw [← hx3]; exact Var.put_len10 _ (Var.zig_lt frame (by omega) (by omega))
        have hx4l : x4.length = 4 := by rw [← hx4, be32_length]
        have hx5l : x5.length ≤ 10 := by rw [← hx5]; exact Var.put_len10 _ (Var.zig_lt (n : Int) (by omega) (by omega))
        have hx6l : x6.length ≤ 64 := by have := Pkt.runs_len _ 0 press (Nat.le_refl _) (by omega); rw [← hx6]; omega
        obtain ⟨b2, hb2⟩ : ∃ b, b1 ++ x1 ++ x2 = b := ⟨_, rfl⟩
        obtain ⟨b3, hb3⟩ : ∃ b, b2 ++ x3 ++ x4 = b := ⟨_, rfl⟩
        obtain ⟨b4, hb4⟩ : ∃ b, b3 ++ x5 ++ x6 = b := ⟨_, rfl⟩
        have hb2l : b2.length ≤ 33 := by rw [← hb2]; simp only [List.length_append]; omega
        have hb3l : b3.length ≤ 47 := by rw [← hb3]; simp only [List.length_append]; omega
        have hb4l : b4.length ≤ 121 := by rw [← hb4]; simp only [List.length_append]; omega
        have HBO : Hid (b4 = Pkt.body ⟨1, src, dst, id, first, press, ack, frame, sum⟩) := by
          show _ = _
          rw [← hb4, ← hb3, ← hb2, ← hx1, ← hx2, ← hx3, ← hx4, ← hx5, ← hx6, ← HB1'.out, ← X0.out, Pkt.body, Pkt.tail, if_pos rfl]
          simp [hnp]
        have HB2' := hide hb2
        have HB3' := hide hb3
        have HB4' := hide hb4
        clear hx1 hx2 hx3 hx4 hx5 hx6 hb2 hb3 hb4
        go_upto_region 5 with fail
        go_cut [3] (fun s wx => ∃ (A2 : Option Addr) (n2 c2 : Nat), s = .slice A2 n2 c2 ∧ Hid (Grow w wx w.heap.size (Pkt.row ⟨1, src, dst, id, first, press, ack, frame, sum⟩ (.slice A n c)) A2 n2 c2 b2))
        case first =>
          have c4 := G.out.arr.cell (j := 4) (by simp)
          have c6 := G.out.arr.cell (j := 6) (by simp)
          simp only [List.getElem_cons_zero, List.getElem_cons_succ] at c4 c6
          have hl2 := G.out.own.len
          have hn2 := (G.out.own.blk)
          refine wp_region_noPanic ?_
          refine wp_region_held_drew (S := (fun w' => w'.cell? ⟨w.heap.size, 4, none⟩ = some (.int .i64 first) ∧ w'.cell? ⟨w.heap.size, 6, none⟩ = some (.int .i64 ack))) (by kernel_rfl) ⟨c4, c6⟩ (fun hHeld => ?_)
          refine wpAnyH_take (i := 0) (oi := ?_) (v := ?_) ?_ (by kernel_rfl) (by kernel_rfl) (by kernel_rfl) ?_ ?_ (by assumption) ?_
          rotate_left 2
          · (simp only [List.getElem?_toArray, List.getElem?_cons_zero]; rfl)
          · exact fun _ _ _ h => h
          · (refine Or.inl ⟨by rfl, ?_⟩; intro w hSw; (try dsimp only at hSw); go_simp <;> with_reducible rfl)
          try simp only [Act.put, List.setIfInBounds_toArray, List.set_cons_zero, List.set_cons_succ]
          refine wpAnyH_take (i := 1) (oi := ?_) (v := ?_) ?_ (by kernel_rfl) (by kernel_rfl) (by kernel_rfl) ?_ ?_ (by assumption) ?_
          rotate_left 2
          · (simp only [List.getElem?_toArray, List.getElem?_cons_succ, List.getElem?_cons_zero]; rfl)
          · exact fun _ _ _ h => h
          · (refine Or.inl ⟨by rfl, ?_⟩; intro w hSw; (try dsimp only at hSw); go_simp <;> with_reducible rfl)
          try simp only [Act.put, List.setIfInBounds_toArray, List.set_cons_zero, List.set_cons_succ]
          refine wpAnyH_take (i := 2) (oi := ?_) (v := ?_) ?_ (by kernel_rfl) (by kernel_rfl) (by kernel_rfl) ?_ ?_ (by assumption) ?_
          rotate_left 2
          · (simp only [List.getElem?_toArray, List.getElem?_cons_succ, List.getElem?_cons_zero]; rfl)
          · exact fun _ _ _ h => h
          · (refine Or.inl ⟨by rfl, ?_⟩; intro w hSw; (try dsimp only at hSw); go_simp <;> with_reducible rfl)
          try simp only [Act.put, List.setIfInBounds_toArray, List.set_cons_zero, List.set_cons_succ]
          refine wpAnyH_take (i := 5) (oi := ?_) (v := ?_) ?_ (by kernel_rfl) (by kernel_rfl) (by kernel_rfl) ?_ ?_ (by assumption) ?_
          rotate_left 2
          · (simp only [List.getElem?_toArray, List.getElem?_cons_succ, List.getElem?_cons_zero]; rfl)
          · exact fun _ _ _ h => h
          · (refine Or.inl ⟨by rfl, ?_⟩; intro w hSw; (try dsimp only at hSw); go_simp <;> with_reducible rfl)
          try simp only [Act.put, List.setIfInBounds_toArray, List.set_cons_zero, List.set_cons_succ]
          refine wpAnyH_take (i := 6) (oi := ?_) (v := ?_) ?_ (by kernel_rfl) (by kernel_rfl) (by kernel_rfl) ?_ ?_ (by assumption) ?_
          rotate_left 2
          · (simp only [List.getElem?_toArray, List.getElem?_cons_succ, List.getElem?_cons_zero]; rfl)
          · exact fun _ _ _ h => h
          · (refine Or.inl ⟨by rfl, ?_⟩; intro w hSw; (try dsimp only at hSw); go_simp <;> with_reducible rfl)
          try simp only [Act.put, List.setIfInBounds_toArray, List.set_cons_zero, List.set_cons_succ]
          refine wpAnyH_ready (rs := [3]) (by kernel_rfl) (by simp) ?_
          refine AllReadyH.cons (o := ?_) ?_ (fun K hK => ?_) AllReadyH.nil
          rotate_left 1
          · (simp only [List.getElem?_toArray, List.getElem?_cons_succ, List.getElem?_cons_zero]; rfl)
          go_simp
          (go_at_call 27; (refine Calls.mono (ref_Put_v (v := first) (by omega) (by omega) X1.out) ?_); rintro e w3 ⟨A3, n3, c3', rfl, own3, hb3⟩)
          have G3 := G.out.drew.below hb3
          have hl3 := own3.len; have O3 := hide own3; clear own3 hb3
          refine hK.out _ _ ⟨G3.arr.cell (j := 4) (by simp), G3.arr.cell (j := 6) (by simp)⟩ (fun hHeld => ?_)
          clear hK K
          try simp only [Act.put, List.setIfInBounds_toArray, List.set_cons_zero, List.set_cons_succ]
          refine wpAnyH_ready (rs := [4]) (by kernel_rfl) (by simp) ?_
          refine AllReadyH.cons (o := ?_) ?_ (fun K hK => ?_) AllReadyH.nil
          rotate_left 1
          · (simp only [List.getElem?_toArray, List.getElem?_cons_succ, List.getElem?_cons_zero]; rfl)
          refine step_appendB rfl (.tmp 24) (.tmp 27) rfl w.heap.size A2 n2 c2 b1 rfl G3.own _ A3 n3 c3' _ rfl O3.out.lies (n2 + n3) _ rfl rfl (by omega) G3.size ?_
          intro A4 c4' w4 own4 k4 hk4
          have G4 := G3.put k4 own4
          have hl4 := own4.len; clear own4 k4 hk4
          refine hK.out _ _ ⟨G4.arr.cell (j := 4) (by simp), G4.arr.cell (j := 6) (by simp)⟩ (fun hHeld => ?_)
          clear hK K
          try simp only [Act.put]
          refine wpAnyH_ready (rs := [7]) (by kernel_rfl) (by simp) ?_
          refine AllReadyH.cons (o := ?_) ?_ (fun K hK => ?_) AllReadyH.nil
          rotate_left 1
          · (simp only [List.getElem?_toArray, List.getElem?_cons_succ, List.getElem?_cons_zero]; rfl)
          go_simp
          (go_at_call 27; (refine Calls.mono (ref_Put_v (v := ack) (by omega) (by omega) X2.out) ?_); rintro e w5 ⟨A5, n5, c5', rfl, own5, hb5⟩)
          have G5 := G4.below hb5
          have hl5 := own5.len; have O5 := hide own5; clear own5 hb5
          refine hK.out _ _ ⟨G5.arr.cell (j := 4) (by simp), G5.arr.cell (j := 6) (by simp)⟩ (fun hHeld => ?_)
          clear hK K
          try simp only [Act.put, List.setIfInBounds_toArray, List.set_cons_zero, List.set_cons_succ]
          refine wpAnyH_ready (rs := [8]) (by kernel_rfl) (by simp) ?_
          refine AllReadyH.cons (o := ?_) ?_ (fun K hK => ?_) AllReadyH.nil
          rotate_left 1
          · (simp only [List.getElem?_toArray, List.getElem?_cons_succ, List.getElem?_cons_zero]; rfl)
          (refine step_appendB rfl (.tmp 28) (.tmp 31) rfl w.heap.size A4 (n2 + n3) c4' _ rfl G5.own _ A5 n5 c5' _ rfl O5.out.lies (n2 + n3 + n5) _ rfl HB2'.out (by omega) G5.size ?_; intro A6 c6' w6 own6 k6 hk6)
          have G6 := G5.put k6 own6
          refine hK.out _ _ ⟨G6.arr.cell (j := 4) (by simp), G6.arr.cell (j := 6) (by simp)⟩ (fun hHeld => ?_)
          clear hK K
          try simp only [Act.put]
          refine wpAnyH_take (i := 9) (oi := ?_) (v := ?_) ?_ (by kernel_rfl) (by kernel_rfl) (by kernel_rfl) ?_ ?_ (by assumption) ?_
          rotate_left 2
          · (simp only [List.getElem?_toArray, List.getElem?_cons_succ, List.getElem?_cons_zero]; rfl)
          · exact fun _ _ _ h => h
          · (refine Or.inl ⟨by rfl, ?_⟩; intro w hSw; (try dsimp only at hSw); go_simp <;> with_reducible rfl)
          try simp only [Act.put, List.setIfInBounds_toArray, List.set_cons_zero, List.set_cons_succ]
          refine wpAnyH_done (by kernel_rfl) (NoPanic.normal ?_) _
          go_wp2_with fail
          go_meet
          exact ⟨_, _, _, rfl, G6⟩
        case rest =>
          obtain ⟨A2, n2, c2, rfl, G⟩ := hcut
          go_upto_region 6 with fail
          go_cut [3] (fun s wx => ∃ (A2 : Option Addr) (n2 c2 : Nat), s = .slice A2 n2 c2 ∧ Hid (Grow w wx w.heap.size (Pkt.row ⟨1, src, dst, id, first, press, ack, frame, sum⟩ (.slice A n c)) A2 n2 c2 b3))
          case first =>
            have c7 := G.out.arr.cell (j := 7) (by simp)
            have c8 := G.out.arr.cell (j := 8) (by simp)
            simp only [List.getElem_cons_zero, List.getElem_cons_succ] at c7 c8
            have hl2 := G.out.own.len
            have hn2 := (G.out.own.blk)
            refine wp_region_noPanic ?_
            refine wp_region_held_drew (S := (fun w' => w'.cell? ⟨w.heap.size, 7, none⟩ = some (.int .i64 frame) ∧ w'.cell? ⟨w.heap.size, 8, none⟩ = some (.int .u32 sum))) (by kernel_rfl) ⟨c7, c8⟩ (fun hHeld => ?_)
            refine wpAnyH_take (i := 0) (oi := ?_) (v := ?_) ?_ (by kernel_rfl) (by kernel_rfl) (by kernel_rfl) ?_ ?_ (by assumption) ?_
            rotate_left 2
            · (simp only [List.getElem?_toArray, List.getElem?_cons_zero]; rfl)
            · exact fun _ _ _ h => h
            · (refine Or.inl ⟨by rfl, ?_⟩; intro w hSw; (try dsimp only at hSw); go_simp <;> with_reducible rfl)
            try simp only [Act.put, List.setIfInBounds_toArray, List.set_cons_zero, List.set_cons_succ]
            refine wpAnyH_take (i := 1) (oi := ?_) (v := ?_) ?_ (by kernel_rfl) (by kernel_rfl) (by kernel_rfl) ?_ ?_ (by assumption) ?_
            rotate_left 2
            · (simp only [List.getElem?_toArray, List.getElem?_cons_succ, List.getElem?_cons_zero]; rfl)
            · exact fun _ _ _ h => h
            · (refine Or.inl ⟨by rfl, ?_⟩; intro w hSw; (try dsimp only at hSw); go_simp <;> with_reducible rfl)
            try simp only [Act.put, List.setIfInBounds_toArray, List.set_cons_zero, List.set_cons_succ]
            refine wpAnyH_take (i := 2) (oi := ?_) (v := ?_) ?_ (by kernel_rfl) (by kernel_rfl) (by kernel_rfl) ?_ ?_ (by assumption) ?_
            rotate_left 2
            · (simp only [List.getElem?_toArray, List.getElem?_cons_succ, List.getElem?_cons_zero]; rfl)
            · exact fun _ _ _ h => h
            · (refine Or.inl ⟨by rfl, ?_⟩; intro w hSw; (try dsimp only at hSw); go_simp <;> with_reducible rfl)
            try simp only [Act.put, List.setIfInBounds_toArray, List.set_cons_zero, List.set_cons_succ]
            refine wpAnyH_take (i := 5) (oi := ?_) (v := ?_) ?_ (by kernel_rfl) (by kernel_rfl) (by kernel_rfl) ?_ ?_ (by assumption) ?_
            rotate_left 2
            · (simp only [List.getElem?_toArray, List.getElem?_cons_succ, List.getElem?_cons_zero]; rfl)
            · exact fun _ _ _ h => h
            · (refine Or.inl ⟨by rfl, ?_⟩; intro w hSw; (try dsimp only at hSw); go_simp <;> with_reducible rfl)
            try simp only [Act.put, List.setIfInBounds_toArray, List.set_cons_zero, List.set_cons_succ]
            refine wpAnyH_take (i := 6) (oi := ?_) (v := ?_) ?_ (by kernel_rfl) (by kernel_rfl) (by kernel_rfl) ?_ ?_ (by assumption) ?_
            rotate_left 2
            · (simp only [List.getElem?_toArray, List.getElem?_cons_succ, List.getElem?_cons_zero]; rfl)
            · exact fun _ _ _ h => h
            · (refine Or.inl ⟨by rfl, ?_⟩; intro w hSw; (try dsimp only at hSw); go_simp <;> with_reducible rfl)
            try simp only [Act.put, List.setIfInBounds_toArray, List.set_cons_zero, List.set_cons_succ]
            refine wpAnyH_ready (rs := [3]) (by kernel_rfl) (by simp) ?_
            refine AllReadyH.cons (o := ?_) ?_ (fun K hK => ?_) AllReadyH.nil
            rotate_left 1
            · (simp only [List.getElem?_toArray, List.getElem?_cons_succ, List.getElem?_cons_zero]; rfl)
            go_simp
            (go_at_call 27; (refine Calls.mono (ref_Put_v (v := frame) (by omega) (by omega) X3.out) ?_); rintro e w3 ⟨A3, n3, c3', rfl, own3, hb3⟩)
            have G3 := G.out.drew.below hb3
            have hl3 := own3.len; have O3 := hide own3; clear own3 hb3
            refine hK.out _ _ ⟨G3.arr.cell (j := 7) (by simp), G3.arr.cell (j := 8) (by simp)⟩ (fun hHeld => ?_)
            clear hK K
            try simp only [Act.put, List.setIfInBounds_toArray, List.set_cons_zero, List.set_cons_succ]
            refine wpAnyH_ready (rs := [4]) (by kernel_rfl) (by simp) ?_
            refine AllReadyH.cons (o := ?_) ?_ (fun K hK => ?_) AllReadyH.nil
            rotate_left 1
            · (simp only [List.getElem?_toArray, List.getElem?_cons_succ, List.getElem?_cons_zero]; rfl)
            refine step_appendB rfl (.tmp 33) (.tmp 36) rfl w.heap.size A2 n2 c2 b2 rfl G3.own _ A3 n3 c3' _ rfl O3.out.lies (n2 + n3) _ rfl rfl (by omega) G3.size ?_
            intro A4 c4' w4 own4 k4 hk4
            have G4 := G3.put k4 own4
            have hl4 := own4.len; clear own4 k4 hk4
            refine hK.out _ _ ⟨G4.arr.cell (j := 7) (by simp), G4.arr.cell (j := 8) (by simp)⟩ (fun hHeld => ?_)
            clear hK K
            try simp only [Act.put]
            refine wpAnyH_ready (rs := [7]) (by kernel_rfl) (by simp) ?_
            refine AllReadyH.cons (o := ?_) ?_ (fun K hK => ?_) AllReadyH.nil
            rotate_left 1
            · (simp only [List.getElem?_toArray, List.getElem?_cons_succ, List.getElem?_cons_zero]; rfl)
            go_simp
            (go_at_call 28; (refine Calls.mono (ref_Four_v HW1.out HW2.out X4.out) ?_); rintro e w5 ⟨A5, n5, c5', rfl, own5, hb5⟩)
            have G5 := G4.below hb5
            have hl5 := own5.len; have O5 := hide own5; clear own5 hb5
            refine hK.out _ _ ⟨G5.arr.cell (j := 7) (by simp), G5.arr.cell (j := 8) (by simp)⟩ (fun hHeld => ?_)
            clear hK K
            try simp only [Act.put, List.setIfInBounds_toArray, List.set_cons_zero, List.set_cons_succ]
            refine wpAnyH_ready (rs := [8]) (by kernel_rfl) (by simp) ?_
            refine AllReadyH.cons (o := ?_) ?_ (fun K hK => ?_) AllReadyH.nil
            rotate_left 1
            · (simp only [List.getElem?_toArray, List.getElem?_cons_succ, List.getElem?_cons_zero]; rfl)
            (refine step_appendB rfl (.tmp 37) (.tmp 40) rfl w.heap.size A4 (n2 + n3) c4' _ rfl G5.own _ A5 n5 c5' _ rfl O5.out.lies (n2 + n3 + n5) _ rfl HB3'.out (by omega) G5.size ?_; intro A6 c6' w6 own6 k6 hk6)
            have G6 := G5.put k6 own6
            refine hK.out _ _ ⟨G6.arr.cell (j := 7) (by simp), G6.arr.cell (j := 8) (by simp)⟩ (fun hHeld => ?_)
            clear hK K
            try simp only [Act.put]
            refine wpAnyH_take (i := 9) (oi := ?_) (v := ?_) ?_ (by kernel_rfl) (by kernel_rfl) (by kernel_rfl) ?_ ?_ (by assumption) ?_
            rotate_left 2
            · (simp only [List.getElem?_toArray, List.getElem?_cons_succ, List.getElem?_cons_zero]; rfl)
            · exact fun _ _ _ h => h
            · (refine Or.inl ⟨by rfl, ?_⟩; intro w hSw; (try dsimp only at hSw); go_simp <;> with_reducible rfl)
            try simp only [Act.put, List.setIfInBounds_toArray, List.set_cons_zero, List.set_cons_succ]
            refine wpAnyH_done (by kernel_rfl) (NoPanic.normal ?_) _
            go_wp2_with fail
            go_meet
            exact ⟨_, _, _, rfl, G6⟩
          case rest =>
            obtain ⟨A2, n2, c2, rfl, G⟩ := hcut
            go_upto_region 7 with fail
            go_cut [3] (fun s wx => ∃ (A2 : Option Addr) (n2 c2 : Nat), s = .slice A2 n2 c2 ∧ Hid (Grow w wx w.heap.size (Pkt.row ⟨1, src, dst, id, first, press, ack, frame, sum⟩ (.slice A n c)) A2 n2 c2 b4))
            case first =>
              have c5 := G.out.arr.cell (j := 5) (by simp)
              have c8 := G.out.arr.cell (j := 8) (by simp)
              simp only [List.getElem_cons_zero, List.getElem_cons_succ] at c5 c8
              have hl2 := G.out.own.len
              have hn2 := (G.out.own.blk)
              refine wp_region_noPanic ?_
              refine wp_region_held_drew (S := (fun w' => w'.cell? ⟨w.heap.size, 5, none⟩ = some (.slice A n c) ∧ w'.cell? ⟨w.heap.size, 8, none⟩ = some (.int .u32 sum))) (by kernel_rfl) ⟨c5, c8⟩ (fun hHeld => ?_)
              refine wpAnyH_take (i := 0) (oi := ?_) (v := ?_) ?_ (by kernel_rfl) (by kernel_rfl) (by kernel_rfl) ?_ ?_ (by assumption) ?_
              rotate_left 2
              · (simp only [List.getElem?_toArray, List.getElem?_cons_zero]; rfl)
              · exact fun _ _ _ h => h
              · (refine Or.inl ⟨by rfl, ?_⟩; intro w hSw; (try dsimp only at hSw); go_simp <;> with_reducible rfl)
              try simp only [Act.put, List.setIfInBounds_toArray, List.set_cons_zero, List.set_cons_succ]
              refine wpAnyH_take (i := 1) (oi := ?_) (v := ?_) ?_ (by kernel_rfl) (by kernel_rfl) (by kernel_rfl) ?_ ?_ (by assumption) ?_
              rotate_left 2
              · (simp only [List.getElem?_toArray, List.getElem?_cons_succ, List.getElem?_cons_zero]; rfl)
              · exact fun _ _ _ h => h
              · (refine Or.inl ⟨by rfl, ?_⟩; intro w hSw; (try dsimp only at hSw); go_simp <;> with_reducible rfl)
              try simp only [Act.put, List.setIfInBounds_toArray, List.set_cons_zero, List.set_cons_succ]
              refine wpAnyH_take (i := 2) (oi := ?_) (v := ?_) ?_ (by kernel_rfl) (by kernel_rfl) (by kernel_rfl) ?_ ?_ (by assumption) ?_
              rotate_left 2
              · (simp only [List.getElem?_toArray, List.getElem?_cons_succ, List.getElem?_cons_zero]; rfl)
              · exact fun _ _ _ h => h
              · (refine Or.inl ⟨by rfl, ?_⟩; intro w hSw; (try dsimp only at hSw); go_simp <;> with_reducible rfl)
              try simp only [Act.put, List.setIfInBounds_toArray, List.set_cons_zero, List.set_cons_succ]
              refine wpAnyH_take (i := 3) (oi := ?_) (v := ?_) ?_ (by kernel_rfl) (by kernel_rfl) (by kernel_rfl) ?_ ?_ (by assumption) ?_
              rotate_left 2
              · (simp only [List.getElem?_toArray, List.getElem?_cons_succ, List.getElem?_cons_zero]; rfl)
              · exact fun _ _ _ h => h
              · (refine Or.inl ⟨by rfl, ?_⟩; intro w hSw; (try dsimp only at hSw); go_simp <;> with_reducible rfl)
              try simp only [Act.put, List.setIfInBounds_toArray, List.set_cons_zero, List.set_cons_succ]
              refine wpAnyH_take (i := 6) (oi := ?_) (v := ?_) ?_ (by kernel_rfl) (by kernel_rfl) (by kernel_rfl) ?_ ?_ (by assumption) ?_
              rotate_left 2
              · (simp only [List.getElem?_toArray, List.getElem?_cons_succ, List.getElem?_cons_zero]; rfl)
              · exact fun _ _ _ h => h
              · (refine Or.inl ⟨by rfl, ?_⟩; intro w hSw; (try dsimp only at hSw); go_simp <;> with_reducible rfl)
              try simp only [Act.put, List.setIfInBounds_toArray, List.set_cons_zero, List.set_cons_succ]
              refine wpAnyH_take (i := 7) (oi := ?_) (v := ?_) ?_ (by kernel_rfl) (by kernel_rfl) (by kernel_rfl) ?_ ?_ (by assumption) ?_
              rotate_left 2
              · (simp only [List.getElem?_toArray, List.getElem?_cons_succ, List.getElem?_cons_zero]; rfl)
              · exact fun _ _ _ h => h
              · (refine Or.inl ⟨by rfl, ?_⟩; intro w hSw; (try dsimp only at hSw); go_simp <;> with_reducible rfl)
              try simp only [Act.put, List.setIfInBounds_toArray, List.set_cons_zero, List.set_cons_succ]
              refine wpAnyH_ready (rs := [4]) (by kernel_rfl) (by simp) ?_
              refine AllReadyH.cons (o := ?_) ?_ (fun K hK => ?_) AllReadyH.nil
              rotate_left 1
              · (simp only [List.getElem?_toArray, List.getElem?_cons_succ, List.getElem?_cons_zero]; rfl)
              go_simp
              (go_at_call 27; (refine Calls.mono (ref_Put_v (v := (n : Int)) (by omega) (by omega) X5.out) ?_); rintro e w3 ⟨A3, n3, c3', rfl, own3, hb3⟩)
              have G3 := G.out.drew.below hb3
              have hl3 := own3.len; have O3 := hide own3; clear own3 hb3
              refine hK.out _ _ ⟨G3.arr.cell (j := 5) (by simp), G3.arr.cell (j := 8) (by simp)⟩ (fun hHeld => ?_)
              clear hK K
              try simp only [Act.put, List.setIfInBounds_toArray, List.set_cons_zero, List.set_cons_succ]
              refine wpAnyH_ready (rs := [5]) (by kernel_rfl) (by simp) ?_
              refine AllReadyH.cons (o := ?_) ?_ (fun K hK => ?_) AllReadyH.nil
              rotate_left 1
              · (simp only [List.getElem?_toArray, List.getElem?_cons_succ, List.getElem?_cons_zero]; rfl)
              refine step_appendB rfl (.tmp 42) (.tmp 46) rfl w.heap.size A2 n2 c2 b3 rfl G3.own _ A3 n3 c3' _ rfl O3.out.lies (n2 + n3) _ rfl rfl (by omega) G3.size ?_
              intro A4 c4' w4 own4 k4 hk4
              have G4 := G3.put k4 own4
              have hl4 := own4.len; clear own4 k4 hk4
              refine hK.out _ _ ⟨G4.arr.cell (j := 5) (by simp), G4.arr.cell (j := 8) (by simp)⟩ (fun hHeld => ?_)
              clear hK K
              try simp only [Act.put]
              refine wpAnyH_ready (rs := [8]) (by kernel_rfl) (by simp) ?_
              refine AllReadyH.cons (o := ?_) ?_ (fun K hK => ?_) AllReadyH.nil
              rotate_left 1
              · (simp only [List.getElem?_toArray, List.getElem?_cons_succ, List.getElem?_cons_zero]; rfl)
              go_simp
              (go_at_call 29; (refine Calls.mono (ref_Runs_v (LA.out.below (G4.bel.mono HBB.out)) (Nat.le_trans HBB.out G4.size) (by omega) X6.out) ?_); rintro e w5 ⟨A5, n5, c5', rfl, own5, hb5⟩)
              have G5 := G4.below hb5
              have hl5 := own5.len; have O5 := hide own5; clear own5 hb5
              refine hK.out _ _ ⟨G5.arr.cell (j := 5) (by simp), G5.arr.cell (j := 8) (by simp)⟩ (fun hHeld => ?_)
              clear hK K
              try simp only [Act.put, List.setIfInBounds_toArray, List.set_cons_zero, List.set_cons_succ]
              refine wpAnyH_ready (rs := [9]) (by kernel_rfl) (by simp) ?_
              refine AllReadyH.cons (o := ?_) ?_ (fun K hK => ?_) AllReadyH.nil
              rotate_left 1
              · (simp only [List.getElem?_toArray, List.getElem?_cons_succ, List.getElem?_cons_zero]; rfl)
              (refine step_appendB rfl (.tmp 47) (.tmp 50) rfl w.heap.size A4 (n2 + n3) c4' _ rfl G5.own _ A5 n5 c5' _ rfl O5.out.lies (n2 + n3 + n5) _ rfl HB4'.out (by omega) G5.size ?_; intro A6 c6' w6 own6 k6 hk6)
              have G6 := G5.put k6 own6
              refine hK.out _ _ ⟨G6.arr.cell (j := 5) (by simp), G6.arr.cell (j := 8) (by simp)⟩ (fun hHeld => ?_)
              clear hK K
              try simp only [Act.put]
              refine wpAnyH_take (i := 10) (oi := ?_) (v := ?_) ?_ (by kernel_rfl) (by kernel_rfl) (by kernel_rfl) ?_ ?_ (by assumption) ?_
              rotate_left 2
              · (simp only [List.getElem?_toArray, List.getElem?_cons_succ, List.getElem?_cons_zero]; rfl)
              · exact fun _ _ _ h => h
              · (refine Or.inl ⟨by rfl, ?_⟩; intro w hSw; (try dsimp only at hSw); go_simp <;> with_reducible rfl)
              try simp only [Act.put, List.setIfInBounds_toArray, List.set_cons_zero, List.set_cons_succ]
              refine wpAnyH_done (by kernel_rfl) (NoPanic.normal ?_) _
              go_wp2_with fail
              go_meet
              exact ⟨_, _, _, rfl, G6⟩
            case rest =>
              obtain ⟨A2, n2, c2, rfl, G⟩ := hcut
              obtain ⟨s, hs⟩ : ∃ s, s = ((Crc.sum b4).toNat : Int) := ⟨_, rfl⟩
              have HS1 : Hid (0 ≤ s) := by show _ ≤ _; omega
              have HS2 : Hid (s < 4294967296) := by show _ < _; have := (Crc.sum b4).isLt; omega
              have HS := hide hs
              obtain ⟨x7, hx7⟩ : ∃ x, be32 s = x := ⟨_, rfl⟩
              have HX7 := hide hx7
              have hx7l : x7.length = 4 := by rw [← hx7, be32_length]
              clear hs hx7
              go_wp2_with fail
              have hl2 := G.out.own.len
              refine Calls.mono (ref_Sum_v G.out.own.lies (by omega) HS.out) ?_
              rintro e w10 ⟨rfl, rfl⟩
              go_wp2_with fail
              refine Calls.mono (ref_Four_v HS1.out HS2.out HX7.out) ?_
              rintro e w11 ⟨A11, n11, c11, rfl, own11, hb11⟩
              have G11 := hide (G.out.below hb11)
              have L11 := hide own11.lies
              have hl11 := own11.len
              clear own11 hb11
              go_wp2_with (at_builtin; refine wpB_append3 rfl (.tmp 52) (.tmp 55) rfl w.heap.size A2 n2 c2 b4 rfl G11.out.own _ A11 n11 c11 x7 rfl L11.out (n2 + n11) _ rfl rfl (by omega) G11.out.size ?_; intro A12 c12 w12 own12 k12 hk12)
              go_ret
              exact ⟨_, _, _, rfl, by rw [HE.out, ← HBO.out, Pkt.sealB, ← HS.out, HX7.out]; exact own12, (G11.out.put k12 own12).bel⟩
      · have dk : (kind == 1) = false := by simp [k1]
        have HBO : Hid (b1 = Pkt.body ⟨kind, src, dst, id, first, press, ack, frame, sum⟩) := by show _ = _; rw [← HB1'.out, ← X0.out, Pkt.body, Pkt.tail, if_neg k1, List.append_nil]; rfl
        clear k1
        obtain ⟨s, hs⟩ : ∃ s, s = ((Crc.sum b1).toNat : Int) := ⟨_, rfl⟩
        have HS1 : Hid (0 ≤ s) := by show _ ≤ _; omega
        have HS2 : Hid (s < 4294967296) := by show _ < _; have := (Crc.sum b1).isLt; omega
        have HS := hide hs
        obtain ⟨x7, hx7⟩ : ∃ x, be32 s = x := ⟨_, rfl⟩
        have HX7 := hide hx7
        have hx7l : x7.length = 4 := by rw [← hx7, be32_length]
        clear hs hx7
        go_wp2_with fail
        have hl2 := G.out.own.len
        refine Calls.mono (ref_Sum_v G.out.own.lies (by omega) HS.out) ?_
        rintro e w10 ⟨rfl, rfl⟩
        go_wp2_with fail
        refine Calls.mono (ref_Four_v HS1.out HS2.out HX7.out) ?_
        rintro e w11 ⟨A11, n11, c11, rfl, own11, hb11⟩
        have G11 := hide (G.out.below hb11)
        have L11 := hide own11.lies
        have hl11 := own11.len
        clear own11 hb11
        go_wp2_with (at_builtin; refine wpB_append3 rfl (.tmp 52) (.tmp 55) rfl w.heap.size A2 n2 c2 b1 rfl G11.out.own _ A11 n11 c11 x7 rfl L11.out (n2 + n11) _ rfl rfl (by omega) G11.out.size ?_; intro A12 c12 w12 own12 k12 hk12)
        go_ret
        exact ⟨_, _, _, rfl, by rw [HE.out, ← HBO.out, Pkt.sealB, ← HS.out, HX7.out]; exact own12, (G11.out.put k12 own12).bel⟩
end Go.Proofs.Ytcjcmjkpfijhdaa
