/-
  The walk of packet.Encode.
-/
import Derived.Test.YtcjcmjkpfijhdaaPktMem
namespace Go.Proofs.Ytcjcmjkpfijhdaa
open Go.RowKit
set_option linter.unusedVariables false
theorem Pkt.bv_byte (x : Int) : bv (Pkt.byte x) = .int .u8 (x % 256) := by
  unfold Pkt.byte
  exact bv_ofInt (by omega) (by omega)
theorem crc_Sum_v {A : Option Addr} {n c B : Nat} {l : List UInt8} {w : World} {s : Int} (hA : LiesB w B A n l) (hm : n ≤ 9223372036854775807) (hs : s = ((Crc.sum l).toNat : Int)) :
    Calls Try.prog 24 #[.slice A n c] w fun e w' => e = .returned (.int .u32 s) ∧ w = w' := by subst hs; exact crc_Sum A n c B l w hA hm
set_option maxHeartbeats 2000000 in
set_option maxRecDepth 10000 in
theorem packet_Encode (p : Pkt) {A : Option Addr} {n c B : Nat} {w : World} (hA : LiesB w B A n p.press) (hB : B ≤ w.heap.size) (hn : n ≤ 10000) (hw : p.WF) :
    Calls Try.prog 12 #[p.val (.slice A n c)] w fun e w' => ∃ A' n' c', e = .returned (.slice A' n' c') ∧ OwnB w' w.heap.size A' n' c' p.enc ∧ Below w.heap.size w w' ∧ (p.may = false → A' = none ∧ n' = 0 ∧ c' = 0) := by
  have LA := hide hA
  have HL := hide hA.len
  have HBB := hide hB
  have HP : Hid (Arr 25 (w.alloc (.cells (p.row (.slice A n c)).toArray 25)) w.heap.size (p.row (.slice A n c))) := Arr.new 25 w _ _ rfl
  have HB : Hid (Below w.heap.size w (w.alloc (.cells (p.row (.slice A n c)).toArray 25))) := Below_new _ _
  cases hm : p.may
  · have HE : Hid (p.enc = []) := Pkt.enc_nil_iff.2 hm
    have HM := hide hm
    clear hm hA hB hw
    go_enter Try.func12, Try.ntmps12
    go_upto_region 1 with fail
    generalize World.alloc w _ = wx at HP HB ⊢
    go_wp2_with (refine wpP_load rfl (.tmp 1) rfl w.heap.size rfl p (.slice A n c) HP.out ?_)
    refine Calls.mono (packet_May p HL.out (by omega) HM.out.symm) ?_
    rintro e w1 ⟨rfl, hb1⟩
    have HB1 := hide (Below_step HB.out hb1)
    clear hb1
    go_wp2_with fail
    go_ret
    exact ⟨none, 0, 0, rfl, by rw [HE.out]; exact OwnB.nil _ _, HB1.out, fun _ => ⟨rfl, rfl, rfl⟩⟩
  · have hf := Pkt.may_iff.1 hm
    have HE : Hid (p.enc = Pkt.sealB p.body) := by show _ = _; rw [Pkt.enc, if_pos hm]
    have HM := hide hm
    obtain ⟨kind, src, dst, id, first, press, ack, frame, sum⟩ := p
    obtain ⟨-, -, -, hid, hk⟩ := hf
    simp only at hid hk hw LA HL
    have HW := hide hw
    have HK := hide hk
    clear hm hA hB hw hk
    go_enter Try.func12, Try.ntmps12
    go_upto_region 1 with fail
    simp only [Pkt.row] at HP HB
    generalize World.alloc w _ = wx at HP HB ⊢
    go_wp2_with (refine wpP_load rfl (.tmp 1) rfl w.heap.size rfl ⟨kind, src, dst, id, first, press, ack, frame, sum⟩ (.slice A n c) HP.out ?_)
    refine Calls.mono (packet_May ⟨kind, src, dst, id, first, press, ack, frame, sum⟩ HL.out (by omega) HM.out.symm) ?_
    rintro e w1 ⟨rfl, hb1⟩
    have HB1 := hide (Below_step HB.out hb1)
    have HP := hide (HP.out.belowN hb1)
    have c0 := HP.out.cell (j := 0) (by simp)
    have c1 := HP.out.cell (j := 1) (by simp)
    have c2 := HP.out.cell (j := 2) (by simp)
    have c3 := HP.out.cell (j := 3) (by simp)
    simp only [List.getElem_cons_zero, List.getElem_cons_succ] at c0 c1 c2 c3
    have hg := HP.out.lt
    clear hb1
    go_wp2_with fail
    have G0 : Hid (Grow w (w1.alloc (.cells #[.int .u8 (kind % 256), .int .u8 (src % 256), .int .u8 (dst % 256)] 5)) w.heap.size (Pkt.row ⟨kind, src, dst, id, first, press, ack, frame, sum⟩ (.slice A n c)) (some ⟨w1.heap.size, 0, none⟩) 3 3 [Pkt.byte kind, Pkt.byte src, Pkt.byte dst]) :=
      ⟨(OwnB.new w1 _ 3 [Pkt.byte kind, Pkt.byte src, Pkt.byte dst] rfl (by simp [maxLen]) (by simp only [List.map_cons, List.map_nil, Pkt.bv_byte])).base_le HB1.out.size, HP.out.belowN (Below_new _ _), Below_step HB1.out (Below_new _ _)⟩
    refine Calls.mono (num_Put_v G0.out.own G0.out.size (by omega) (by omega) (by omega) rfl) ?_
    rintro e w2 ⟨A2, n2, c2', rfl, own2, hk2⟩
    have G1 := hide (G0.out.put hk2 own2)
    obtain ⟨b1, hb1⟩ : ∃ b, b = [Pkt.byte kind, Pkt.byte src, Pkt.byte dst] ++ Var.put (Var.zig id) := ⟨_, rfl⟩
    rw [← hb1] at G1
    have HB1' := hide hb1
    clear own2 hk2 G0 HP HB HB1 hb1 c0 c1 c2 c3 hg
    have c0 := G1.out.arr.cell (j := 0) (by simp)
    simp only [List.getElem_cons_zero] at c0
    by_cases k1 : kind = 1
    · subst k1
      obtain ⟨hfi, hac, hfr, hpl⟩ : (0 ≤ first ∧ first ≤ 1000) ∧ (0 ≤ ack ∧ ack ≤ 1000) ∧ (0 ≤ frame ∧ frame ≤ 1000) ∧ press.length ≤ 32 := by
        rcases HK.out with h | h
        · exact h.2
        · exact absurd h.1 (by decide)
      have c4 := G1.out.arr.cell (j := 4) (by simp)
      have c6 := G1.out.arr.cell (j := 6) (by simp)
      have c7 := G1.out.arr.cell (j := 7) (by simp)
      simp only [List.getElem_cons_zero, List.getElem_cons_succ] at c4 c6 c7
      have HN2 : Hid (n2 ≤ 13) := by
        show n2 ≤ 13
        have := G1.out.own.len
        rw [HB1'.out, List.length_append] at this
        have := Var.put_len10 (Var.zig id) (Var.zig_lt id (by omega) (by omega))
        simp only [List.length_cons, List.length_nil] at *
        omega
      have i0 : Hid (∀ w, (Instr.index 44 (.agg #[.int .i64 first, .int .i64 ack, .int .i64 frame]) (.int .i64 0)).run Try.prog w = .ok (.int .i64 first) w) := fun w => run_indexA (k := .i64) Try.underlying44 (by kernel_rfl) _ Try.underlying3 rfl [.int .i64 first, .int .i64 ack, .int .i64 frame] 0 rfl (by simp) w
      have i1 : Hid (∀ w, (Instr.index 44 (.agg #[.int .i64 first, .int .i64 ack, .int .i64 frame]) (.int .i64 1)).run Try.prog w = .ok (.int .i64 ack) w) := fun w => run_indexA (k := .i64) Try.underlying44 (by kernel_rfl) _ Try.underlying3 rfl [.int .i64 first, .int .i64 ack, .int .i64 frame] 1 rfl (by simp) w
      have i2 : Hid (∀ w, (Instr.index 44 (.agg #[.int .i64 first, .int .i64 ack, .int .i64 frame]) (.int .i64 2)).run Try.prog w = .ok (.int .i64 frame) w) := fun w => run_indexA (k := .i64) Try.underlying44 (by kernel_rfl) _ Try.underlying3 rfl [.int .i64 first, .int .i64 ack, .int .i64 frame] 2 rfl (by simp) w
      go_wp2_with fail
      go_loopg [3, 32] 3 (fun gg s i wr => ∃ (k n' c' : Nat) (A' : Option Addr) (l' : List UInt8), k ≤ 3 ∧ gg = 3 - k ∧ i = .int .i64 k ∧ s = .slice A' n' c' ∧ Hid (n' ≤ 13 + 10 * k) ∧ Hid (Grow w wr w.heap.size (Pkt.row ⟨1, src, dst, id, first, press, ack, frame, sum⟩ (.slice A n c)) A' n' c' l') ∧ Hid (l' = b1 ++ ([first, ack, frame].take k).flatMap (fun x => Var.put (Var.zig x))))
      case atStart => exact ⟨0, n2, c2', A2, b1, by omega, rfl, rfl, rfl, by have := HN2.out; show _ ≤ _; omega, G1.out, by show _ = _; simp⟩
      case round =>
        obtain ⟨k, n', c', A', l', hk, rfl, rfl, rfl, hn', G, hl'⟩ := hrel
        obtain hk3 | rfl | rfl | rfl : k = 3 ∨ k = 0 ∨ k = 1 ∨ k = 2 := by omega
        · subst hk3
          have hn1 := hn'.out
          have hl5 := G.out.own.len
          have c5 := G.out.arr.cell (j := 5) (by simp)
          have c8 := G.out.arr.cell (j := 8) (by simp)
          simp only [List.getElem_cons_zero, List.getElem_cons_succ] at c5 c8
          obtain ⟨x, hx⟩ : ∃ x, x = Runs.enc 0 press := ⟨_, rfl⟩
          have hx2 : x.length ≤ 64 := by have := Pkt.runs_len _ 0 press (Nat.le_refl _) (by omega); rw [hx]; omega
          have HX := hide hx.symm
          have hnp : press.length = n := HL.out
          have hz10 := Var.put_len10 (Var.zig (n : Int)) (Var.zig_lt (n : Int) (by omega) (by omega))
          obtain ⟨b2, hb2⟩ : ∃ b, b = l' ++ be32 sum ++ Var.put (Var.zig (n : Int)) := ⟨_, rfl⟩
          have HB2 := hide hb2.symm
          have hb2l : b2.length ≤ 60 := by rw [hb2]; simp only [List.length_append, be32_length]; omega
          obtain ⟨b3, hb3⟩ : ∃ b, b = b2 ++ x := ⟨_, rfl⟩
          have HBO : Hid (b3 = Pkt.body ⟨1, src, dst, id, first, press, ack, frame, sum⟩) := by
            show _ = _
            rw [hb3, hb2, hx, hl'.out, HB1'.out, Pkt.body, Pkt.tail, if_pos rfl]
            simp [hnp]
          have HB3 := hide hb3.symm
          obtain ⟨s, hs⟩ : ∃ s, s = ((Crc.sum b3).toNat : Int) := ⟨_, rfl⟩
          have HS1 : Hid (0 ≤ s) := by show _ ≤ _; omega
          have HS2 : Hid (s < 4294967296) := by show _ < _; have := (Crc.sum b3).isLt; omega
          have HS := hide hs
          have hb3l : b3.length ≤ 130 := by rw [hb3, List.length_append]; omega
          have hw1 := HW.out.1
          have hw2 := HW.out.2
          simp only at hw1 hw2
          clear hs hb3 hb2 hx
          go_wp2_with fail
          refine wp_region_noPanic ?_
          refine wp_region_held_drew (S := (fun w' => w'.cell? ⟨w.heap.size, 5, none⟩ = some (.slice A n c) ∧ w'.cell? ⟨w.heap.size, 8, none⟩ = some (.int .u32 sum))) (by kernel_rfl) ⟨c5, c8⟩ (fun hHeld => ?_)
          refine wpAnyH_take (i := 0) (oi := ?_) (v := ?_) ?_ (by kernel_rfl) (by kernel_rfl) (by kernel_rfl) ?_ ?_ (by assumption) ?_
          rotate_left 2
          · (simp only [List.getElem?_toArray, List.getElem?_cons_zero]; rfl)
          · exact fun _ _ _ h => h
          · (refine Or.inl ⟨by rfl, ?_⟩; intro w hSw; (try dsimp only at hSw); go_simp <;> with_reducible rfl)
          try simp only [Act.put, List.setIfInBounds_toArray, List.set_cons_zero, List.set_cons_succ]
          refine wpAnyH_take (i := 1) (oi := ?_) (v := ?_) ?_ (by kernel_rfl) (by kernel_rfl) (by kernel_rfl) ?_ ?_ (by assumption) ?_
          rotate_left 2
          · (simp only [List.getElem?_toArray, List.getElem?_cons_succ, List.getElem?_cons_zero]; rfl)
          · exact fun _ _ _ h => h
          · (refine Or.inl ⟨by rfl, ?_⟩; intro w hSw; (try dsimp only at hSw); go_simp <;> with_reducible rfl)
          try simp only [Act.put, List.setIfInBounds_toArray, List.set_cons_zero, List.set_cons_succ]
          refine wpAnyH_take (i := 2) (oi := ?_) (v := ?_) ?_ (by kernel_rfl) (by kernel_rfl) (by kernel_rfl) ?_ ?_ (by assumption) ?_
          rotate_left 2
          · (simp only [List.getElem?_toArray, List.getElem?_cons_succ, List.getElem?_cons_zero]; rfl)
          · exact fun _ _ _ h => h
          · (refine Or.inl ⟨by rfl, ?_⟩; intro w hSw; (try dsimp only at hSw); go_simp <;> with_reducible rfl)
          try simp only [Act.put, List.setIfInBounds_toArray, List.set_cons_zero, List.set_cons_succ]
          refine wpAnyH_take (i := 5) (oi := ?_) (v := ?_) ?_ (by kernel_rfl) (by kernel_rfl) (by kernel_rfl) ?_ ?_ (by assumption) ?_
          rotate_left 2
          · (simp only [List.getElem?_toArray, List.getElem?_cons_succ, List.getElem?_cons_zero]; rfl)
          · exact fun _ _ _ h => h
          · (refine Or.inl ⟨by rfl, ?_⟩; intro w hSw; (try dsimp only at hSw); go_simp <;> with_reducible rfl)
          try simp only [Act.put, List.setIfInBounds_toArray, List.set_cons_zero, List.set_cons_succ]
          refine wpAnyH_take (i := 6) (oi := ?_) (v := ?_) ?_ (by kernel_rfl) (by kernel_rfl) (by kernel_rfl) ?_ ?_ (by assumption) ?_
          rotate_left 2
          · (simp only [List.getElem?_toArray, List.getElem?_cons_succ, List.getElem?_cons_zero]; rfl)
          · exact fun _ _ _ h => h
          · (refine Or.inl ⟨by rfl, ?_⟩; intro w hSw; (try dsimp only at hSw); go_simp <;> with_reducible rfl)
          try simp only [Act.put, List.setIfInBounds_toArray, List.set_cons_zero, List.set_cons_succ]
          refine wpAnyH_take (i := 7) (oi := ?_) (v := ?_) ?_ (by kernel_rfl) (by kernel_rfl) (by kernel_rfl) ?_ ?_ (by assumption) ?_
          rotate_left 2
          · (simp only [List.getElem?_toArray, List.getElem?_cons_succ, List.getElem?_cons_zero]; rfl)
          · exact fun _ _ _ h => h
          · (refine Or.inl ⟨by rfl, ?_⟩; intro w hSw; (try dsimp only at hSw); go_simp <;> with_reducible rfl)
          try simp only [Act.put, List.setIfInBounds_toArray, List.set_cons_zero, List.set_cons_succ]
          refine wpAnyH_ready (rs := [3]) (by kernel_rfl) (by simp) ?_
          refine AllReadyH.cons (o := ?_) ?_ (fun K hK => ?_) AllReadyH.nil
          rotate_left 1
          · (simp only [List.getElem?_toArray, List.getElem?_cons_succ, List.getElem?_cons_zero]; rfl)
          go_simp
          (go_at_call 22; (refine Calls.mono (num_Four sum _ hw1 hw2) ?_); rintro e w5 ⟨A5, c5', rfl, own5, hb5⟩)
          have G5 := G.out.drew.below hb5
          refine hK.out _ _ ⟨G5.arr.cell (j := 5) (by simp), G5.arr.cell (j := 8) (by simp)⟩ (fun hHeld => ?_)
          clear hK K
          try simp only [Act.put, List.setIfInBounds_toArray, List.set_cons_zero, List.set_cons_succ]
          refine wpAnyH_ready (rs := [4]) (by kernel_rfl) (by simp) ?_
          refine AllReadyH.cons (o := ?_) ?_ (fun K hK => ?_) AllReadyH.nil
          rotate_left 1
          · (simp only [List.getElem?_toArray, List.getElem?_cons_succ, List.getElem?_cons_zero]; rfl)
          (refine step_appendB rfl (.tmp 39) (.tmp 42) rfl w.heap.size A' n' c' l' rfl G5.own _ A5 4 c5' _ rfl own5.lies (n' + 4) _ rfl rfl (by omega) G5.size ?_; intro A6 c6' w6 own6 k6 hk6)
          have G6 := G5.put k6 own6
          refine hK.out _ _ ⟨G6.arr.cell (j := 5) (by simp), G6.arr.cell (j := 8) (by simp)⟩ (fun hHeld => ?_)
          clear hK K
          try simp only [Act.put]
          refine wpAnyH_ready (rs := [8]) (by kernel_rfl) (by simp) ?_
          refine AllReadyH.cons (o := ?_) ?_ (fun K hK => ?_) AllReadyH.nil
          rotate_left 1
          · (simp only [List.getElem?_toArray, List.getElem?_cons_succ, List.getElem?_cons_zero]; rfl)
          go_simp
          (go_at_call 21; (refine Calls.mono (num_Put_v G6.own G6.size (by omega) (by omega) (by omega) HB2.out) ?_); rintro e w7 ⟨A7, n7, c7', rfl, own7, hk7⟩)
          have G7 := G6.put hk7 own7
          refine hK.out _ _ ⟨G7.arr.cell (j := 5) (by simp), G7.arr.cell (j := 8) (by simp)⟩ (fun hHeld => ?_)
          clear hK K
          try simp only [Act.put, List.setIfInBounds_toArray, List.set_cons_zero, List.set_cons_succ]
          refine wpAnyH_take (i := 9) (oi := ?_) (v := ?_) ?_ (by kernel_rfl) (by kernel_rfl) (by kernel_rfl) ?_ ?_ (by assumption) ?_
          rotate_left 2
          · (simp only [List.getElem?_toArray, List.getElem?_cons_succ, List.getElem?_cons_zero]; rfl)
          · exact fun _ _ _ h => h
          · (refine Or.inl ⟨by rfl, ?_⟩; intro w hSw; (try dsimp only at hSw); go_simp <;> with_reducible rfl)
          try simp only [Act.put, List.setIfInBounds_toArray, List.set_cons_zero, List.set_cons_succ]
          refine wpAnyH_done (by kernel_rfl) (NoPanic.normal ?_) _
          have hl7 := G7.own.len
          have c5 := G7.arr.cell (j := 5) (by simp)
          simp only [List.getElem_cons_zero, List.getElem_cons_succ] at c5
          have G7 := hide G7
          clear own5 own6 own7 hb5 k6 hk6 hk7 G5 G6 c8 c4 c6 c7 c0
          go_wp2_with fail
          refine Calls.mono (runs_Encode_v (LA.out.below (G7.out.bel.mono HBB.out)) (Nat.le_trans HBB.out G7.out.size) (by omega) HX.out) ?_
          rintro e w8 ⟨A8, n8, c8', rfl, own8, hb8⟩
          have G8 := hide (G7.out.below hb8)
          have L8 := hide own8.lies
          have hl8 := own8.len
          clear own8 hb8 c5
          go_wp2_with (at_builtin; refine wpB_append3 rfl (.tmp 48) (.tmp 51) rfl w.heap.size A7 n7 c7' b2 rfl G8.out.own _ A8 n8 c8' x rfl L8.out (n7 + n8) b3 rfl HB3.out (by omega) G8.out.size ?_; intro A9 c9 w9 own9 k9 hk9)
          have G9 := hide (G8.out.put k9 own9)
          have hl9 := own9.len
          clear own9 k9 hk9
          refine Calls.mono (crc_Sum_v G9.out.own.lies (by omega) HS.out) ?_
          rintro e w10 ⟨rfl, rfl⟩
          go_wp2_with fail
          refine Calls.mono (num_Four s _ HS1.out HS2.out) ?_
          rintro e w11 ⟨A11, c11, rfl, own11, hb11⟩
          have G11 := hide (G9.out.below hb11)
          have L11 := hide own11.lies
          clear own11 hb11
          go_wp2_with (at_builtin; refine wpB_append3 rfl (.tmp 53) (.tmp 56) rfl w.heap.size A9 (n7 + n8) c9 b3 rfl G11.out.own _ A11 4 c11 _ rfl L11.out (n7 + n8 + 4) _ rfl rfl (by omega) G11.out.size ?_; intro A12 c12 w12 own12 k12 hk12)
          go_ret
          exact ⟨_, _, _, rfl, by rw [HE.out, ← HBO.out, Pkt.sealB, ← HS.out]; exact own12, (G11.out.put k12 own12).bel, fun h => by cases h⟩
        · go_wp2_with (rw [i0.out])
          have hn1 := hn'.out
          refine Calls.mono (num_Put_v G.out.own G.out.size (by omega) (by omega) (by omega) rfl) ?_
          rintro e w5 ⟨A5, n5, c5, rfl, own5, hk5⟩
          have hl5 := own5.len
          have hl6 := G.out.own.len
          have hp10 := Var.put_len10 (Var.zig first) (Var.zig_lt first (by omega) (by omega))
          rw [List.length_append] at hl5
          have G2 := hide (G.out.put hk5 own5)
          clear own5 hk5
          go_wp2_with fail
          go_roundg (3 - 1)
          case measure => omega
          case rel => exact ⟨1, n5, c5, A5, _, by omega, rfl, by go_num, rfl, by show _ ≤ _; omega, G2, by show _ = _; rw [hl'.out]; simp⟩
        · go_wp2_with (rw [i1.out])
          have hn1 := hn'.out
          refine Calls.mono (num_Put_v G.out.own G.out.size (by omega) (by omega) (by omega) rfl) ?_
          rintro e w5 ⟨A5, n5, c5, rfl, own5, hk5⟩
          have hl5 := own5.len
          have hl6 := G.out.own.len
          have hp10 := Var.put_len10 (Var.zig ack) (Var.zig_lt ack (by omega) (by omega))
          rw [List.length_append] at hl5
          have G2 := hide (G.out.put hk5 own5)
          clear own5 hk5
          go_wp2_with fail
          go_roundg (3 - 2)
          case measure => omega
          case rel => exact ⟨2, n5, c5, A5, _, by omega, rfl, by go_num, rfl, by show _ ≤ _; omega, G2, by show _ = _; rw [hl'.out]; simp⟩
        · go_wp2_with (rw [i2.out])
          have hn1 := hn'.out
          refine Calls.mono (num_Put_v G.out.own G.out.size (by omega) (by omega) (by omega) rfl) ?_
          rintro e w5 ⟨A5, n5, c5, rfl, own5, hk5⟩
          have hl5 := own5.len
          have hl6 := G.out.own.len
          have hp10 := Var.put_len10 (Var.zig frame) (Var.zig_lt frame (by omega) (by omega))
          rw [List.length_append] at hl5
          have G2 := hide (G.out.put hk5 own5)
          clear own5 hk5
          go_wp2_with fail
          go_roundg (3 - 3)
          case measure => omega
          case rel => exact ⟨3, n5, c5, A5, _, by omega, rfl, by go_num, rfl, by show _ ≤ _; omega, G2, by show _ = _; rw [hl'.out]; simp⟩
    · have dk : (kind == 1) = false := by simp [k1]
      have HBO : Hid (b1 = Pkt.body ⟨kind, src, dst, id, first, press, ack, frame, sum⟩) := by show _ = _; rw [HB1'.out, Pkt.body, Pkt.tail, if_neg k1, List.append_nil]; rfl
      obtain ⟨s, hs⟩ : ∃ s, s = ((Crc.sum b1).toNat : Int) := ⟨_, rfl⟩
      have HS1 : Hid (0 ≤ s) := by show _ ≤ _; omega
      have HS2 : Hid (s < 4294967296) := by show _ < _; have := (Crc.sum b1).isLt; omega
      have HS := hide hs
      clear hs k1
      go_wp2_with fail
      have hlen : b1.length ≤ 96 := by have := Pkt.enc_short ⟨kind, src, dst, id, first, press, ack, frame, sum⟩; rw [HE.out, Pkt.sealB_len, ← HBO.out] at this; omega
      have hn2 := G1.out.own.len
      refine Calls.mono (crc_Sum_v G1.out.own.lies (by omega) HS.out) ?_
      rintro e w3 ⟨rfl, rfl⟩
      go_wp2_with fail
      refine Calls.mono (num_Four s _ HS1.out HS2.out) ?_
      rintro e w4 ⟨A4, c4, rfl, own4, hb4⟩
      have G2 := hide (G1.out.below hb4)
      have L4 := hide own4.lies
      clear own4 hb4
      go_wp2_with (at_builtin; refine wpB_append3 rfl (.tmp 53) (.tmp 56) rfl w.heap.size A2 n2 c2' b1 rfl G2.out.own _ A4 4 c4 _ rfl L4.out (n2 + 4) _ rfl rfl (by omega) G2.out.size ?_; intro A5 c5 w5 own5 k5 hk5)
      go_ret
      exact ⟨_, _, _, rfl, by rw [HE.out, ← HBO.out, Pkt.sealB, ← HS.out]; exact own5, (G2.out.put k5 own5).bel, fun h => by cases h⟩
end Go.Proofs.Ytcjcmjkpfijhdaa
