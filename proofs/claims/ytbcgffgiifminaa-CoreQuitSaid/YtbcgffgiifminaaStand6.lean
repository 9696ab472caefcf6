/-
  A packet in memory: its block read whole, and bytes that grow beside it.
  The walk of packet.Encode.
  The walk of the document's Packet. (printed by wip/mkpkt2.py)
  The walks of packet's reader: num and four.
-/
import Derived.Test.YtbcgffgiifminaaStand5
namespace Go.Proofs.Ytbcgffgiifminaa
open Go.RowKit
set_option maxRecDepth 10000
set_option linter.unusedVariables false
theorem info_packet : (Try.prog.info? 41).map (·.size) = some 9 := by kernel_rfl
/-- The whole packet is read. -/
theorem wpP_load {ops : Array Oper} {rest : List Oper} {o : Oper} {a : Act} {w : World} {Q : Exit → Act → World → Prop} (hgd : o.guard = none) (x : Operand) (ho : o.op = .load 41 x)
    (g : Nat) (hx : a.eval x = .pointer (some ⟨g, 0, none⟩)) (p : Pkt) (v : Value) (hg : Arr 41 w g (p.row v)) (h : wpList Try.prog ops Q rest (a.put o.dst (p.val v)) w) : wpList Try.prog ops Q (o :: rest) a w :=
  wpList_load_row hgd 41 x ho g hx 41 (p.row v).toArray (0, 0) _ hg Try.underlying41 rfl info_packet h
theorem results_P {fn : Func} {p : Tmp} (h : fn.results = #[.cell p 41]) (tmps : Array Value) (w : World) (g : Nat) (hp : tmps.getD p undef = .pointer (some ⟨g, 0, none⟩)) (q : Pkt) (v : Value) (hg : Arr 41 w g (q.row v)) :
    (results fn tmps).run Try.prog w = .ok (q.val v) w :=
  results_cell_row h tmps w g 41 (q.row v).toArray (0, 0) _ hp hg Try.underlying41 rfl info_packet
theorem results_P2 {fn : Func} {p q : Tmp} (h : fn.results = #[.cell p 41, .tmp q]) (tmps : Array Value) (w : World) (g : Nat) (hp : tmps.getD p undef = .pointer (some ⟨g, 0, none⟩)) (u : Value) (hv : tmps.getD q undef = u) (k : Pkt) (v : Value) (hg : Arr 41 w g (k.row v)) :
    (results fn tmps).run Try.prog w = .ok (.tuple #[k.val v, u]) w := by
  have hp' : tmps[p]?.getD undef = .pointer (some ⟨g, 0, none⟩) := by simpa using hp
  have hv' : tmps[q]?.getD undef = u := by simpa using hv
  have hl := run_loadVar_row (P := Try.prog) w g 41 41 (k.row v).toArray (0, 0) _ hg Try.underlying41 rfl info_packet
  simp [results, h, hp', hv', asAddr, hl]
/-- Bytes that grow beside a packet's block. -/
structure Grow (w wx : World) (g : Nat) (R : List Value) (A : Option Addr) (n c : Nat) (l : List UInt8) : Prop where
  own : OwnB wx w.heap.size A n c l
  arr : Arr 41 wx g R
  bel : Below w.heap.size w wx
section
variable {w wx w' : World} {g n c n' c' : Nat} {R : List Value} {A A' : Option Addr} {l l' : List UInt8}
theorem Grow.put (h : Grow w wx g R A n c l) (hk : Keeps (Mine A n c) wx w') (ho : OwnB w' w.heap.size A' n' c' l') : Grow w w' g R A' n' c' l' :=
  ⟨ho, h.arr.keeps hk fun e => h.own.ne_blk h.arr (by decide) e, h.bel.trans (hk.belowOwn h.own h.bel.size)⟩
theorem Grow.below (h : Grow w wx g R A n c l) (hb : Below wx.heap.size wx w') : Grow w w' g R A n c l := ⟨h.own.below hb, h.arr.belowN hb, Below_step h.bel hb⟩
theorem Grow.drew (h : Grow w wx g R A n c l) : Grow w wx.drew g R A n c l := ⟨h.own.drew, h.arr.drew, ⟨h.bel.os, h.bel.tape, h.bel.output, h.bel.size, h.bel.block⟩⟩
theorem Grow.size (h : Grow w wx g R A n c l) : w.heap.size ≤ wx.heap.size := h.bel.size
end
theorem runs_Encode_v {A : Option Addr} {n c B : Nat} {l x : List UInt8} {w : World} (hA : LiesB w B A n l) (hB : B ≤ w.heap.size) (hn : n ≤ 10000) (hx : Runs.enc 0 l = x) :
    Calls Try.prog 90 #[.slice A n c] w fun e w' => ∃ A' n' c', e = .returned (.slice A' n' c') ∧ OwnB w' w.heap.size A' n' c' x ∧ Below w.heap.size w w' := by subst hx; exact runs_Encode A n c B l w hA hB hn
theorem num_Put_v {A : Option Addr} {n c base : Nat} {l x : List UInt8} {v : Int} {w : World} (hA : OwnB w base A n c l) (hbase : base ≤ w.heap.size) (hn : n ≤ 1000000) (lo : -9223372036854775808 ≤ v) (hi : v ≤ 9223372036854775807) (hx : l ++ Var.put (Var.zig v) = x) :
    Calls Try.prog 88 #[.slice A n c, .int .i64 v] w fun e w' => ∃ A' n' c', e = .returned (.slice A' n' c') ∧ OwnB w' base A' n' c' x ∧ Keeps (Mine A n c) w w' := by subst hx; exact num_Put A n c base l v w hA hbase hn lo hi
end Go.Proofs.Ytbcgffgiifminaa
namespace Go.Proofs.Ytbcgffgiifminaa
open Go.RowKit
set_option maxRecDepth 10000
set_option linter.unusedVariables false
theorem Pkt.bv_byte (x : Int) : bv (Pkt.byte x) = .int .u8 (x % 256) := by
  unfold Pkt.byte
  exact bv_ofInt (by omega) (by omega)
theorem crc_Sum_v {A : Option Addr} {n c B : Nat} {l : List UInt8} {w : World} {s : Int} (hA : LiesB w B A n l) (hm : n ≤ 9223372036854775807) (hs : s = ((Crc.sum l).toNat : Int)) :
    Calls Try.prog 91 #[.slice A n c] w fun e w' => e = .returned (.int .u32 s) ∧ w = w' := by subst hs; exact crc_Sum A n c B l w hA hm
set_option maxHeartbeats 2000000 in
set_option maxRecDepth 10000 in
theorem packet_Encode (p : Pkt) {A : Option Addr} {n c B : Nat} {w : World} (hA : LiesB w B A n p.press) (hB : B ≤ w.heap.size) (hn : n ≤ 10000) (hw : p.WF) :
    Calls Try.prog 80 #[p.val (.slice A n c)] w fun e w' => ∃ A' n' c', e = .returned (.slice A' n' c') ∧ OwnB w' w.heap.size A' n' c' p.enc ∧ Below w.heap.size w w' ∧ (p.may = false → A' = none ∧ n' = 0 ∧ c' = 0) := by
  have LA := hide hA
  have HL := hide hA.len
  have HBB := hide hB
  have HP : Hid (Arr 41 (w.alloc (.cells (p.row (.slice A n c)).toArray 41)) w.heap.size (p.row (.slice A n c))) := Arr.new 41 w _ _ rfl
  have HB : Hid (Below w.heap.size w (w.alloc (.cells (p.row (.slice A n c)).toArray 41))) := Below_new _ _
  cases hm : p.may
  · have HE : Hid (p.enc = []) := Pkt.enc_nil_iff.2 hm
    have HM := hide hm
    clear hm hA hB hw
    go_enter Try.func80, Try.ntmps80
    go_upto_region 1 with fail
    generalize World.alloc w _ = wx at HP HB ⊢
    go_wp2_with (refine wpP_load rfl (.tmp 1) rfl w.heap.size rfl p (.slice A n c) HP.out ?_)
    refine Calls.mono (packet_May p HL.out (by omega) HM.out.symm) ?_
    rintro e w1 ⟨rfl, hb1⟩
    have HB1 := hide (Below_step HB.out hb1)
    clear hb1
    go_wp2_with fail
    go_ret
    exact ⟨none, 0, 0, rfl, by rw [HE.out]; exact OwnB.nil _ _, HB1.out, fun _ => ⟨rfl, rfl, rfl⟩⟩
  · have hf := Pkt.may_iff.1 hm
    have HE : Hid (p.enc = Pkt.sealB p.body) := by show _ = _; rw [Pkt.enc, if_pos hm]
    have HM := hide hm
    obtain ⟨kind, src, dst, id, first, press, ack, frame, sum⟩ := p
    obtain ⟨-, -, -, hid, hk⟩ := hf
    simp only at hid hk hw LA HL
    have HW := hide hw
    have HK := hide hk
    clear hm hA hB hw hk
    go_enter Try.func80, Try.ntmps80
    go_upto_region 1 with fail
    simp only [Pkt.row] at HP HB
    generalize World.alloc w _ = wx at HP HB ⊢
    go_wp2_with (refine wpP_load rfl (.tmp 1) rfl w.heap.size rfl ⟨kind, src, dst, id, first, press, ack, frame, sum⟩ (.slice A n c) HP.out ?_)
    refine Calls.mono (packet_May ⟨kind, src, dst, id, first, press, ack, frame, sum⟩ HL.out (by omega) HM.out.symm) ?_
    rintro e w1 ⟨rfl, hb1⟩
    have HB1 := hide (Below_step HB.out hb1)
    have HP := hide (HP.out.belowN hb1)
    have c0 := HP.out.cell (j := 0) (by simp)
    have c1 := HP.out.cell (j := 1) (by simp)
    have c2 := HP.out.cell (j := 2) (by simp)
    have c3 := HP.out.cell (j := 3) (by simp)
    simp only [List.getElem_cons_zero, List.getElem_cons_succ] at c0 c1 c2 c3
    have hg := HP.out.lt
    clear hb1
    go_wp2_with fail
    have G0 : Hid (Grow w (w1.alloc (.cells #[.int .u8 (kind % 256), .int .u8 (src % 256), .int .u8 (dst % 256)] 5)) w.heap.size (Pkt.row ⟨kind, src, dst, id, first, press, ack, frame, sum⟩ (.slice A n c)) (some ⟨w1.heap.size, 0, none⟩) 3 3 [Pkt.byte kind, Pkt.byte src, Pkt.byte dst]) :=
      ⟨(OwnB.new w1 _ 3 [Pkt.byte kind, Pkt.byte src, Pkt.byte dst] rfl (by simp [maxLen]) (by simp only [List.map_cons, List.map_nil, Pkt.bv_byte])).base_le HB1.out.size, HP.out.belowN (Below_new _ _), Below_step HB1.out (Below_new _ _)⟩
    refine Calls.mono (num_Put_v G0.out.own G0.out.size (by omega) (by omega) (by omega) rfl) ?_
    rintro e w2 ⟨A2, n2, c2', rfl, own2, hk2⟩
    have G1 := hide (G0.out.put hk2 own2)
    obtain ⟨b1, hb1⟩ : ∃ b, b = [Pkt.byte kind, Pkt.byte src, Pkt.byte dst] ++ Var.put (Var.zig id) := ⟨_, rfl⟩
    rw [← hb1] at G1
    have HB1' := hide hb1
    clear own2 hk2 G0 HP HB HB1 hb1 c0 c1 c2 c3 hg
    have c0 := G1.out.arr.cell (j := 0) (by simp)
    simp only [List.getElem_cons_zero] at c0
    by_cases k1 : kind = 1
    · subst k1
      obtain ⟨hfi, hac, hfr, hpl⟩ : (0 ≤ first ∧ first ≤ 1000) ∧ (0 ≤ ack ∧ ack ≤ 1000) ∧ (0 ≤ frame ∧ frame ≤ 1000) ∧ press.length ≤ 32 := by
        rcases HK.out with h | h
        · exact h.2
        · exact absurd h.1 (by decide)
      have c4 := G1.out.arr.cell (j := 4) (by simp)
      have c6 := G1.out.arr.cell (j := 6) (by simp)
      have c7 := G1.out.arr.cell (j := 7) (by simp)
      simp only [List.getElem_cons_zero, List.getElem_cons_succ] at c4 c6 c7
      have HN2 : Hid (n2 ≤ 13) := by
        show n2 ≤ 13
        have := G1.out.own.len
        rw [HB1'.out, List.length_append] at this
        have := Var.put_len10 (Var.zig id) (Var.zig_lt id (by omega) (by omega))
        simp only [List.length_cons, List.length_nil] at *
        omega
      have i0 : Hid (∀ w, (Instr.index 149 (.agg #[.int .i64 first, .int .i64 ack, .int .i64 frame]) (.int .i64 0)).run Try.prog w = .ok (.int .i64 first) w) := fun w => run_indexA (k := .i64) Try.underlying149 (by kernel_rfl) _ Try.underlying3 rfl [.int .i64 first, .int .i64 ack, .int .i64 frame] 0 rfl (by simp) w
      have i1 : Hid (∀ w, (Instr.index 149 (.agg #[.int .i64 first, .int .i64 ack, .int .i64 frame]) (.int .i64 1)).run Try.prog w = .ok (.int .i64 ack) w) := fun w => run_indexA (k := .i64) Try.underlying149 (by kernel_rfl) _ Try.underlying3 rfl [.int .i64 first, .int .i64 ack, .int .i64 frame] 1 rfl (by simp) w
      have i2 : Hid (∀ w, (Instr.index 149 (.agg #[.int .i64 first, .int .i64 ack, .int .i64 frame]) (.int .i64 2)).run Try.prog w = .ok (.int .i64 frame) w) := fun w => run_indexA (k := .i64) Try.underlying149 (by kernel_rfl) _ Try.underlying3 rfl [.int .i64 first, .int .i64 ack, .int .i64 frame] 2 rfl (by simp) w
      go_wp2_with fail
      go_loopg [3, 32] 3 (fun gg s i wr => ∃ (k n' c' : Nat) (A' : Option Addr) (l' : List UInt8), k ≤ 3 ∧ gg = 3 - k ∧ i = .int .i64 k ∧ s = .slice A' n' c' ∧ Hid (n' ≤ 13 + 10 * k) ∧ Hid (Grow w wr w.heap.size (Pkt.row ⟨1, src, dst, id, first, press, ack, frame, sum⟩ (.slice A n c)) A' n' c' l') ∧ Hid (l' = b1 ++ ([first, ack, frame].take k).flatMap (fun x => Var.put (Var.zig x))))
      case atStart => exact ⟨0, n2, c2', A2, b1, by omega, rfl, rfl, rfl, by have := HN2.out; show _ ≤ _; omega, G1.out, by show _ = _; simp⟩
      case round =>
        obtain ⟨k, n', c', A', l', hk, rfl, rfl, rfl, hn', G, hl'⟩ := hrel
        obtain hk3 | rfl | rfl | rfl : k = 3 ∨ k = 0 ∨ k = 1 ∨ k = 2 := by omega
        · subst hk3
          have hn1 := hn'.out
          have hl5 := G.out.own.len
          have c5 := G.out.arr.cell (j := 5) (by simp)
          have c8 := G.out.arr.cell (j := 8) (by simp)
          simp only [List.getElem_cons_zero, List.getElem_cons_succ] at c5 c8
          obtain ⟨x, hx⟩ : ∃ x, x = Runs.enc 0 press := ⟨_, rfl⟩
          have hx2 : x.length ≤ 64 := by have := Pkt.runs_len _ 0 press (Nat.le_refl _) (by omega); rw [hx]; omega
          have HX := hide hx.symm
          have hnp : press.length = n := HL.out
          have hz10 := Var.put_len10 (Var.zig (n : Int)) (Var.zig_lt (n : Int) (by omega) (by omega))
          obtain ⟨b2, hb2⟩ : ∃ b, b = l' ++ be32 sum ++ Var.put (Var.zig (n : Int)) := ⟨_, rfl⟩
          have HB2 := hide hb2.symm
          have hb2l : b2.length ≤ 60 := by rw [hb2]; simp only [List.length_append, be32_length]; omega
          obtain ⟨b3, hb3⟩ : ∃ b, b = b2 ++ x := ⟨_, rfl⟩
          have HBO : Hid (b3 = Pkt.body ⟨1, src, dst, id, first, press, ack, frame, sum⟩) := by
            show _ = _
            rw [hb3, hb2, hx, hl'.out, HB1'.out, Pkt.body, Pkt.tail, if_pos rfl]
            simp [hnp]
          have HB3 := hide hb3.symm
          obtain ⟨s, hs⟩ : ∃ s, s = ((Crc.sum b3).toNat : Int) := ⟨_, rfl⟩
          have HS1 : Hid (0 ≤ s) := by show _ ≤ _; omega
          have HS2 : Hid (s < 4294967296) := by show _ < _; have := (Crc.sum b3).isLt; omega
          have HS := hide hs
          have hb3l : b3.length ≤ 130 := by rw [hb3, List.length_append]; omega
          have hw1 := HW.out.1
          have hw2 := HW.out.2
          simp only at hw1 hw2
          clear hs hb3 hb2 hx
          go_wp2_with fail
          refine wp_region_noPanic ?_
          refine wp_region_held_drew (S := (fun w' => w'.cell? ⟨w.heap.size, 5, none⟩ = some (.slice A n c) ∧ w'.cell? ⟨w.heap.size, 8, none⟩ = some (.int .u32 sum))) (by kernel_rfl) ⟨c5, c8⟩ (fun hHeld => ?_)
          refine wpAnyH_take (i := 0) (oi := ?_) (v := ?_) ?_ (by kernel_rfl) (by kernel_rfl) (by kernel_rfl) ?_ ?_ (by assumption) ?_
          rotate_left 2
          · (simp only [List.getElem?_toArray, List.getElem?_cons_zero]; rfl)
          · exact fun _ _ _ h => h
          · (refine Or.inl ⟨by rfl, ?_⟩; intro w hSw; (try dsimp only at hSw); go_simp <;> with_reducible rfl)
          try simp only [Act.put, List.setIfInBounds_toArray, List.set_cons_zero, List.set_cons_succ]
          refine wpAnyH_take (i := 1) (oi := ?_) (v := ?_) ?_ (by kernel_rfl) (by kernel_rfl) (by kernel_rfl) ?_ ?_ (by assumption) ?_
          rotate_left 2
          · (simp only [List.getElem?_toArray, List.getElem?_cons_succ, List.getElem?_cons_zero]; rfl)
          · exact fun _ _ _ h => h
          · (refine Or.inl ⟨by rfl, ?_⟩; intro w hSw; (try dsimp only at hSw); go_simp <;> with_reducible rfl)
          try simp only [Act.put, List.setIfInBounds_toArray, List.set_cons_zero, List.set_cons_succ]
          refine wpAnyH_take (i := 2) (oi := ?_) (v := ?_) ?_ (by kernel_rfl) (by kernel_rfl) (by kernel_rfl) ?_ ?_ (by assumption) ?_
          rotate_left 2
          · (simp only [List.getElem?_toArray, List.getElem?_cons_succ, List.getElem?_cons_zero]; rfl)
          · exact fun _ _ _ h => h
          · (refine Or.inl ⟨by rfl, ?_⟩; intro w hSw; (try dsimp only at hSw); go_simp <;> with_reducible rfl)
          try simp only [Act.put, List.setIfInBounds_toArray, List.set_cons_zero, List.set_cons_succ]
          refine wpAnyH_take (i := 5) (oi := ?_) (v := ?_) ?_ (by kernel_rfl) (by kernel_rfl) (by kernel_rfl) ?_ ?_ (by assumption) ?_
          rotate_left 2
          · (simp only [List.getElem?_toArray, List.getElem?_cons_succ, List.getElem?_cons_zero]; rfl)
          · exact fun _ _ _ h => h
          · (refine Or.inl ⟨by rfl, ?_⟩; intro w hSw; (try dsimp only at hSw); go_simp <;> with_reducible rfl)
          try simp only [Act.put, List.setIfInBounds_toArray, List.set_cons_zero, List.set_cons_succ]
          refine wpAnyH_take (i := 6) (oi := ?_) (v := ?_) ?_ (by kernel_rfl) (by kernel_rfl) (by kernel_rfl) ?_ ?_ (by assumption) ?_
          rotate_left 2
          · (simp only [List.getElem?_toArray, List.getElem?_cons_succ, List.getElem?_cons_zero]; rfl)
          · exact fun _ _ _ h => h
          · (refine Or.inl ⟨by rfl, ?_⟩; intro w hSw; (try dsimp only at hSw); go_simp <;> with_reducible rfl)
          try simp only [Act.put, List.setIfInBounds_toArray, List.set_cons_zero, List.set_cons_succ]
          refine wpAnyH_take (i := 7) (oi := ?_) (v := ?_) ?_ (by kernel_rfl) (by kernel_rfl) (by kernel_rfl) ?_ ?_ (by assumption) ?_
          rotate_left 2
          · (simp only [List.getElem?_toArray, List.getElem?_cons_succ, List.getElem?_cons_zero]; rfl)
          · exact fun _ _ _ h => h
          · (refine Or.inl ⟨by rfl, ?_⟩; intro w hSw; (try dsimp only at hSw); go_simp <;> with_reducible rfl)
          try simp only [Act.put, List.setIfInBounds_toArray, List.set_cons_zero, List.set_cons_succ]
          refine wpAnyH_ready (rs := [3]) (by kernel_rfl) (by simp) ?_
          refine AllReadyH.cons (o := ?_) ?_ (fun K hK => ?_) AllReadyH.nil
          rotate_left 1
          · (simp only [List.getElem?_toArray, List.getElem?_cons_succ, List.getElem?_cons_zero]; rfl)
          go_simp
          (go_at_call 89; (refine Calls.mono (num_Four sum _ hw1 hw2) ?_); rintro e w5 ⟨A5, c5', rfl, own5, hb5⟩)
          have G5 := G.out.drew.below hb5
          refine hK.out _ _ ⟨G5.arr.cell (j := 5) (by simp), G5.arr.cell (j := 8) (by simp)⟩ (fun hHeld => ?_)
          clear hK K
          try simp only [Act.put, List.setIfInBounds_toArray, List.set_cons_zero, List.set_cons_succ]
          refine wpAnyH_ready (rs := [4]) (by kernel_rfl) (by simp) ?_
          refine AllReadyH.cons (o := ?_) ?_ (fun K hK => ?_) AllReadyH.nil
          rotate_left 1
          · (simp only [List.getElem?_toArray, List.getElem?_cons_succ, List.getElem?_cons_zero]; rfl)
          (refine step_appendB rfl (.tmp 39) (.tmp 42) rfl w.heap.size A' n' c' l' rfl G5.own _ A5 4 c5' _ rfl own5.lies (n' + 4) _ rfl rfl (by omega) G5.size ?_; intro A6 c6' w6 own6 k6 hk6)
          have G6 := G5.put k6 own6
          refine hK.out _ _ ⟨G6.arr.cell (j := 5) (by simp), G6.arr.cell (j := 8) (by simp)⟩ (fun hHeld => ?_)
          clear hK K
          try simp only [Act.put]
          refine wpAnyH_ready (rs := [8]) (by kernel_rfl) (by simp) ?_
          refine AllReadyH.cons (o := ?_) ?_ (fun K hK => ?_) AllReadyH.nil
          rotate_left 1
          · (simp only [List.getElem?_toArray, List.getElem?_cons_succ, List.getElem?_cons_zero]; rfl)
          go_simp
          (go_at_call 88; (refine Calls.mono (num_Put_v G6.own G6.size (by omega) (by omega) (by omega) HB2.out) ?_); rintro e w7 ⟨A7, n7, c7', rfl, own7, hk7⟩)
          have G7 := G6.put hk7 own7
          refine hK.out _ _ ⟨G7.arr.cell (j := 5) (by simp), G7.arr.cell (j := 8) (by simp)⟩ (fun hHeld => ?_)
          clear hK K
          try simp only [Act.put, List.setIfInBounds_toArray, List.set_cons_zero, List.set_cons_succ]
          refine wpAnyH_take (i := 9) (oi := ?_) (v := ?_) ?_ (by kernel_rfl) (by kernel_rfl) (by kernel_rfl) ?_ ?_ (by assumption) ?_
          rotate_left 2
          · (simp only [List.getElem?_toArray, List.getElem?_cons_succ, List.getElem?_cons_zero]; rfl)
          · exact fun _ _ _ h => h
          · (refine Or.inl ⟨by rfl, ?_⟩; intro w hSw; (try dsimp only at hSw); go_simp <;> with_reducible rfl)
          try simp only [Act.put, List.setIfInBounds_toArray, List.set_cons_zero, List.set_cons_succ]
          refine wpAnyH_done (by kernel_rfl) (NoPanic.normal ?_) _
          have hl7 := G7.own.len
          have c5 := G7.arr.cell (j := 5) (by simp)
          simp only [List.getElem_cons_zero, List.getElem_cons_succ] at c5
          have G7 := hide G7
          clear own5 own6 own7 hb5 k6 hk6 hk7 G5 G6 c8 c4 c6 c7 c0
          go_wp2_with fail
          refine Calls.mono (runs_Encode_v (LA.out.below (G7.out.bel.mono HBB.out)) (Nat.le_trans HBB.out G7.out.size) (by omega) HX.out) ?_
          rintro e w8 ⟨A8, n8, c8', rfl, own8, hb8⟩
          have G8 := hide (G7.out.below hb8)
          have L8 := hide own8.lies
          have hl8 := own8.len
          clear own8 hb8 c5
          go_wp2_with (at_builtin; refine wpB_append3 rfl (.tmp 48) (.tmp 51) rfl w.heap.size A7 n7 c7' b2 rfl G8.out.own _ A8 n8 c8' x rfl L8.out (n7 + n8) b3 rfl HB3.out (by omega) G8.out.size ?_; intro A9 c9 w9 own9 k9 hk9)
          have G9 := hide (G8.out.put k9 own9)
          have hl9 := own9.len
          clear own9 k9 hk9
          refine Calls.mono (crc_Sum_v G9.out.own.lies (by omega) HS.out) ?_
          rintro e w10 ⟨rfl, rfl⟩
          go_wp2_with fail
          refine Calls.mono (num_Four s _ HS1.out HS2.out) ?_
          rintro e w11 ⟨A11, c11, rfl, own11, hb11⟩
          have G11 := hide (G9.out.below hb11)
          have L11 := hide own11.lies
          clear own11 hb11
          go_wp2_with (at_builtin; refine wpB_append3 rfl (.tmp 53) (.tmp 56) rfl w.heap.size A9 (n7 + n8) c9 b3 rfl G11.out.own _ A11 4 c11 _ rfl L11.out (n7 + n8 + 4) _ rfl rfl (by omega) G11.out.size ?_; intro A12 c12 w12 own12 k12 hk12)
          go_ret
          exact ⟨_, _, _, rfl, by rw [HE.out, ← HBO.out, Pkt.sealB, ← HS.out]; exact own12, (G11.out.put k12 own12).bel, fun h => by cases h⟩
        · go_wp2_with (rw [i0.out])
          have hn1 := hn'.out
          refine Calls.mono (num_Put_v G.out.own G.out.size (by omega) (by omega) (by omega) rfl) ?_
          rintro e w5 ⟨A5, n5, c5, rfl, own5, hk5⟩
          have hl5 := own5.len
          have hl6 := G.out.own.len
          have hp10 := Var.put_len10 (Var.zig first) (Var.zig_lt first (by omega) (by omega))
          rw [List.length_append] at hl5
          have G2 := hide (G.out.put hk5 own5)
          clear own5 hk5
          go_wp2_with fail
          go_roundg (3 - 1)
          case measure => omega
          case rel => exact ⟨1, n5, c5, A5, _, by omega, rfl, by go_num, rfl, by show _ ≤ _; omega, G2, by show _ = _; rw [hl'.out]; simp⟩
        · go_wp2_with (rw [i1.out])
          have hn1 := hn'.out
          refine Calls.mono (num_Put_v G.out.own G.out.size (by omega) (by omega) (by omega) rfl) ?_
          rintro e w5 ⟨A5, n5, c5, rfl, own5, hk5⟩
          have hl5 := own5.len
          have hl6 := G.out.own.len
          have hp10 := Var.put_len10 (Var.zig ack) (Var.zig_lt ack (by omega) (by omega))
          rw [List.length_append] at hl5
          have G2 := hide (G.out.put hk5 own5)
          clear own5 hk5
          go_wp2_with fail
          go_roundg (3 - 2)
          case measure => omega
          case rel => exact ⟨2, n5, c5, A5, _, by omega, rfl, by go_num, rfl, by show _ ≤ _; omega, G2, by show _ = _; rw [hl'.out]; simp⟩
        · go_wp2_with (rw [i2.out])
          have hn1 := hn'.out
          refine Calls.mono (num_Put_v G.out.own G.out.size (by omega) (by omega) (by omega) rfl) ?_
          rintro e w5 ⟨A5, n5, c5, rfl, own5, hk5⟩
          have hl5 := own5.len
          have hl6 := G.out.own.len
          have hp10 := Var.put_len10 (Var.zig frame) (Var.zig_lt frame (by omega) (by omega))
          rw [List.length_append] at hl5
          have G2 := hide (G.out.put hk5 own5)
          clear own5 hk5
          go_wp2_with fail
          go_roundg (3 - 3)
          case measure => omega
          case rel => exact ⟨3, n5, c5, A5, _, by omega, rfl, by go_num, rfl, by show _ ≤ _; omega, G2, by show _ = _; rw [hl'.out]; simp⟩
    · have dk : (kind == 1) = false := by simp [k1]
      have HBO : Hid (b1 = Pkt.body ⟨kind, src, dst, id, first, press, ack, frame, sum⟩) := by show _ = _; rw [HB1'.out, Pkt.body, Pkt.tail, if_neg k1, List.append_nil]; rfl
      obtain ⟨s, hs⟩ : ∃ s, s = ((Crc.sum b1).toNat : Int) := ⟨_, rfl⟩
      have HS1 : Hid (0 ≤ s) := by show _ ≤ _; omega
      have HS2 : Hid (s < 4294967296) := by show _ < _; have := (Crc.sum b1).isLt; omega
      have HS := hide hs
      clear hs k1
      go_wp2_with fail
      have hlen : b1.length ≤ 96 := by have := Pkt.enc_short ⟨kind, src, dst, id, first, press, ack, frame, sum⟩; rw [HE.out, Pkt.sealB_len, ← HBO.out] at this; omega
      have hn2 := G1.out.own.len
      refine Calls.mono (crc_Sum_v G1.out.own.lies (by omega) HS.out) ?_
      rintro e w3 ⟨rfl, rfl⟩
      go_wp2_with fail
      refine Calls.mono (num_Four s _ HS1.out HS2.out) ?_
      rintro e w4 ⟨A4, c4, rfl, own4, hb4⟩
      have G2 := hide (G1.out.below hb4)
      have L4 := hide own4.lies
      clear own4 hb4
      go_wp2_with (at_builtin; refine wpB_append3 rfl (.tmp 53) (.tmp 56) rfl w.heap.size A2 n2 c2' b1 rfl G2.out.own _ A4 4 c4 _ rfl L4.out (n2 + 4) _ rfl rfl (by omega) G2.out.size ?_; intro A5 c5 w5 own5 k5 hk5)
      go_ret
      exact ⟨_, _, _, rfl, by rw [HE.out, ← HBO.out, Pkt.sealB, ← HS.out]; exact own5, (G2.out.put k5 own5).bel, fun h => by cases h⟩
end Go.Proofs.Ytbcgffgiifminaa
namespace Go.Proofs.Ytbcgffgiifminaa
open Go.RowKit
set_option maxRecDepth 10000
set_option linter.unusedVariables false
theorem ref_Put_v {v : Int} {x : List UInt8} {w : World} (lo : -9223372036854775808 ≤ v) (hi : v ≤ 9223372036854775807) (hx : Var.put (Var.zig v) = x) :
    Calls Try.prog 56 #[.int .i64 v] w fun e w' => ∃ A' n' c', e = .returned (.slice A' n' c') ∧ OwnB w' w.heap.size A' n' c' x ∧ Below w.heap.size w w' := by subst hx; exact ref_Put v w lo hi
theorem ref_Four_v {a : Int} {x : List UInt8} {w : World} (h1 : 0 ≤ a) (h2 : a < 4294967296) (hx : be32 a = x) : Calls Try.prog 57 #[.int .u32 a] w fun e w' =>
    ∃ A' n' c', e = .returned (.slice A' n' c') ∧ OwnB w' w.heap.size A' n' c' x ∧ Below w.heap.size w w' := by
  subst hx
  refine (ref_Four a w h1 h2).mono ?_
  rintro e w' ⟨A, c, rfl, h, hb⟩
  exact ⟨A, 4, c, rfl, h, hb⟩
theorem ref_Runs_v {A : Option Addr} {n c B : Nat} {l x : List UInt8} {w : World} (hA : LiesB w B A n l) (hB : B ≤ w.heap.size) (hn : n ≤ 10000) (hx : Runs.enc 0 l = x) :
    Calls Try.prog 58 #[.slice A n c] w fun e w' => ∃ A' n' c', e = .returned (.slice A' n' c') ∧ OwnB w' w.heap.size A' n' c' x ∧ Below w.heap.size w w' := by subst hx; exact ref_Runs A n c B l w hA hB hn
theorem ref_Sum_v {A : Option Addr} {n c B : Nat} {l : List UInt8} {w : World} {s : Int} (hA : LiesB w B A n l) (hm : n ≤ 9223372036854775807) (hs : s = ((Crc.sum l).toNat : Int)) :
    Calls Try.prog 59 #[.slice A n c] w fun e w' => e = .returned (.int .u32 s) ∧ w = w' := by subst hs; exact ref_Sum A n c B l w hA hm
theorem OwnB.apart {wy w' : World} {by' n c ny cy : Nat} {A Ay : Option Addr} {ly : List UInt8} (hy : OwnB wy by' Ay ny cy ly) (hk : Keeps (Mine A n c) wy w') (hA : ∀ k, some k = (Value.slice A n c).ownBlock → k < by') : OwnB w' by' Ay ny cy ly :=
  hy.keeps hk fun k hk1 hm => by
    have h1 := (hy.blk k hk1).1
    have h2 := hA k hm
    omega
set_option maxHeartbeats 4000000 in
set_option maxRecDepth 10000 in
theorem ref_Packet (p : Pkt) {A : Option Addr} {n c B : Nat} {w : World} (hA : LiesB w B A n p.press) (hB : B ≤ w.heap.size) (hn : n ≤ 10000) (hw : p.WF) :
    Calls Try.prog 21 #[p.val (.slice A n c)] w fun e w' => ∃ A' n' c', e = .returned (.slice A' n' c') ∧ OwnB w' w.heap.size A' n' c' p.enc ∧ Below w.heap.size w w' := by
  have LA := hide hA
  have HL := hide hA.len
  have HBB := hide hB
  have HP : Hid (Arr 41 (w.alloc (.cells (p.row (.slice A n c)).toArray 41)) w.heap.size (p.row (.slice A n c))) := Arr.new 41 w _ _ rfl
  have HB : Hid (Below w.heap.size w (w.alloc (.cells (p.row (.slice A n c)).toArray 41))) := Below_new _ _
  cases hm : p.may
  · have HE : Hid (p.enc = []) := Pkt.enc_nil_iff.2 hm
    have HM := hide hm
    clear hm hA hB hw
    go_enter Try.func21, Try.ntmps21
    go_upto_region 1 with fail
    generalize World.alloc w _ = wx at HP HB ⊢
    go_wp2_with (refine wpP_load rfl (.tmp 1) rfl w.heap.size rfl p (.slice A n c) HP.out ?_)
    refine Calls.mono (ref_MayPacket p HL.out (by omega) HM.out.symm) ?_
    rintro e w1 ⟨rfl, hb1⟩
    have HB1 := hide (Below_step HB.out hb1)
    clear hb1
    go_wp2_with fail
    go_ret
    exact ⟨none, 0, 0, rfl, by rw [HE.out]; exact OwnB.nil _ _, HB1.out⟩
  · have hf := Pkt.may_iff.1 hm
    have HE : Hid (p.enc = Pkt.sealB p.body) := by show _ = _; rw [Pkt.enc, if_pos hm]
    have HM := hide hm
    obtain ⟨kind, src, dst, id, first, press, ack, frame, sum⟩ := p
    obtain ⟨-, -, -, hid, hk⟩ := hf
    simp only at hid hk hw LA HL
    have HW1 := hide hw.1
    have HW2 := hide hw.2
    simp only at HW1 HW2
    have HK := hide hk
    obtain ⟨x0, hx0⟩ : ∃ x, Var.put (Var.zig id) = x := ⟨_, rfl⟩
    have X0 := hide hx0
    have hx0l : x0.length ≤ 10 := by rw [← hx0]; exact Var.put_len10 _ (Var.zig_lt id (by omega) (by omega))
    clear hm hA hB hw hk hx0
    go_enter Try.func21, Try.ntmps21
    go_upto_region 1 with fail
    simp only [Pkt.row] at HP HB
    generalize World.alloc w _ = wx at HP HB ⊢
    go_wp2_with (refine wpP_load rfl (.tmp 1) rfl w.heap.size rfl ⟨kind, src, dst, id, first, press, ack, frame, sum⟩ (.slice A n c) HP.out ?_)
    refine Calls.mono (ref_MayPacket ⟨kind, src, dst, id, first, press, ack, frame, sum⟩ HL.out (by omega) HM.out.symm) ?_
    rintro e w1 ⟨rfl, hb1⟩
    have HB1 := hide (Below_step HB.out hb1)
    have HP := hide (HP.out.belowN hb1)
    clear hb1 HB
    go_upto_region 3 with fail
    obtain ⟨b1, hb1⟩ : ∃ b, [Pkt.byte kind, Pkt.byte src, Pkt.byte dst] ++ x0 = b := ⟨_, rfl⟩
    have HB1' := hide hb1
    have hb1l : b1.length ≤ 13 := by rw [← hb1, List.length_append]; simp; omega
    clear hb1
    go_cut [3] (fun s wx => ∃ (A2 : Option Addr) (n2 c2 : Nat), s = .slice A2 n2 c2 ∧ Hid (Grow w wx w.heap.size (Pkt.row ⟨kind, src, dst, id, first, press, ack, frame, sum⟩ (.slice A n c)) A2 n2 c2 b1))
    case first =>
      have c0 := HP.out.cell (j := 0) (by simp)
      have c1 := HP.out.cell (j := 1) (by simp)
      have c2 := HP.out.cell (j := 2) (by simp)
      have c3 := HP.out.cell (j := 3) (by simp)
      simp only [List.getElem_cons_zero, List.getElem_cons_succ] at c0 c1 c2 c3
      have GN : Hid (∀ wy, Below w.heap.size w wy → Arr 41 wy w.heap.size (Pkt.row ⟨kind, src, dst, id, first, press, ack, frame, sum⟩ (.slice A n c)) → Grow w (wy.alloc (.cells #[.int .u8 (IntKind.u8.wrap kind), .int .u8 (IntKind.u8.wrap src), .int .u8 (IntKind.u8.wrap dst)] 5)) w.heap.size (Pkt.row ⟨kind, src, dst, id, first, press, ack, frame, sum⟩ (.slice A n c)) (some ⟨wy.heap.size, 0, none⟩) 3 3 [Pkt.byte kind, Pkt.byte src, Pkt.byte dst]) := fun wy hb hp =>
        ⟨(OwnB.new wy _ 3 [Pkt.byte kind, Pkt.byte src, Pkt.byte dst] rfl (by simp [maxLen]) (by simp only [List.map_cons, List.map_nil, Pkt.bv_byte, IntKind.wrap_u8])).base_le hb.size, hp.belowN (Below_new _ _), Below_step hb (Below_new _ _)⟩
      refine wp_region_noPanic ?_
      refine wp_region_held_drew (S := (fun w' => w'.cell? ⟨w.heap.size, 0, none⟩ = some (.int .i64 kind) ∧ w'.cell? ⟨w.heap.size, 1, none⟩ = some (.int .i64 src) ∧ w'.cell? ⟨w.heap.size, 2, none⟩ = some (.int .i64 dst) ∧ w'.cell? ⟨w.heap.size, 3, none⟩ = some (.int .i64 id))) (by kernel_rfl) ⟨c0, c1, c2, c3⟩ (fun hHeld => ?_)
      refine wpAnyH_take (i := 0) (oi := ?_) (v := ?_) ?_ (by kernel_rfl) (by kernel_rfl) (by kernel_rfl) ?_ ?_ (by assumption) ?_
      rotate_left 2
      · (simp only [List.getElem?_toArray, List.getElem?_cons_zero]; rfl)
      · exact fun _ _ _ h => h
      · (refine Or.inl ⟨by rfl, ?_⟩; intro w hSw; (try dsimp only at hSw); go_simp <;> with_reducible rfl)
      try simp only [Act.put, List.setIfInBounds_toArray, List.set_cons_zero, List.set_cons_succ]
      refine wpAnyH_take (i := 1) (oi := ?_) (v := ?_) ?_ (by kernel_rfl) (by kernel_rfl) (by kernel_rfl) ?_ ?_ (by assumption) ?_
      rotate_left 2
      · (simp only [List.getElem?_toArray, List.getElem?_cons_succ, List.getElem?_cons_zero]; rfl)
      · exact fun _ _ _ h => h
      · (refine Or.inl ⟨by rfl, ?_⟩; intro w hSw; (try dsimp only at hSw); go_simp <;> with_reducible rfl)
      try simp only [Act.put, List.setIfInBounds_toArray, List.set_cons_zero, List.set_cons_succ]
      refine wpAnyH_take (i := 2) (oi := ?_) (v := ?_) ?_ (by kernel_rfl) (by kernel_rfl) (by kernel_rfl) ?_ ?_ (by assumption) ?_
      rotate_left 2
      · (simp only [List.getElem?_toArray, List.getElem?_cons_succ, List.getElem?_cons_zero]; rfl)
      · exact fun _ _ _ h => h
      · (refine Or.inl ⟨by rfl, ?_⟩; intro w hSw; (try dsimp only at hSw); go_simp <;> with_reducible rfl)
      try simp only [Act.put, List.setIfInBounds_toArray, List.set_cons_zero, List.set_cons_succ]
      refine wpAnyH_take (i := 3) (oi := ?_) (v := ?_) ?_ (by kernel_rfl) (by kernel_rfl) (by kernel_rfl) ?_ ?_ (by assumption) ?_
      rotate_left 2
      · (simp only [List.getElem?_toArray, List.getElem?_cons_succ, List.getElem?_cons_zero]; rfl)
      · exact fun _ _ _ h => h
      · (refine Or.inl ⟨by rfl, ?_⟩; intro w hSw; (try dsimp only at hSw); go_simp <;> with_reducible rfl)
      try simp only [Act.put, List.setIfInBounds_toArray, List.set_cons_zero, List.set_cons_succ]
      refine wpAnyH_take (i := 4) (oi := ?_) (v := ?_) ?_ (by kernel_rfl) (by kernel_rfl) (by kernel_rfl) ?_ ?_ (by assumption) ?_
      rotate_left 2
      · (simp only [List.getElem?_toArray, List.getElem?_cons_succ, List.getElem?_cons_zero]; rfl)
      · exact fun _ _ _ h => h
      · (refine Or.inl ⟨by rfl, ?_⟩; intro w hSw; (try dsimp only at hSw); go_simp <;> with_reducible rfl)
      try simp only [Act.put, List.setIfInBounds_toArray, List.set_cons_zero, List.set_cons_succ]
      refine wpAnyH_take (i := 5) (oi := ?_) (v := ?_) ?_ (by kernel_rfl) (by kernel_rfl) (by kernel_rfl) ?_ ?_ (by assumption) ?_
      rotate_left 2
      · (simp only [List.getElem?_toArray, List.getElem?_cons_succ, List.getElem?_cons_zero]; rfl)
      · exact fun _ _ _ h => h
      · (refine Or.inl ⟨by rfl, ?_⟩; intro w hSw; (try dsimp only at hSw); go_simp <;> with_reducible rfl)
      try simp only [Act.put, List.setIfInBounds_toArray, List.set_cons_zero, List.set_cons_succ]
      refine wpAnyH_take (i := 6) (oi := ?_) (v := ?_) ?_ (by kernel_rfl) (by kernel_rfl) (by kernel_rfl) ?_ ?_ (by assumption) ?_
      rotate_left 2
      · (simp only [List.getElem?_toArray, List.getElem?_cons_succ, List.getElem?_cons_zero]; rfl)
      · exact fun _ _ _ h => h
      · (refine Or.inl ⟨by rfl, ?_⟩; intro w hSw; (try dsimp only at hSw); go_simp <;> with_reducible rfl)
      try simp only [Act.put, List.setIfInBounds_toArray, List.set_cons_zero, List.set_cons_succ]
      refine wpAnyH_take (i := 7) (oi := ?_) (v := ?_) ?_ (by kernel_rfl) (by kernel_rfl) (by kernel_rfl) ?_ ?_ (by assumption) ?_
      rotate_left 2
      · (simp only [List.getElem?_toArray, List.getElem?_cons_succ, List.getElem?_cons_zero]; rfl)
      · exact fun _ _ _ h => h
      · (refine Or.inl ⟨by rfl, ?_⟩; intro w hSw; (try dsimp only at hSw); go_simp <;> with_reducible rfl)
      try simp only [Act.put, List.setIfInBounds_toArray, List.set_cons_zero, List.set_cons_succ]
      refine wpAnyH_take (i := 8) (oi := ?_) (v := ?_) ?_ (by kernel_rfl) (by kernel_rfl) (by kernel_rfl) ?_ ?_ (by assumption) ?_
      rotate_left 2
      · (simp only [List.getElem?_toArray, List.getElem?_cons_succ, List.getElem?_cons_zero]; rfl)
      · exact fun _ _ _ h => h
      · (refine Or.inl ⟨by rfl, ?_⟩; intro w hSw; (try dsimp only at hSw); go_simp <;> with_reducible rfl)
      try simp only [Act.put, List.setIfInBounds_toArray, List.set_cons_zero, List.set_cons_succ]
      refine wpAnyH_take (i := 10) (oi := ?_) (v := ?_) ?_ (by kernel_rfl) (by kernel_rfl) (by kernel_rfl) ?_ ?_ (by assumption) ?_
      rotate_left 2
      · (simp only [List.getElem?_toArray, List.getElem?_cons_succ, List.getElem?_cons_zero]; rfl)
      · exact fun _ _ _ h => h
      · (refine Or.inl ⟨by rfl, ?_⟩; intro w hSw; (try dsimp only at hSw); go_simp <;> with_reducible rfl)
      try simp only [Act.put, List.setIfInBounds_toArray, List.set_cons_zero, List.set_cons_succ]
      refine wpAnyH_take (i := 11) (oi := ?_) (v := ?_) ?_ (by kernel_rfl) (by kernel_rfl) (by kernel_rfl) ?_ ?_ (by assumption) ?_
      rotate_left 2
      · (simp only [List.getElem?_toArray, List.getElem?_cons_succ, List.getElem?_cons_zero]; rfl)
      · exact fun _ _ _ h => h
      · (refine Or.inl ⟨by rfl, ?_⟩; intro w hSw; (try dsimp only at hSw); go_simp <;> with_reducible rfl)
      try simp only [Act.put, List.setIfInBounds_toArray, List.set_cons_zero, List.set_cons_succ]
      refine wpAnyH_ready (rs := [9, 12]) (by kernel_rfl) (by simp) ?_
      refine AllReadyH.cons (o := ?_) ?_ (fun K hK => ?_) ?_
      rotate_left 1
      · (simp only [List.getElem?_toArray, List.getElem?_cons_succ, List.getElem?_cons_zero]; rfl)
      · go_simp
        skip
        have G0 := (GN.out w1 HB1.out HP.out).drew
        refine hK.out _ _ ⟨G0.arr.cell (j := 0) (by simp), G0.arr.cell (j := 1) (by simp), G0.arr.cell (j := 2) (by simp), G0.arr.cell (j := 3) (by simp)⟩ (fun hHeld => ?_)
        clear hK K
        try simp only [Act.put, List.setIfInBounds_toArray, List.set_cons_zero, List.set_cons_succ]
        refine wpAnyH_ready (rs := [12]) (by kernel_rfl) (by simp) ?_
        refine AllReadyH.cons (o := ?_) ?_ (fun K hK => ?_) AllReadyH.nil
        rotate_left 1
        · (simp only [List.getElem?_toArray, List.getElem?_cons_succ, List.getElem?_cons_zero]; rfl)
        go_simp
        (go_at_call 56; (refine Calls.mono (ref_Put_v (by omega) (by omega) X0.out) ?_); rintro e w4 ⟨A4, n4, c4, rfl, own4, hb4⟩)
        have G4 := G0.below hb4
        have hl4 := own4.len
        refine hK.out _ _ ⟨G4.arr.cell (j := 0) (by simp), G4.arr.cell (j := 1) (by simp), G4.arr.cell (j := 2) (by simp), G4.arr.cell (j := 3) (by simp)⟩ (fun hHeld => ?_)
        clear hK K
        try simp only [Act.put, List.setIfInBounds_toArray, List.set_cons_zero, List.set_cons_succ]
        refine wpAnyH_ready (rs := [13]) (by kernel_rfl) (by simp) ?_
        refine AllReadyH.cons (o := ?_) ?_ (fun K hK => ?_) AllReadyH.nil
        rotate_left 1
        · (simp only [List.getElem?_toArray, List.getElem?_cons_succ, List.getElem?_cons_zero]; rfl)
        (refine step_appendB rfl (.tmp 16) (.tmp 19) rfl w.heap.size _ 3 3 _ rfl G4.own _ A4 n4 c4 _ rfl own4.lies (3 + n4) b1 rfl HB1'.out (by omega) G4.size ?_; intro A5 c5 w5 own5 k5 hk5)
        have G5 := G4.put k5 own5
        refine hK.out _ _ ⟨G5.arr.cell (j := 0) (by simp), G5.arr.cell (j := 1) (by simp), G5.arr.cell (j := 2) (by simp), G5.arr.cell (j := 3) (by simp)⟩ (fun hHeld => ?_)
        clear hK K
        try simp only [Act.put]
        refine wpAnyH_take (i := 14) (oi := ?_) (v := ?_) ?_ (by kernel_rfl) (by kernel_rfl) (by kernel_rfl) ?_ ?_ (by assumption) ?_
        rotate_left 2
        · (simp only [List.getElem?_toArray, List.getElem?_cons_succ, List.getElem?_cons_zero]; rfl)
        · exact fun _ _ _ h => h
        · (refine Or.inl ⟨by rfl, ?_⟩; intro w hSw; (try dsimp only at hSw); go_simp <;> with_reducible rfl)
        try simp only [Act.put, List.setIfInBounds_toArray, List.set_cons_zero, List.set_cons_succ]
        refine wpAnyH_done (by kernel_rfl) (NoPanic.normal ?_) _
        go_wp2_with fail
        go_meet
        exact ⟨_, _, _, rfl, G5⟩
      refine AllReadyH.cons (o := ?_) ?_ (fun K hK => ?_) ?_
      rotate_left 1
      · (simp only [List.getElem?_toArray, List.getElem?_cons_succ, List.getElem?_cons_zero]; rfl)
      · go_simp
        refine Calls.mono (ref_Put_v (by omega) (by omega) X0.out) ?_
        rintro e w4 ⟨A4, n4, c4, rfl, own4, hb4⟩
        have HB4 : Below w.heap.size w w4 := Below_step (Below_drewN HB1.out 1) hb4
        have HP4 : Arr 41 w4 w.heap.size (Pkt.row ⟨kind, src, dst, id, first, press, ack, frame, sum⟩ (.slice A n c)) := HP.out.drew.belowN hb4
        have hl4 := own4.len
        refine hK.out _ _ ⟨HP4.cell (j := 0) (by simp), HP4.cell (j := 1) (by simp), HP4.cell (j := 2) (by simp), HP4.cell (j := 3) (by simp)⟩ (fun hHeld => ?_)
        clear hK K
        try simp only [Act.put, List.setIfInBounds_toArray, List.set_cons_zero, List.set_cons_succ]
        refine wpAnyH_ready (rs := [9]) (by kernel_rfl) (by simp) ?_
        refine AllReadyH.cons (o := ?_) ?_ (fun K hK => ?_) AllReadyH.nil
        rotate_left 1
        · (simp only [List.getElem?_toArray, List.getElem?_cons_succ, List.getElem?_cons_zero]; rfl)
        go_simp
        have G0 := GN.out w4 HB4 HP4
        have own4 := own4.below (Below_new w4 (.cells #[.int .u8 (IntKind.u8.wrap kind), .int .u8 (IntKind.u8.wrap src), .int .u8 (IntKind.u8.wrap dst)] 5))
        refine hK.out _ _ ⟨G0.arr.cell (j := 0) (by simp), G0.arr.cell (j := 1) (by simp), G0.arr.cell (j := 2) (by simp), G0.arr.cell (j := 3) (by simp)⟩ (fun hHeld => ?_)
        clear hK K
        try simp only [Act.put, List.setIfInBounds_toArray, List.set_cons_zero, List.set_cons_succ]
        refine wpAnyH_ready (rs := [13]) (by kernel_rfl) (by simp) ?_
        refine AllReadyH.cons (o := ?_) ?_ (fun K hK => ?_) AllReadyH.nil
        rotate_left 1
        · (simp only [List.getElem?_toArray, List.getElem?_cons_succ, List.getElem?_cons_zero]; rfl)
        (refine step_appendB rfl (.tmp 16) (.tmp 19) rfl w.heap.size _ 3 3 _ rfl G0.own _ A4 n4 c4 _ rfl own4.lies (3 + n4) b1 rfl HB1'.out (by omega) G0.size ?_; intro A5 c5 w5 own5 k5 hk5)
        have G5 := G0.put k5 own5
        refine hK.out _ _ ⟨G5.arr.cell (j := 0) (by simp), G5.arr.cell (j := 1) (by simp), G5.arr.cell (j := 2) (by simp), G5.arr.cell (j := 3) (by simp)⟩ (fun hHeld => ?_)
        clear hK K
        try simp only [Act.put]
        refine wpAnyH_take (i := 14) (oi := ?_) (v := ?_) ?_ (by kernel_rfl) (by kernel_rfl) (by kernel_rfl) ?_ ?_ (by assumption) ?_
        rotate_left 2
        · (simp only [List.getElem?_toArray, List.getElem?_cons_succ, List.getElem?_cons_zero]; rfl)
        · exact fun _ _ _ h => h
        · (refine Or.inl ⟨by rfl, ?_⟩; intro w hSw; (try dsimp only at hSw); go_simp <;> with_reducible rfl)
        try simp only [Act.put, List.setIfInBounds_toArray, List.set_cons_zero, List.set_cons_succ]
        refine wpAnyH_done (by kernel_rfl) (NoPanic.normal ?_) _
        go_wp2_with fail
        go_meet
        exact ⟨_, _, _, rfl, G5⟩
      exact AllReadyH.nil
    case rest =>
      obtain ⟨A2, n2, c2, rfl, G⟩ := hcut
      clear HP HB1
      have c0 := G.out.arr.cell (j := 0) (by simp)
      simp only [List.getElem_cons_zero] at c0
      by_cases k1 : kind = 1
      · subst k1
        obtain ⟨hfi, hac, hfr, hpl⟩ : (0 ≤ first ∧ first ≤ 1000) ∧ (0 ≤ ack ∧ ack ≤ 1000) ∧ (0 ≤ frame ∧ frame ≤ 1000) ∧ press.length ≤ 32 := by
          rcases HK.out with h | h
          · exact h.2
          · exact absurd h.1 (by decide)
        have hnp : press.length = n := HL.out
        obtain ⟨x1, hx1⟩ : ∃ x, Var.put (Var.zig first) = x := ⟨_, rfl⟩
        obtain ⟨x2, hx2⟩ : ∃ x, Var.put (Var.zig ack) = x := ⟨_, rfl⟩
        obtain ⟨x3, hx3⟩ : ∃ x, Var.put (Var.zig frame) = x := ⟨_, rfl⟩
        obtain ⟨x4, hx4⟩ : ∃ x, be32 sum = x := ⟨_, rfl⟩
        obtain ⟨x5, hx5⟩ : ∃ x, Var.put (Var.zig (n : Int)) = x := ⟨_, rfl⟩
        obtain ⟨x6, hx6⟩ : ∃ x, Runs.enc 0 press = x := ⟨_, rfl⟩
        have X1 := hide hx1
        have X2 := hide hx2
        have X3 := hide hx3
        have X4 := hide hx4
        have X5 := hide hx5
        have X6 := hide hx6
        have hx1l : x1.length ≤ 10 := by rw [← hx1]; exact Var.put_len10 _ (Var.zig_lt first (by omega) (by omega))
        have hx2l : x2.length ≤ 10 := by rw [← hx2]; exact Var.put_len10 _ (Var.zig_lt ack (by omega) (by omega))
        have hx3l : x3.length ≤ 10 := by rw [← hx3]; exact Var.put_len10 _ (Var.zig_lt frame (by omega) (by omega))
        have hx4l : x4.length = 4 := by rw [← hx4, be32_length]
        have hx5l : x5.length ≤ 10 := by rw [← hx5]; exact Var.put_len10 _ (Var.zig_lt (n : Int) (by omega) (by omega))
        have hx6l : x6.length ≤ 64 := by have := Pkt.runs_len _ 0 press (Nat.le_refl _) (by omega); rw [← hx6]; omega
        obtain ⟨b2, hb2⟩ : ∃ b, b1 ++ x1 ++ x2 = b := ⟨_, rfl⟩
        obtain ⟨b3, hb3⟩ : ∃ b, b2 ++ x3 ++ x4 = b := ⟨_, rfl⟩
        obtain ⟨b4, hb4⟩ : ∃ b, b3 ++ x5 ++ x6 = b := ⟨_, rfl⟩
        have hb2l : b2.length ≤ 33 := by rw [← hb2]; simp only [List.length_append]; omega
        have hb3l : b3.length ≤ 47 := by rw [← hb3]; simp only [List.length_append]; omega
        have hb4l : b4.length ≤ 121 := by rw [← hb4]; simp only [List.length_append]; omega
        have HBO : Hid (b4 = Pkt.body ⟨1, src, dst, id, first, press, ack, frame, sum⟩) := by
          show _ = _
          rw [← hb4, ← hb3, ← hb2, ← hx1, ← hx2, ← hx3, ← hx4, ← hx5, ← hx6, ← HB1'.out, ← X0.out, Pkt.body, Pkt.tail, if_pos rfl]
          simp [hnp]
        have HB2' := hide hb2
        have HB3' := hide hb3
        have HB4' := hide hb4
        clear hx1 hx2 hx3 hx4 hx5 hx6 hb2 hb3 hb4
        go_upto_region 5 with fail
        go_cut [3] (fun s wx => ∃ (A2 : Option Addr) (n2 c2 : Nat), s = .slice A2 n2 c2 ∧ Hid (Grow w wx w.heap.size (Pkt.row ⟨1, src, dst, id, first, press, ack, frame, sum⟩ (.slice A n c)) A2 n2 c2 b2))
        case first =>
          have c4 := G.out.arr.cell (j := 4) (by simp)
          have c6 := G.out.arr.cell (j := 6) (by simp)
          simp only [List.getElem_cons_zero, List.getElem_cons_succ] at c4 c6
          have hl2 := G.out.own.len
          have hn2 := (G.out.own.blk)
          refine wp_region_noPanic ?_
          refine wp_region_held_drew (S := (fun w' => w'.cell? ⟨w.heap.size, 4, none⟩ = some (.int .i64 first) ∧ w'.cell? ⟨w.heap.size, 6, none⟩ = some (.int .i64 ack))) (by kernel_rfl) ⟨c4, c6⟩ (fun hHeld => ?_)
          refine wpAnyH_take (i := 0) (oi := ?_) (v := ?_) ?_ (by kernel_rfl) (by kernel_rfl) (by kernel_rfl) ?_ ?_ (by assumption) ?_
          rotate_left 2
          · (simp only [List.getElem?_toArray, List.getElem?_cons_zero]; rfl)
          · exact fun _ _ _ h => h
          · (refine Or.inl ⟨by rfl, ?_⟩; intro w hSw; (try dsimp only at hSw); go_simp <;> with_reducible rfl)
          try simp only [Act.put, List.setIfInBounds_toArray, List.set_cons_zero, List.set_cons_succ]
          refine wpAnyH_take (i := 1) (oi := ?_) (v := ?_) ?_ (by kernel_rfl) (by kernel_rfl) (by kernel_rfl) ?_ ?_ (by assumption) ?_
          rotate_left 2
          · (simp only [List.getElem?_toArray, List.getElem?_cons_succ, List.getElem?_cons_zero]; rfl)
          · exact fun _ _ _ h => h
          · (refine Or.inl ⟨by rfl, ?_⟩; intro w hSw; (try dsimp only at hSw); go_simp <;> with_reducible rfl)
          try simp only [Act.put, List.setIfInBounds_toArray, List.set_cons_zero, List.set_cons_succ]
          refine wpAnyH_take (i := 2) (oi := ?_) (v := ?_) ?_ (by kernel_rfl) (by kernel_rfl) (by kernel_rfl) ?_ ?_ (by assumption) ?_
          rotate_left 2
          · (simp only [List.getElem?_toArray, List.getElem?_cons_succ, List.getElem?_cons_zero]; rfl)
          · exact fun _ _ _ h => h
          · (refine Or.inl ⟨by rfl, ?_⟩; intro w hSw; (try dsimp only at hSw); go_simp <;> with_reducible rfl)
          try simp only [Act.put, List.setIfInBounds_toArray, List.set_cons_zero, List.set_cons_succ]
          refine wpAnyH_take (i := 5) (oi := ?_) (v := ?_) ?_ (by kernel_rfl) (by kernel_rfl) (by kernel_rfl) ?_ ?_ (by assumption) ?_
          rotate_left 2
          · (simp only [List.getElem?_toArray, List.getElem?_cons_succ, List.getElem?_cons_zero]; rfl)
          · exact fun _ _ _ h => h
          · (refine Or.inl ⟨by rfl, ?_⟩; intro w hSw; (try dsimp only at hSw); go_simp <;> with_reducible rfl)
          try simp only [Act.put, List.setIfInBounds_toArray, List.set_cons_zero, List.set_cons_succ]
          refine wpAnyH_take (i := 6) (oi := ?_) (v := ?_) ?_ (by kernel_rfl) (by kernel_rfl) (by kernel_rfl) ?_ ?_ (by assumption) ?_
          rotate_left 2
          · (simp only [List.getElem?_toArray, List.getElem?_cons_succ, List.getElem?_cons_zero]; rfl)
          · exact fun _ _ _ h => h
          · (refine Or.inl ⟨by rfl, ?_⟩; intro w hSw; (try dsimp only at hSw); go_simp <;> with_reducible rfl)
          try simp only [Act.put, List.setIfInBounds_toArray, List.set_cons_zero, List.set_cons_succ]
          refine wpAnyH_ready (rs := [3]) (by kernel_rfl) (by simp) ?_
          refine AllReadyH.cons (o := ?_) ?_ (fun K hK => ?_) AllReadyH.nil
          rotate_left 1
          · (simp only [List.getElem?_toArray, List.getElem?_cons_succ, List.getElem?_cons_zero]; rfl)
          go_simp
          (go_at_call 56; (refine Calls.mono (ref_Put_v (v := first) (by omega) (by omega) X1.out) ?_); rintro e w3 ⟨A3, n3, c3', rfl, own3, hb3⟩)
          have G3 := G.out.drew.below hb3
          have hl3 := own3.len; have O3 := hide own3; clear own3 hb3
          refine hK.out _ _ ⟨G3.arr.cell (j := 4) (by simp), G3.arr.cell (j := 6) (by simp)⟩ (fun hHeld => ?_)
          clear hK K
          try simp only [Act.put, List.setIfInBounds_toArray, List.set_cons_zero, List.set_cons_succ]
          refine wpAnyH_ready (rs := [4]) (by kernel_rfl) (by simp) ?_
          refine AllReadyH.cons (o := ?_) ?_ (fun K hK => ?_) AllReadyH.nil
          rotate_left 1
          · (simp only [List.getElem?_toArray, List.getElem?_cons_succ, List.getElem?_cons_zero]; rfl)
          refine step_appendB rfl (.tmp 24) (.tmp 27) rfl w.heap.size A2 n2 c2 b1 rfl G3.own _ A3 n3 c3' _ rfl O3.out.lies (n2 + n3) _ rfl rfl (by omega) G3.size ?_
          intro A4 c4' w4 own4 k4 hk4
          have G4 := G3.put k4 own4
          have hl4 := own4.len; clear own4 k4 hk4
          refine hK.out _ _ ⟨G4.arr.cell (j := 4) (by simp), G4.arr.cell (j := 6) (by simp)⟩ (fun hHeld => ?_)
          clear hK K
          try simp only [Act.put]
          refine wpAnyH_ready (rs := [7]) (by kernel_rfl) (by simp) ?_
          refine AllReadyH.cons (o := ?_) ?_ (fun K hK => ?_) AllReadyH.nil
          rotate_left 1
          · (simp only [List.getElem?_toArray, List.getElem?_cons_succ, List.getElem?_cons_zero]; rfl)
          go_simp
          (go_at_call 56; (refine Calls.mono (ref_Put_v (v := ack) (by omega) (by omega) X2.out) ?_); rintro e w5 ⟨A5, n5, c5', rfl, own5, hb5⟩)
          have G5 := G4.below hb5
          have hl5 := own5.len; have O5 := hide own5; clear own5 hb5
          refine hK.out _ _ ⟨G5.arr.cell (j := 4) (by simp), G5.arr.cell (j := 6) (by simp)⟩ (fun hHeld => ?_)
          clear hK K
          try simp only [Act.put, List.setIfInBounds_toArray, List.set_cons_zero, List.set_cons_succ]
          refine wpAnyH_ready (rs := [8]) (by kernel_rfl) (by simp) ?_
          refine AllReadyH.cons (o := ?_) ?_ (fun K hK => ?_) AllReadyH.nil
          rotate_left 1
          · (simp only [List.getElem?_toArray, List.getElem?_cons_succ, List.getElem?_cons_zero]; rfl)
          (refine step_appendB rfl (.tmp 28) (.tmp 31) rfl w.heap.size A4 (n2 + n3) c4' _ rfl G5.own _ A5 n5 c5' _ rfl O5.out.lies (n2 + n3 + n5) _ rfl HB2'.out (by omega) G5.size ?_; intro A6 c6' w6 own6 k6 hk6)
          have G6 := G5.put k6 own6
          refine hK.out _ _ ⟨G6.arr.cell (j := 4) (by simp), G6.arr.cell (j := 6) (by simp)⟩ (fun hHeld => ?_)
          clear hK K
          try simp only [Act.put]
          refine wpAnyH_take (i := 9) (oi := ?_) (v := ?_) ?_ (by kernel_rfl) (by kernel_rfl) (by kernel_rfl) ?_ ?_ (by assumption) ?_
          rotate_left 2
          · (simp only [List.getElem?_toArray, List.getElem?_cons_succ, List.getElem?_cons_zero]; rfl)
          · exact fun _ _ _ h => h
          · (refine Or.inl ⟨by rfl, ?_⟩; intro w hSw; (try dsimp only at hSw); go_simp <;> with_reducible rfl)
          try simp only [Act.put, List.setIfInBounds_toArray, List.set_cons_zero, List.set_cons_succ]
          refine wpAnyH_done (by kernel_rfl) (NoPanic.normal ?_) _
          go_wp2_with fail
          go_meet
          exact ⟨_, _, _, rfl, G6⟩
        case rest =>
          obtain ⟨A2, n2, c2, rfl, G⟩ := hcut
          go_upto_region 6 with fail
          go_cut [3] (fun s wx => ∃ (A2 : Option Addr) (n2 c2 : Nat), s = .slice A2 n2 c2 ∧ Hid (Grow w wx w.heap.size (Pkt.row ⟨1, src, dst, id, first, press, ack, frame, sum⟩ (.slice A n c)) A2 n2 c2 b3))
          case first =>
            have c7 := G.out.arr.cell (j := 7) (by simp)
            have c8 := G.out.arr.cell (j := 8) (by simp)
            simp only [List.getElem_cons_zero, List.getElem_cons_succ] at c7 c8
            have hl2 := G.out.own.len
            have hn2 := (G.out.own.blk)
            refine wp_region_noPanic ?_
            refine wp_region_held_drew (S := (fun w' => w'.cell? ⟨w.heap.size, 7, none⟩ = some (.int .i64 frame) ∧ w'.cell? ⟨w.heap.size, 8, none⟩ = some (.int .u32 sum))) (by kernel_rfl) ⟨c7, c8⟩ (fun hHeld => ?_)
            refine wpAnyH_take (i := 0) (oi := ?_) (v := ?_) ?_ (by kernel_rfl) (by kernel_rfl) (by kernel_rfl) ?_ ?_ (by assumption) ?_
            rotate_left 2
            · (simp only [List.getElem?_toArray, List.getElem?_cons_zero]; rfl)
            · exact fun _ _ _ h => h
            · (refine Or.inl ⟨by rfl, ?_⟩; intro w hSw; (try dsimp only at hSw); go_simp <;> with_reducible rfl)
            try simp only [Act.put, List.setIfInBounds_toArray, List.set_cons_zero, List.set_cons_succ]
            refine wpAnyH_take (i := 1) (oi := ?_) (v := ?_) ?_ (by kernel_rfl) (by kernel_rfl) (by kernel_rfl) ?_ ?_ (by assumption) ?_
            rotate_left 2
            · (simp only [List.getElem?_toArray, List.getElem?_cons_succ, List.getElem?_cons_zero]; rfl)
            · exact fun _ _ _ h => h
            · (refine Or.inl ⟨by rfl, ?_⟩; intro w hSw; (try dsimp only at hSw); go_simp <;> with_reducible rfl)
            try simp only [Act.put, List.setIfInBounds_toArray, List.set_cons_zero, List.set_cons_succ]
            refine wpAnyH_take (i := 2) (oi := ?_) (v := ?_) ?_ (by kernel_rfl) (by kernel_rfl) (by kernel_rfl) ?_ ?_ (by assumption) ?_
            rotate_left 2
            · (simp only [List.getElem?_toArray, List.getElem?_cons_succ, List.getElem?_cons_zero]; rfl)
            · exact fun _ _ _ h => h
            · (refine Or.inl ⟨by rfl, ?_⟩; intro w hSw; (try dsimp only at hSw); go_simp <;> with_reducible rfl)
            try simp only [Act.put, List.setIfInBounds_toArray, List.set_cons_zero, List.set_cons_succ]
            refine wpAnyH_take (i := 5) (oi := ?_) (v := ?_) ?_ (by kernel_rfl) (by kernel_rfl) (by kernel_rfl) ?_ ?_ (by assumption) ?_
            rotate_left 2
            · (simp only [List.getElem?_toArray, List.getElem?_cons_succ, List.getElem?_cons_zero]; rfl)
            · exact fun _ _ _ h => h
            · (refine Or.inl ⟨by rfl, ?_⟩; intro w hSw; (try dsimp only at hSw); go_simp <;> with_reducible rfl)
            try simp only [Act.put, List.setIfInBounds_toArray, List.set_cons_zero, List.set_cons_succ]
            refine wpAnyH_take (i := 6) (oi := ?_) (v := ?_) ?_ (by kernel_rfl) (by kernel_rfl) (by kernel_rfl) ?_ ?_ (by assumption) ?_
            rotate_left 2
            · (simp only [List.getElem?_toArray, List.getElem?_cons_succ, List.getElem?_cons_zero]; rfl)
            · exact fun _ _ _ h => h
            · (refine Or.inl ⟨by rfl, ?_⟩; intro w hSw; (try dsimp only at hSw); go_simp <;> with_reducible rfl)
            try simp only [Act.put, List.setIfInBounds_toArray, List.set_cons_zero, List.set_cons_succ]
            refine wpAnyH_ready (rs := [3]) (by kernel_rfl) (by simp) ?_
            refine AllReadyH.cons (o := ?_) ?_ (fun K hK => ?_) AllReadyH.nil
            rotate_left 1
            · (simp only [List.getElem?_toArray, List.getElem?_cons_succ, List.getElem?_cons_zero]; rfl)
            go_simp
            (go_at_call 56; (refine Calls.mono (ref_Put_v (v := frame) (by omega) (by omega) X3.out) ?_); rintro e w3 ⟨A3, n3, c3', rfl, own3, hb3⟩)
            have G3 := G.out.drew.below hb3
            have hl3 := own3.len; have O3 := hide own3; clear own3 hb3
            refine hK.out _ _ ⟨G3.arr.cell (j := 7) (by simp), G3.arr.cell (j := 8) (by simp)⟩ (fun hHeld => ?_)
            clear hK K
            try simp only [Act.put, List.setIfInBounds_toArray, List.set_cons_zero, List.set_cons_succ]
            refine wpAnyH_ready (rs := [4]) (by kernel_rfl) (by simp) ?_
            refine AllReadyH.cons (o := ?_) ?_ (fun K hK => ?_) AllReadyH.nil
            rotate_left 1
            · (simp only [List.getElem?_toArray, List.getElem?_cons_succ, List.getElem?_cons_zero]; rfl)
            refine step_appendB rfl (.tmp 33) (.tmp 36) rfl w.heap.size A2 n2 c2 b2 rfl G3.own _ A3 n3 c3' _ rfl O3.out.lies (n2 + n3) _ rfl rfl (by omega) G3.size ?_
            intro A4 c4' w4 own4 k4 hk4
            have G4 := G3.put k4 own4
            have hl4 := own4.len; clear own4 k4 hk4
            refine hK.out _ _ ⟨G4.arr.cell (j := 7) (by simp), G4.arr.cell (j := 8) (by simp)⟩ (fun hHeld => ?_)
            clear hK K
            try simp only [Act.put]
            refine wpAnyH_ready (rs := [7]) (by kernel_rfl) (by simp) ?_
            refine AllReadyH.cons (o := ?_) ?_ (fun K hK => ?_) AllReadyH.nil
            rotate_left 1
            · (simp only [List.getElem?_toArray, List.getElem?_cons_succ, List.getElem?_cons_zero]; rfl)
            go_simp
            (go_at_call 57; (refine Calls.mono (ref_Four_v HW1.out HW2.out X4.out) ?_); rintro e w5 ⟨A5, n5, c5', rfl, own5, hb5⟩)
            have G5 := G4.below hb5
            have hl5 := own5.len; have O5 := hide own5; clear own5 hb5
            refine hK.out _ _ ⟨G5.arr.cell (j := 7) (by simp), G5.arr.cell (j := 8) (by simp)⟩ (fun hHeld => ?_)
            clear hK K
            try simp only [Act.put, List.setIfInBounds_toArray, List.set_cons_zero, List.set_cons_succ]
            refine wpAnyH_ready (rs := [8]) (by kernel_rfl) (by simp) ?_
            refine AllReadyH.cons (o := ?_) ?_ (fun K hK => ?_) AllReadyH.nil
            rotate_left 1
            · (simp only [List.getElem?_toArray, List.getElem?_cons_succ, List.getElem?_cons_zero]; rfl)
            (refine step_appendB rfl (.tmp 37) (.tmp 40) rfl w.heap.size A4 (n2 + n3) c4' _ rfl G5.own _ A5 n5 c5' _ rfl O5.out.lies (n2 + n3 + n5) _ rfl HB3'.out (by omega) G5.size ?_; intro A6 c6' w6 own6 k6 hk6)
            have G6 := G5.put k6 own6
            refine hK.out _ _ ⟨G6.arr.cell (j := 7) (by simp), G6.arr.cell (j := 8) (by simp)⟩ (fun hHeld => ?_)
            clear hK K
            try simp only [Act.put]
            refine wpAnyH_take (i := 9) (oi := ?_) (v := ?_) ?_ (by kernel_rfl) (by kernel_rfl) (by kernel_rfl) ?_ ?_ (by assumption) ?_
            rotate_left 2
            · (simp only [List.getElem?_toArray, List.getElem?_cons_succ, List.getElem?_cons_zero]; rfl)
            · exact fun _ _ _ h => h
            · (refine Or.inl ⟨by rfl, ?_⟩; intro w hSw; (try dsimp only at hSw); go_simp <;> with_reducible rfl)
            try simp only [Act.put, List.setIfInBounds_toArray, List.set_cons_zero, List.set_cons_succ]
            refine wpAnyH_done (by kernel_rfl) (NoPanic.normal ?_) _
            go_wp2_with fail
            go_meet
            exact ⟨_, _, _, rfl, G6⟩
          case rest =>
            obtain ⟨A2, n2, c2, rfl, G⟩ := hcut
            go_upto_region 7 with fail
            go_cut [3] (fun s wx => ∃ (A2 : Option Addr) (n2 c2 : Nat), s = .slice A2 n2 c2 ∧ Hid (Grow w wx w.heap.size (Pkt.row ⟨1, src, dst, id, first, press, ack, frame, sum⟩ (.slice A n c)) A2 n2 c2 b4))
            case first =>
              have c5 := G.out.arr.cell (j := 5) (by simp)
              have c8 := G.out.arr.cell (j := 8) (by simp)
              simp only [List.getElem_cons_zero, List.getElem_cons_succ] at c5 c8
              have hl2 := G.out.own.len
              have hn2 := (G.out.own.blk)
              refine wp_region_noPanic ?_
              refine wp_region_held_drew (S := (fun w' => w'.cell? ⟨w.heap.size, 5, none⟩ = some (.slice A n c) ∧ w'.cell? ⟨w.heap.size, 8, none⟩ = some (.int .u32 sum))) (by kernel_rfl) ⟨c5, c8⟩ (fun hHeld => ?_)
              refine wpAnyH_take (i := 0) (oi := ?_) (v := ?_) ?_ (by kernel_rfl) (by kernel_rfl) (by kernel_rfl) ?_ ?_ (by assumption) ?_
              rotate_left 2
              · (simp only [List.getElem?_toArray, List.getElem?_cons_zero]; rfl)
              · exact fun _ _ _ h => h
              · (refine Or.inl ⟨by rfl, ?_⟩; intro w hSw; (try dsimp only at hSw); go_simp <;> with_reducible rfl)
              try simp only [Act.put, List.setIfInBounds_toArray, List.set_cons_zero, List.set_cons_succ]
              refine wpAnyH_take (i := 1) (oi := ?_) (v := ?_) ?_ (by kernel_rfl) (by kernel_rfl) (by kernel_rfl) ?_ ?_ (by assumption) ?_
              rotate_left 2
              · (simp only [List.getElem?_toArray, List.getElem?_cons_succ, List.getElem?_cons_zero]; rfl)
              · exact fun _ _ _ h => h
              · (refine Or.inl ⟨by rfl, ?_⟩; intro w hSw; (try dsimp only at hSw); go_simp <;> with_reducible rfl)
              try simp only [Act.put, List.setIfInBounds_toArray, List.set_cons_zero, List.set_cons_succ]
              refine wpAnyH_take (i := 2) (oi := ?_) (v := ?_) ?_ (by kernel_rfl) (by kernel_rfl) (by kernel_rfl) ?_ ?_ (by assumption) ?_
              rotate_left 2
              · (simp only [List.getElem?_toArray, List.getElem?_cons_succ, List.getElem?_cons_zero]; rfl)
              · exact fun _ _ _ h => h
              · (refine Or.inl ⟨by rfl, ?_⟩; intro w hSw; (try dsimp only at hSw); go_simp <;> with_reducible rfl)
              try simp only [Act.put, List.setIfInBounds_toArray, List.set_cons_zero, List.set_cons_succ]
              refine wpAnyH_take (i := 3) (oi := ?_) (v := ?_) ?_ (by kernel_rfl) (by kernel_rfl) (by kernel_rfl) ?_ ?_ (by assumption) ?_
              rotate_left 2
              · (simp only [List.getElem?_toArray, List.getElem?_cons_succ, List.getElem?_cons_zero]; rfl)
              · exact fun _ _ _ h => h
              · (refine Or.inl ⟨by rfl, ?_⟩; intro w hSw; (try dsimp only at hSw); go_simp <;> with_reducible rfl)
              try simp only [Act.put, List.setIfInBounds_toArray, List.set_cons_zero, List.set_cons_succ]
              refine wpAnyH_take (i := 6) (oi := ?_) (v := ?_) ?_ (by kernel_rfl) (by kernel_rfl) (by kernel_rfl) ?_ ?_ (by assumption) ?_
              rotate_left 2
              · (simp only [List.getElem?_toArray, List.getElem?_cons_succ, List.getElem?_cons_zero]; rfl)
              · exact fun _ _ _ h => h
              · (refine Or.inl ⟨by rfl, ?_⟩; intro w hSw; (try dsimp only at hSw); go_simp <;> with_reducible rfl)
              try simp only [Act.put, List.setIfInBounds_toArray, List.set_cons_zero, List.set_cons_succ]
              refine wpAnyH_take (i := 7) (oi := ?_) (v := ?_) ?_ (by kernel_rfl) (by kernel_rfl) (by kernel_rfl) ?_ ?_ (by assumption) ?_
              rotate_left 2
              · (simp only [List.getElem?_toArray, List.getElem?_cons_succ, List.getElem?_cons_zero]; rfl)
              · exact fun _ _ _ h => h
              · (refine Or.inl ⟨by rfl, ?_⟩; intro w hSw; (try dsimp only at hSw); go_simp <;> with_reducible rfl)
              try simp only [Act.put, List.setIfInBounds_toArray, List.set_cons_zero, List.set_cons_succ]
              refine wpAnyH_ready (rs := [4]) (by kernel_rfl) (by simp) ?_
              refine AllReadyH.cons (o := ?_) ?_ (fun K hK => ?_) AllReadyH.nil
              rotate_left 1
              · (simp only [List.getElem?_toArray, List.getElem?_cons_succ, List.getElem?_cons_zero]; rfl)
              go_simp
              (go_at_call 56; (refine Calls.mono (ref_Put_v (v := (n : Int)) (by omega) (by omega) X5.out) ?_); rintro e w3 ⟨A3, n3, c3', rfl, own3, hb3⟩)
              have G3 := G.out.drew.below hb3
              have hl3 := own3.len; have O3 := hide own3; clear own3 hb3
              refine hK.out _ _ ⟨G3.arr.cell (j := 5) (by simp), G3.arr.cell (j := 8) (by simp)⟩ (fun hHeld => ?_)
              clear hK K
              try simp only [Act.put, List.setIfInBounds_toArray, List.set_cons_zero, List.set_cons_succ]
              refine wpAnyH_ready (rs := [5]) (by kernel_rfl) (by simp) ?_
              refine AllReadyH.cons (o := ?_) ?_ (fun K hK => ?_) AllReadyH.nil
              rotate_left 1
              · (simp only [List.getElem?_toArray, List.getElem?_cons_succ, List.getElem?_cons_zero]; rfl)
              refine step_appendB rfl (.tmp 42) (.tmp 46) rfl w.heap.size A2 n2 c2 b3 rfl G3.own _ A3 n3 c3' _ rfl O3.out.lies (n2 + n3) _ rfl rfl (by omega) G3.size ?_
              intro A4 c4' w4 own4 k4 hk4
              have G4 := G3.put k4 own4
              have hl4 := own4.len; clear own4 k4 hk4
              refine hK.out _ _ ⟨G4.arr.cell (j := 5) (by simp), G4.arr.cell (j := 8) (by simp)⟩ (fun hHeld => ?_)
              clear hK K
              try simp only [Act.put]
              refine wpAnyH_ready (rs := [8]) (by kernel_rfl) (by simp) ?_
              refine AllReadyH.cons (o := ?_) ?_ (fun K hK => ?_) AllReadyH.nil
              rotate_left 1
              · (simp only [List.getElem?_toArray, List.getElem?_cons_succ, List.getElem?_cons_zero]; rfl)
              go_simp
              (go_at_call 58; (refine Calls.mono (ref_Runs_v (LA.out.below (G4.bel.mono HBB.out)) (Nat.le_trans HBB.out G4.size) (by omega) X6.out) ?_); rintro e w5 ⟨A5, n5, c5', rfl, own5, hb5⟩)
              have G5 := G4.below hb5
              have hl5 := own5.len; have O5 := hide own5; clear own5 hb5
              refine hK.out _ _ ⟨G5.arr.cell (j := 5) (by simp), G5.arr.cell (j := 8) (by simp)⟩ (fun hHeld => ?_)
              clear hK K
              try simp only [Act.put, List.setIfInBounds_toArray, List.set_cons_zero, List.set_cons_succ]
              refine wpAnyH_ready (rs := [9]) (by kernel_rfl) (by simp) ?_
              refine AllReadyH.cons (o := ?_) ?_ (fun K hK => ?_) AllReadyH.nil
              rotate_left 1
              · (simp only [List.getElem?_toArray, List.getElem?_cons_succ, List.getElem?_cons_zero]; rfl)
              (refine step_appendB rfl (.tmp 47) (.tmp 50) rfl w.heap.size A4 (n2 + n3) c4' _ rfl G5.own _ A5 n5 c5' _ rfl O5.out.lies (n2 + n3 + n5) _ rfl HB4'.out (by omega) G5.size ?_; intro A6 c6' w6 own6 k6 hk6)
              have G6 := G5.put k6 own6
              refine hK.out _ _ ⟨G6.arr.cell (j := 5) (by simp), G6.arr.cell (j := 8) (by simp)⟩ (fun hHeld => ?_)
              clear hK K
              try simp only [Act.put]
              refine wpAnyH_take (i := 10) (oi := ?_) (v := ?_) ?_ (by kernel_rfl) (by kernel_rfl) (by kernel_rfl) ?_ ?_ (by assumption) ?_
              rotate_left 2
              · (simp only [List.getElem?_toArray, List.getElem?_cons_succ, List.getElem?_cons_zero]; rfl)
              · exact fun _ _ _ h => h
              · (refine Or.inl ⟨by rfl, ?_⟩; intro w hSw; (try dsimp only at hSw); go_simp <;> with_reducible rfl)
              try simp only [Act.put, List.setIfInBounds_toArray, List.set_cons_zero, List.set_cons_succ]
              refine wpAnyH_done (by kernel_rfl) (NoPanic.normal ?_) _
              go_wp2_with fail
              go_meet
              exact ⟨_, _, _, rfl, G6⟩
            case rest =>
              obtain ⟨A2, n2, c2, rfl, G⟩ := hcut
              obtain ⟨s, hs⟩ : ∃ s, s = ((Crc.sum b4).toNat : Int) := ⟨_, rfl⟩
              have HS1 : Hid (0 ≤ s) := by show _ ≤ _; omega
              have HS2 : Hid (s < 4294967296) := by show _ < _; have := (Crc.sum b4).isLt; omega
              have HS := hide hs
              obtain ⟨x7, hx7⟩ : ∃ x, be32 s = x := ⟨_, rfl⟩
              have HX7 := hide hx7
              have hx7l : x7.length = 4 := by rw [← hx7, be32_length]
              clear hs hx7
              go_wp2_with fail
              have hl2 := G.out.own.len
              refine Calls.mono (ref_Sum_v G.out.own.lies (by omega) HS.out) ?_
              rintro e w10 ⟨rfl, rfl⟩
              go_wp2_with fail
              refine Calls.mono (ref_Four_v HS1.out HS2.out HX7.out) ?_
              rintro e w11 ⟨A11, n11, c11, rfl, own11, hb11⟩
              have G11 := hide (G.out.below hb11)
              have L11 := hide own11.lies
              have hl11 := own11.len
              clear own11 hb11
              go_wp2_with (at_builtin; refine wpB_append3 rfl (.tmp 52) (.tmp 55) rfl w.heap.size A2 n2 c2 b4 rfl G11.out.own _ A11 n11 c11 x7 rfl L11.out (n2 + n11) _ rfl rfl (by omega) G11.out.size ?_; intro A12 c12 w12 own12 k12 hk12)
              go_ret
              exact ⟨_, _, _, rfl, by rw [HE.out, ← HBO.out, Pkt.sealB, ← HS.out, HX7.out]; exact own12, (G11.out.put k12 own12).bel⟩
      · have dk : (kind == 1) = false := by simp [k1]
        have HBO : Hid (b1 = Pkt.body ⟨kind, src, dst, id, first, press, ack, frame, sum⟩) := by show _ = _; rw [← HB1'.out, ← X0.out, Pkt.body, Pkt.tail, if_neg k1, List.append_nil]; rfl
        clear k1
        obtain ⟨s, hs⟩ : ∃ s, s = ((Crc.sum b1).toNat : Int) := ⟨_, rfl⟩
        have HS1 : Hid (0 ≤ s) := by show _ ≤ _; omega
        have HS2 : Hid (s < 4294967296) := by show _ < _; have := (Crc.sum b1).isLt; omega
        have HS := hide hs
        obtain ⟨x7, hx7⟩ : ∃ x, be32 s = x := ⟨_, rfl⟩
        have HX7 := hide hx7
        have hx7l : x7.length = 4 := by rw [← hx7, be32_length]
        clear hs hx7
        go_wp2_with fail
        have hl2 := G.out.own.len
        refine Calls.mono (ref_Sum_v G.out.own.lies (by omega) HS.out) ?_
        rintro e w10 ⟨rfl, rfl⟩
        go_wp2_with fail
        refine Calls.mono (ref_Four_v HS1.out HS2.out HX7.out) ?_
        rintro e w11 ⟨A11, n11, c11, rfl, own11, hb11⟩
        have G11 := hide (G.out.below hb11)
        have L11 := hide own11.lies
        have hl11 := own11.len
        clear own11 hb11
        go_wp2_with (at_builtin; refine wpB_append3 rfl (.tmp 52) (.tmp 55) rfl w.heap.size A2 n2 c2 b1 rfl G11.out.own _ A11 n11 c11 x7 rfl L11.out (n2 + n11) _ rfl rfl (by omega) G11.out.size ?_; intro A12 c12 w12 own12 k12 hk12)
        go_ret
        exact ⟨_, _, _, rfl, by rw [HE.out, ← HBO.out, Pkt.sealB, ← HS.out, HX7.out]; exact own12, (G11.out.put k12 own12).bel⟩
end Go.Proofs.Ytbcgffgiifminaa
namespace Go.Proofs.Ytbcgffgiifminaa
open Go.RowKit
set_option maxRecDepth 10000
set_option linter.unusedVariables false
/-- The reader in block r: what is left to read, and whether something did not go. -/
structure Rd (w : World) (B r : Nat) (bad : Bool) (A : Option Addr) (n c : Nat) (l : List UInt8) : Prop where
  arr : Arr 133 w r [.slice A n c, .bool bad]
  lies : LiesB w B A n l
  ge : B ≤ r
  cap : n ≤ c
theorem LiesB.set {w : World} {B r n : Nat} {A : Option Addr} {l : List UInt8} (h : LiesB w B A n l) (hr : B ≤ r) (j : Nat) (v : Value) : LiesB (w.setCell ⟨r, j, none⟩ v) B A n l :=
  h.below ⟨rfl, rfl, rfl, by simp [World.setCell], fun k hk => Below.heap_setCell w ⟨r, j, none⟩ v k (by show k ≠ r; omega)⟩
set_option maxHeartbeats 1000000 in
theorem reader_num {w : World} {B r n c : Nat} {bad bad' : Bool} {A : Option Addr} {l l' : List UInt8} {v : Int} (h : Rd w B r bad A n c l) (hn : n ≤ 140737488355328) (hv : Pkt.num bad l = (v, bad', l')) :
    Calls Try.prog 77 #[.pointer (some ⟨r, 0, none⟩)] w fun e w' => ∃ A' n' c', e = .returned (.int .i64 v) ∧ Rd w' B r bad' A' n' c' l' ∧ n' ≤ n ∧ Keeps (fun k => k = r) w w' ∧ w'.heap.size = w.heap.size := by
  have c0 := h.arr.cell (j := 0) (by simp)
  have c1 := h.arr.cell (j := 1) (by simp)
  have f0 := h.arr.frozen 0
  have f1 := h.arr.frozen 1
  simp only [List.getElem_cons_zero, List.getElem_cons_succ] at c0 c1
  have H := hide h
  have hl := h.lies.len
  obtain ⟨⟨v0, m, er⟩, hg⟩ : ∃ x, Var.get 0 0 l = x := ⟨_, rfl⟩
  have HG := hide hg
  unfold Pkt.num at hv
  rw [hg] at hv
  simp only at hv
  cases bad
  · by_cases he : er = 0
    · subst he
      have hv' : (v0, false, l.drop m) = (v, bad', l') := hv
      simp only [Prod.mk.injEq] at hv'
      obtain ⟨rfl, rfl, hl'⟩ := hv'
      have hm : m ≤ n := by have := (Var.get_back0 hg).2; omega
      have HL := hide hl'
      clear hv hg hl' h
      go_enter Try.func77, Try.ntmps77
      go_wp2_with fail
      refine Calls.mono (num_Get _ _ _ _ _ _ H.out.lies hn v0 m 0 HG.out) ?_
      rintro e w1 ⟨rfl, rfl⟩
      go_wp2_with fail
      go_ret
      exact ⟨_, _, _, rfl, ⟨(H.out.arr.set 1 (.bool false)).set 0 _, by rw [← HL.out]; exact ((H.out.lies.set H.out.ge 1 _).set H.out.ge 0 _).cut H.out.cap, H.out.ge, by have := H.out.cap; omega⟩, by omega,
        (Keeps.setCell _ ⟨r, 1, none⟩ _).trans (Keeps.setCell _ ⟨r, 0, none⟩ _) (fun _ _ h => h), by simp [World.setCell]⟩
    · have d1 : (er != 0) = true := by simpa using he
      have d2 : (er == 0) = false := by simpa using he
      rw [d2] at hv
      have hv' : (v0, true, l) = (v, bad', l') := hv
      simp only [Prod.mk.injEq] at hv'
      obtain ⟨rfl, rfl, rfl⟩ := hv'
      clear hv hg h d2 he
      go_enter Try.func77, Try.ntmps77
      go_wp2_with fail
      refine Calls.mono (num_Get _ _ _ _ _ _ H.out.lies hn v0 m er HG.out) ?_
      rintro e w1 ⟨rfl, rfl⟩
      go_wp2_with fail
      go_ret
      exact ⟨_, _, _, rfl, ⟨H.out.arr.set 1 (.bool true), H.out.lies.set H.out.ge 1 _, H.out.ge, H.out.cap⟩, Nat.le_refl _, Keeps.setCell _ ⟨r, 1, none⟩ _, by simp [World.setCell]⟩
  · have hv' : (v0, true, l) = (v, bad', l') := hv
    simp only [Prod.mk.injEq] at hv'
    obtain ⟨rfl, rfl, rfl⟩ := hv'
    clear hv hg h
    go_enter Try.func77, Try.ntmps77
    go_wp2_with fail
    refine Calls.mono (num_Get _ _ _ _ _ _ H.out.lies hn v0 m er HG.out) ?_
    rintro e w1 ⟨rfl, rfl⟩
    go_wp2_with fail
    go_ret
    exact ⟨_, _, _, rfl, ⟨H.out.arr.set 1 (.bool true), H.out.lies.set H.out.ge 1 _, H.out.ge, H.out.cap⟩, Nat.le_refl _, Keeps.setCell _ ⟨r, 1, none⟩ _, by simp [World.setCell]⟩
namespace Pkt
def val4 (l : List UInt8) (k : Nat) : Nat := (l.take k).foldl (fun x b => x * 256 + b.toNat) 0
theorem val4_succ (l : List UInt8) (k : Nat) (hk : k < l.length) : val4 l (k + 1) = val4 l k * 256 + l[k].toNat := by
  unfold val4
  rw [List.take_succ_eq_append_getElem hk, List.foldl_append]
  rfl
theorem val4_lt (l : List UInt8) (k : Nat) (hk : k < 4) (hl : k ≤ l.length) : val4 l k < 256 ^ k := by
  induction k with
  | zero => simp [val4]
  | succ k ih =>
    rw [val4_succ l k (by omega), Nat.pow_succ]
    have := ih (by omega) (by omega)
    have := l[k].toNat_lt
    omega
theorem val4_four (l : List UInt8) (h : 4 ≤ l.length) : (val4 l 4 : Int) = get4 l := by
  match l, h with
  | a :: b :: c :: d :: t, _ => simp only [val4, List.take_succ_cons, List.take_zero, List.foldl_cons, List.foldl_nil, get4, num4]; omega
theorem or_next (x : Nat) (c : UInt8) (hx : x < 16777216) : bits BinOp.or IntKind.u32 ((x : Int) * 256) (c.toNat : Int) = ((x * 256 + c.toNat : Nat) : Int) := by
  have hc := c.toNat_lt
  rw [show (x : Int) * 256 = ((x * 256 : Nat) : Int) from by omega, u32_or_nat _ _ (by omega) (by omega), nat_join 8 _ _ (by omega) (by omega)]
end Pkt
set_option maxHeartbeats 1000000 in
theorem reader_four {w : World} {B r n c : Nat} {bad bad' : Bool} {A : Option Addr} {l l' : List UInt8} {v : Int} (h : Rd w B r bad A n c l) (hn : n ≤ 140737488355328) (hv : Pkt.four bad l = (v, bad', l')) :
    Calls Try.prog 78 #[.pointer (some ⟨r, 0, none⟩)] w fun e w' => ∃ A' n' c', e = .returned (.int .u32 v) ∧ Rd w' B r bad' A' n' c' l' ∧ n' ≤ n ∧ Keeps (fun k => k = r) w w' ∧ w'.heap.size = w.heap.size := by
  have c0 := h.arr.cell (j := 0) (by simp)
  have c1 := h.arr.cell (j := 1) (by simp)
  have f0 := h.arr.frozen 0
  have f1 := h.arr.frozen 1
  simp only [List.getElem_cons_zero, List.getElem_cons_succ] at c0 c1
  have H := hide h
  have hl := h.lies.len
  unfold Pkt.four at hv
  cases bad
  · by_cases he : n < 4
    · have d1 : decide ((n : Int) < 4) = true := decide_eq_true (by omega)
      rw [if_pos (.inr (by omega))] at hv
      simp only [Prod.mk.injEq] at hv
      obtain ⟨rfl, rfl, rfl⟩ := hv
      clear h he
      go_enter Try.func78, Try.ntmps78
      go_wp2_with fail
      go_ret
      exact ⟨_, _, _, rfl, ⟨H.out.arr.set 1 (.bool true), H.out.lies.set H.out.ge 1 _, H.out.ge, H.out.cap⟩, Nat.le_refl _, Keeps.setCell _ ⟨r, 1, none⟩ _, by simp [World.setCell]⟩
    · have d1 : decide ((n : Int) < 4) = false := decide_eq_false (by omega)
      rw [if_neg (by rintro (h | h); cases h; omega)] at hv
      simp only [Prod.mk.injEq] at hv
      obtain ⟨hv, rfl, hl'⟩ := hv
      have HL := hide hl'
      have hcap := h.cap
      obtain ⟨b, off, hl0, hA, hbB, -⟩ := h.lies.at_ (k := 0) (by omega)
      subst hA
      have hbr : b ≠ r := by have := h.ge; omega
      clear h hl'
      go_enter Try.func78, Try.ntmps78
      go_wp2_with fail
      have K1 : Hid (Keeps (fun k => k = r) w (w.setCell ⟨r, 1, none⟩ (.bool false))) := Keeps.setCell _ ⟨r, 1, none⟩ _
      have Z1 : Hid ((w.setCell ⟨r, 1, none⟩ (.bool false)).heap.size = w.heap.size) := by show _ = _; simp [World.setCell]
      have H1 : Hid (Rd (w.setCell ⟨r, 1, none⟩ (.bool false)) B r false (some ⟨b, off, none⟩) n c l) := ⟨H.out.arr.set 1 (.bool false), H.out.lies.set H.out.ge 1 _, H.out.ge, H.out.cap⟩
      generalize w.setCell ⟨r, 1, none⟩ (.bool false) = w1 at K1 Z1 H1 ⊢
      clear c0 c1 f0 f1
      have c0 := H1.out.arr.cell (j := 0) (by simp)
      have f0 := H1.out.arr.frozen 0
      simp only [List.getElem_cons_zero] at c0
      go_loop [3, 31] (fun x i => ∃ k : Nat, k ≤ 4 ∧ i = .int .i64 k ∧ x = .int .u32 ((Pkt.val4 l k : Nat) : Int)) (fun _ i => 4 - (intOf i).toNat)
      case atStart => exact ⟨0, Nat.zero_le _, rfl, rfl⟩
      case round =>
        obtain ⟨k, hk, rfl, rfl⟩ := hrel
        by_cases hlt : k < 4
        · obtain ⟨b', off', hlk, hAA, -, hc⟩ := H1.out.lies.at_ (k := k) (by omega)
          injection hAA with hAA
          injection hAA with h1 h2
          subst h1 h2
          obtain ⟨z, hz⟩ : ∃ z, z = l[k] := ⟨_, rfl⟩
          rw [← hz] at hc
          obtain ⟨x, hx⟩ : ∃ x, x = Pkt.val4 l k := ⟨_, rfl⟩
          have hx2 := Pkt.val4_lt l k hlt (by omega)
          rw [← hx] at hx2 ⊢
          have hx3 : x < 16777216 := by
            have : 256 ^ k ≤ 256 ^ 3 := Nat.pow_le_pow_right (by omega) (by omega)
            omega
          have HV : Hid (Pkt.val4 l (k + 1) = x * 256 + z.toNat) := by show _ = _; rw [Pkt.val4_succ l k hlk, hx, hz]
          have HO := hide (Pkt.or_next x z hx3)
          have hxm : IntKind.u32.wrap ((x : Int) * 256) = (x : Int) * 256 := by rw [IntKind.wrap_u32]; omega
          clear hx hz hx2
          go_wp2
          go_round
          case rel => exact ⟨k + 1, by omega, by go_num, by rw [show ((z.toNat : Int) % 4294967296) = z.toNat from by have := z.toNat_lt; omega, HO.out, HV.out]⟩
          case measure => simp [intOf]; omega
        · obtain rfl : k = 4 := by omega
          have HV : Hid (((Pkt.val4 l 4 : Nat) : Int) = v) := by show _ = _; rw [Pkt.val4_four l (by omega), hv]
          rw [HV.out]
          go_wp2
          go_ret
          have RD : Rd (w1.setCell ⟨r, 0, none⟩ (.slice (cutA (some ⟨b, off, none⟩) c 4 1) (n - 4) (c - 4))) B r false (cutA (some ⟨b, off, none⟩) c 4 1) (n - 4) (c - 4) l' := ⟨H1.out.arr.set 0 _, by rw [← HL.out]; exact (H1.out.lies.set H1.out.ge 0 _).cut H1.out.cap, H1.out.ge, by omega⟩
          exact ⟨rfl, _, _, ⟨_, RD⟩, by omega,
            K1.out.trans (Keeps.setCell _ ⟨r, 0, none⟩ _) (fun _ _ h => h), by simp [World.setCell]; exact Z1.out⟩
  · rw [if_pos (.inl rfl)] at hv
    simp only [Prod.mk.injEq] at hv
    obtain ⟨rfl, rfl, rfl⟩ := hv
    clear h
    go_enter Try.func78, Try.ntmps78
    go_wp2_with fail
    go_ret
    exact ⟨_, _, _, rfl, ⟨H.out.arr.set 1 (.bool true), H.out.lies.set H.out.ge 1 _, H.out.ge, H.out.cap⟩, Nat.le_refl _, Keeps.setCell _ ⟨r, 1, none⟩ _, by simp [World.setCell]⟩
end Go.Proofs.Ytbcgffgiifminaa
