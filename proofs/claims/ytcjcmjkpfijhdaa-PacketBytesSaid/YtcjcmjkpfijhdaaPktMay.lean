/-
  The walks of packet.in and packet.May, of the document's frames and MayPacket.
-/
import Derived.Test.YtcjcmjkpfijhdaaPktPlain
import Derived.Test.YtcjcmjkpfijhdaaArr
import Derived.Test.YtcjcmjkpfijhdaaRegion
namespace Go.Proofs.Ytcjcmjkpfijhdaa
open Go.RowKit
set_option linter.unusedVariables false
/-- Whole numbers lie behind one another. -/
def LiesN (w : World) (B : Nat) (A : Option Addr) (n : Nat) (l : List Int) : Prop := l.length = n ∧ Lies w B A (l.map (Value.int .i64))
theorem LiesN.new (w : World) (T : TypeId) (m : Nat × Nat) (cs : Array Value) (l : List Int) (n : Nat) (hn : l.length = n) (h : cs.toList = l.map (Value.int .i64)) :
    LiesN (w.alloc (.cells cs T m)) (w.heap.size + 1) (some ⟨w.heap.size, 0, none⟩) n l := ⟨hn, by rw [← h]; exact Lies.new w cs T m⟩
theorem LiesN.at_ {w : World} {B n : Nat} {A : Option Addr} {l : List Int} (h : LiesN w B A n l) {j : Nat} (hj : j < n) :
    ∃ (b off : Nat) (hl : j < l.length), A = some ⟨b, off, none⟩ ∧ b < B ∧ w.cell? ⟨b, off + j, none⟩ = some (.int .i64 l[j]) := by
  have hl : j < l.length := by rw [h.1]; exact hj
  obtain ⟨b, off, e, hb, hc⟩ := h.2 (by intro h0; have := congrArg List.length h0; simp at this; subst this; simp at hl)
  exact ⟨b, off, hl, e, hb, hc j _ (by simp [List.getElem?_map, List.getElem?_eq_getElem hl])⟩
namespace Pkt
theorem inB_take (m : Int) (l : List Int) (k : Nat) (hk : k < l.length) : inB m (l.take (k + 1)) = (inB m (l.take k) && (decide (0 ≤ l[k]) && decide (l[k] ≤ m))) := by
  unfold inB
  rw [List.take_succ_eq_append_getElem hk, List.all_append]
  simp
theorem inB_false (m : Int) (l : List Int) (k : Nat) (hk : k < l.length) (h : l[k] < 0 ∨ m < l[k]) : inB m l = false := by
  unfold inB
  rw [List.all_eq_false]
  refine ⟨l[k], List.getElem_mem _, ?_⟩
  simp; omega
/-- A packet's value; v: its presses'. -/
@[reducible] def row (p : Pkt) (v : Value) : List Value := [.int .i64 p.kind, .int .i64 p.src, .int .i64 p.dst, .int .i64 p.id, .int .i64 p.first, v, .int .i64 p.ack, .int .i64 p.frame, .int .u32 p.sum]
@[reducible] def val (p : Pkt) (v : Value) : Value := .agg (row p v).toArray
end Pkt
set_option maxHeartbeats 400000 in
theorem packet_in {most : Int} {A : Option Addr} {n c B : Nat} {l : List Int} {w : World} {r : Bool} (hA : LiesN w B A n l) (hn : n ≤ 1000) (hr : r = Pkt.inB most l) :
    Calls Try.prog 25 #[.int .i64 most, .slice A n c] w fun e w' => e = .returned (.bool r) ∧ w = w' := by
  have HA := hide hA
  have HR := hide hr
  have HL := hide hA.1
  clear hA hr
  go_enter Try.func25, Try.ntmps25
  go_wp2
  go_loop [9] (fun i => ∃ k : Nat, k ≤ n ∧ i = .int .i64 k ∧ Hid (Pkt.inB most (l.take k) = true)) (fun i => n - (intOf i).toNat)
  case atStart => exact ⟨0, Nat.zero_le _, rfl, rfl⟩
  case round =>
    obtain ⟨k, hk, rfl, ht⟩ := hrel
    by_cases hlt : k < n
    · obtain ⟨b, off, hlk, rfl, -, hc⟩ := HA.out.at_ hlt
      obtain ⟨x, hx⟩ : ∃ x, x = l[k] := ⟨_, rfl⟩
      rw [← hx] at hc
      have HX := hide hx
      clear hx
      by_cases h0 : x < 0
      · have d0 : decide (x < 0) = true := decide_eq_true h0
        go_wp2
        go_ret
        refine ⟨?_, rfl⟩
        rw [HR.out, Pkt.inB_false most l k hlk (.inl (HX.out ▸ h0))]
        rfl
      · have d0 : decide (x < 0) = false := decide_eq_false h0
        by_cases h1 : most < x
        · have d1 : decide (most < x) = true := decide_eq_true h1
          go_wp2
          go_ret
          refine ⟨?_, rfl⟩
          rw [HR.out, Pkt.inB_false most l k hlk (.inr (HX.out ▸ h1))]
          rfl
        · have d1 : decide (most < x) = false := decide_eq_false h1
          go_wp2
          go_round
          case rel =>
            refine ⟨k + 1, by omega, by go_num, ?_⟩
            show _ = true
            rw [Pkt.inB_take most l k hlk, show Pkt.inB most (l.take k) = true from ht, ← HX.out]
            simp; omega
          case measure => simp [intOf]; omega
    · obtain rfl : k = n := by omega
      go_wp2
      go_ret
      refine ⟨?_, rfl⟩
      have := ht.out
      rw [List.take_of_length_le (by rw [HL.out]; exact Nat.le_refl _)] at this
      rw [HR.out, this]
      rfl

set_option maxHeartbeats 1000000 in
set_option maxRecDepth 10000 in
theorem packet_May (p : Pkt) {A : Option Addr} {n c : Nat} {w : World} {r : Bool} (hn : p.press.length = n) (hm : n ≤ 9223372036854775807) (hr : r = p.may) :
    Calls Try.prog 13 #[p.val (.slice A n c)] w fun e w' => e = .returned (.bool r) ∧ Below w.heap.size w w' := by
  obtain ⟨kind, src, dst, id, first, press, ack, frame, sum⟩ := p
  simp only at hn
  have HR : Hid (r = (Pkt.inB 7 [src, dst] && !(src == dst) && decide (0 ≤ id) && decide (id ≤ 1099511627776) &&
    (if kind = 1 then Pkt.inB 1000 [first, ack, frame] && decide (n ≤ 32)
     else if kind = 2 then Pkt.inB 0 [first, ack, frame, (n : Int)] && (sum == 0) else false))) := by rw [← hn]; exact hr
  clear hr hn
  go_enter Try.func13, Try.ntmps13
  go_upto_region 1 with fail
  have HP : Hid (Arr 25 (w.alloc (.cells (Pkt.row ⟨kind, src, dst, id, first, press, ack, frame, sum⟩ (.slice A n c)).toArray 25)) w.heap.size (Pkt.row ⟨kind, src, dst, id, first, press, ack, frame, sum⟩ (.slice A n c))) := Arr.new 25 w _ _ rfl
  have HB : Hid (Below w.heap.size w (w.alloc (.cells (Pkt.row ⟨kind, src, dst, id, first, press, ack, frame, sum⟩ (.slice A n c)).toArray 25))) := Below_new _ _
  simp only [Pkt.row] at HP HB
  generalize World.alloc w _ = wx at HP HB ⊢
  generalize hgg : w.heap.size = g1 at HP HB ⊢
  · have hgg0 := hide hgg
    subst hgg
    have c0 := HP.out.cell (j := 0) (by simp)
    have c1 := HP.out.cell (j := 1) (by simp)
    have c2 := HP.out.cell (j := 2) (by simp)
    have c3 := HP.out.cell (j := 3) (by simp)
    have c4 := HP.out.cell (j := 4) (by simp)
    have c5 := HP.out.cell (j := 5) (by simp)
    have c6 := HP.out.cell (j := 6) (by simp)
    have c7 := HP.out.cell (j := 7) (by simp)
    have c8 := HP.out.cell (j := 8) (by simp)
    simp only [List.getElem_cons_zero, List.getElem_cons_succ] at c0 c1 c2 c3 c4 c5 c6 c7 c8
    have hg := HP.out.lt
    obtain ⟨x1, hx1⟩ : ∃ x, x = Pkt.inB 7 [src, dst] := ⟨_, rfl⟩
    have HX1 := hide hx1
    rw [← hx1] at HR
    clear hx1
    go_cut [26] (fun s wy => ∃ b, s = .bool b ∧ Hid (b = !(x1 && !(src == dst) && decide (0 ≤ id) && decide (id ≤ 1099511627776))) ∧ Hid (Below wx.heap.size wx wy))
    case first =>
      cases x1
      · go_wp2_with (go_at_call 25; (with_reducible refine Calls.mono (packet_in (LiesN.new _ _ _ _ [src, dst] _ rfl rfl) (by omega) HX1.out) ?_); rintro e w1 ⟨rfl, rfl⟩)
        go_meet
        exact ⟨_, rfl, rfl, Below_new _ _⟩
      · by_cases e1 : src = dst
        · have d1 : (src == dst) = true := by simp [e1]
          have HF : Hid (true = !(true && !(src == dst) && decide (0 ≤ id) && decide (id ≤ 1099511627776))) := by show _ = _; rw [d1]; rfl
          clear e1
          go_wp2_with (go_at_call 25; (with_reducible refine Calls.mono (packet_in (LiesN.new _ _ _ _ [src, dst] _ rfl rfl) (by omega) HX1.out) ?_); rintro e w1 ⟨rfl, rfl⟩)
          go_meet
          exact ⟨_, rfl, HF, Below_new _ _⟩
        · have d1 : (src == dst) = false := by simp [e1]
          clear e1
          by_cases e2 : id < 0
          · have d2 : decide (id < 0) = true := decide_eq_true e2
            have HF : Hid (true = !(true && !(src == dst) && decide (0 ≤ id) && decide (id ≤ 1099511627776))) := by show _ = _; simp; omega
            clear e2
            go_wp2_with (go_at_call 25; (with_reducible refine Calls.mono (packet_in (LiesN.new _ _ _ _ [src, dst] _ rfl rfl) (by omega) HX1.out) ?_); rintro e w1 ⟨rfl, rfl⟩)
            go_meet
            exact ⟨_, rfl, HF, Below_new _ _⟩
          · have d2 : decide (id < 0) = false := decide_eq_false e2
            obtain ⟨z, hz⟩ : ∃ z, z = decide (1099511627776 < id) := ⟨_, rfl⟩
            have HF : Hid (z = !(true && !(src == dst) && decide (0 ≤ id) && decide (id ≤ 1099511627776))) := by
              show _ = _
              rw [hz, d1]
              rw [show decide (0 ≤ id) = true from decide_eq_true (by omega)]
              by_cases h : 1099511627776 < id
              · rw [decide_eq_true h, decide_eq_false (by omega)]; rfl
              · rw [decide_eq_false h, decide_eq_true (by omega)]; rfl
            have dz : decide (1099511627776 < id) = z := hz.symm
            clear hz e2
            cases z
            all_goals
              go_wp2_with (go_at_call 25; (with_reducible refine Calls.mono (packet_in (LiesN.new _ _ _ _ [src, dst] _ rfl rfl) (by omega) HX1.out) ?_); rintro e w1 ⟨rfl, rfl⟩)
              go_meet
              exact ⟨_, rfl, HF, Below_new _ _⟩
    case rest =>
      obtain ⟨b, rfl, HBB, HB1⟩ := hcut
      have HP := hide (HP.out.belowN HB1.out)
      have HB2 := hide (Below_step HB.out HB1.out)
      have c0 := HP.out.cell (j := 0) (by simp)
      have c4 := HP.out.cell (j := 4) (by simp)
      have c5 := HP.out.cell (j := 5) (by simp)
      have c6 := HP.out.cell (j := 6) (by simp)
      have c7 := HP.out.cell (j := 7) (by simp)
      have c8 := HP.out.cell (j := 8) (by simp)
      simp only [List.getElem_cons_zero, List.getElem_cons_succ] at c0 c4 c5 c6 c7 c8
      have hg := HP.out.lt
      cases b
      · have HR1 : Hid (r = (if kind = 1 then Pkt.inB 1000 [first, ack, frame] && decide (n ≤ 32)
          else if kind = 2 then Pkt.inB 0 [first, ack, frame, (n : Int)] && (sum == 0) else false)) := by
          show r = _
          rw [HR.out]
          have := HBB.out
          revert this
          cases (x1 && !(src == dst) && decide (0 ≤ id) && decide (id ≤ 1099511627776))
          · intro h; cases h
          · intro; rfl
        clear HR HBB
        by_cases k1 : kind = 1
        · rw [if_pos k1] at HR1
          subst k1
          obtain ⟨x2, hx2⟩ : ∃ x, x = Pkt.inB 1000 [first, ack, frame] := ⟨_, rfl⟩
          have HX2 := hide hx2
          rw [← hx2] at HR1
          clear hx2
          obtain ⟨x3, hx3⟩ : ∃ x, decide (n ≤ 32) = x := ⟨_, rfl⟩
          rw [hx3] at HR1
          have dn : decide ((n : Int) ≤ 32) = x3 := by rw [← hx3]; congr 1; apply propext; omega
          cases x2
          · obtain rfl : r = false := HR1.out
            go_wp2_with (go_at_call 25; (with_reducible refine Calls.mono (packet_in (LiesN.new _ _ _ _ [first, ack, frame] _ rfl rfl) (by omega) HX2.out) ?_); rintro e w1 ⟨rfl, rfl⟩)
            go_ret
            exact ⟨rfl, Below_step HB2.out (Below_new _ _)⟩
          · obtain rfl : r = x3 := HR1.out
            go_wp2_with (go_at_call 25; (with_reducible refine Calls.mono (packet_in (LiesN.new _ _ _ _ [first, ack, frame] _ rfl rfl) (by omega) HX2.out) ?_); rintro e w1 ⟨rfl, rfl⟩)
            go_ret
            exact ⟨rfl, Below_step HB2.out (Below_new _ _)⟩
        · have dk : (kind == 1) = false := by simp [k1]
          rw [if_neg k1] at HR1
          by_cases k2 : kind = 2
          · rw [if_pos k2] at HR1
            subst k2
            obtain ⟨x2, hx2⟩ : ∃ x, x = Pkt.inB 0 [first, ack, frame, (n : Int)] := ⟨_, rfl⟩
            have HX2 := hide hx2
            rw [← hx2] at HR1
            clear hx2 dk k1
            cases x2
            · obtain rfl : r = false := HR1.out
              go_wp2_with (go_at_call 25; (with_reducible refine Calls.mono (packet_in (LiesN.new _ _ _ _ [first, ack, frame, (n : Int)] _ rfl rfl) (by omega) HX2.out) ?_); rintro e w1 ⟨rfl, rfl⟩)
              go_ret
              exact ⟨rfl, Below_step HB2.out (Below_new _ _)⟩
            · obtain ⟨x3, hx3⟩ : ∃ x, (sum == 0) = x := ⟨_, rfl⟩
              rw [hx3] at HR1
              obtain rfl : r = x3 := HR1.out
              go_wp2_with (go_at_call 25; (with_reducible refine Calls.mono (packet_in (LiesN.new _ _ _ _ [first, ack, frame, (n : Int)] _ rfl rfl) (by omega) HX2.out) ?_); rintro e w1 ⟨rfl, rfl⟩)
              go_ret
              exact ⟨rfl, Below_step HB2.out (Below_new _ _)⟩
          · have dk2 : (kind == 2) = false := by simp [k2]
            rw [if_neg k2] at HR1
            obtain rfl : r = false := HR1.out
            clear k1 k2
            go_wp2
            go_ret
            exact ⟨rfl, HB2.out⟩
      · obtain rfl : r = false := by
          rw [HR.out]
          have := HBB.out
          revert this
          cases (x1 && !(src == dst) && decide (0 ≤ id) && decide (id ≤ 1099511627776))
          · intro; rfl
          · intro h; cases h
        go_wp2
        go_ret
        exact ⟨rfl, HB2.out⟩
end Go.Proofs.Ytcjcmjkpfijhdaa
