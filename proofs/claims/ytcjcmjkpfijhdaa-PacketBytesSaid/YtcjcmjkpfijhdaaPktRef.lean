/-
  The walks of the document's frames, MayPacket, EqPacket; of bytes.Equal and num.Four. (printed by wip/mkpkt.py)
-/
import Derived.Test.YtcjcmjkpfijhdaaPktMay
namespace Go.Proofs.Ytcjcmjkpfijhdaa
open Go.RowKit
set_option linter.unusedVariables false
namespace Pkt
def bad (kind src dst id : Int) : Bool := decide (kind < 1) || (decide (2 < kind) || (decide (src < 0) || (decide (7 < src) || (decide (dst < 0) || (decide (7 < dst) || ((src == dst) || (decide (id < 0) || decide (1099511627776 < id))))))))
def quit (first n ack frame sum : Int) : Bool := (first == 0) && ((n == 0) && ((ack == 0) && ((frame == 0) && (sum == 0))))
def fr (n : Int) : Bool := decide (0 ≤ n) && decide (n ≤ 1000)
theorem may_ref (p : Pkt) : p.may = (!(bad p.kind p.src p.dst p.id) && (if p.kind = 2 then quit p.first (p.press.length : Int) p.ack p.frame p.sum else fr p.first && (fr p.ack && (fr p.frame && decide ((p.press.length : Int) ≤ 32))))) := by
  rw [Bool.eq_iff_iff, may_iff]
  constructor
  · intro f
    have h1 := f.src
    have h2 := f.dst
    have h3 := f.ne
    have h4 := f.id
    rw [Bool.and_eq_true]
    constructor
    · have := f.kind
      unfold bad
      simp only [Bool.not_eq_true', Bool.or_eq_false_iff, decide_eq_false_iff_not, beq_eq_false_iff_ne]
      refine ⟨by omega, by omega, by omega, by omega, by omega, by omega, h3, by omega, by omega⟩
    · rcases f.kind with ⟨k, a, b, c, d⟩ | ⟨k, a, b, c, d, e⟩
      · rw [if_neg (by omega)]
        unfold fr
        simp only [Bool.and_eq_true, decide_eq_true_eq]
        omega
      · rw [if_pos k]
        unfold quit
        simp [a, b, c, d, e]
  · intro h
    rw [Bool.and_eq_true] at h
    obtain ⟨h1, h2⟩ := h
    unfold bad at h1
    simp only [Bool.not_eq_true', Bool.or_eq_false_iff, decide_eq_false_iff_not, beq_eq_false_iff_ne] at h1
    obtain ⟨h11, h12, h13, h14, h15, h16, h17, h18, h19⟩ := h1
    refine ⟨by omega, by omega, h17, by omega, ?_⟩
    by_cases k : p.kind = 2
    · rw [if_pos k] at h2
      unfold quit at h2
      simp only [Bool.and_eq_true, beq_iff_eq] at h2
      obtain ⟨a, b, c, d, e⟩ := h2
      exact .inr ⟨k, a, c, d, List.eq_nil_of_length_eq_zero (by omega), e⟩
    · rw [if_neg k] at h2
      unfold fr at h2
      simp only [Bool.and_eq_true, decide_eq_true_eq] at h2
      exact .inl ⟨by omega, by omega, by omega, by omega, by omega⟩
/-- The same? -/
def eqb (p q : Pkt) : Bool := (p.kind == q.kind) && ((p.src == q.src) && ((p.dst == q.dst) && ((p.id == q.id) && ((p.first == q.first) && ((p.press == q.press) && ((p.ack == q.ack) && ((p.frame == q.frame) && (p.sum == q.sum))))))))
theorem eqb_iff (p q : Pkt) : eqb p q = true ↔ p = q := by
  cases p; cases q
  unfold eqb
  simp only [Bool.and_eq_true, beq_iff_eq, Pkt.mk.injEq]
theorem eqb_self (p : Pkt) : eqb p p = true := (eqb_iff p p).2 rfl
theorem eqb_not {p q : Pkt} (h : p ≠ q) : eqb p q = false := by
  cases e : eqb p q with
  | false => rfl
  | true => exact absurd ((eqb_iff p q).1 e) h
end Pkt
set_option maxHeartbeats 400000 in
theorem ref_frames (x : Int) (w : World) {r : Bool} (hr : Pkt.fr x = r) : Calls Try.prog 26 #[.int .i64 x] w fun e w' => e = .returned (.bool r) ∧ w = w' := by
  obtain ⟨z1, d1⟩ : ∃ z, (decide (0 ≤ x)) = z := ⟨_, rfl⟩
  obtain ⟨z2, d2⟩ : ∃ z, (decide (x ≤ 1000)) = z := ⟨_, rfl⟩
  have HR : Hid (r = (z1 && z2)) := by show _ = _; rw [← hr, Pkt.fr, d1, d2]
  clear hr
  cases z1
  · obtain rfl : r = false := HR.out
    go_enter Try.func26, Try.ntmps26
    go_wp2
    go_ret
    exact ⟨rfl, rfl⟩
  · obtain rfl : r = z2 := HR.out
    go_enter Try.func26, Try.ntmps26
    go_wp2
    go_ret
    exact ⟨rfl, rfl⟩
set_option maxHeartbeats 400000 in
theorem bytes_Equal {A A' : Option Addr} {n n' c c' B B' : Nat} {l l' : List UInt8} {w : World} {r : Bool} (h : LiesB w B A n l) (h' : LiesB w B' A' n' l') (hr : (l == l') = r) :
    Calls Try.prog 34 #[.slice A n c, .slice A' n' c'] w fun e w' => e = .returned (.bool r) ∧ w = w' := by
  have H := hide h
  have H' := hide h'
  subst hr
  clear h h'
  go_enter Try.func34, Try.ntmps34
  go_wp2_with fail
  rw [run_stringB H.out]
  go_wp2_with fail
  rw [run_stringB H'.out]
  go_wp2_with fail
  go_ret
  exact ⟨rfl, rfl⟩
set_option maxHeartbeats 400000 in
theorem num_Four (a : Int) (w : World) (h1 : 0 ≤ a) (h2 : a < 4294967296) : Calls Try.prog 22 #[.int .u32 a] w fun e w' =>
    ∃ A c, e = .returned (.slice A 4 c) ∧ OwnB w' w.heap.size A 4 c (be32 a) ∧ Below w.heap.size w w' := by
  have HE := hide (Int.emod_eq_of_lt h1 h2)
  go_enter Try.func22, Try.ntmps22
  go_wp2
  go_ret
  refine ⟨_, _, rfl, OwnB.new _ _ 4 _ rfl (by simp [maxLen]) ?_, Below_new _ _⟩
  have := be32_cells a
  rw [HE.out] at this
  exact this
set_option maxHeartbeats 2000000 in
set_option maxRecDepth 10000 in
theorem ref_MayPacket (p : Pkt) {A : Option Addr} {n c : Nat} {w : World} {r : Bool} (hn : p.press.length = n) (hm : n ≤ 9223372036854775807) (hr : r = p.may) :
    Calls Try.prog 14 #[p.val (.slice A n c)] w fun e w' => e = .returned (.bool r) ∧ Below w.heap.size w w' := by
  have HR0 := p.may_ref
  obtain ⟨kind, src, dst, id, first, press, ack, frame, sum⟩ := p
  simp only at hn HR0
  rw [hn] at HR0
  have HR := hide (hr.trans HR0)
  clear hr hn HR0
  go_enter Try.func14, Try.ntmps14
  go_upto_region 1 with fail
  have HP : Hid (Arr 25 (w.alloc (.cells (Pkt.row ⟨kind, src, dst, id, first, press, ack, frame, sum⟩ (.slice A n c)).toArray 25)) w.heap.size (Pkt.row ⟨kind, src, dst, id, first, press, ack, frame, sum⟩ (.slice A n c))) := Arr.new 25 w _ _ rfl
  have HB : Hid (Below w.heap.size w (w.alloc (.cells (Pkt.row ⟨kind, src, dst, id, first, press, ack, frame, sum⟩ (.slice A n c)).toArray 25))) := Below_new _ _
  simp only [Pkt.row] at HP HB
  generalize World.alloc w _ = wx at HP HB ⊢
  obtain ⟨bb, hbb⟩ : ∃ b, b = Pkt.bad kind src dst id := ⟨_, rfl⟩
  rw [← hbb] at HR
  obtain ⟨z1, d1⟩ : ∃ z, (decide (kind < 1)) = z := ⟨_, rfl⟩
  obtain ⟨z2, d2⟩ : ∃ z, (decide (2 < kind)) = z := ⟨_, rfl⟩
  obtain ⟨z3, d3⟩ : ∃ z, (decide (src < 0)) = z := ⟨_, rfl⟩
  obtain ⟨z4, d4⟩ : ∃ z, (decide (7 < src)) = z := ⟨_, rfl⟩
  obtain ⟨z5, d5⟩ : ∃ z, (decide (dst < 0)) = z := ⟨_, rfl⟩
  obtain ⟨z6, d6⟩ : ∃ z, (decide (7 < dst)) = z := ⟨_, rfl⟩
  obtain ⟨z7, d7⟩ : ∃ z, (src == dst) = z := ⟨_, rfl⟩
  obtain ⟨z8, d8⟩ : ∃ z, (decide (id < 0)) = z := ⟨_, rfl⟩
  obtain ⟨z9, d9⟩ : ∃ z, (decide (1099511627776 < id)) = z := ⟨_, rfl⟩
  have HBB : Hid (bb = (z1 || (z2 || (z3 || (z4 || (z5 || (z6 || (z7 || (z8 || z9))))))))) := by show _ = _; rw [hbb, Pkt.bad, d1, d2, d3, d4, d5, d6, d7, d8, d9]
  clear hbb
  have c0 := HP.out.cell (j := 0) (by simp)
  have c1 := HP.out.cell (j := 1) (by simp)
  have c2 := HP.out.cell (j := 2) (by simp)
  have c3 := HP.out.cell (j := 3) (by simp)
  simp only [List.getElem_cons_zero, List.getElem_cons_succ] at c0 c1 c2 c3
  have hgc := HP.out.lt
  go_cut [47] (fun s wy => s = .bool bb ∧ wx = wy)
  case first =>
    cases z1
    case true =>
      go_wp2
      go_meet
      exact ⟨congrArg Value.bool HBB.out.symm, rfl⟩
    cases z2
    case true =>
      go_wp2
      go_meet
      exact ⟨congrArg Value.bool HBB.out.symm, rfl⟩
    cases z3
    case true =>
      go_wp2
      go_meet
      exact ⟨congrArg Value.bool HBB.out.symm, rfl⟩
    cases z4
    case true =>
      go_wp2
      go_meet
      exact ⟨congrArg Value.bool HBB.out.symm, rfl⟩
    cases z5
    case true =>
      go_wp2
      go_meet
      exact ⟨congrArg Value.bool HBB.out.symm, rfl⟩
    cases z6
    case true =>
      go_wp2
      go_meet
      exact ⟨congrArg Value.bool HBB.out.symm, rfl⟩
    cases z7
    case true =>
      go_wp2
      go_meet
      exact ⟨congrArg Value.bool HBB.out.symm, rfl⟩
    cases z8
    case true =>
      go_wp2
      go_meet
      exact ⟨congrArg Value.bool HBB.out.symm, rfl⟩
    cases z9
    case true =>
      go_wp2
      go_meet
      exact ⟨congrArg Value.bool HBB.out.symm, rfl⟩
    go_wp2
    go_meet
    exact ⟨congrArg Value.bool HBB.out.symm, rfl⟩
  case rest =>
    obtain ⟨rfl, rfl⟩ := hcut
    clear d1 d2 d3 d4 d5 d6 d7 d8 d9 HBB c1 c2 c3
    cases bb
    · have HR1 : Hid (r = (if kind = 2 then Pkt.quit first n ack frame sum else Pkt.fr first && (Pkt.fr ack && (Pkt.fr frame && decide ((n : Int) ≤ 32))))) := by
        show r = _
        rw [HR.out]; rfl
      clear HR
      have c0 := HP.out.cell (j := 0) (by simp)
      have c4 := HP.out.cell (j := 4) (by simp)
      have c5 := HP.out.cell (j := 5) (by simp)
      have c6 := HP.out.cell (j := 6) (by simp)
      have c7 := HP.out.cell (j := 7) (by simp)
      have c8 := HP.out.cell (j := 8) (by simp)
      simp only [List.getElem_cons_zero, List.getElem_cons_succ] at c0 c4 c5 c6 c7 c8
      have hgc := HP.out.lt
      by_cases k2 : kind = 2
      · rw [if_pos k2] at HR1
        subst k2
        obtain ⟨z1, d1⟩ : ∃ z, (first == 0) = z := ⟨_, rfl⟩
        obtain ⟨z2, d2⟩ : ∃ z, ((n : Int) == 0) = z := ⟨_, rfl⟩
        obtain ⟨z3, d3⟩ : ∃ z, (ack == 0) = z := ⟨_, rfl⟩
        obtain ⟨z4, d4⟩ : ∃ z, (frame == 0) = z := ⟨_, rfl⟩
        obtain ⟨z5, d5⟩ : ∃ z, (sum == 0) = z := ⟨_, rfl⟩
        have HQ : Hid ((z1 && (z2 && (z3 && (z4 && z5)))) = r) := by show _ = _; rw [HR1.out, Pkt.quit, d1, d2, d3, d4, d5]
        cases z1
        case false =>
          obtain rfl := HQ.out
          go_wp2
          go_ret
          exact ⟨rfl, HB.out⟩
        cases z2
        case false =>
          obtain rfl := HQ.out
          go_wp2
          go_ret
          exact ⟨rfl, HB.out⟩
        cases z3
        case false =>
          obtain rfl := HQ.out
          go_wp2
          go_ret
          exact ⟨rfl, HB.out⟩
        cases z4
        case false =>
          obtain rfl := HQ.out
          go_wp2
          go_ret
          exact ⟨rfl, HB.out⟩
        cases z5
        case false =>
          obtain rfl := HQ.out
          go_wp2
          go_ret
          exact ⟨rfl, HB.out⟩
        obtain rfl := HQ.out
        go_wp2
        go_ret
        exact ⟨rfl, HB.out⟩
      · have dk : (kind == 2) = false := by simp [k2]
        rw [if_neg k2] at HR1
        clear k2
        obtain ⟨z1, d1⟩ : ∃ z, (Pkt.fr first) = z := ⟨_, rfl⟩
        obtain ⟨z2, d2⟩ : ∃ z, (Pkt.fr ack) = z := ⟨_, rfl⟩
        obtain ⟨z3, d3⟩ : ∃ z, (Pkt.fr frame) = z := ⟨_, rfl⟩
        obtain ⟨z4, d4⟩ : ∃ z, (decide ((n : Int) ≤ 32)) = z := ⟨_, rfl⟩
        have HQ : Hid ((z1 && (z2 && (z3 && z4))) = r) := by show _ = _; rw [HR1.out, d1, d2, d3, d4]
        have D1 := hide d1
        have D2 := hide d2
        have D3 := hide d3
        clear d1 d2 d3
        cases z1
        case false =>
          obtain rfl := HQ.out
          go_wp2_with (go_at_call 26; (with_reducible first | refine Calls.mono (ref_frames first _ D1.out) ?_ | refine Calls.mono (ref_frames ack _ D2.out) ?_ | refine Calls.mono (ref_frames frame _ D3.out) ?_); rintro e w1 ⟨rfl, rfl⟩)
          go_ret
          exact ⟨rfl, HB.out⟩
        cases z2
        case false =>
          obtain rfl := HQ.out
          go_wp2_with (go_at_call 26; (with_reducible first | refine Calls.mono (ref_frames first _ D1.out) ?_ | refine Calls.mono (ref_frames ack _ D2.out) ?_ | refine Calls.mono (ref_frames frame _ D3.out) ?_); rintro e w1 ⟨rfl, rfl⟩)
          go_ret
          exact ⟨rfl, HB.out⟩
        cases z3
        case false =>
          obtain rfl := HQ.out
          go_wp2_with (go_at_call 26; (with_reducible first | refine Calls.mono (ref_frames first _ D1.out) ?_ | refine Calls.mono (ref_frames ack _ D2.out) ?_ | refine Calls.mono (ref_frames frame _ D3.out) ?_); rintro e w1 ⟨rfl, rfl⟩)
          go_ret
          exact ⟨rfl, HB.out⟩
        cases z4
        case false =>
          obtain rfl := HQ.out
          go_wp2_with (go_at_call 26; (with_reducible first | refine Calls.mono (ref_frames first _ D1.out) ?_ | refine Calls.mono (ref_frames ack _ D2.out) ?_ | refine Calls.mono (ref_frames frame _ D3.out) ?_); rintro e w1 ⟨rfl, rfl⟩)
          go_ret
          exact ⟨rfl, HB.out⟩
        obtain rfl := HQ.out
        go_wp2_with (go_at_call 26; (with_reducible first | refine Calls.mono (ref_frames first _ D1.out) ?_ | refine Calls.mono (ref_frames ack _ D2.out) ?_ | refine Calls.mono (ref_frames frame _ D3.out) ?_); rintro e w1 ⟨rfl, rfl⟩)
        go_ret
        exact ⟨rfl, HB.out⟩
    · obtain rfl : r = false := HR.out
      go_wp2
      go_ret
      exact ⟨rfl, HB.out⟩
set_option maxHeartbeats 2000000 in
set_option maxRecDepth 10000 in
theorem ref_EqPacket (p q : Pkt) {A A' : Option Addr} {n c n' c' B B' : Nat} {w : World} {r : Bool} (hA : LiesB w B A n p.press) (hA' : LiesB w B' A' n' q.press) (hB : B ≤ w.heap.size) (hB' : B' ≤ w.heap.size) (hr : r = Pkt.eqb p q) :
    Calls Try.prog 17 #[p.val (.slice A n c), q.val (.slice A' n' c')] w fun e w' => e = .returned (.bool r) ∧ Below w.heap.size w w' := by
  obtain ⟨kind, src, dst, id, first, press, ack, frame, sum⟩ := p
  obtain ⟨kind', src', dst', id', first', press', ack', frame', sum'⟩ := q
  simp only at hA hA'
  go_enter Try.func17, Try.ntmps17
  go_upto_region 1 with fail
  have HB : Hid (Below w.heap.size w (w.alloc (.cells (Pkt.row ⟨kind, src, dst, id, first, press, ack, frame, sum⟩ (.slice A n c)).toArray 25))) := Below_new _ _
  have HB2 : Hid (Below w.heap.size w ((w.alloc (.cells (Pkt.row ⟨kind, src, dst, id, first, press, ack, frame, sum⟩ (.slice A n c)).toArray 25)).alloc (.cells (Pkt.row ⟨kind', src', dst', id', first', press', ack', frame', sum'⟩ (.slice A' n' c')).toArray 25))) := Below_step HB.out (Below_new _ _)
  have HP : Hid (Arr 25 ((w.alloc (.cells (Pkt.row ⟨kind, src, dst, id, first, press, ack, frame, sum⟩ (.slice A n c)).toArray 25)).alloc (.cells (Pkt.row ⟨kind', src', dst', id', first', press', ack', frame', sum'⟩ (.slice A' n' c')).toArray 25)) w.heap.size (Pkt.row ⟨kind, src, dst, id, first, press, ack, frame, sum⟩ (.slice A n c))) := (Arr.new 25 w _ _ rfl).belowN (Below_new _ _)
  have HQ : Hid (Arr 25 ((w.alloc (.cells (Pkt.row ⟨kind, src, dst, id, first, press, ack, frame, sum⟩ (.slice A n c)).toArray 25)).alloc (.cells (Pkt.row ⟨kind', src', dst', id', first', press', ack', frame', sum'⟩ (.slice A' n' c')).toArray 25)) (w.heap.size + 1) (Pkt.row ⟨kind', src', dst', id', first', press', ack', frame', sum'⟩ (.slice A' n' c'))) := by
    have := Arr.new 25 (w.alloc (.cells (Pkt.row ⟨kind, src, dst, id, first, press, ack, frame, sum⟩ (.slice A n c)).toArray 25)) _ (Pkt.row ⟨kind', src', dst', id', first', press', ack', frame', sum'⟩ (.slice A' n' c')) rfl
    rw [World.size_alloc] at this
    exact this
  have LA := hide (hA.below (HB2.out.mono hB))
  have LA' := hide (hA'.below (HB2.out.mono hB'))
  clear hA hA' HB
  simp only [Pkt.row] at HP HQ HB2 LA LA'
  generalize World.alloc (World.alloc w _) _ = wx at HP HQ HB2 LA LA' ⊢
  obtain ⟨z1, d1⟩ : ∃ z, (kind == kind') = z := ⟨_, rfl⟩
  obtain ⟨z2, d2⟩ : ∃ z, (src == src') = z := ⟨_, rfl⟩
  obtain ⟨z3, d3⟩ : ∃ z, (dst == dst') = z := ⟨_, rfl⟩
  obtain ⟨z4, d4⟩ : ∃ z, (id == id') = z := ⟨_, rfl⟩
  obtain ⟨z5, d5⟩ : ∃ z, (first == first') = z := ⟨_, rfl⟩
  obtain ⟨z6, d6⟩ : ∃ z, (press == press') = z := ⟨_, rfl⟩
  obtain ⟨z7, d7⟩ : ∃ z, (ack == ack') = z := ⟨_, rfl⟩
  obtain ⟨z8, d8⟩ : ∃ z, (frame == frame') = z := ⟨_, rfl⟩
  obtain ⟨z9, d9⟩ : ∃ z, (sum == sum') = z := ⟨_, rfl⟩
  have HR : Hid ((z1 && (z2 && (z3 && (z4 && (z5 && (z6 && (z7 && (z8 && z9)))))))) = r) := by show _ = _; rw [hr, Pkt.eqb, d1, d2, d3, d4, d5, d6, d7, d8, d9]
  clear hr
  have c0 := HP.out.cell (j := 0) (by simp)
  have c1 := HP.out.cell (j := 1) (by simp)
  have c2 := HP.out.cell (j := 2) (by simp)
  have c3 := HP.out.cell (j := 3) (by simp)
  have c4 := HP.out.cell (j := 4) (by simp)
  have c5 := HP.out.cell (j := 5) (by simp)
  have c6 := HP.out.cell (j := 6) (by simp)
  have c7 := HP.out.cell (j := 7) (by simp)
  have c8 := HP.out.cell (j := 8) (by simp)
  simp only [List.getElem_cons_zero, List.getElem_cons_succ] at c0 c1 c2 c3 c4 c5 c6 c7 c8
  have hgc := HP.out.lt
  have e0 := HQ.out.cell (j := 0) (by simp)
  have e1 := HQ.out.cell (j := 1) (by simp)
  have e2 := HQ.out.cell (j := 2) (by simp)
  have e3 := HQ.out.cell (j := 3) (by simp)
  have e4 := HQ.out.cell (j := 4) (by simp)
  have e5 := HQ.out.cell (j := 5) (by simp)
  have e6 := HQ.out.cell (j := 6) (by simp)
  have e7 := HQ.out.cell (j := 7) (by simp)
  have e8 := HQ.out.cell (j := 8) (by simp)
  simp only [List.getElem_cons_zero, List.getElem_cons_succ] at e0 e1 e2 e3 e4 e5 e6 e7 e8
  have hge := HQ.out.lt
  cases z1
  case false =>
    obtain rfl := HR.out
    go_wp2_with (first | rw [run_stringB LA.out] | rw [run_stringB LA'.out])
    go_ret
    exact ⟨rfl, HB2.out⟩
  cases z2
  case false =>
    obtain rfl := HR.out
    go_wp2_with (first | rw [run_stringB LA.out] | rw [run_stringB LA'.out])
    go_ret
    exact ⟨rfl, HB2.out⟩
  cases z3
  case false =>
    obtain rfl := HR.out
    go_wp2_with (first | rw [run_stringB LA.out] | rw [run_stringB LA'.out])
    go_ret
    exact ⟨rfl, HB2.out⟩
  cases z4
  case false =>
    obtain rfl := HR.out
    go_wp2_with (first | rw [run_stringB LA.out] | rw [run_stringB LA'.out])
    go_ret
    exact ⟨rfl, HB2.out⟩
  cases z5
  case false =>
    obtain rfl := HR.out
    go_wp2_with (first | rw [run_stringB LA.out] | rw [run_stringB LA'.out])
    go_ret
    exact ⟨rfl, HB2.out⟩
  cases z6
  case false =>
    obtain rfl := HR.out
    go_wp2_with (first | rw [run_stringB LA.out] | rw [run_stringB LA'.out])
    go_ret
    exact ⟨rfl, HB2.out⟩
  cases z7
  case false =>
    obtain rfl := HR.out
    go_wp2_with (first | rw [run_stringB LA.out] | rw [run_stringB LA'.out])
    go_ret
    exact ⟨rfl, HB2.out⟩
  cases z8
  case false =>
    obtain rfl := HR.out
    go_wp2_with (first | rw [run_stringB LA.out] | rw [run_stringB LA'.out])
    go_ret
    exact ⟨rfl, HB2.out⟩
  cases z9
  case false =>
    obtain rfl := HR.out
    go_wp2_with (first | rw [run_stringB LA.out] | rw [run_stringB LA'.out])
    go_ret
    exact ⟨rfl, HB2.out⟩
  obtain rfl := HR.out
  go_wp2_with (first | rw [run_stringB LA.out] | rw [run_stringB LA'.out])
  go_ret
  exact ⟨rfl, HB2.out⟩
end Go.Proofs.Ytcjcmjkpfijhdaa
