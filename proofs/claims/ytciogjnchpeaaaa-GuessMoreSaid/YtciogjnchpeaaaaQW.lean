/-
  The walks of package queue: N, Line, Front, Joint, Known.
-/
import Derived.Test.YtciogjnchpeaaaaQ
namespace Go.Proofs.Ytciogjnchpeaaaa
open Go.RowKit
set_option maxRecDepth 10000
set_option linter.unusedVariables false
section
variable {B : Nat} {w : World} {q c : Nat} {A : Option Addr} {xs : List (Nat × Option Nat)} {ls : List (List UInt8)}
set_option maxHeartbeats 400000 in
theorem queue_N (h : QAt B w q A c xs ls) {n : Int} (hn : n = (xs.length : Int)) :
    Calls Try.prog 26 #[.pointer (some ⟨q, 0, none⟩)] w fun e w' => e = .returned (.int .i64 n) ∧ w = w' := by
  have hc := h.cell
  obtain ⟨m, hm⟩ : ∃ m, m = xs.length := ⟨_, rfl⟩
  rw [← hm] at hc hn
  subst hn
  clear h hm
  go_enter Try.func26, Try.ntmps26
  go_wp2
  go_ret
  exact ⟨rfl, rfl⟩
set_option maxHeartbeats 400000 in
theorem queue_N_nil (w : World) : Calls Try.prog 26 #[.pointer none] w fun e w' => e = .returned (.int .i64 0) ∧ w = w' := by
  go_enter Try.func26, Try.ntmps26
  go_wp2
  go_ret
  exact ⟨rfl, rfl⟩
set_option maxHeartbeats 400000 in
theorem queue_Line (h : QAt B w q A c xs ls) (i : Nat) (hi : i < xs.length) (hi2 : xs.length ≤ 1000) {x : Int} (hx : x = (i : Int)) {p : Nat} (hp : p = xs[i].1) :
    Calls Try.prog 20 #[.pointer (some ⟨q, 0, none⟩), .int .i64 x] w fun e w' => e = .returned (.pointer (some ⟨p, 0, none⟩)) ∧ w = w' := by
  have hc := h.cell
  obtain ⟨g, hg, hcp⟩ := h.ptr i hi
  rw [← hp] at hcp
  have H := hide h
  obtain ⟨m, hm⟩ : ∃ m, m = xs.length := ⟨_, rfl⟩
  have HM : Hid ((m : Int) = (xs.length : Int)) := by show (m : Int) = _; rw [hm]
  rw [← hm] at hc hi hi2
  subst hg hx
  clear h hm hp
  go_enter Try.func20, Try.ntmps20
  go_wp2_with (go_at_call 26; (with_reducible refine Calls.mono (queue_N H.out HM.out) ?_); rintro e w1 ⟨rfl, rfl⟩)
  go_ret
  exact ⟨rfl, rfl⟩
set_option maxHeartbeats 400000 in
theorem queue_Line_out (h : QAt B w q A c xs ls) {x : Int} (hx : x < 0 ∨ (xs.length : Int) ≤ x) :
    Calls Try.prog 20 #[.pointer (some ⟨q, 0, none⟩), .int .i64 x] w fun e w' => e = .returned (.pointer none) ∧ w = w' := by
  have H := hide h
  obtain ⟨m, hm⟩ : ∃ m, m = xs.length := ⟨_, rfl⟩
  have HM : Hid ((m : Int) = (xs.length : Int)) := by show (m : Int) = _; rw [hm]
  rw [← hm] at hx
  clear h hm
  by_cases h0 : x < 0
  · have d : decide (x < 0) = true := decide_eq_true h0
    go_enter Try.func20, Try.ntmps20
    go_wp2
    go_ret
    exact ⟨rfl, rfl⟩
  · have d : decide (x < 0) = false := decide_eq_false h0
    have h1 : (m : Int) ≤ x := by omega
    go_enter Try.func20, Try.ntmps20
    go_wp2_with (go_at_call 26; (with_reducible refine Calls.mono (queue_N H.out HM.out) ?_); rintro e w1 ⟨rfl, rfl⟩)
    go_ret
    exact ⟨rfl, rfl⟩
set_option maxHeartbeats 400000 in
theorem queue_Line_nil (x : Int) (w : World) : Calls Try.prog 20 #[.pointer none, .int .i64 x] w fun e w' => e = .returned (.pointer none) ∧ w = w' := by
  by_cases h0 : x < 0
  · have d : decide (x < 0) = true := decide_eq_true h0
    go_enter Try.func20, Try.ntmps20
    go_wp2
    go_ret
    exact ⟨rfl, rfl⟩
  · have d : decide (x < 0) = false := decide_eq_false h0
    have h1 : 0 ≤ x := by omega
    go_enter Try.func20, Try.ntmps20
    go_wp2_with (go_at_call 26; (with_reducible refine Calls.mono (queue_N_nil _) ?_); rintro e w1 ⟨rfl, rfl⟩)
    go_ret
    exact ⟨rfl, rfl⟩
set_option maxHeartbeats 1000000 in
set_option maxRecDepth 10000 in
theorem queue_Front (h : QAt B w q A c xs ls) (h0 : 0 < xs.length) (h8 : xs.length ≤ 1000) {f : Int} (hf : f = (front ls : Int)) :
    Calls Try.prog 18 #[.pointer (some ⟨q, 0, none⟩)] w fun e w' => e = .returned (.int .i64 f) ∧ w = w' := by
  have hc := h.cell
  obtain ⟨g, hg, hc0⟩ := h.ptr 0 h0
  have H := hide h
  have HP := hide (fun i hi => h.ptr i hi)
  obtain ⟨m, hm⟩ : ∃ m, m = xs.length := ⟨_, rfl⟩
  have HM : Hid ((m : Int) = (xs.length : Int)) := by show (m : Int) = _; rw [hm]
  have HMN := hide hm
  have HL : Hid (ls.length = m) := by show ls.length = m; rw [h.len, hm]
  have HF : Hid (f = ((frontK ls m : Nat) : Int)) := by show f = _; rw [hf, front, h.len, hm]
  obtain ⟨p0, hp0⟩ : ∃ p, p = xs[0].1 := ⟨_, rfl⟩
  rw [← hp0] at hc0
  have HL0 : Hid (LineAt w p0 xs[0].2 (ls.getD 0 [])) := by rw [hp0]; exact h.line 0 h0
  rw [← hm] at hc h0 h8
  subst hg
  have hm0 : ((m : Int) == 0) = false := by simp; omega
  have H1000 : Hid (∀ k, frontK ls k ≤ 1000) := by
    intro k
    induction k with
    | zero => exact (h.line 0 (by omega)).1
    | succ k ih =>
      by_cases e : k < ls.length
      · rw [frontK_succ _ _ e]; omega
      · have : frontK ls (k + 1) = frontK ls k := by unfold frontK; rw [List.take_of_length_le (by omega), List.take_of_length_le (by omega)]
        omega
  clear h hm hf hp0
  go_enter Try.func18, Try.ntmps18
  go_wp2_with (go_at_call 26; (with_reducible refine Calls.mono (queue_N H.out HM.out) ?_); rintro e w1 ⟨rfl, rfl⟩)
  refine Calls.mono (line_Len_v p0 _ _ ((frontK ls 0 : Nat) : Int) _ HL0.out rfl) ?_
  rintro e w1 ⟨rfl, rfl⟩
  go_wp2_with fail
  go_loopg [3, 21] m (fun gg n i wr => ∃ k : Nat, k ≤ m ∧ gg = m - k ∧ i = .int .i64 k ∧ n = .int .i64 ((frontK ls k : Nat) : Int) ∧ w = wr)
  case atStart => exact ⟨0, by omega, rfl, rfl, rfl, rfl⟩
  case round =>
    obtain ⟨k, hk, rfl, rfl, rfl, rfl⟩ := hrel
    obtain ⟨fk, hfk⟩ : ∃ fk, fk = frontK ls k := ⟨_, rfl⟩
    rw [← hfk]
    have HFK := hide hfk
    have hfk1 : fk ≤ 1000 := by rw [hfk]; exact H1000.out k
    clear hfk
    by_cases hlt : k < m
    · obtain ⟨g2, hg2, hck⟩ := HP.out k (by have := HMN.out; omega)
      injection hg2 with hg2
      injection hg2 with hg2
      subst hg2
      obtain ⟨p, hp⟩ : ∃ p, p = (xs[k]'(by have := HMN.out; omega)).1 := ⟨_, rfl⟩
      rw [← hp] at hck
      have HLk : Hid (LineAt w p (xs[k]'(by have := HMN.out; omega)).2 (ls.getD k [])) := by rw [hp]; exact H.out.line k _
      obtain ⟨n, hn⟩ : ∃ n, n = (ls.getD k []).length := ⟨_, rfl⟩
      have HN : Hid (((ls.getD k []).length : Int) = (n : Int)) := by show _ = (n : Int); rw [hn]
      obtain ⟨f2, hf2⟩ : ∃ f2, f2 = frontK ls (k + 1) := ⟨_, rfl⟩
      have hmin : min (fk : Int) (n : Int) = (f2 : Int) := by
        rw [hf2, frontK_succ _ _ (by rw [HL.out]; exact hlt), ← HFK.out, ← hn]; omega
      have HF2 := hide hf2
      clear hp hn hf2
      go_wp2_with fail
      refine Calls.mono (line_Len_v p _ _ (n : Int) _ HLk.out HN.out) ?_
      rintro e w1 ⟨rfl, rfl⟩
      go_wp2_with fail
      go_roundg (m - (k + 1))
      case measure => omega
      case rel => exact ⟨k + 1, by omega, rfl, by go_num, by rw [HF2.out], rfl⟩
    · obtain rfl : k = m := by omega
      have e : Hid ((fk : Int) = f) := by show (fk : Int) = f; rw [HF.out, HFK.out]
      go_wp2
      go_ret
      refine ⟨?_, rfl⟩
      show Ending.returned (.int .i64 (fk : Int)) = _
      rw [e.out]
set_option maxHeartbeats 400000 in
theorem queue_Front_nil (w : World) : Calls Try.prog 18 #[.pointer none] w fun e w' => e = .returned (.int .i64 0) ∧ w = w' := by
  go_enter Try.func18, Try.ntmps18
  go_wp2_with (go_at_call 26; (with_reducible refine Calls.mono (queue_N_nil _) ?_); rintro e w1 ⟨rfl, rfl⟩)
  go_ret
  exact ⟨rfl, rfl⟩
/-- What all pressed in a frame. -/
def jointOf (ls : List (List UInt8)) (f : Nat) : List UInt8 := ls.map fun l => l.getD f 0
theorem jointOf_snoc (ls : List (List UInt8)) (f k : Nat) (h : k < ls.length) : jointOf (ls.take (k + 1)) f = jointOf (ls.take k) f ++ [(ls.getD k []).getD f 0] := by
  unfold jointOf
  rw [List.take_succ_eq_append_getElem h, List.map_append, List.getD_eq_getElem?_getD (i := k), List.getElem?_eq_getElem h]
  rfl
theorem atLine_nat (l : List UInt8) (f : Nat) : atLine l (f : Int) = l.getD f 0 := by
  rw [atLine, if_neg (by omega)]; rfl
/-- Of whom a frame is known. -/
def knownOf (ls : List (List UInt8)) (f : Int) : List Value := ls.map fun l => .bool (inLine l f)
theorem knownOf_snoc (ls : List (List UInt8)) (f : Int) (k : Nat) (h : k < ls.length) : knownOf (ls.take (k + 1)) f = knownOf (ls.take k) f ++ [.bool (inLine (ls.getD k []) f)] := by
  unfold knownOf
  rw [List.take_succ_eq_append_getElem h, List.map_append, List.getD_eq_getElem?_getD (i := k), List.getElem?_eq_getElem h]
  rfl
end
end Go.Proofs.Ytciogjnchpeaaaa
