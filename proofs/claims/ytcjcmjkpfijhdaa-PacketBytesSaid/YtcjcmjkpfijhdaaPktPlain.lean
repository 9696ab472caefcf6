/-
  Packets, plain: what may be, its bytes, and that these are no other packet's.
-/
import Derived.Test.YtcjcmjkpfijhdaaRunsLaws
import Derived.Test.YtcjcmjkpfijhdaaBurst
import Derived.Test.YtcjcmjkpfijhdaaNums
namespace Go.Proofs.Ytcjcmjkpfijhdaa
open Go.RowKit
set_option linter.unusedVariables false
structure Pkt where
  kind : Int
  src : Int
  dst : Int
  id : Int
  first : Int
  press : List UInt8
  ack : Int
  frame : Int
  sum : Int
namespace Pkt
/-- Numbers from 0 to most. -/
def inB (most : Int) (l : List Int) : Bool := l.all fun x => decide (0 ≤ x) && decide (x ≤ most)
def may (p : Pkt) : Bool :=
  inB 7 [p.src, p.dst] && !(p.src == p.dst) && decide (0 ≤ p.id) && decide (p.id ≤ 1099511627776) &&
    (if p.kind = 1 then inB 1000 [p.first, p.ack, p.frame] && decide (p.press.length ≤ 32)
     else if p.kind = 2 then inB 0 [p.first, p.ack, p.frame, (p.press.length : Int)] && (p.sum == 0) else false)
/-- What types hold. -/
def WF (p : Pkt) : Prop := 0 ≤ p.sum ∧ p.sum < 4294967296
def byte (x : Int) : UInt8 := UInt8.ofNat (x % 256).toNat
/-- What comes behind the first number. -/
def tail (p : Pkt) : List UInt8 :=
  if p.kind = 1 then Var.put (Var.zig p.first) ++ (Var.put (Var.zig p.ack) ++ (Var.put (Var.zig p.frame) ++ (be32 p.sum ++ (Var.put (Var.zig (p.press.length : Int)) ++ Runs.enc 0 p.press)))) else []
def body (p : Pkt) : List UInt8 := byte p.kind :: byte p.src :: byte p.dst :: (Var.put (Var.zig p.id) ++ tail p)
def sealB (b : List UInt8) : List UInt8 := b ++ be32 ((Crc.sum b).toNat : Int)
def enc (p : Pkt) : List UInt8 := if p.may then sealB p.body else []
/-- These bytes are p's. -/
def Is (b : List UInt8) (p : Pkt) : Prop := p.may = true ∧ p.WF ∧ b = sealB p.body
theorem inB_two {m a b : Int} : inB m [a, b] = true ↔ (0 ≤ a ∧ a ≤ m) ∧ (0 ≤ b ∧ b ≤ m) := by simp [inB]
theorem inB_three {m a b c : Int} : inB m [a, b, c] = true ↔ (0 ≤ a ∧ a ≤ m) ∧ (0 ≤ b ∧ b ≤ m) ∧ (0 ≤ c ∧ c ≤ m) := by simp [inB]
theorem inB_four {m a b c d : Int} : inB m [a, b, c, d] = true ↔ (0 ≤ a ∧ a ≤ m) ∧ (0 ≤ b ∧ b ≤ m) ∧ (0 ≤ c ∧ c ≤ m) ∧ (0 ≤ d ∧ d ≤ m) := by simp [inB]
structure Fine (p : Pkt) : Prop where
  src : 0 ≤ p.src ∧ p.src ≤ 7
  dst : 0 ≤ p.dst ∧ p.dst ≤ 7
  ne : p.src ≠ p.dst
  id : 0 ≤ p.id ∧ p.id ≤ 1099511627776
  kind : (p.kind = 1 ∧ (0 ≤ p.first ∧ p.first ≤ 1000) ∧ (0 ≤ p.ack ∧ p.ack ≤ 1000) ∧ (0 ≤ p.frame ∧ p.frame ≤ 1000) ∧ p.press.length ≤ 32) ∨
    (p.kind = 2 ∧ p.first = 0 ∧ p.ack = 0 ∧ p.frame = 0 ∧ p.press = [] ∧ p.sum = 0)
theorem may_iff {p : Pkt} : p.may = true ↔ Fine p := by
  unfold may
  constructor
  · intro h
    simp only [Bool.and_eq_true, Bool.not_eq_true', beq_eq_false_iff_ne, decide_eq_true_eq, inB_two] at h
    obtain ⟨⟨⟨⟨⟨h1, h2⟩, h3⟩, h4⟩, h5⟩, h6⟩ := h
    refine ⟨h1, h2, h3, ⟨h4, h5⟩, ?_⟩
    by_cases k1 : p.kind = 1
    · rw [if_pos k1] at h6
      simp only [Bool.and_eq_true, decide_eq_true_eq, inB_three] at h6
      exact .inl ⟨k1, h6.1.1, h6.1.2.1, h6.1.2.2, h6.2⟩
    · rw [if_neg k1] at h6
      by_cases k2 : p.kind = 2
      · rw [if_pos k2] at h6
        simp only [Bool.and_eq_true, beq_iff_eq, inB_four] at h6
        refine .inr ⟨k2, by omega, by omega, by omega, ?_, h6.2⟩
        apply List.eq_nil_of_length_eq_zero; omega
      · rw [if_neg k2] at h6; cases h6
  · rintro ⟨h1, h2, h3, h4, h5⟩
    simp only [Bool.and_eq_true, Bool.not_eq_true', beq_eq_false_iff_ne, decide_eq_true_eq, inB_two]
    refine ⟨⟨⟨⟨⟨h1, h2⟩, h3⟩, h4.1⟩, h4.2⟩, ?_⟩
    rcases h5 with ⟨k, a, b, c, d⟩ | ⟨k, a, b, c, d, e⟩
    · rw [if_pos k]
      simp only [Bool.and_eq_true, decide_eq_true_eq, inB_three]
      exact ⟨⟨a, b, c⟩, d⟩
    · rw [if_neg (by omega), if_pos k]
      simp only [Bool.and_eq_true, beq_iff_eq, inB_four, d, List.length_nil]
      exact ⟨⟨by omega, by omega, by omega, by omega⟩, e⟩

/-- A number is read off; bad: it did not go, now or earlier. -/
def num (bad : Bool) (b : List UInt8) : Int × Bool × List UInt8 :=
  if (bad || !((Var.get 0 0 b).2.2 == 0)) = true then ((Var.get 0 0 b).1, true, b) else ((Var.get 0 0 b).1, false, b.drop (Var.get 0 0 b).2.1)
def get4 : List UInt8 → Int
  | a :: b :: c :: d :: _ => num4 a b c d
  | _ => 0
def four (bad : Bool) (b : List UInt8) : Int × Bool × List UInt8 :=
  if bad = true ∨ b.length < 4 then (0, true, b) else (get4 b, false, b.drop 4)
theorem num_put {v : Int} (h : -9223372036854775808 ≤ v) (h' : v ≤ 9223372036854775807) (t : List UInt8) : num false (Var.put (Var.zig v) ++ t) = (v, false, t) := by
  have := Var.get_put0 (Var.zig v) t (Var.zig_lt v h h')
  unfold num
  rw [this]
  simp [Var.unzig_zig]
theorem get4_be32 {v : Int} (h : 0 ≤ v) (h' : v < 4294967296) (t : List UInt8) : get4 (be32 v ++ t) = v := by
  simp only [be32, List.cons_append, List.nil_append, get4, num4, UInt8.toNat_ofNat']
  omega
theorem four_be32 {v : Int} (h : 0 ≤ v) (h' : v < 4294967296) (t : List UInt8) : four false (be32 v ++ t) = (v, false, t) := by
  unfold four
  rw [if_neg (by simp [be32]), get4_be32 h h', List.drop_append, List.drop_eq_nil_of_le (by simp [be32]), be32_length]
  simp
theorem get4_range (b : List UInt8) : 0 ≤ get4 b ∧ get4 b < 4294967296 := by
  unfold get4
  split
  · rename_i a b c d _
    have := a.toNat_lt; have := b.toNat_lt; have := c.toNat_lt; have := d.toNat_lt
    unfold num4; omega
  · omega
theorem sealB_len (b : List UInt8) : (sealB b).length = b.length + 4 := by simp [sealB, be32_length]
theorem byte_nat {x : Int} (h : 0 ≤ x) (h' : x < 256) : ((byte x).toNat : Int) = x := by
  unfold byte
  rw [UInt8.toNat_ofNat']; omega
/-- What the reader finds in a packet's bytes. -/
theorem is_head {b : List UInt8} {p : Pkt} (h : Is b p) : 8 ≤ b.length ∧ ∃ k s d t, b = k :: s :: d :: t ∧ (k.toNat : Int) = p.kind ∧ (s.toNat : Int) = p.src ∧ (d.toNat : Int) = p.dst ∧
    (b.take (b.length - 4)).drop 3 = Var.put (Var.zig p.id) ++ tail p := by
  obtain ⟨hm, hw, rfl⟩ := h
  have f := may_iff.1 hm
  have hl := sealB_len p.body
  have hp : (Var.put (Var.zig p.id)).length ≥ 1 := by
    cases e : Var.put (Var.zig p.id) with
    | nil => exact absurd e (Var.put_ne _)
    | cons => simp
  refine ⟨?_, byte p.kind, byte p.src, byte p.dst, _, rfl, byte_nat (by rcases f.kind with h | h <;> omega) (by rcases f.kind with h | h <;> omega), byte_nat (by have := f.src; omega) (by have := f.src; omega), byte_nat (by have := f.dst; omega) (by have := f.dst; omega), ?_⟩
  · rw [hl]; simp only [body, List.length_cons, List.length_append]; omega
  · rw [hl, show p.body.length + 4 - 4 = p.body.length by omega]
    unfold sealB
    rw [List.take_left]
    rfl
theorem is_inj {b : List UInt8} {p q : Pkt} (h : Is b p) (h' : Is b q) : p = q := by
  obtain ⟨-, k, s, d, t, rfl, k1, s1, d1, e1⟩ := is_head h
  obtain ⟨-, k', s', d', t', e, k2, s2, d2, e2⟩ := is_head h'
  simp only [List.cons.injEq] at e
  obtain ⟨rfl, rfl, rfl, rfl⟩ := e
  rw [e1] at e2
  have f := may_iff.1 h.1
  have f' := may_iff.1 h'.1
  have n1 := num_put (v := p.id) (by have := f.id; omega) (by have := f.id; omega) (tail p)
  rw [e2, num_put (v := q.id) (by have := f'.id; omega) (by have := f'.id; omega)] at n1
  simp only [Prod.mk.injEq, true_and] at n1
  obtain ⟨hid, ht⟩ := n1
  have hk : p.kind = q.kind := by omega
  cases p with | mk kind src dst id first press ack frame sum => ?_
  cases q with | mk kind' src' dst' id' first' press' ack' frame' sum' => ?_
  simp only at hk hid k1 s1 d1 k2 s2 d2
  subst hk hid
  obtain rfl : src = src' := by omega
  obtain rfl : dst = dst' := by omega
  have fk := f.kind
  have fk' := f'.kind
  have w1 := h.2.1
  have w2 := h'.2.1
  simp only [WF] at fk fk' w1 w2
  by_cases hk1 : kind = 1
  · subst hk1
    obtain ⟨-, a1, a2, a3, a4⟩ | ⟨c, -⟩ := fk
    · obtain ⟨-, b1, b2, b3, b4⟩ | ⟨c, -⟩ := fk'
      · simp only [tail, if_true] at ht
        have m1 := num_put (v := first) (by omega) (by omega) (Var.put (Var.zig ack) ++ (Var.put (Var.zig frame) ++ (be32 sum ++ (Var.put (Var.zig (press.length : Int)) ++ Runs.enc 0 press))))
        rw [← ht, num_put (by omega) (by omega)] at m1
        simp only [Prod.mk.injEq, true_and] at m1
        obtain ⟨rfl, m1⟩ := m1
        have m2 := num_put (v := ack) (by omega) (by omega) (Var.put (Var.zig frame) ++ (be32 sum ++ (Var.put (Var.zig (press.length : Int)) ++ Runs.enc 0 press)))
        rw [← m1, num_put (by omega) (by omega)] at m2
        simp only [Prod.mk.injEq, true_and] at m2
        obtain ⟨rfl, m2⟩ := m2
        have m3 := num_put (v := frame) (by omega) (by omega) (be32 sum ++ (Var.put (Var.zig (press.length : Int)) ++ Runs.enc 0 press))
        rw [← m2, num_put (by omega) (by omega)] at m3
        simp only [Prod.mk.injEq, true_and] at m3
        obtain ⟨rfl, m3⟩ := m3
        have m4 := four_be32 (v := sum) (by omega) (by omega) (Var.put (Var.zig (press.length : Int)) ++ Runs.enc 0 press)
        rw [← m3, four_be32 (by omega) (by omega)] at m4
        simp only [Prod.mk.injEq, true_and] at m4
        obtain ⟨rfl, m4⟩ := m4
        have m5 := num_put (v := (press.length : Int)) (by omega) (by omega) (Runs.enc 0 press)
        rw [← m4, num_put (by omega) (by omega)] at m5
        simp only [Prod.mk.injEq, true_and] at m5
        obtain ⟨-, m5⟩ := m5
        rw [Runs.enc_inj (by omega) (by omega) m5]
      · omega
    · omega
  · obtain ⟨c, -⟩ | ⟨k, a1, a2, a3, a4, a5⟩ := fk
    · omega
    · obtain ⟨c, -⟩ | ⟨k', b1, b2, b3, b4, b5⟩ := fk'
      · omega
      · rw [a1, a2, a3, a4, a5, b1, b2, b3, b4, b5]
theorem enc_is {p : Pkt} (h : p.may = true) (hw : p.WF) : Is p.enc p := ⟨h, hw, by rw [enc, if_pos h]⟩
theorem is_enc {b : List UInt8} {p : Pkt} (h : Is b p) : b = p.enc := by rw [enc, if_pos h.1, h.2.2]
theorem enc_nil_iff {p : Pkt} : p.enc = [] ↔ p.may = false := by
  rw [enc]
  split
  · rename_i h
    constructor
    · intro e; have := congrArg List.length e; rw [sealB_len] at this; simp at this
    · intro e; rw [h] at e; cases e
  · rename_i h
    simp at h
    simp [h]
/-- The rest of what is read, of kind 1. -/
theorem is_one {b : List UInt8} {p : Pkt} (h : Is b p) (hk : p.kind = 1) : tail p = Var.put (Var.zig p.first) ++ (Var.put (Var.zig p.ack) ++ (Var.put (Var.zig p.frame) ++ (be32 p.sum ++ (Var.put (Var.zig (p.press.length : Int)) ++ Runs.enc 0 p.press)))) := by
  rw [tail, if_pos hk]
/-- No packet is long. -/
theorem zig_len {v : Int} (h : 0 ≤ v) (h' : v ≤ 1000) : (Var.put (Var.zig v)).length ≤ 2 := Var.put_len 1 _ (by unfold Var.zig; rw [if_neg (by omega)]; omega)
theorem runs_len (n : Nat) : ∀ (a : UInt8) (l : List UInt8), l.length ≤ n → l.length ≤ 60 → (Runs.enc a l).length ≤ 2 * l.length := by
  induction n with
  | zero => intro a l h _; have : l = [] := List.eq_nil_of_length_eq_zero (by omega); subst this; rw [Runs.enc_nil]; simp
  | succ n ih =>
    intro a l h hm
    cases l with
    | nil => rw [Runs.enc_nil]; simp
    | cons x t =>
      have h1 := Runs.lead_le x t
      simp only [List.length_cons] at h hm
      have h2 := ih x (t.drop (Runs.lead x t)) (by rw [List.length_drop]; omega) (by rw [List.length_drop]; omega)
      rw [Runs.enc_cons, Var.put_small (by omega)]
      simp only [List.length_append, List.length_cons, List.length_nil]
      rw [List.length_drop] at h2
      omega
theorem enc_short (p : Pkt) : p.enc.length ≤ 100 := by
  rw [enc]
  split
  · rename_i h
    have f := may_iff.1 h
    rw [sealB_len]
    have hid : (Var.put (Var.zig p.id)).length ≤ 6 := Var.put_len 5 _ (by have := f.id; unfold Var.zig; rw [if_neg (by omega)]; omega)
    simp only [body, List.length_cons, List.length_append]
    rw [tail]
    split
    · rcases f.kind with ⟨-, a1, a2, a3, a4⟩ | ⟨c, -⟩
      · have l1 := zig_len a1.1 a1.2
        have l2 := zig_len a2.1 a2.2
        have l3 := zig_len a3.1 a3.2
        have l4 := zig_len (v := (p.press.length : Int)) (by omega) (by omega)
        have l5 := runs_len _ 0 p.press (Nat.le_refl _) (by omega)
        simp only [List.length_append, be32_length]
        omega
      · omega
    · simp; omega
  · simp
end Pkt
end Go.Proofs.Ytcjcmjkpfijhdaa
