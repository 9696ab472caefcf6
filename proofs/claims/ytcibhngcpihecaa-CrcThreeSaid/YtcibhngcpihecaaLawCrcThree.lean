/-
  CrcThree's walk.
-/
import Derived.Test.YtcibhngcpihecaaLaw3
import Derived.Test.YtcibhngcpihecaaMem
namespace Go.Proofs.Ytcibhngcpihecaa
open Go.RowKit
namespace Crc
/-- The exclusive or of three texts. -/
def xor3 : List UInt8 → List UInt8 → List UInt8 → List UInt8
  | a :: r, b :: s, c :: t => (a ^^^ b ^^^ c) :: xor3 r s t
  | _, _, _ => []
theorem xor3_length (a b c : List UInt8) : (xor3 a b c).length = min (min a.length b.length) c.length := by
  induction a generalizing b c with
  | nil => simp [xor3]
  | cons x a ih =>
    cases b with
    | nil => simp [xor3]
    | cons y b =>
      cases c with
      | nil => simp [xor3]
      | cons z c => simp only [xor3, List.length_cons, ih]; omega
theorem xor3_get (a b c : List UInt8) (k : Nat) (h1 : k < a.length) (h2 : k < b.length) (h3 : k < c.length) : (xor3 a b c)[k]? = some (a[k] ^^^ b[k] ^^^ c[k]) := by
  induction a generalizing b c k with
  | nil => simp at h1
  | cons x a ih =>
    cases b with
    | nil => simp at h2
    | cons y b =>
      cases c with
      | nil => simp at h3
      | cons z c =>
        cases k with
        | zero => simp [xor3]
        | succ k => simp only [xor3, List.getElem?_cons_succ, List.getElem_cons_succ]; exact ih _ _ _ _ _ _
theorem xor3_take (a b c : List UInt8) (k : Nat) : (xor3 a b c).take k = xor3 (a.take k) (b.take k) (c.take k) := by
  induction a generalizing b c k with
  | nil => simp [xor3]
  | cons x a ih =>
    cases b with
    | nil => cases k <;> simp [xor3]
    | cons y b =>
      cases c with
      | nil => cases k <;> simp [xor3]
      | cons z c =>
        cases k with
        | zero => simp [xor3]
        | succ k => simp [xor3, ih]
theorem run_xor3 (x y z : BitVec 32) (a b c : List UInt8) (h1 : a.length = b.length) (h2 : b.length = c.length) : run (x ^^^ y ^^^ z) (xor3 a b c) = run x a ^^^ run y b ^^^ run z c := by
  induction a generalizing x y z b c with
  | nil =>
    cases b with
    | cons _ _ => simp at h1
    | nil =>
      cases c with
      | cons _ _ => simp at h2
      | nil => simp [run, xor3]
  | cons p a ih =>
    cases b with
    | nil => simp at h1
    | cons q b =>
      cases c with
      | nil => simp at h2
      | cons r c =>
        have e : byte (x ^^^ y ^^^ z) (wide (p ^^^ q ^^^ r)) = byte x (wide p) ^^^ byte y (wide q) ^^^ byte z (wide r) := by
          rw [byte_xor, byte_xor]
          congr 1
          apply BitVec.eq_of_toNat_eq
          simp only [wide_toNat, BitVec.toNat_xor, UInt8.toNat_xor]
        simp only [xor3, run, List.foldl_cons] at *
        rw [e]
        exact ih _ _ _ _ _ (by simpa using h1) (by simpa using h2)
theorem sum_xor3 (a b c : List UInt8) (h1 : a.length = b.length) (h2 : b.length = c.length) : sum (xor3 a b c) = sum a ^^^ sum b ^^^ sum c := by
  have h := run_xor3 (~~~ 0#32) (~~~ 0#32) (~~~ 0#32) a b c h1 h2
  have e : (~~~ 0#32 : BitVec 32) ^^^ ~~~ 0#32 ^^^ ~~~ 0#32 = ~~~ 0#32 := by decide
  rw [e] at h
  simp only [sum, more]
  rw [h]
  have n : ∀ u v t : BitVec 32, ~~~ (u ^^^ v ^^^ t) = ~~~ u ^^^ ~~~ v ^^^ ~~~ t := by
    intro u v t
    ext i
    simp only [BitVec.getElem_not, BitVec.getElem_xor]
    cases u[i] <;> cases v[i] <;> cases t[i] <;> rfl
  exact n _ _ _
end Crc
theorem set_fill (X : List UInt8) (m k : Nat) (hm : X.length = m) (hk : k < m) (x : UInt8) (hx : X[k]? = some x) :
    (X.take k ++ List.replicate (m - k) 0).set k x = X.take (k + 1) ++ List.replicate (m - (k + 1)) 0 := by
  have hl : (X.take k).length = k := by rw [List.length_take]; omega
  obtain ⟨j, hj⟩ : ∃ j, m - k = j + 1 := ⟨m - k - 1, by omega⟩
  have hj2 : m - (k + 1) = j := by omega
  have hlt : k < X.length := by omega
  rw [hj, hj2, List.replicate_succ, List.set_append_right _ _ (by omega), hl, Nat.sub_self, List.set_cons_zero, List.take_succ_eq_append_getElem hlt]
  have : X[k] = x := by rw [List.getElem?_eq_getElem hlt] at hx; injection hx
  rw [this, List.append_assoc]; rfl

set_option maxHeartbeats 400000 in
theorem law_CrcThree (A : Option Addr) (n c : Nat) (a : List UInt8) (A2 : Option Addr) (n2 c2 : Nat) (b : List UInt8) (A3 : Option Addr) (n3 c3 : Nat) (d : List UInt8) (w : World) (hA : LiesB w w.heap.size A n a) (hc : n ≤ c) (_ : c ≤ maxLen)
    (hA2 : LiesB w w.heap.size A2 n2 b) (hc2 : n2 ≤ c2) (_ : c2 ≤ maxLen) (hA3 : LiesB w w.heap.size A3 n3 d) (hc3 : n3 ≤ c3) (_ : c3 ≤ maxLen) :
    Calls Try.prog 5 #[.slice A n c, .slice A2 n2 c2, .slice A3 n3 c3] w fun e w' => e = .returned (.bool true) ∧ Below w.heap.size w w' := by
  have hn : n ≤ 9223372036854775807 := by simp only [maxLen] at *; omega
  have hn2 : n2 ≤ 9223372036854775807 := by simp only [maxLen] at *; omega
  have hn3 : n3 ≤ 9223372036854775807 := by simp only [maxLen] at *; omega
  obtain ⟨m, hm⟩ : ∃ m, m = min (min n 100) (min n2 n3) := ⟨_, rfl⟩
  have hm0 : m ≤ 100 := by omega
  have hm1 : m ≤ n := by omega
  have hm2 : m ≤ n2 := by omega
  have hm3 : m ≤ n3 := by omega
  have Hm := hide hm
  clear hm
  obtain ⟨X, hX⟩ : ∃ X, X = Crc.xor3 (a.take m) (b.take m) (d.take m) := ⟨_, rfl⟩
  have hXl : X.length = m := by rw [hX, Crc.xor3_length]; simp only [List.length_take, hA.len, hA2.len, hA3.len]; omega
  have HX := hide hX
  have HXl := hide hXl
  clear hX hXl
  go_enter Try.func5, Try.ntmps5
  go_wp2_with (first
    | (go_at_call 12; (refine Calls.mono (begun3 _) ?_); rintro e w1 ⟨rfl, hb1⟩)
    | (at_make; (rw [show (min (n : Int) (min 100 (min (n2 : Int) (n3 : Int)))) = (m : Int) from by have := Hm.out; omega]); refine wpB_make rfl _ _ rfl w.heap.size _ _ m rfl rfl rfl rfl (by omega) hb1.size ?_; intro g w2 own2 hb2 hg2))
  go_loopw [10] (fun i wr => ∃ k : Nat, k ≤ m ∧ i = .int .i64 k ∧ OwnB wr w.heap.size (some ⟨g, 0, none⟩) m m (X.take k ++ List.replicate (m - k) 0) ∧ Below w.heap.size w wr) (fun i _ => m - (intOf i).toNat)
  case atStart => exact ⟨0, Nat.zero_le _, rfl, by simpa using own2, hb1.trans hb2⟩
  case round =>
    obtain ⟨k, hk, rfl, hown, hbw⟩ := hrel
    by_cases hlt : k < m
    · obtain ⟨b1, o1, hl1, rfl, -, hc1⟩ := (hA.below hbw).at_ (k := k) (by omega)
      obtain ⟨b2, o2, hl2, rfl, -, hc2'⟩ := (hA2.below hbw).at_ (k := k) (by omega)
      obtain ⟨b3, o3, hl3, rfl, -, hc3'⟩ := (hA3.below hbw).at_ (k := k) (by omega)
      obtain ⟨hl4, hc4⟩ := hown.cell hlt
      have hf4 := hown.frozen k
      go_wp2
      go_region
      go_wp2
      have hst := hown.store k (a[k] ^^^ b[k] ^^^ d[k])
      have hx := Crc.xor3_get (a.take m) (b.take m) (d.take m) k (by rw [List.length_take]; omega) (by rw [List.length_take]; omega) (by rw [List.length_take]; omega)
      rw [← HX.out] at hx
      simp only [List.getElem_take] at hx
      rw [set_fill X m k HXl.out hlt _ hx] at hst
      rw [bits_xor8, bits_xor8]
      exact ⟨⟨k + 1, by omega, by go_num, hst, (hbw.setCell (p := ⟨g, k, none⟩) hown.lt.1 _).drew⟩, by simp [intOf]; omega⟩
    · have hkm : k = m := by omega
      have Hk := hide hkm
      clear hkm
      have own3 : OwnB wr w.heap.size (some ⟨g, 0, none⟩) m m X := by
        have := hown; rw [Hk.out] at this
        simpa [List.take_of_length_le (Nat.le_of_eq HXl.out)] using this
      have ha3 := (hA.below hbw).take m
      have hb3 := (hA2.below hbw).take m
      have hd3 := (hA3.below hbw).take m
      rw [Nat.min_eq_left hm1] at ha3
      rw [Nat.min_eq_left hm2] at hb3
      rw [Nat.min_eq_left hm3] at hd3
      go_wp2
      go_quiet (first
        | (go_at_call 14; with_reducible exact Calls.quiet_of_same' (crc_Sum _ _ _ _ _ _ (own3.lies.drewN _) (by omega)))
        | (go_at_call 14; with_reducible exact Calls.quiet_of_same' (crc_Sum _ _ _ _ _ _ (ha3.drewN _) (by omega)))
        | (go_at_call 14; with_reducible exact Calls.quiet_of_same' (crc_Sum _ _ _ _ _ _ (hb3.drewN _) (by omega)))
        | (go_at_call 14; with_reducible exact Calls.quiet_of_same' (crc_Sum _ _ _ _ _ _ (hd3.drewN _) (by omega))))
      go_wp2
      go_ret
      have hs : Crc.sum X = Crc.sum (a.take m) ^^^ Crc.sum (b.take m) ^^^ Crc.sum (d.take m) := by
        rw [HX.out, Crc.sum_xor3 _ _ _ (by rw [ha3.len, hb3.len]) (by rw [hb3.len, hd3.len])]
      exact ⟨by rw [hs, bits_xor32, bits_xor32]; simp, Below_drewN hbw _⟩
end Go.Proofs.Ytcibhngcpihecaa
