/-
  The walks of word.Put, word.Get.
-/
import Derived.Test.YtmikaidfdcamfaaNums
namespace Go.Proofs.Ytmikaidfdcamfaa
open Go.RowKit
set_option maxHeartbeats 400000 in
theorem word_Put (a : Int) (w : World) : Calls Try.prog 18 #[.int .i32 a] w fun e w' =>
    ∃ A c, e = .returned (.slice A 4 c) ∧ OwnB w' w.heap.size A 4 c (be32 a) ∧ Below w.heap.size w w' := by
  go_enter Try.func18, Try.ntmps18
  go_wp2
  go_ret
  exact ⟨_, _, rfl, OwnB.new _ _ 4 _ rfl (by simp [maxLen]) (be32_cells a), Below_new _ _⟩
set_option maxHeartbeats 400000 in
theorem word_Get (A : Option Addr) (n c B : Nat) (l : List UInt8) (w : World) (hA : LiesB w B A n l) (hm : n ≤ 9223372036854775807) :
    Calls Try.prog 17 #[.slice A n c] w fun e w' => e = .returned (.int .i32 (get32 l)) ∧ ∃ k, w' = w.drewN k := by
  by_cases h4 : n < 4
  · rw [get32_short (by rw [hA.len]; exact h4)]
    clear hA
    go_enter Try.func17, Try.ntmps17
    go_wp2
    go_ret
    exact ⟨rfl, 0, rfl⟩
  · have hl := hA.len
    match l, hl with
    | [], hl => simp at hl; omega
    | [_], hl => simp at hl; omega
    | [_, _], hl => simp at hl; omega
    | [_, _, _], hl => simp at hl; omega
    | x :: y :: z :: u :: r, hl =>
      clear hl
      obtain ⟨b, off, rfl, -, hc⟩ := hA.2 (by simp)
      have c0 := hc 0 _ rfl
      have c1 := hc 1 _ rfl
      have c2 := hc 2 _ rfl
      have c3 := hc 3 _ rfl
      simp only [bv, Nat.add_zero] at c0 c1 c2 c3
      clear hA hc
      have hx := x.toNat_lt
      have hy := y.toNat_lt
      have hz := z.toNat_lt
      have hu := u.toNat_lt
      go_enter Try.func17, Try.ntmps17
      go_wp2
      go_quiet (fail)
      go_wp2
      go_ret
      rw [or4]
      exact ⟨rfl, nq, rfl⟩
end Go.Proofs.Ytmikaidfdcamfaa
