/-
  quintainref1.Put.
-/
import Derived.Test.YtcjcmjkpfijhdaaVar
namespace Go.Proofs.Ytcjcmjkpfijhdaa
open Go.RowKit
set_option linter.unusedVariables false
namespace Var
theorem zig_neg2 {v : Int} (h : v < 0) (lo : -9223372036854775808 ≤ v) : bits BinOp.xor IntKind.u64 IntKind.u64.max (IntKind.u64.wrap (IntKind.u64.wrap v * 2)) = (zig v : Int) := zig_neg h lo
theorem wrap128 (u : Nat) : ((u : Int) % 128 + 128) = ((UInt8.ofNat (u % 128 + 128)).toNat : Int) := by
  rw [UInt8.toNat_ofNat']; omega
end Var
set_option maxRecDepth 10000 in
set_option maxHeartbeats 1000000 in
theorem ref_Put (v : Int) (w : World) (lo : -9223372036854775808 ≤ v) (hi : v ≤ 9223372036854775807) :
    Calls Try.prog 27 #[.int .i64 v] w fun e w' => ∃ A' n' c', e = .returned (.slice A' n' c') ∧ OwnB w' w.heap.size A' n' c' (Var.put (Var.zig v)) ∧ Below w.heap.size w w' := by
  have hz := Var.zig_lt v lo hi
  have h10 := Var.put_len10 _ hz
  obtain ⟨u0, hu0⟩ : ∃ u0, u0 = Var.zig v := ⟨_, rfl⟩
  rw [← hu0] at hz h10 ⊢
  have Hz := hide hz
  have Hu := hide hu0
  clear hz hu0
  by_cases hv : v < 0
  · have e1 := Var.zig_neg hv lo
    rw [← Hu.out] at e1
    have sg : IntKind.u64.signed = false := rfl
    go_enter Try.func27, Try.ntmps27
    go_wp2
    all_goals clear e1
    go_loopw [3, 4] (fun x s wr => ∃ A' n' c' l' u, s = .slice A' n' c' ∧ x = .int .u64 (u : Nat) ∧ u < 18446744073709551616 ∧ OwnB wr w.heap.size A' n' c' l' ∧ l' ++ Var.put u = Var.put u0 ∧ Below w.heap.size w wr) (fun x _ _ => (intOf x).toNat)
    case atStart => exact ⟨_, _, _, [], u0, rfl, rfl, Hz.out, OwnB.nil _ _, rfl, Below.refl _ _⟩
    case round =>
      obtain ⟨A', n', c', l', u, rfl, rfl, hu, hown, heq, hbel⟩ := hrel
      have hlen : n' ≤ 10 := by
        have e2 := congrArg List.length heq
        have e3 := hown.len
        rw [List.length_append] at e2
        omega
      have hb2 : w.heap.size ≤ wr.heap.size := by have := hbel.size; omega
      have HO := hide hown
      have HB := hide hbel
      have HE := hide heq
      have HU := hide hu
      clear hown hbel heq hu
      by_cases hbig : 127 < u
      · go_wp2_with (at_builtin; refine wpB_append rfl (.tmp 14) (.tmp 19) rfl w.heap.size A' n' c' l' rfl (HO.out.below (Below_new _ _)) _ _ 1 1 [UInt8.ofNat (u % 128 + 128)] rfl (LiesB.new _ _ _ _ _ _ rfl (congrArg (fun z => [Value.int .u8 z]) (Var.wrap128 u))) (n' + 1) _ rfl rfl (by omega) (by simp; omega) ?_; intro A2 c2 w2 own2 hb3 hg2)
        rw [show IntKind.u64.wrap ((u : Int) / 128) = ((u / 128 : Nat) : Int) from by have := HU.out; rw [IntKind.wrap_u64]; omega]
        refine ⟨⟨A2, n' + 1, c2, _, u / 128, rfl, rfl, by have := HU.out; omega, own2, ?_, HB.out.trans ((Below_new _ _).mono hb2 |>.trans hb3)⟩, by simp [intOf]; omega⟩
        rw [← HE.out, List.append_assoc, Var.put_big (u := u) (by omega)]; rfl
      · go_wp2_with (at_builtin; refine wpB_append rfl (.tmp 23) (.tmp 26) rfl w.heap.size A' n' c' l' rfl (HO.out.below (Below_new _ _)) _ _ 1 1 [UInt8.ofNat u] rfl (LiesB.new _ _ _ _ _ _ rfl (by simp [bv]; omega)) (n' + 1) _ rfl rfl (by omega) (by simp; omega) ?_; intro A2 c2 w2 own2 hb3 hg2)
        go_ret
        refine ⟨A2, n' + 1, c2, rfl, ?_, HB.out.trans ((Below_new _ _).mono hb2 |>.trans hb3)⟩
        rw [← HE.out, Var.put_small (u := u) (by omega)]
        exact own2
  · have sg : IntKind.u64.signed = false := rfl
    have e1 : v * 2 = (u0 : Int) := by rw [Hu.out, Var.zig, if_neg hv]; omega
    go_enter Try.func27, Try.ntmps27
    go_wp2
    try rw [e1]
    clear e1
    go_loopw [3, 4] (fun x s wr => ∃ A' n' c' l' u, s = .slice A' n' c' ∧ x = .int .u64 (u : Nat) ∧ u < 18446744073709551616 ∧ OwnB wr w.heap.size A' n' c' l' ∧ l' ++ Var.put u = Var.put u0 ∧ Below w.heap.size w wr) (fun x _ _ => (intOf x).toNat)
    case atStart => exact ⟨_, _, _, [], u0, rfl, rfl, Hz.out, OwnB.nil _ _, rfl, Below.refl _ _⟩
    case round =>
      obtain ⟨A', n', c', l', u, rfl, rfl, hu, hown, heq, hbel⟩ := hrel
      have hlen : n' ≤ 10 := by
        have e2 := congrArg List.length heq
        have e3 := hown.len
        rw [List.length_append] at e2
        omega
      have hb2 : w.heap.size ≤ wr.heap.size := by have := hbel.size; omega
      have HO := hide hown
      have HB := hide hbel
      have HE := hide heq
      have HU := hide hu
      clear hown hbel heq hu
      by_cases hbig : 127 < u
      · go_wp2_with (at_builtin; refine wpB_append rfl (.tmp 14) (.tmp 19) rfl w.heap.size A' n' c' l' rfl (HO.out.below (Below_new _ _)) _ _ 1 1 [UInt8.ofNat (u % 128 + 128)] rfl (LiesB.new _ _ _ _ _ _ rfl (congrArg (fun z => [Value.int .u8 z]) (Var.wrap128 u))) (n' + 1) _ rfl rfl (by omega) (by simp; omega) ?_; intro A2 c2 w2 own2 hb3 hg2)
        rw [show IntKind.u64.wrap ((u : Int) / 128) = ((u / 128 : Nat) : Int) from by have := HU.out; rw [IntKind.wrap_u64]; omega]
        refine ⟨⟨A2, n' + 1, c2, _, u / 128, rfl, rfl, by have := HU.out; omega, own2, ?_, HB.out.trans ((Below_new _ _).mono hb2 |>.trans hb3)⟩, by simp [intOf]; omega⟩
        rw [← HE.out, List.append_assoc, Var.put_big (u := u) (by omega)]; rfl
      · go_wp2_with (at_builtin; refine wpB_append rfl (.tmp 23) (.tmp 26) rfl w.heap.size A' n' c' l' rfl (HO.out.below (Below_new _ _)) _ _ 1 1 [UInt8.ofNat u] rfl (LiesB.new _ _ _ _ _ _ rfl (by simp [bv]; omega)) (n' + 1) _ rfl rfl (by omega) (by simp; omega) ?_; intro A2 c2 w2 own2 hb3 hg2)
        go_ret
        refine ⟨A2, n' + 1, c2, rfl, ?_, HB.out.trans ((Below_new _ _).mono hb2 |>.trans hb3)⟩
        rw [← HE.out, Var.put_small (u := u) (by omega)]
        exact own2
end Go.Proofs.Ytcjcmjkpfijhdaa
