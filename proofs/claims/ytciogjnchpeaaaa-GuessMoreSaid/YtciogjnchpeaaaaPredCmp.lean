/-
  The comparison.
-/
import Derived.Test.YtciogjnchpeaaaaPredFirst
import Derived.Test.YtciogjnchpeaaaaSortS
import Derived.Deep.QuietTactic
import Derived.BigQuiet
namespace Go.Proofs.Ytciogjnchpeaaaa
open Go.RowKit
set_option maxRecDepth 10000
set_option linter.unusedVariables false
open Prd
theorem top_index (d e : Value) (w : World) : (Instr.index 72 (.agg #[d, e]) (.int .i64 0)).run Try.prog w = .ok d w ∧ (Instr.index 72 (.agg #[d, e]) (.int .i64 1)).run Try.prog w = .ok e w :=
  ⟨run_indexA (k := .i64) Try.underlying72 (by kernel_rfl) _ Try.underlying5 rfl [d, e] 0 rfl (by simp) w,
   run_indexA (k := .i64) Try.underlying72 (by kernel_rfl) _ Try.underlying5 rfl [d, e] 1 rfl (by simp) w⟩
/-- Of the greater one of two values: what it is held for, against the lesser one. -/
theorem By.cmp_plain {b : By} {past : List UInt8} {x y : UInt8} (h : y < x) :
    (b.kind ≠ 3 ∧ b.wgt past x ≠ b.wgt past y → ∀ v : Int, v = (b.wgt past y : Int) - (b.wgt past x : Int) → decide (v < 0) = decide (b.key past x < b.key past y)) ∧
    ((b.kind = 3 ∨ b.wgt past x = b.wgt past y) → (x = b.first past → decide (b.key past x < b.key past y) = true) ∧ (y = b.first past → decide (b.key past x < b.key past y) = false) ∧
      (x ≠ b.first past → y ≠ b.first past → decide (b.key past x < b.key past y) = decide (x = endB past))) := by
  have h0 : y.toNat < x.toNat := UInt8.lt_iff_toNat_lt.1 h
  have hne : x ≠ y := fun e => by rw [e] at h0; omega
  have m1 := b.first_min past x
  have m2 := b.first_min past y
  have hk : b.key past x ≠ b.key past y := fun e => hne (b.key_inj past _ _ e)
  refine ⟨?_, ?_⟩
  · rintro ⟨k3, hw⟩ v rfl
    have l1 := b.wgt_le past x
    have l2 := b.wgt_le past y
    have hhi : ∀ y, b.hi past y = past.length - b.wgt past y := fun y => by unfold By.hi; rw [if_neg k3]
    rw [Bool.eq_iff_iff, decide_eq_true_iff, decide_eq_true_iff]
    rcases Nat.lt_or_ge (b.wgt past y) (b.wgt past x) with h1 | h1
    · have := By.key_of_hi (b := b) (past := past) (x := x) (y := y) (by rw [hhi, hhi]; omega)
      constructor <;> intro _ <;> omega
    · have := By.key_of_hi (b := b) (past := past) (x := y) (y := x) (by rw [hhi, hhi]; omega)
      constructor <;> intro _ <;> omega
  · intro hc
    refine ⟨fun e => ?_, fun e => ?_, fun e1 e2 => ?_⟩
    · rw [← e] at m2; exact decide_eq_true (by omega)
    · rw [← e] at m1; exact decide_eq_false (by omega)
    · have hhi : b.hi past x = b.hi past y := by
        unfold By.hi
        by_cases k3 : b.kind = 3
        · rw [if_pos k3, if_pos k3, By.first_table k3, if_neg e1, if_neg e2]
        · rw [if_neg k3, if_neg k3]
          rcases hc with hc | hc
          · exact absurd hc k3
          · rw [hc]
      have := By.key_lt_of_hi (b := b) (past := past) h hhi
      rw [Bool.eq_iff_iff, decide_eq_true_iff, decide_eq_true_iff]
      exact this
set_option maxHeartbeats 4000000 in
set_option maxRecDepth 10000 in
theorem pred_cmp {b : By} {past : List UInt8} {gd ge gb gw : Nat} {W : World} {t : Value} (hn : past.length ≤ 1000000)
    (a0 : Arr 5 W gd [.int .u8 ((b.first past).toNat : Int)]) (a1 : Arr 5 W ge [.int .u8 ((endB past).toNat : Int)]) (h2 : Arr 39 W gb (b.row t)) (h3 : Arr 67 W gw (wl (b.wgt past))) (x y : UInt8) (hyx : y < x) :
    Calls Try.prog 38 #[.int .u8 (x.toNat : Int), .int .u8 (y.toNat : Int), .pointer (some ⟨gd, 0, none⟩), .pointer (some ⟨ge, 0, none⟩), .pointer (some ⟨gb, 0, none⟩), .pointer (some ⟨gw, 0, none⟩)] W fun e w' => ∃ v : Int, e = .returned (.int .i64 v) ∧ decide (v < 0) = decide (b.key past x < b.key past y) ∧ Below W.heap.size W w' := by
  obtain ⟨P1, P2⟩ := By.cmp_plain (b := b) (past := past) hyx
  obtain ⟨r, hr⟩ : ∃ r, r = decide (b.key past x < b.key past y) := ⟨_, rfl⟩
  rw [← hr] at P1 P2 ⊢
  have hx256 : x.toNat < 256 := x.toNat_lt
  have hxi : (x.toNat : Int) < 256 := by omega
  have hy256 : y.toNat < 256 := y.toNat_lt
  have hyi : (y.toNat : Int) < 256 := by omega
  have hxy : Hid (x ≠ y) := fun e => by rw [e] at hyx; simp at hyx
  have h0 := a0.cell (j := 0) (by simp)
  have h1 := a1.cell (j := 0) (by simp)
  simp only [List.getElem_cons_zero] at h0 h1
  have l0 := a0.lt
  have l1 := a1.lt
  have l2 := h2.lt
  have l3 := h3.lt
  have cx := h3.wcell x
  have cy := h3.wcell y
  have lx := b.wgt_le past x
  have ly := b.wgt_le past y
  have ck := h2.cell (j := 0) (by simp [By.row])
  simp only [By.row, List.getElem_cons_zero] at ck
  obtain ⟨d, hd⟩ : ∃ d, d = b.first past := ⟨_, rfl⟩
  obtain ⟨e, he⟩ : ∃ e, e = endB past := ⟨_, rfl⟩
  obtain ⟨p, hp⟩ : ∃ p, p = b.wgt past x := ⟨_, rfl⟩
  obtain ⟨q, hq⟩ : ∃ q, q = b.wgt past y := ⟨_, rfl⟩
  obtain ⟨kd, hk⟩ : ∃ q, q = b.kind := ⟨_, rfl⟩
  rw [← hd] at h0 P2
  rw [← he] at h1 P2
  rw [← hp] at cx lx P1 P2
  rw [← hq] at cy ly P1 P2
  rw [← hk] at ck P1 P2
  have HP1 := hide P1
  have HP2 := hide P2
  have hp2 : p ≤ 1000000 := by omega
  have hq2 : q ≤ 1000000 := by omega
  clear a0 a1 h2 h3 hyx hr P1 P2 hd he hp hq hk lx ly
  by_cases hC : kd ≠ 3 ∧ p ≠ q
  · have dk : (kd != 3) = true := by simpa using hC.1
    have dpq : ((p : Int) != (q : Int)) = true := by have := hC.2; simp; omega
    have HR := hide (HP1.out hC)
    clear hC HP1 HP2
    go_enter Try.func38, Try.ntmps38
    have i0 := (top_index (.int .u8 (d.toNat : Int)) (.int .u8 (e.toNat : Int)))
    have I0 := hide i0
    clear i0
    go_wp2_with fail
    go_loopg [10, 14] 1 (fun gg s10 s14 wr => gg = 1 ∧ s14 = .int .i64 0 ∧ W = wr)
    case atStart => exact ⟨rfl, rfl, rfl⟩
    case round =>
      obtain ⟨rfl, rfl, rfl⟩ := hrel
      go_wp2_with fail
      rw [(I0.out _).1]
      go_wp2_with fail
      go_quiet (fail)
      go_wp2_with fail
      go_quiet (fail)
      go_wp2_with fail
      go_ret
      exact ⟨_, rfl, HR.out _ rfl, Below_drewN (Below_drewN (Below.refl _ _) _) _⟩
  · by_cases k3 : kd = 3
    · subst k3
      have HC : Hid ((3 : Int) = 3 ∨ p = q) := .inl rfl
      clear hC
      have i0 := (top_index (.int .u8 (d.toNat : Int)) (.int .u8 (e.toNat : Int)))
      have I0 := hide i0
      clear i0
      go_enter Try.func38, Try.ntmps38
      go_wp2_with fail
      go_loopg [10, 14] 2 (fun gg s10 s14 wr => ∃ k nd : Nat, k ≤ 2 ∧ gg = 2 - k ∧ s14 = .int .i64 (k : Int) ∧ wr = W.drewN nd ∧ Hid ((k = 1 ∨ k = 2 → x ≠ d ∧ y ≠ d) ∧ (k = 2 → x ≠ e ∧ y ≠ e)))
      case atStart => exact ⟨0, 0, by omega, rfl, rfl, rfl, fun h => by omega, fun h => by omega⟩
      case round =>
        obtain ⟨k, nd, hk2, rfl, rfl, rfl, HN⟩ := hrel
        by_cases hlt : k < 2
        · obtain ⟨t, ht, it⟩ : ∃ t : UInt8, ((k = 0 ∧ t = d) ∨ (k = 1 ∧ t = e)) ∧ ∀ w, (Instr.index 72 (.agg #[.int .u8 (d.toNat : Int), .int .u8 (e.toNat : Int)]) (.int .i64 (k : Int))).run Try.prog w = .ok (.int .u8 (t.toNat : Int)) w := by
            obtain rfl | rfl : k = 0 ∨ k = 1 := by omega
            · exact ⟨d, .inl ⟨rfl, rfl⟩, fun w => (I0.out w).1⟩
            · exact ⟨e, .inr ⟨rfl, rfl⟩, fun w => (I0.out w).2⟩
          have IT := hide it
          have HTT := hide ht
          clear it ht
          by_cases hxt : x = t
          · have dx : ((x.toNat : Int) == (t.toNat : Int)) = true := by rw [hxt]; simp
            have dy : ((y.toNat : Int) == (t.toNat : Int)) = false := by
              have : y.toNat ≠ t.toNat := fun e => hxy.out (hxt.trans (UInt8.toNat_inj.1 e).symm)
              simp; omega
            have HR : Hid (r = true) := by
              have h2 := HP2.out HC.out
              rcases HTT.out with ⟨hk, ht⟩ | ⟨hk, ht⟩
              · exact h2.1 (hxt.trans ht)
              · obtain ⟨n1, n2⟩ := HN.out.1 (.inl hk)
                show _ = _
                rw [h2.2.2 n1 n2]; exact decide_eq_true (hxt.trans ht)
            clear hxt
            go_wp2_with fail
            rw [IT.out]
            go_wp2_with fail
            go_quiet (fail)
            go_wp2_with fail
            go_ret
            refine ⟨-1, rfl, by rw [HR.out]; rfl, Below_drewN (Below.refl _ _) _⟩
          · have dx : ((x.toNat : Int) == (t.toNat : Int)) = false := by
              have : x.toNat ≠ t.toNat := fun e => hxt (UInt8.toNat_inj.1 e)
              simp; omega
            by_cases hyt : y = t
            · have dy : ((y.toNat : Int) == (t.toNat : Int)) = true := by rw [hyt]; simp
              have HR : Hid (r = false) := by
                have h2 := HP2.out HC.out
                rcases HTT.out with ⟨hk, ht⟩ | ⟨hk, ht⟩
                · exact h2.2.1 (hyt.trans ht)
                · obtain ⟨n1, n2⟩ := HN.out.1 (.inl hk)
                  show _ = _
                  rw [h2.2.2 n1 n2]; exact decide_eq_false (fun e => hxt (e.trans ht.symm))
              clear hxt hyt
              go_wp2_with fail
              rw [IT.out]
              go_wp2_with fail
              go_quiet (fail)
              go_wp2_with fail
              go_ret
              refine ⟨1, rfl, by rw [HR.out]; rfl, Below_drewN (Below.refl _ _) _⟩
            · have dy : ((y.toNat : Int) == (t.toNat : Int)) = false := by
                have : y.toNat ≠ t.toNat := fun e => hyt (UInt8.toNat_inj.1 e)
                simp; omega
              have HN2 : Hid ((k + 1 = 1 ∨ k + 1 = 2 → x ≠ d ∧ y ≠ d) ∧ (k + 1 = 2 → x ≠ e ∧ y ≠ e)) := by
                rcases HTT.out with ⟨hk, ht⟩ | ⟨hk, ht⟩
                · exact ⟨fun _ => by rw [← ht]; exact ⟨hxt, hyt⟩, fun h => by omega⟩
                · exact ⟨fun _ => HN.out.1 (.inl hk), fun _ => by rw [← ht]; exact ⟨hxt, hyt⟩⟩
              clear hxt hyt
              go_wp2_with fail
              rw [IT.out]
              go_wp2_with fail
              go_quiet (fail)
              go_wp2_with fail
              go_roundg (2 - (k + 1))
              case measure => omega
              case rel => exact ⟨k + 1, _, by omega, rfl, by go_num, rfl, HN2.out⟩
        · obtain rfl : k = 2 := by omega
          have HR : Hid (r = false) := by
            obtain ⟨n1, n2⟩ := HN.out.1 (.inr rfl)
            show _ = _
            rw [(HP2.out HC.out).2.2 n1 n2]
            exact decide_eq_false (HN.out.2 rfl).1
          go_wp2_with fail
          go_ret
          exact ⟨0, rfl, by rw [HR.out]; rfl, Below_drewN (Below.refl _ _) _⟩
    · obtain rfl : p = q := by
        by_cases h : p = q
        · exact h
        · exact absurd ⟨k3, h⟩ hC
      have dk : (kd != 3) = true := by simpa using k3
      have HC : Hid (kd = 3 ∨ p = p) := .inr rfl
      clear hC k3
      have i0 := (top_index (.int .u8 (d.toNat : Int)) (.int .u8 (e.toNat : Int)))
      have I0 := hide i0
      clear i0
      go_enter Try.func38, Try.ntmps38
      go_wp2_with fail
      go_loopg [10, 14] 2 (fun gg s10 s14 wr => ∃ k nd : Nat, k ≤ 2 ∧ gg = 2 - k ∧ s14 = .int .i64 (k : Int) ∧ wr = W.drewN nd ∧ Hid ((k = 1 ∨ k = 2 → x ≠ d ∧ y ≠ d) ∧ (k = 2 → x ≠ e ∧ y ≠ e)))
      case atStart => exact ⟨0, 0, by omega, rfl, rfl, rfl, fun h => by omega, fun h => by omega⟩
      case round =>
        obtain ⟨k, nd, hk2, rfl, rfl, rfl, HN⟩ := hrel
        by_cases hlt : k < 2
        · obtain ⟨t, ht, it⟩ : ∃ t : UInt8, ((k = 0 ∧ t = d) ∨ (k = 1 ∧ t = e)) ∧ ∀ w, (Instr.index 72 (.agg #[.int .u8 (d.toNat : Int), .int .u8 (e.toNat : Int)]) (.int .i64 (k : Int))).run Try.prog w = .ok (.int .u8 (t.toNat : Int)) w := by
            obtain rfl | rfl : k = 0 ∨ k = 1 := by omega
            · exact ⟨d, .inl ⟨rfl, rfl⟩, fun w => (I0.out w).1⟩
            · exact ⟨e, .inr ⟨rfl, rfl⟩, fun w => (I0.out w).2⟩
          have IT := hide it
          have HTT := hide ht
          clear it ht
          by_cases hxt : x = t
          · have dx : ((x.toNat : Int) == (t.toNat : Int)) = true := by rw [hxt]; simp
            have dy : ((y.toNat : Int) == (t.toNat : Int)) = false := by
              have : y.toNat ≠ t.toNat := fun e => hxy.out (hxt.trans (UInt8.toNat_inj.1 e).symm)
              simp; omega
            have HR : Hid (r = true) := by
              have h2 := HP2.out HC.out
              rcases HTT.out with ⟨hk, ht⟩ | ⟨hk, ht⟩
              · exact h2.1 (hxt.trans ht)
              · obtain ⟨n1, n2⟩ := HN.out.1 (.inl hk)
                show _ = _
                rw [h2.2.2 n1 n2]; exact decide_eq_true (hxt.trans ht)
            clear hxt
            go_wp2_with fail
            rw [IT.out]
            go_wp2_with fail
            go_quiet (fail)
            go_wp2_with fail
            go_ret
            refine ⟨-1, rfl, by rw [HR.out]; rfl, Below_drewN (Below.refl _ _) _⟩
          · have dx : ((x.toNat : Int) == (t.toNat : Int)) = false := by
              have : x.toNat ≠ t.toNat := fun e => hxt (UInt8.toNat_inj.1 e)
              simp; omega
            by_cases hyt : y = t
            · have dy : ((y.toNat : Int) == (t.toNat : Int)) = true := by rw [hyt]; simp
              have HR : Hid (r = false) := by
                have h2 := HP2.out HC.out
                rcases HTT.out with ⟨hk, ht⟩ | ⟨hk, ht⟩
                · exact h2.2.1 (hyt.trans ht)
                · obtain ⟨n1, n2⟩ := HN.out.1 (.inl hk)
                  show _ = _
                  rw [h2.2.2 n1 n2]; exact decide_eq_false (fun e => hxt (e.trans ht.symm))
              clear hxt hyt
              go_wp2_with fail
              rw [IT.out]
              go_wp2_with fail
              go_quiet (fail)
              go_wp2_with fail
              go_ret
              refine ⟨1, rfl, by rw [HR.out]; rfl, Below_drewN (Below.refl _ _) _⟩
            · have dy : ((y.toNat : Int) == (t.toNat : Int)) = false := by
                have : y.toNat ≠ t.toNat := fun e => hyt (UInt8.toNat_inj.1 e)
                simp; omega
              have HN2 : Hid ((k + 1 = 1 ∨ k + 1 = 2 → x ≠ d ∧ y ≠ d) ∧ (k + 1 = 2 → x ≠ e ∧ y ≠ e)) := by
                rcases HTT.out with ⟨hk, ht⟩ | ⟨hk, ht⟩
                · exact ⟨fun _ => by rw [← ht]; exact ⟨hxt, hyt⟩, fun h => by omega⟩
                · exact ⟨fun _ => HN.out.1 (.inl hk), fun _ => by rw [← ht]; exact ⟨hxt, hyt⟩⟩
              clear hxt hyt
              go_wp2_with fail
              rw [IT.out]
              go_wp2_with fail
              go_quiet (fail)
              go_wp2_with fail
              go_roundg (2 - (k + 1))
              case measure => omega
              case rel => exact ⟨k + 1, _, by omega, rfl, by go_num, rfl, HN2.out⟩
        · obtain rfl : k = 2 := by omega
          have HR : Hid (r = false) := by
            obtain ⟨n1, n2⟩ := HN.out.1 (.inr rfl)
            show _ = _
            rw [(HP2.out HC.out).2.2 n1 n2]
            exact decide_eq_false (HN.out.2 rfl).1
          go_wp2_with fail
          go_ret
          exact ⟨0, rfl, by rw [HR.out]; rfl, Below_drewN (Below.refl _ _) _⟩
end Go.Proofs.Ytciogjnchpeaaaa
