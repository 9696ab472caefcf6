/-
  The walks of packet's reader: num and four.
-/
import Derived.Test.YtcjcmjkpfijhdaaPktMem
import Derived.Test.YtcjcmjkpfijhdaaVarGet
namespace Go.Proofs.Ytcjcmjkpfijhdaa
open Go.RowKit
set_option linter.unusedVariables false
/-- The reader in block r: what is left to read, and whether something did not go. -/
structure Rd (w : World) (B r : Nat) (bad : Bool) (A : Option Addr) (n c : Nat) (l : List UInt8) : Prop where
  arr : Arr 52 w r [.slice A n c, .bool bad]
  lies : LiesB w B A n l
  ge : B ≤ r
  cap : n ≤ c
theorem LiesB.set {w : World} {B r n : Nat} {A : Option Addr} {l : List UInt8} (h : LiesB w B A n l) (hr : B ≤ r) (j : Nat) (v : Value) : LiesB (w.setCell ⟨r, j, none⟩ v) B A n l :=
  h.below ⟨rfl, rfl, rfl, by simp [World.setCell], fun k hk => Below.heap_setCell w ⟨r, j, none⟩ v k (by show k ≠ r; omega)⟩
set_option maxHeartbeats 1000000 in
theorem reader_num {w : World} {B r n c : Nat} {bad bad' : Bool} {A : Option Addr} {l l' : List UInt8} {v : Int} (h : Rd w B r bad A n c l) (hn : n ≤ 140737488355328) (hv : Pkt.num bad l = (v, bad', l')) :
    Calls Try.prog 31 #[.pointer (some ⟨r, 0, none⟩)] w fun e w' => ∃ A' n' c', e = .returned (.int .i64 v) ∧ Rd w' B r bad' A' n' c' l' ∧ n' ≤ n ∧ Keeps (fun k => k = r) w w' ∧ w'.heap.size = w.heap.size := by
  have c0 := h.arr.cell (j := 0) (by simp)
  have c1 := h.arr.cell (j := 1) (by simp)
  have f0 := h.arr.frozen 0
  have f1 := h.arr.frozen 1
  simp only [List.getElem_cons_zero, List.getElem_cons_succ] at c0 c1
  have H := hide h
  have hl := h.lies.len
  obtain ⟨⟨v0, m, er⟩, hg⟩ : ∃ x, Var.get 0 0 l = x := ⟨_, rfl⟩
  have HG := hide hg
  unfold Pkt.num at hv
  rw [hg] at hv
  simp only at hv
  cases bad
  · by_cases he : er = 0
    · subst he
      have hv' : (v0, false, l.drop m) = (v, bad', l') := hv
      simp only [Prod.mk.injEq] at hv'
      obtain ⟨rfl, rfl, hl'⟩ := hv'
      have hm : m ≤ n := by have := (Var.get_back0 hg).2; omega
      have HL := hide hl'
      clear hv hg hl' h
      go_enter Try.func31, Try.ntmps31
      go_wp2_with fail
      refine Calls.mono (num_Get _ _ _ _ _ _ H.out.lies hn v0 m 0 HG.out) ?_
      rintro e w1 ⟨rfl, rfl⟩
      go_wp2_with fail
      go_ret
      exact ⟨_, _, _, rfl, ⟨(H.out.arr.set 1 (.bool false)).set 0 _, by rw [← HL.out]; exact ((H.out.lies.set H.out.ge 1 _).set H.out.ge 0 _).cut H.out.cap, H.out.ge, by have := H.out.cap; omega⟩, by omega,
        (Keeps.setCell _ ⟨r, 1, none⟩ _).trans (Keeps.setCell _ ⟨r, 0, none⟩ _) (fun _ _ h => h), by simp [World.setCell]⟩
    · have d1 : (er != 0) = true := by simpa using he
      have d2 : (er == 0) = false := by simpa using he
      rw [d2] at hv
      have hv' : (v0, true, l) = (v, bad', l') := hv
      simp only [Prod.mk.injEq] at hv'
      obtain ⟨rfl, rfl, rfl⟩ := hv'
      clear hv hg h d2 he
      go_enter Try.func31, Try.ntmps31
      go_wp2_with fail
      refine Calls.mono (num_Get _ _ _ _ _ _ H.out.lies hn v0 m er HG.out) ?_
      rintro e w1 ⟨rfl, rfl⟩
      go_wp2_with fail
      go_ret
      exact ⟨_, _, _, rfl, ⟨H.out.arr.set 1 (.bool true), H.out.lies.set H.out.ge 1 _, H.out.ge, H.out.cap⟩, Nat.le_refl _, Keeps.setCell _ ⟨r, 1, none⟩ _, by simp [World.setCell]⟩
  · have hv' : (v0, true, l) = (v, bad', l') := hv
    simp only [Prod.mk.injEq] at hv'
    obtain ⟨rfl, rfl, rfl⟩ := hv'
    clear hv hg h
    go_enter Try.func31, Try.ntmps31
    go_wp2_with fail
    refine Calls.mono (num_Get _ _ _ _ _ _ H.out.lies hn v0 m er HG.out) ?_
    rintro e w1 ⟨rfl, rfl⟩
    go_wp2_with fail
    go_ret
    exact ⟨_, _, _, rfl, ⟨H.out.arr.set 1 (.bool true), H.out.lies.set H.out.ge 1 _, H.out.ge, H.out.cap⟩, Nat.le_refl _, Keeps.setCell _ ⟨r, 1, none⟩ _, by simp [World.setCell]⟩
namespace Pkt
def val4 (l : List UInt8) (k : Nat) : Nat := (l.take k).foldl (fun x b => x * 256 + b.toNat) 0
theorem val4_succ (l : List UInt8) (k : Nat) (hk : k < l.length) : val4 l (k + 1) = val4 l k * 256 + l[k].toNat := by
  unfold val4
  rw [List.take_succ_eq_append_getElem hk, List.foldl_append]
  rfl
theorem val4_lt (l : List UInt8) (k : Nat) (hk : k < 4) (hl : k ≤ l.length) : val4 l k < 256 ^ k := by
  induction k with
  | zero => simp [val4]
  | succ k ih =>
    rw [val4_succ l k (by omega), Nat.pow_succ]
    have := ih (by omega) (by omega)
    have := l[k].toNat_lt
    omega
theorem val4_four (l : List UInt8) (h : 4 ≤ l.length) : (val4 l 4 : Int) = get4 l := by
  match l, h with
  | a :: b :: c :: d :: t, _ => simp only [val4, List.take_succ_cons, List.take_zero, List.foldl_cons, List.foldl_nil, get4, num4]; omega
theorem or_next (x : Nat) (c : UInt8) (hx : x < 16777216) : bits BinOp.or IntKind.u32 ((x : Int) * 256) (c.toNat : Int) = ((x * 256 + c.toNat : Nat) : Int) := by
  have hc := c.toNat_lt
  rw [show (x : Int) * 256 = ((x * 256 : Nat) : Int) from by omega, u32_or_nat _ _ (by omega) (by omega), nat_join 8 _ _ (by omega) (by omega)]
end Pkt
set_option maxHeartbeats 1000000 in
theorem reader_four {w : World} {B r n c : Nat} {bad bad' : Bool} {A : Option Addr} {l l' : List UInt8} {v : Int} (h : Rd w B r bad A n c l) (hn : n ≤ 140737488355328) (hv : Pkt.four bad l = (v, bad', l')) :
    Calls Try.prog 32 #[.pointer (some ⟨r, 0, none⟩)] w fun e w' => ∃ A' n' c', e = .returned (.int .u32 v) ∧ Rd w' B r bad' A' n' c' l' ∧ n' ≤ n ∧ Keeps (fun k => k = r) w w' ∧ w'.heap.size = w.heap.size := by
  have c0 := h.arr.cell (j := 0) (by simp)
  have c1 := h.arr.cell (j := 1) (by simp)
  have f0 := h.arr.frozen 0
  have f1 := h.arr.frozen 1
  simp only [List.getElem_cons_zero, List.getElem_cons_succ] at c0 c1
  have H := hide h
  have hl := h.lies.len
  unfold Pkt.four at hv
  cases bad
  · by_cases he : n < 4
    · have d1 : decide ((n : Int) < 4) = true := decide_eq_true (by omega)
      rw [if_pos (.inr (by omega))] at hv
      simp only [Prod.mk.injEq] at hv
      obtain ⟨rfl, rfl, rfl⟩ := hv
      clear h he
      go_enter Try.func32, Try.ntmps32
      go_wp2_with fail
      go_ret
      exact ⟨_, _, _, rfl, ⟨H.out.arr.set 1 (.bool true), H.out.lies.set H.out.ge 1 _, H.out.ge, H.out.cap⟩, Nat.le_refl _, Keeps.setCell _ ⟨r, 1, none⟩ _, by simp [World.setCell]⟩
    · have d1 : decide ((n : Int) < 4) = false := decide_eq_false (by omega)
      rw [if_neg (by rintro (h | h); cases h; omega)] at hv
      simp only [Prod.mk.injEq] at hv
      obtain ⟨hv, rfl, hl'⟩ := hv
      have HL := hide hl'
      have hcap := h.cap
      obtain ⟨b, off, hl0, hA, hbB, -⟩ := h.lies.at_ (k := 0) (by omega)
      subst hA
      have hbr : b ≠ r := by have := h.ge; omega
      clear h hl'
      go_enter Try.func32, Try.ntmps32
      go_wp2_with fail
      have K1 : Hid (Keeps (fun k => k = r) w (w.setCell ⟨r, 1, none⟩ (.bool false))) := Keeps.setCell _ ⟨r, 1, none⟩ _
      have Z1 : Hid ((w.setCell ⟨r, 1, none⟩ (.bool false)).heap.size = w.heap.size) := by show _ = _; simp [World.setCell]
      have H1 : Hid (Rd (w.setCell ⟨r, 1, none⟩ (.bool false)) B r false (some ⟨b, off, none⟩) n c l) := ⟨H.out.arr.set 1 (.bool false), H.out.lies.set H.out.ge 1 _, H.out.ge, H.out.cap⟩
      generalize w.setCell ⟨r, 1, none⟩ (.bool false) = w1 at K1 Z1 H1 ⊢
      clear c0 c1 f0 f1
      have c0 := H1.out.arr.cell (j := 0) (by simp)
      have f0 := H1.out.arr.frozen 0
      simp only [List.getElem_cons_zero] at c0
      go_loop [3, 31] (fun x i => ∃ k : Nat, k ≤ 4 ∧ i = .int .i64 k ∧ x = .int .u32 ((Pkt.val4 l k : Nat) : Int)) (fun _ i => 4 - (intOf i).toNat)
      case atStart => exact ⟨0, Nat.zero_le _, rfl, rfl⟩
      case round =>
        obtain ⟨k, hk, rfl, rfl⟩ := hrel
        by_cases hlt : k < 4
        · obtain ⟨b', off', hlk, hAA, -, hc⟩ := H1.out.lies.at_ (k := k) (by omega)
          injection hAA with hAA
          injection hAA with h1 h2
          subst h1 h2
          obtain ⟨z, hz⟩ : ∃ z, z = l[k] := ⟨_, rfl⟩
          rw [← hz] at hc
          obtain ⟨x, hx⟩ : ∃ x, x = Pkt.val4 l k := ⟨_, rfl⟩
          have hx2 := Pkt.val4_lt l k hlt (by omega)
          rw [← hx] at hx2 ⊢
          have hx3 : x < 16777216 := by
            have : 256 ^ k ≤ 256 ^ 3 := Nat.pow_le_pow_right (by omega) (by omega)
            omega
          have HV : Hid (Pkt.val4 l (k + 1) = x * 256 + z.toNat) := by show _ = _; rw [Pkt.val4_succ l k hlk, hx, hz]
          have HO := hide (Pkt.or_next x z hx3)
          have hxm : IntKind.u32.wrap ((x : Int) * 256) = (x : Int) * 256 := by rw [IntKind.wrap_u32]; omega
          clear hx hz hx2
          go_wp2
          go_round
          case rel => exact ⟨k + 1, by omega, by go_num, by rw [show ((z.toNat : Int) % 4294967296) = z.toNat from by have := z.toNat_lt; omega, HO.out, HV.out]⟩
          case measure => simp [intOf]; omega
        · obtain rfl : k = 4 := by omega
          have HV : Hid (((Pkt.val4 l 4 : Nat) : Int) = v) := by show _ = _; rw [Pkt.val4_four l (by omega), hv]
          rw [HV.out]
          go_wp2
          go_ret
          have RD : Rd (w1.setCell ⟨r, 0, none⟩ (.slice (cutA (some ⟨b, off, none⟩) c 4 1) (n - 4) (c - 4))) B r false (cutA (some ⟨b, off, none⟩) c 4 1) (n - 4) (c - 4) l' := ⟨H1.out.arr.set 0 _, by rw [← HL.out]; exact (H1.out.lies.set H1.out.ge 0 _).cut H1.out.cap, H1.out.ge, by omega⟩
          exact ⟨rfl, _, _, ⟨_, RD⟩, by omega,
            K1.out.trans (Keeps.setCell _ ⟨r, 0, none⟩ _) (fun _ _ h => h), by simp [World.setCell]; exact Z1.out⟩
  · rw [if_pos (.inl rfl)] at hv
    simp only [Prod.mk.injEq] at hv
    obtain ⟨rfl, rfl, rfl⟩ := hv
    clear h
    go_enter Try.func32, Try.ntmps32
    go_wp2_with fail
    go_ret
    exact ⟨_, _, _, rfl, ⟨H.out.arr.set 1 (.bool true), H.out.lies.set H.out.ge 1 _, H.out.ge, H.out.cap⟩, Nat.le_refl _, Keeps.setCell _ ⟨r, 1, none⟩ _, by simp [World.setCell]⟩
end Go.Proofs.Ytcjcmjkpfijhdaa
