/-
  The last press, the first value.
-/
import Derived.Test.YtciogjnchpeaaaaPredWgt
namespace Go.Proofs.Ytciogjnchpeaaaa
open Go.RowKit
set_option maxRecDepth 10000
set_option linter.unusedVariables false
open Prd
theorem info_by : (Try.prog.info? 39).map (·.size) = some 3 := by kernel_rfl
theorem info_rby : (Try.prog.info? 25).map (·.size) = some 3 := by kernel_rfl
/-- The whole of how is guessed is read. -/
theorem wpY_load {ops : Array Oper} {rest : List Oper} {o : Oper} {a : Act} {w : World} {Q : Exit → Act → World → Prop} (hgd : o.guard = none) (x : Operand) (ho : o.op = .load 39 x)
    (g : Nat) (hx : a.eval x = .pointer (some ⟨g, 0, none⟩)) (b : By) (v : Value) (hg : Arr 39 w g (b.row v)) (h : wpList Try.prog ops Q rest (a.put o.dst (b.val v)) w) : wpList Try.prog ops Q (o :: rest) a w :=
  wpList_load_row hgd 39 x ho g hx 39 (b.row v).toArray (0, 0) _ hg Try.underlying39 rfl info_by h
theorem wpZ_load {ops : Array Oper} {rest : List Oper} {o : Oper} {a : Act} {w : World} {Q : Exit → Act → World → Prop} (hgd : o.guard = none) (x : Operand) (ho : o.op = .load 25 x)
    (g : Nat) (hx : a.eval x = .pointer (some ⟨g, 0, none⟩)) (b : By) (v : Value) (hg : Arr 25 w g (b.row v)) (h : wpList Try.prog ops Q rest (a.put o.dst (b.val v)) w) : wpList Try.prog ops Q (o :: rest) a w :=
  wpList_load_row hgd 25 x ho g hx 25 (b.row v).toArray (0, 0) _ hg Try.underlying25 rfl info_rby h
set_option maxHeartbeats 1000000 in
theorem pred_last (A : Option Addr) (n c B : Nat) (past : List UInt8) (w : World) (hA : LiesB w B A n past) (hn : n ≤ 1000000) :
    Calls Try.prog 36 #[.slice A n c] w fun e w' => e = .returned (.int .u8 ((endB past).toNat : Int)) ∧ w = w' := by
  have HA := hide hA
  clear hA
  by_cases h0 : n = 0
  · subst h0
    have HE : Hid (endB past = 0) := by
      show _ = _
      have := HA.out.len
      rw [List.length_eq_zero_iff.1 this]; rfl
    rw [HE.out]
    go_enter Try.func36, Try.ntmps36
    go_wp2_with fail
    go_ret
    exact ⟨rfl, rfl⟩
  · obtain ⟨m, rfl⟩ : ∃ m, n = m + 1 := ⟨n - 1, by omega⟩
    obtain ⟨bl, off, hlp, rfl, -, hcp⟩ := HA.out.at_ (k := m) (by omega)
    obtain ⟨x, hx⟩ : ∃ x, x = past[m] := ⟨_, rfl⟩
    rw [← hx] at hcp
    have HE : Hid (endB past = x) := by
      show _ = _
      unfold endB
      rw [HA.out.len, Nat.add_sub_cancel, List.getD_eq_getElem?_getD, List.getElem?_eq_getElem hlp, hx]; rfl
    rw [HE.out]
    have d0 : (((m + 1 : Nat) : Int) == 0) = false := by simp; omega
    have e1 : ((m + 1 : Nat) : Int) - 1 = (m : Int) := by omega
    have hm : (m : Int) < ((m + 1 : Nat) : Int) := by omega
    clear hx h0
    go_enter Try.func36, Try.ntmps36
    go_wp2_with fail
    go_ret
    exact ⟨rfl, rfl⟩
theorem By.may_facts {b : By} (h : b.may = true) : (b.kind = 1 ∨ b.kind = 2 ∨ b.kind = 3) ∧ 0 ≤ b.order ∧ b.order ≤ 3 ∧ (b.kind = 3 → 1 ≤ b.table.length ∧ b.table.length ≤ 1000) := by
  unfold By.may at h
  simp only [Bool.or_eq_true, Bool.and_eq_true, decide_eq_true_eq] at h
  rcases h with (⟨⟨h1, h2⟩, h3⟩ | ⟨⟨⟨h1, h2⟩, h3⟩, h4⟩) | ⟨⟨⟨h1, h2⟩, h3⟩, h4⟩
  · exact ⟨.inl h1, by omega, by omega, fun h => by omega⟩
  · exact ⟨.inr (.inl h1), by omega, by omega, fun h => by omega⟩
  · exact ⟨.inr (.inr h1), by omega, by omega, fun h => by omega⟩
theorem By.first_table {b : By} {past : List UInt8} (h : b.kind = 3) : b.tb past = b.first past := by
  refine By.first_unique fun x => ?_
  by_cases hx : x = b.tb past
  · subst hx; exact Nat.le_refl _
  · refine Nat.le_of_lt (By.key_of_hi ?_)
    unfold By.hi
    rw [if_pos h, if_pos h, if_pos rfl, if_neg hx]
    omega
theorem By.first_best {b : By} {past : List UInt8} {z : UInt8} (hk : b.kind ≠ 3) (h1 : ∀ x, b.wgt past x ≤ b.wgt past z) (h2 : z = endB past ∨ b.wgt past (endB past) < b.wgt past z ∧ ∀ u : UInt8, u.toNat < z.toNat → b.wgt past u < b.wgt past z) : z = b.first past := by
  refine By.first_unique fun x => ?_
  have hx := h1 x
  have l1 := b.wgt_le past x
  have l2 := b.wgt_le past z
  have hhi : ∀ y, b.hi past y = past.length - b.wgt past y := fun y => by unfold By.hi; rw [if_neg hk]
  by_cases he : b.wgt past x = b.wgt past z
  · unfold By.key
    rw [hhi, hhi, he]
    have n1 := x.toNat_lt
    have n2 := z.toNat_lt
    rcases h2 with h2 | ⟨h2, h3⟩
    · rw [if_pos h2]
      by_cases hxe : x = endB past
      · rw [if_pos hxe, hxe, h2]; exact Nat.le_refl _
      · rw [if_neg hxe]; omega
    · have hxe : ¬ x = endB past := fun e => by rw [e] at he; omega
      have hze : ¬ z = endB past := fun e => by rw [← e] at h2; omega
      rw [if_neg hxe, if_neg hze]
      have : z.toNat ≤ x.toNat := by
        by_cases hl : x.toNat < z.toNat
        · have := h3 x hl; omega
        · omega
      omega
  · exact Nat.le_of_lt (By.key_of_hi (by rw [hhi, hhi]; omega))
theorem wl_index (f : UInt8 → Nat) (v : Nat) (hv : v < 256) (w : World) : (Instr.index 67 (.agg (wl f).toArray) (.int .i64 (v : Int))).run Try.prog w = .ok (.int .i64 ((f (UInt8.ofNat v) : Nat) : Int)) w := by
  have hl : v < (wl f).length := by rw [wl_len]; exact hv
  have h := run_indexA (k := .i64) Try.underlying67 (by kernel_rfl) _ Try.underlying3 rfl (wl f) v (wl_len f) hl w
  have e := wl_get? f (UInt8.ofNat v)
  rw [UInt8.toNat_ofNat_of_lt' hv, List.getElem?_eq_getElem hl] at e
  rw [h, Option.some.inj e]
set_option maxHeartbeats 4000000 in
set_option maxRecDepth 10000 in
theorem pred_first (b : By) (A0 : Option Addr) (n0 c0 : Nat) (A : Option Addr) (n c B : Nat) (past : List UInt8) (w : World) (hA : LiesB w B A n past) (hT : LiesB w B A0 n0 b.table) (hB : B ≤ w.heap.size) (hnc : n ≤ c) (hn : n ≤ 1000000) (hm : b.may = true) :
    Calls Try.prog 35 #[b.val (.slice A0 n0 c0), .slice A n c] w fun e w' => e = .returned (.int .u8 ((b.first past).toNat : Int)) ∧ Below w.heap.size w w' := by
  have HA := hide hA
  have HTB := hide hT
  have HF := By.may_facts hm
  obtain ⟨z, hz⟩ : ∃ z, z = b.first past := ⟨_, rfl⟩
  rw [← hz]
  have HZ := hide hz
  clear hA hT hm hz
  rw [show b.val (.slice A0 n0 c0) = .agg #[.int .i64 b.kind, .int .i64 b.order, .slice A0 n0 c0] from rfl]
  go_enter Try.func35, Try.ntmps35
  go_upto_region 1 with fail
  generalize hw0 : World.alloc w _ = w0
  have hA0 : Arr 39 w0 w.heap.size (b.row (.slice A0 n0 c0)) := by rw [← hw0]; exact Arr.new 39 w _ _ rfl
  have HB0 : Hid (Below w.heap.size w w0) := by show Below _ _ _; rw [← hw0]; exact Below_new w _
  have q0 := hA0.cell (j := 0) (by simp [By.row])
  have q2 := hA0.cell (j := 2) (by simp [By.row])
  simp only [By.row, List.getElem_cons_zero, List.getElem_cons_succ] at q0 q2
  have HA0 := hide hA0
  have hsz0 : w.heap.size < w0.heap.size := hA0.lt
  clear hw0 hA0
  by_cases k3 : b.kind = 3
  · rw [k3] at q0
    obtain ⟨t1, t2⟩ := HF.2.2.2 k3
    have HK3 := hide k3
    clear k3
    have hlt := HTB.out.len
    obtain ⟨r, hr⟩ : ∃ r, r = n % n0 := ⟨_, rfl⟩
    have hr2 : r < n0 := by rw [hr]; exact Nat.mod_lt _ (by omega)
    have hn0 : (n0 : Int) ≠ 0 := by omega
    have hn00 : ¬ n0 = 0 := by omega
    have hmod : Int.tmod (n : Int) (n0 : Int) = (r : Int) := by rw [hr, Int.tmod_eq_emod_of_nonneg (by omega)]; omega
    have hri : (r : Int) < (n0 : Int) := by omega
    obtain ⟨bl, off, hlp, rfl, -, hcp⟩ := (HTB.out.below (HB0.out.mono hB)).at_ hr2
    obtain ⟨x, hx⟩ : ∃ x, x = b.table[r] := ⟨_, rfl⟩
    rw [← hx] at hcp
    obtain rfl : z = x := by
      rw [HZ.out, ← By.first_table HK3.out]
      unfold By.tb
      rw [HA.out.len, hlt, ← hr, List.getD_eq_getElem?_getD, List.getElem?_eq_getElem hlp, hx]; rfl
    clear hx hr HF hlt
    go_upto_region 2 with fail
    refine wp_region_noPanic ?_
    refine wp_region_held_drew (S := (fun w' => w'.cell? ⟨w.heap.size, 2, none⟩ = some (.slice (some ⟨bl, off, none⟩) n0 c0) ∧ w'.cell? ⟨bl, off + r, none⟩ = some (.int .u8 (z.toNat : Int)))) (by kernel_rfl) ⟨q2, hcp⟩ (fun hHeld => ?_)
    refine wpAnyH_take (i := 0) (oi := ?_) (v := ?_) ?_ (by kernel_rfl) (by kernel_rfl) (by kernel_rfl) ?_ ?_ (by assumption) ?_
    rotate_left 2
    · (simp only [List.getElem?_toArray, List.getElem?_cons_zero]; rfl)
    · exact fun _ _ _ h => h
    · (refine Or.inl ⟨by rfl, ?_⟩; intro w hSw; (try dsimp only at hSw); go_simp <;> with_reducible rfl)
    try simp only [Act.put, List.setIfInBounds_toArray, List.set_cons_zero, List.set_cons_succ]
    refine wpAnyH_take (i := 1) (oi := ?_) (v := ?_) ?_ (by kernel_rfl) (by kernel_rfl) (by kernel_rfl) ?_ ?_ (by assumption) ?_
    rotate_left 2
    · (simp only [List.getElem?_toArray, List.getElem?_cons_succ, List.getElem?_cons_zero]; rfl)
    · exact fun _ _ _ h => h
    · (refine Or.inl ⟨by rfl, ?_⟩; intro w hSw; (try dsimp only at hSw); go_simp <;> with_reducible rfl)
    try simp only [Act.put, List.setIfInBounds_toArray, List.set_cons_zero, List.set_cons_succ]
    refine wpAnyH_take (i := 2) (oi := ?_) (v := ?_) ?_ (by kernel_rfl) (by kernel_rfl) (by kernel_rfl) ?_ ?_ (by assumption) ?_
    rotate_left 2
    · (simp only [List.getElem?_toArray, List.getElem?_cons_succ, List.getElem?_cons_zero]; rfl)
    · exact fun _ _ _ h => h
    · (refine Or.inl ⟨by rfl, ?_⟩; intro w hSw; (try dsimp only at hSw); go_simp <;> with_reducible rfl)
    try simp only [Act.put, List.setIfInBounds_toArray, List.set_cons_zero, List.set_cons_succ]
    refine wpAnyH_take (i := 3) (oi := ?_) (v := ?_) ?_ (by kernel_rfl) (by kernel_rfl) (by kernel_rfl) ?_ ?_ (by assumption) ?_
    rotate_left 2
    · (simp only [List.getElem?_toArray, List.getElem?_cons_succ, List.getElem?_cons_zero]; rfl)
    · exact fun _ _ _ h => h
    · (refine Or.inl ⟨by rfl, ?_⟩; intro w hSw; (try dsimp only at hSw); go_simp <;> with_reducible rfl)
    try simp only [Act.put, List.setIfInBounds_toArray, List.set_cons_zero, List.set_cons_succ]
    refine wpAnyH_take (i := 4) (oi := ?_) (v := ?_) ?_ (by kernel_rfl) (by kernel_rfl) (by kernel_rfl) ?_ ?_ (by assumption) ?_
    rotate_left 2
    · (simp only [List.getElem?_toArray, List.getElem?_cons_succ, List.getElem?_cons_zero]; rfl)
    · exact fun _ _ _ h => h
    · (refine Or.inl ⟨by rfl, ?_⟩; intro w hSw; (try dsimp only at hSw); go_simp <;> with_reducible rfl)
    try simp only [Act.put, List.setIfInBounds_toArray, List.set_cons_zero, List.set_cons_succ]
    refine wpAnyH_take (i := 5) (oi := ?_) (v := ?_) ?_ (by kernel_rfl) (by kernel_rfl) (by kernel_rfl) ?_ ?_ (by assumption) ?_
    rotate_left 2
    · (simp only [List.getElem?_toArray, List.getElem?_cons_succ, List.getElem?_cons_zero]; rfl)
    · exact fun _ _ _ h => h
    · (refine Or.inl ⟨by rfl, ?_⟩; intro w hSw; (try dsimp only at hSw); go_simp <;> with_reducible rfl)
    try simp only [Act.put, List.setIfInBounds_toArray, List.set_cons_zero, List.set_cons_succ]
    refine wpAnyH_take (i := 6) (oi := ?_) (v := ?_) ?_ (by kernel_rfl) (by kernel_rfl) (by kernel_rfl) ?_ ?_ (by assumption) ?_
    rotate_left 2
    · (simp only [List.getElem?_toArray, List.getElem?_cons_succ, List.getElem?_cons_zero]; rfl)
    · exact fun _ _ _ h => h
    · (refine Or.inl ⟨by rfl, ?_⟩; intro w hSw; (try dsimp only at hSw); go_simp <;> with_reducible rfl)
    try simp only [Act.put, List.setIfInBounds_toArray, List.set_cons_zero, List.set_cons_succ]
    refine wpAnyH_take (i := 7) (oi := ?_) (v := ?_) ?_ (by kernel_rfl) (by kernel_rfl) (by kernel_rfl) ?_ ?_ (by assumption) ?_
    rotate_left 2
    · (simp only [List.getElem?_toArray, List.getElem?_cons_succ, List.getElem?_cons_zero]; rfl)
    · exact fun _ _ _ h => h
    · (refine Or.inl ⟨by rfl, ?_⟩; intro w hSw; (try dsimp only at hSw); go_simp <;> with_reducible rfl)
    try simp only [Act.put, List.setIfInBounds_toArray, List.set_cons_zero, List.set_cons_succ]
    refine wpAnyH_take (i := 8) (oi := ?_) (v := ?_) ?_ (by kernel_rfl) (by kernel_rfl) (by kernel_rfl) ?_ ?_ (by assumption) ?_
    rotate_left 2
    · (simp only [List.getElem?_toArray, List.getElem?_cons_succ, List.getElem?_cons_zero]; rfl)
    · exact fun _ _ _ h => h
    · (refine Or.inl ⟨by rfl, ?_⟩; intro w hSw; (try dsimp only at hSw); go_simp <;> with_reducible rfl)
    try simp only [Act.put, List.setIfInBounds_toArray, List.set_cons_zero, List.set_cons_succ]
    refine wpAnyH_take (i := 9) (oi := ?_) (v := ?_) ?_ (by kernel_rfl) (by kernel_rfl) (by kernel_rfl) ?_ ?_ (by assumption) ?_
    rotate_left 2
    · (simp only [List.getElem?_toArray, List.getElem?_cons_succ, List.getElem?_cons_zero]; rfl)
    · exact fun _ _ _ h => h
    · (refine Or.inl ⟨by rfl, ?_⟩; intro w hSw; (try dsimp only at hSw); go_simp <;> with_reducible rfl)
    try simp only [Act.put, List.setIfInBounds_toArray, List.set_cons_zero, List.set_cons_succ]
    refine wpAnyH_take (i := 10) (oi := ?_) (v := ?_) ?_ (by kernel_rfl) (by kernel_rfl) (by kernel_rfl) ?_ ?_ (by assumption) ?_
    rotate_left 2
    · (simp only [List.getElem?_toArray, List.getElem?_cons_succ, List.getElem?_cons_zero]; rfl)
    · exact fun _ _ _ h => h
    · (refine Or.inl ⟨by rfl, ?_⟩; intro w hSw; (try dsimp only at hSw); go_simp <;> with_reducible rfl)
    try simp only [Act.put, List.setIfInBounds_toArray, List.set_cons_zero, List.set_cons_succ]
    refine wpAnyH_done (by kernel_rfl) (NoPanic.normal ?_) _
    go_wp2_with fail
    go_ret
    exact ⟨rfl, ⟨HB0.out.os, HB0.out.tape, HB0.out.output, HB0.out.size, HB0.out.block⟩⟩
  · have d3 : (b.kind == 3) = false := by simpa using k3
    obtain ⟨f, hf⟩ : ∃ f, f = b.wgt past := ⟨_, rfl⟩
    have HF2 := hide hf
    have HK3 := hide k3
    have hfb : ∀ x, f x ≤ n := fun x => by rw [hf, ← HA.out.len]; exact b.wgt_le past x
    have HFB := hide hfb
    clear hfb k3
    go_wp2_with (refine wpY_load rfl (.tmp 2) rfl w.heap.size rfl b (.slice A0 n0 c0) HA0.out ?_)
    refine Calls.mono (pred_weights b A0 n0 c0 A n c B past w0 (HA.out.below (HB0.out.mono hB)) (by omega) hnc hn (fun _ => ⟨HF.2.1, by omega⟩)) ?_
    rintro e w1 ⟨rfl, hb1⟩
    rw [← hf]
    have HB1 := hide (Below_step HB0.out hb1)
    have hs1 := hb1.size
    clear hb1 hf HF q0 q2
    go_wp2_with fail
    rw [zero_w]
    go_wp2_with (refine wpA_init rfl 67 (.tmp 5) (.tmp 24) rfl (wl f) rfl rfl 256 info_w (by simp [wl_len]) (wl_len f) (wl_one f) ?_; intro w2 ha2 hb2 hs2)
    have HB2 := hide (Below_step HB1.out hb2)
    have HA2 := hide ha2
    clear ha2 hb2 HA0
    refine Calls.mono (pred_last A n c B past w2 (HA.out.below (HB2.out.mono hB)) hn) ?_
    rintro e w3 ⟨rfl, rfl⟩
    obtain ⟨e0, he0⟩ : ∃ e0, e0 = endB past := ⟨_, rfl⟩
    rw [← he0]
    have HE0 := hide he0
    obtain ⟨g, hg⟩ : ∃ g, g = w1.heap.size := ⟨_, rfl⟩
    rw [← hg] at HA2 ⊢
    clear he0 hg
    go_wp2_with (refine wpA_load rfl 67 (.tmp 5) rfl g rfl 67 (wl f) HA2.out 256 3 Try.underlying67 info_w (wl_len f) ?_)
    go_loopg [6, 7, 8, 28] 256 (fun gg s6 s7 s8 s28 wr => ∃ (v : Nat) (best : UInt8), v ≤ 256 ∧ gg = 256 - v ∧ s6 = .int .u8 (best.toNat : Int) ∧ s28 = .int .i64 (v : Int) ∧ w2 = wr ∧ Hid ((∀ u : UInt8, u.toNat < v → f u ≤ f best) ∧ (best = e0 ∨ f e0 < f best ∧ ∀ u : UInt8, u.toNat < best.toNat → f u < f best)))
    case atStart => exact ⟨0, e0, by omega, rfl, rfl, rfl, rfl, fun u hu => absurd hu (Nat.not_lt_zero _), .inl rfl⟩
    case round =>
      obtain ⟨v, best, hv, rfl, rfl, rfl, rfl, HI⟩ := hrel
      by_cases hlt : v < 256
      · have i0 := fun w => wl_index f v hlt w
        have hcb := HA2.out.wcell best
        have hb256 : best.toNat < 256 := best.toNat_lt
        have hbi : (best.toNat : Int) < 256 := by omega
        obtain ⟨x, hx⟩ : ∃ x, x = UInt8.ofNat v := ⟨_, rfl⟩
        have hxv : x.toNat = v := by rw [hx]; exact UInt8.toNat_ofNat_of_lt' hlt
        rw [← hx] at i0
        obtain ⟨p, hp⟩ : ∃ p, p = f x := ⟨_, rfl⟩
        obtain ⟨q, hq⟩ : ∃ q, q = f best := ⟨_, rfl⟩
        rw [← hp] at i0
        rw [← hq] at hcb
        have I0 := hide i0
        have HP := hide (And.intro hp hq)
        have HXV := hide hxv
        clear hp hq hx i0 hxv
        go_wp2_with fail
        rw [I0.out]
        by_cases hpq : q < p
        · have dp : decide ((p : Int) > (q : Int)) = true := decide_eq_true (by omega)
          have HI2 : Hid ((∀ u : UInt8, u.toNat < v + 1 → f u ≤ f x) ∧ (x = e0 ∨ f e0 < f x ∧ ∀ u : UInt8, u.toNat < x.toNat → f u < f x)) := by
            obtain ⟨i1, i2⟩ := HI.out
            obtain ⟨p1, p2⟩ := HP.out
            have hxv := HXV.out
            refine ⟨fun u hu => ?_, .inr ⟨?_, fun u hu => ?_⟩⟩
            · by_cases h : u.toNat < v
              · have := i1 u h; omega
              · obtain rfl : u = x := UInt8.toNat_inj.1 (by omega)
                exact Nat.le_refl _
            · rcases i2 with i2 | ⟨i2, _⟩
              · rw [← i2]; omega
              · omega
            · have := i1 u (by omega); omega
          go_wp2_with fail
          go_roundg (256 - (v + 1))
          case measure => omega
          case rel => exact ⟨v + 1, x, by omega, rfl, by congr 1; have := HXV.out; omega, by go_num, rfl, HI2.out⟩
        · have dp : decide ((p : Int) > (q : Int)) = false := decide_eq_false (by omega)
          have HI2 : Hid ((∀ u : UInt8, u.toNat < v + 1 → f u ≤ f best) ∧ (best = e0 ∨ f e0 < f best ∧ ∀ u : UInt8, u.toNat < best.toNat → f u < f best)) := by
            obtain ⟨i1, i2⟩ := HI.out
            obtain ⟨p1, p2⟩ := HP.out
            have hxv := HXV.out
            refine ⟨fun u hu => ?_, i2⟩
            by_cases h : u.toNat < v
            · exact i1 u h
            · obtain rfl : u = x := UInt8.toNat_inj.1 (by omega)
              omega
          go_wp2_with fail
          go_roundg (256 - (v + 1))
          case measure => omega
          case rel => exact ⟨v + 1, best, by omega, rfl, rfl, by go_num, rfl, HI2.out⟩
      · obtain rfl : v = 256 := by omega
        have HZB : Hid (best = z) := by
          show _ = _
          rw [HZ.out]
          obtain ⟨i1, i2⟩ := HI.out
          refine By.first_best HK3.out ?_ ?_
          · intro x; rw [← HF2.out]; exact i1 x x.toNat_lt
          · rw [← HF2.out, ← HE0.out]; exact i2
        go_wp2_with fail
        go_ret
        exact ⟨by rw [HZB.out]; rfl, HB2.out⟩
end Go.Proofs.Ytciogjnchpeaaaa
