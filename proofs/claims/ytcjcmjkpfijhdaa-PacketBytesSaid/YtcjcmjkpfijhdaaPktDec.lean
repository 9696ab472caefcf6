/-
  The walk of packet.Decode.
-/
import Derived.Test.YtcjcmjkpfijhdaaPktRefEnc
import Derived.Test.YtcjcmjkpfijhdaaPktRead
import Derived.Test.YtcjcmjkpfijhdaaRunsV
import Derived.Lib.BufferMore
namespace Go.Proofs.Ytcjcmjkpfijhdaa
open Go.RowKit
set_option linter.unusedVariables false
def Pkt.zero : Pkt := ⟨0, 0, 0, 0, 0, [], 0, 0, 0⟩
/-- What Decode answers. -/
inductive Pkt.Said (b : List UInt8) (w' : World) : Ending → Prop
  | yes (p : Pkt) (A : Option Addr) (n c : Nat) (h : Pkt.Is b p) (hl : LiesB w' w'.heap.size A n p.press) (hc : n ≤ c) (hn : n ≤ 32) : Pkt.Said b w' (.returned (.tuple #[p.val (.slice A n c), .int .i64 0]))
  | no (h : ∀ p, ¬ Pkt.Is b p) : Pkt.Said b w' (.returned (.tuple #[Pkt.zero.val (.slice none 0 0), .int .i64 1]))
theorem Pkt.row_one (p : Pkt) (A : Option Addr) (n c : Nat) : ∀ u ∈ p.row (.slice A n c), u.oneCell' = true := by
  intro u hu
  simp only [Pkt.row, List.mem_cons, List.not_mem_nil, or_false] at hu
  rcases hu with rfl | rfl | rfl | rfl | rfl | rfl | rfl | rfl | rfl <;> rfl
/-- The whole packet is written. -/
theorem wpP_store {ops : Array Oper} {rest : List Oper} {o : Oper} {a : Act} {w : World} {Q : Exit → Act → World → Prop} (hgd : o.guard = none) (x y : Operand) (ho : o.op = .store 25 x y)
    (g : Nat) (hx : a.eval x = .pointer (some ⟨g, 0, none⟩)) (p q : Pkt) (A A' : Option Addr) (n n' c c' : Nat) (hy : a.eval y = p.val (.slice A n c)) (hg : Arr 25 w g (q.row (.slice A' n' c')))
    (h : ∀ w', Arr 25 w' g (p.row (.slice A n c)) → Keeps (fun k => k = g) w w' → w'.heap.size = w.heap.size → wpList Try.prog ops Q rest (a.put o.dst undef) w') : wpList Try.prog ops Q (o :: rest) a w :=
  wpA_store hgd 25 x y ho g (p.row (.slice A n c)) hx hy 25 _ hg 9 info_packet rfl rfl (p.row_one A n c) h
/-- The same inside a region that draws. -/
theorem step_storeP {ops : Array Oper} {o : Oper} {a : Act} {w : World} {K : Act → World → Prop} {Q : Exit → Act → World → Prop} {E : Prop} (hgd : o.guard = none) (x y : Operand) (ho : o.op = .store 25 x y)
    (g : Nat) (hx : a.eval x = .pointer (some ⟨g, 0, none⟩)) (p q : Pkt) (A A' : Option Addr) (n n' c c' : Nat) (hy : a.eval y = p.val (.slice A n c)) (hg : Arr 25 w g (q.row (.slice A' n' c')))
    (h : ∀ w', Arr 25 w' g (p.row (.slice A n c)) → Keeps (fun k => k = g) w w' → w'.heap.size = w.heap.size → K (a.put o.dst undef) w') :
    if Region.wanted o (yielded ops a.tmps) = true then Oper.wp Try.prog o a w K Q else E := by
  have hw : Region.wanted o (yielded ops a.tmps) = true := by simp [Region.wanted, hgd]
  rw [if_pos hw]
  exact wp_store_row 25 x y ho g (p.row (.slice A n c)).toArray hx hy 25 (q.row (.slice A' n' c')).toArray hg (by rw [info_packet]; rfl) rfl (Array.all_eq_true_iff_forall_mem.2 fun v hv => p.row_one A n c v (by simpa using hv))
    (h _ (setRow_heap w g _ _ 25 _ hg) ⟨rfl, rfl, rfl, by simp, fun k _ hk => setRow_other w g k _ hk⟩ (by simp))
/-- Decode at work: its result's block, the packet's, the reader. -/
structure DS (w wx : World) (B r : Nat) (R : List Value) (bad : Bool) (A : Option Addr) (n c : Nat) (l : List UInt8) : Prop where
  res : Arr 25 wx w.heap.size (Pkt.zero.row (.slice none 0 0))
  p : Arr 25 wx (w.heap.size + 1) R
  rd : Rd wx B r bad A n c l
  bel : Below w.heap.size w wx
  at2 : r = w.heap.size + 2
section
variable {w wx w' : World} {B r n c n' c' : Nat} {R : List Value} {bad bad' : Bool} {A A' : Option Addr} {l l' : List UInt8}
theorem DS.num (h : DS w wx B r R bad A n c l) (h' : Rd w' B r bad' A' n' c' l') (hk : Keeps (fun k => k = r) wx w') : DS w w' B r R bad' A' n' c' l' :=
  ⟨h.res.keeps hk (by have := h.at2; omega), h.p.keeps hk (by have := h.at2; omega), h', h.bel.trans (hk.below h.bel.size (fun k hk => by have := h.at2; omega)), h.at2⟩
theorem DS.below (h : DS w wx B r R bad A n c l) (hb : Below wx.heap.size wx w') (hB : B ≤ wx.heap.size) : DS w w' B r R bad A n c l :=
  ⟨h.res.belowN hb, h.p.belowN hb, ⟨h.rd.arr.belowN hb, h.rd.lies.below (hb.mono hB), h.rd.ge, h.rd.cap⟩, Below_step h.bel hb, h.at2⟩
theorem DS.set (h : DS w wx B r R bad A n c l) (hB : B ≤ w.heap.size) (j : Nat) (v : Value) : DS w (wx.setCell ⟨w.heap.size + 1, j, none⟩ v) B r (R.set j v) bad A n c l :=
  ⟨h.res.keeps (Keeps.setCell wx ⟨w.heap.size + 1, j, none⟩ v) (by show ¬ _ = w.heap.size + 1; omega), h.p.set j v,
   ⟨h.rd.arr.keeps (Keeps.setCell wx ⟨w.heap.size + 1, j, none⟩ v) (by show ¬ r = w.heap.size + 1; have := h.at2; omega), h.rd.lies.set (by omega) j v, h.rd.ge, h.rd.cap⟩,
   h.bel.trans ((Keeps.setCell wx ⟨w.heap.size + 1, j, none⟩ v).below h.bel.size (fun k hk => by show ¬ k = w.heap.size + 1; omega)), h.at2⟩
end
set_option maxHeartbeats 4000000 in
set_option maxRecDepth 10000 in
theorem packet_Decode {A : Option Addr} {n c B : Nat} {b : List UInt8} {w : World} (hA : LiesB w B A n b) (hB : B ≤ w.heap.size) (hnc : n ≤ c) (hn : n ≤ 1000000) :
    Calls Try.prog 16 #[.slice A n c] w fun e w' => Pkt.Said b w' e ∧ Below w.heap.size w w' := by
  have LA := hide hA
  have hl := hA.len
  have HBB := hide hB
  have HP : Hid (Arr 25 (w.alloc (.cells (Pkt.zero.row (.slice none 0 0)).toArray 25)) w.heap.size (Pkt.zero.row (.slice none 0 0))) := Arr.new 25 w _ _ rfl
  have HB : Hid (Below w.heap.size w (w.alloc (.cells (Pkt.zero.row (.slice none 0 0)).toArray 25))) := Below_new _ _
  have hsz : (w.alloc (.cells (Pkt.zero.row (.slice none 0 0)).toArray 25)).heap.size = w.heap.size + 1 := by simp
  simp only [Pkt.row, Pkt.zero] at HP HB hsz
  clear hA hB
  by_cases h7 : n < 7
  · have d1 : decide ((n : Int) < 7) = true := decide_eq_true (by omega)
    have HN : Hid (∀ p, ¬ Pkt.Is b p) := fun p hp => by have := (Pkt.is_head hp).1; omega
    clear h7 hsz
    go_enter Try.func16, Try.ntmps16
    go_upto_region 1 with fail
    generalize World.alloc w _ = wx at HP HB ⊢
    go_wp2_with (refine wpP_store rfl (.tmp 2) (.tmp 13) rfl w.heap.size rfl Pkt.zero Pkt.zero none none 0 0 0 0 rfl HP.out ?_; intro w1 ha1 hk1 hs1)
    refine bodyPost_ret (results_P2 (fn := Try.f16) rfl _ _ w.heap.size rfl _ rfl Pkt.zero (.slice none 0 0) ha1) rfl ?_
    exact ⟨.no HN.out, HB.out.trans (hk1.below HB.out.size (fun k hk => by omega))⟩
  · obtain ⟨m, rfl⟩ : ∃ m, n = m + 4 := ⟨n - 4, by omega⟩
    have hm3 : 3 ≤ m := by omega
    have d1 : decide (((m + 4 : Nat) : Int) < 7) = false := decide_eq_false (by omega)
    obtain ⟨ab, ao, hl0, rfl, hab, -⟩ := LA.out.at_ (k := 0) (by omega)
    obtain ⟨kb, sb, db, tb, hbt⟩ : ∃ k s d t, b = k :: s :: d :: t := by
      match b, hl with
      | k :: s :: d :: t, _ => exact ⟨k, s, d, t, rfl⟩
      | [], h => simp at h
      | [_], h => simp at h
      | [_, _], h => simp at h
    have CC : Hid (∀ w', Below w.heap.size w w' → w'.cell? ⟨ab, ao, none⟩ = some (.int .u8 (kb.toNat : Int)) ∧ w'.cell? ⟨ab, ao + 1, none⟩ = some (.int .u8 (sb.toNat : Int)) ∧ w'.cell? ⟨ab, ao + 2, none⟩ = some (.int .u8 (db.toNat : Int))) := by
      intro w' hb
      have L := LA.out.below (hb.mono HBB.out)
      obtain ⟨_, _, _, e0, -, q0⟩ := L.at_ (k := 0) (by omega)
      obtain ⟨_, _, _, e1, -, q1⟩ := L.at_ (k := 1) (by omega)
      obtain ⟨_, _, _, e2, -, q2⟩ := L.at_ (k := 2) (by omega)
      injection e0 with e0; injection e0 with e00 e01; subst e00 e01
      injection e1 with e1; injection e1 with e10 e11; subst e10 e11
      injection e2 with e2; injection e2 with e20 e21; subst e20 e21
      simp only [hbt, List.getElem_cons_zero, List.getElem_cons_succ] at q0 q1 q2
      exact ⟨q0, q1, q2⟩
    have HBT := hide hbt
    clear h7 hbt
    go_enter Try.func16, Try.ntmps16
    go_upto_region 1 with fail
    generalize World.alloc w _ = wx at HP HB hsz ⊢
    have HSZ := hide hsz
    clear hsz
    go_upto_region 3 with fail
    go_cut [4] (fun s4 wy => s4 = .pointer (some ⟨w.heap.size + 1, 0, none⟩) ∧ Hid (Arr 25 wy (w.heap.size + 1) (Pkt.row ⟨kb.toNat, sb.toNat, db.toNat, 0, 0, [], 0, 0, 0⟩ (.slice none 0 0))) ∧ Hid (Arr 25 wy w.heap.size (Pkt.zero.row (.slice none 0 0))) ∧ Hid (Below w.heap.size w wy) ∧ Hid (wy.heap.size = w.heap.size + 2))
    case first =>
      have cc := CC.out wx HB.out
      obtain ⟨hc0, hc1, hc2⟩ := cc
      have HP1 : Arr 25 (wx.alloc (.cells (Pkt.zero.row (.slice none 0 0)).toArray 25)) (w.heap.size + 1) (Pkt.zero.row (.slice none 0 0)) := by rw [← HSZ.out]; exact Arr.new 25 wx _ _ rfl
      have HP2 : Arr 25 (wx.alloc (.cells (Pkt.zero.row (.slice none 0 0)).toArray 25)) w.heap.size (Pkt.zero.row (.slice none 0 0)) := Arr.belowN HP.out (Below_new _ _)
      have HB2 := Below_step HB.out (Below_new wx (.cells (Pkt.zero.row (.slice none 0 0)).toArray 25))
      have i0 : (0 : Int) < (m : Int) + 4 := by omega
      have i1 : (1 : Int) < (m : Int) + 4 := by omega
      have i2 : (2 : Int) < (m : Int) + 4 := by omega
      have wk : IntKind.i64.wrap (kb.toNat : Int) = kb.toNat := by rw [IntKind.wrap_i64]; have := kb.toNat_lt; omega
      have ws : IntKind.i64.wrap (sb.toNat : Int) = sb.toNat := by rw [IntKind.wrap_i64]; have := sb.toNat_lt; omega
      have wd : IntKind.i64.wrap (db.toNat : Int) = db.toNat := by rw [IntKind.wrap_i64]; have := db.toNat_lt; omega
      refine wp_region_noPanic ?_
      refine wp_region_held_drew (S := (fun w' => w'.cell? ⟨ab, ao, none⟩ = some (.int .u8 (kb.toNat : Int)) ∧ w'.cell? ⟨ab, ao + 1, none⟩ = some (.int .u8 (sb.toNat : Int)) ∧ w'.cell? ⟨ab, ao + 2, none⟩ = some (.int .u8 (db.toNat : Int)))) (by kernel_rfl) ⟨hc0, hc1, hc2⟩ (fun hHeld => ?_)
      refine wpAnyH_take (i := 0) (oi := ?_) (v := ?_) ?_ (by kernel_rfl) (by kernel_rfl) (by kernel_rfl) ?_ ?_ (by assumption) ?_
      rotate_left 2
      · (simp only [List.getElem?_toArray, List.getElem?_cons_zero]; rfl)
      · exact fun _ _ _ h => h
      · (refine Or.inl ⟨by rfl, ?_⟩; intro w hSw; (try dsimp only at hSw); go_simp <;> with_reducible rfl)
      try simp only [Act.put, List.setIfInBounds_toArray, List.set_cons_zero, List.set_cons_succ]
      refine wpAnyH_take (i := 1) (oi := ?_) (v := ?_) ?_ (by kernel_rfl) (by kernel_rfl) (by kernel_rfl) ?_ ?_ (by assumption) ?_
      rotate_left 2
      · (simp only [List.getElem?_toArray, List.getElem?_cons_succ, List.getElem?_cons_zero]; rfl)
      · exact fun _ _ _ h => h
      · (refine Or.inl ⟨by rfl, ?_⟩; intro w hSw; (try dsimp only at hSw); go_simp <;> with_reducible rfl)
      try simp only [Act.put, List.setIfInBounds_toArray, List.set_cons_zero, List.set_cons_succ]
      refine wpAnyH_take (i := 2) (oi := ?_) (v := ?_) ?_ (by kernel_rfl) (by kernel_rfl) (by kernel_rfl) ?_ ?_ (by assumption) ?_
      rotate_left 2
      · (simp only [List.getElem?_toArray, List.getElem?_cons_succ, List.getElem?_cons_zero]; rfl)
      · exact fun _ _ _ h => h
      · (refine Or.inl ⟨by rfl, ?_⟩; intro w hSw; (try dsimp only at hSw); go_simp <;> with_reducible rfl)
      try simp only [Act.put, List.setIfInBounds_toArray, List.set_cons_zero, List.set_cons_succ]
      refine wpAnyH_take (i := 3) (oi := ?_) (v := ?_) ?_ (by kernel_rfl) (by kernel_rfl) (by kernel_rfl) ?_ ?_ (by assumption) ?_
      rotate_left 2
      · (simp only [List.getElem?_toArray, List.getElem?_cons_succ, List.getElem?_cons_zero]; rfl)
      · exact fun _ _ _ h => h
      · (refine Or.inl ⟨by rfl, ?_⟩; intro w hSw; (try dsimp only at hSw); go_simp <;> with_reducible rfl)
      try simp only [Act.put, List.setIfInBounds_toArray, List.set_cons_zero, List.set_cons_succ]
      refine wpAnyH_take (i := 4) (oi := ?_) (v := ?_) ?_ (by kernel_rfl) (by kernel_rfl) (by kernel_rfl) ?_ ?_ (by assumption) ?_
      rotate_left 2
      · (simp only [List.getElem?_toArray, List.getElem?_cons_succ, List.getElem?_cons_zero]; rfl)
      · exact fun _ _ _ h => h
      · (refine Or.inl ⟨by rfl, ?_⟩; intro w hSw; (try dsimp only at hSw); go_simp <;> with_reducible rfl)
      try simp only [Act.put, List.setIfInBounds_toArray, List.set_cons_zero, List.set_cons_succ]
      refine wpAnyH_take (i := 5) (oi := ?_) (v := ?_) ?_ (by kernel_rfl) (by kernel_rfl) (by kernel_rfl) ?_ ?_ (by assumption) ?_
      rotate_left 2
      · (simp only [List.getElem?_toArray, List.getElem?_cons_succ, List.getElem?_cons_zero]; rfl)
      · exact fun _ _ _ h => h
      · (refine Or.inl ⟨by rfl, ?_⟩; intro w hSw; (try dsimp only at hSw); go_simp <;> with_reducible rfl)
      try simp only [Act.put, List.setIfInBounds_toArray, List.set_cons_zero, List.set_cons_succ]
      refine wpAnyH_take (i := 6) (oi := ?_) (v := ?_) ?_ (by kernel_rfl) (by kernel_rfl) (by kernel_rfl) ?_ ?_ (by assumption) ?_
      rotate_left 2
      · (simp only [List.getElem?_toArray, List.getElem?_cons_succ, List.getElem?_cons_zero]; rfl)
      · exact fun _ _ _ h => h
      · (refine Or.inl ⟨by rfl, ?_⟩; intro w hSw; (try dsimp only at hSw); go_simp <;> with_reducible rfl)
      try simp only [Act.put, List.setIfInBounds_toArray, List.set_cons_zero, List.set_cons_succ]
      refine wpAnyH_take (i := 7) (oi := ?_) (v := ?_) ?_ (by kernel_rfl) (by kernel_rfl) (by kernel_rfl) ?_ ?_ (by assumption) ?_
      rotate_left 2
      · (simp only [List.getElem?_toArray, List.getElem?_cons_succ, List.getElem?_cons_zero]; rfl)
      · exact fun _ _ _ h => h
      · (refine Or.inl ⟨by rfl, ?_⟩; intro w hSw; (try dsimp only at hSw); go_simp <;> with_reducible rfl)
      try simp only [Act.put, List.setIfInBounds_toArray, List.set_cons_zero, List.set_cons_succ]
      refine wpAnyH_take (i := 8) (oi := ?_) (v := ?_) ?_ (by kernel_rfl) (by kernel_rfl) (by kernel_rfl) ?_ ?_ (by assumption) ?_
      rotate_left 2
      · (simp only [List.getElem?_toArray, List.getElem?_cons_succ, List.getElem?_cons_zero]; rfl)
      · exact fun _ _ _ h => h
      · (refine Or.inl ⟨by rfl, ?_⟩; intro w hSw; (try dsimp only at hSw); go_simp <;> with_reducible rfl)
      try simp only [Act.put, List.setIfInBounds_toArray, List.set_cons_zero, List.set_cons_succ]
      refine wpAnyH_take (i := 9) (oi := ?_) (v := ?_) ?_ (by kernel_rfl) (by kernel_rfl) (by kernel_rfl) ?_ ?_ (by assumption) ?_
      rotate_left 2
      · (simp only [List.getElem?_toArray, List.getElem?_cons_succ, List.getElem?_cons_zero]; rfl)
      · exact fun _ _ _ h => h
      · (refine Or.inl ⟨by rfl, ?_⟩; intro w hSw; (try dsimp only at hSw); go_simp <;> with_reducible rfl)
      try simp only [Act.put, List.setIfInBounds_toArray, List.set_cons_zero, List.set_cons_succ]
      refine wpAnyH_take (i := 10) (oi := ?_) (v := ?_) ?_ (by kernel_rfl) (by kernel_rfl) (by kernel_rfl) ?_ ?_ (by assumption) ?_
      rotate_left 2
      · (simp only [List.getElem?_toArray, List.getElem?_cons_succ, List.getElem?_cons_zero]; rfl)
      · exact fun _ _ _ h => h
      · (refine Or.inl ⟨by rfl, ?_⟩; intro w hSw; (try dsimp only at hSw); go_simp <;> with_reducible rfl)
      try simp only [Act.put, List.setIfInBounds_toArray, List.set_cons_zero, List.set_cons_succ]
      refine wpAnyH_take (i := 11) (oi := ?_) (v := ?_) ?_ (by kernel_rfl) (by kernel_rfl) (by kernel_rfl) ?_ ?_ (by assumption) ?_
      rotate_left 2
      · (simp only [List.getElem?_toArray, List.getElem?_cons_succ, List.getElem?_cons_zero]; rfl)
      · exact fun _ _ _ h => h
      · (refine Or.inl ⟨by rfl, ?_⟩; intro w hSw; (try dsimp only at hSw); go_simp <;> with_reducible rfl)
      try simp only [Act.put, List.setIfInBounds_toArray, List.set_cons_zero, List.set_cons_succ]
      refine wpAnyH_take (i := 12) (oi := ?_) (v := ?_) ?_ (by kernel_rfl) (by kernel_rfl) (by kernel_rfl) ?_ ?_ (by assumption) ?_
      rotate_left 2
      · (simp only [List.getElem?_toArray, List.getElem?_cons_succ, List.getElem?_cons_zero]; rfl)
      · exact fun _ _ _ h => h
      · (refine Or.inl ⟨by rfl, ?_⟩; intro w hSw; (try dsimp only at hSw); go_simp <;> with_reducible rfl)
      try simp only [Act.put, List.setIfInBounds_toArray, List.set_cons_zero, List.set_cons_succ]
      refine wpAnyH_ready (rs := [13]) (by kernel_rfl) (by simp) ?_
      refine AllReadyH.cons (o := ?_) ?_ (fun K hK => ?_) AllReadyH.nil
      rotate_left 1
      · (simp only [List.getElem?_toArray, List.getElem?_cons_succ, List.getElem?_cons_zero]; rfl)
      go_simp
      refine hK.out _ _ (CC.out _ HB2.drew) (fun hHeld => ?_)
      clear hK K
      try simp only [Act.put, List.setIfInBounds_toArray, List.set_cons_zero, List.set_cons_succ]
      refine wpAnyH_ready (rs := [14]) (by kernel_rfl) (by simp) ?_
      refine AllReadyH.cons (o := ?_) ?_ (fun K hK => ?_) AllReadyH.nil
      rotate_left 1
      · (simp only [List.getElem?_toArray, List.getElem?_cons_succ, List.getElem?_cons_zero]; rfl)
      (refine step_storeP rfl (.tmp 4) (.tmp 26) rfl wx.heap.size rfl ⟨kb.toNat, sb.toNat, db.toNat, 0, 0, [], 0, 0, 0⟩ Pkt.zero none none 0 0 0 0 rfl (by rw [HSZ.out]; exact HP1.drew) ?_; intro w3 ha3 hk3 hs3)
      refine hK.out _ _ (CC.out _ (HB2.drew.trans (hk3.below (by show w.heap.size ≤ _; exact HB2.size) (fun k hk => by have := HSZ.out; omega)))) (fun hHeld => ?_)
      clear hK K
      try simp only [Act.put]
      refine wpAnyH_done (by kernel_rfl) (NoPanic.normal ?_) _
      go_wp2_with fail
      go_meet
      rw [HSZ.out] at ha3 hk3
      exact ⟨by rw [HSZ.out], ha3, HP2.drew.keeps hk3 (by omega), HB2.drew.trans (hk3.below (by show w.heap.size ≤ _; exact HB2.size) (fun k hk => by omega)), by rw [hs3]; show (World.alloc wx _).heap.size = _; simp; exact HSZ.out⟩
    case rest =>
      obtain ⟨rfl, HP1, HP0, HB1, HZ⟩ := hcut
      clear HP HB HSZ
      go_upto_region 5 with fail
      obtain ⟨l0, hl0⟩ : ∃ l, l = (b.take m).drop 3 := ⟨_, rfl⟩
      have HL0 := hide hl0
      have D0 : Hid (DS w (wc.alloc (.cells #[.slice (cutA (some ⟨ab, ao, none⟩) c 3 1) (m - 3) (c - 3), .bool false] 52)) B wc.heap.size (Pkt.row ⟨kb.toNat, sb.toNat, db.toNat, 0, 0, [], 0, 0, 0⟩ (.slice none 0 0)) false (cutA (some ⟨ab, ao, none⟩) c 3 1) (m - 3) (c - 3) l0) := by
        have L : LiesB wc B (some ⟨ab, ao, none⟩) m (b.take m) := by
          have := (LA.out.below (HB1.out.mono HBB.out)).take m
          rwa [Nat.min_eq_left (by omega)] at this
        refine ⟨Arr.belowN HP0.out (Below_new _ _), Arr.belowN HP1.out (Below_new _ _), ⟨Arr.new 52 wc _ _ rfl, ?_, ?_, by omega⟩, Below_step HB1.out (Below_new _ _), HZ.out⟩
        · rw [hl0]
          exact (L.cut (k := 3) (cap := c) (by omega)).below ((Below_new _ _).mono (Nat.le_trans HBB.out HB1.out.size))
        · exact Nat.le_trans HBB.out HB1.out.size
      have hln : l0.length = m - 3 := D0.out.rd.lies.len
      clear hl0 HP1 HP0
      obtain ⟨⟨x1, e1, l1⟩, hn1⟩ : ∃ y, Pkt.num false l0 = y := ⟨_, rfl⟩
      have HN1 := hide hn1
      clear hn1
      go_wp2_with fail
      refine Calls.mono (reader_num D0.out.rd (by omega) HN1.out) ?_
      rintro e w1 ⟨A1, n1, c1, rfl, rd1, hb1, hk1, hz1⟩
      have D1 := hide (D0.out.num rd1 hk1)
      have f3 := D1.out.p.frozen 3
      have c3 := D1.out.p.cell (j := 3) (by simp)
      simp only [List.getElem_cons_zero, List.getElem_cons_succ] at c3
      clear rd1 hk1 hz1
      go_upto_region 6 with fail
      have D2 := hide (D1.out.set HBB.out 3 (.int .i64 x1))
      generalize World.setCell w1 _ _ = w2 at D2 ⊢
      clear c3 f3 D1 D0
      have c0 := D2.out.p.cell (j := 0) (by simp)
      simp only [List.set_cons_succ, List.set_cons_zero, List.getElem_cons_zero] at c0
      by_cases hk1 : (kb.toNat : Int) = 1
      · have d2 : ((kb.toNat : Int) == 1) = true := by simp [hk1]
        obtain ⟨⟨y3, e3, l3⟩, hn3⟩ : ∃ y, Pkt.num e1 l1 = y := ⟨_, rfl⟩
        have HN3 := hide hn3
        clear hn3
        go_upto_region 7 with fail
        go_wp2_with fail
        refine Calls.mono (reader_num D2.out.rd (by omega) HN3.out) ?_
        rintro e v3 ⟨A3, n3, c3', rfl, rd1, hb3, hk1', hz1⟩
        have E3 := hide (D2.out.num rd1 hk1')
        have ff := E3.out.p.frozen 4
        have cc := E3.out.p.cell (j := 4) (by simp)
        simp only [List.set_cons_succ, List.set_cons_zero, List.getElem_cons_zero, List.getElem_cons_succ] at cc
        clear rd1 hk1' hz1
        go_upto_region 8 with fail
        have D3 := hide (E3.out.set HBB.out 4 (.int .i64 y3))
        generalize World.setCell v3 _ _ = z3 at D3 ⊢
        clear cc ff E3 D2
        obtain ⟨⟨y4, e4, l4⟩, hn4⟩ : ∃ y, Pkt.num e3 l3 = y := ⟨_, rfl⟩
        have HN4 := hide hn4
        clear hn4
        go_upto_region 8 with fail
        go_wp2_with fail
        refine Calls.mono (reader_num D3.out.rd (by omega) HN4.out) ?_
        rintro e v4 ⟨A4, n4, c4', rfl, rd1, hb4, hk1', hz1⟩
        have E4 := hide (D3.out.num rd1 hk1')
        have ff := E4.out.p.frozen 6
        have cc := E4.out.p.cell (j := 6) (by simp)
        simp only [List.set_cons_succ, List.set_cons_zero, List.getElem_cons_zero, List.getElem_cons_succ] at cc
        clear rd1 hk1' hz1
        go_upto_region 9 with fail
        have D4 := hide (E4.out.set HBB.out 6 (.int .i64 y4))
        generalize World.setCell v4 _ _ = z4 at D4 ⊢
        clear cc ff E4 D3
        obtain ⟨⟨y5, e5, l5⟩, hn5⟩ : ∃ y, Pkt.num e4 l4 = y := ⟨_, rfl⟩
        have HN5 := hide hn5
        clear hn5
        go_upto_region 9 with fail
        go_wp2_with fail
        refine Calls.mono (reader_num D4.out.rd (by omega) HN5.out) ?_
        rintro e v5 ⟨A5, n5, c5', rfl, rd1, hb5, hk1', hz1⟩
        have E5 := hide (D4.out.num rd1 hk1')
        have ff := E5.out.p.frozen 7
        have cc := E5.out.p.cell (j := 7) (by simp)
        simp only [List.set_cons_succ, List.set_cons_zero, List.getElem_cons_zero, List.getElem_cons_succ] at cc
        clear rd1 hk1' hz1
        go_upto_region 10 with fail
        have D5 := hide (E5.out.set HBB.out 7 (.int .i64 y5))
        generalize World.setCell v5 _ _ = z5 at D5 ⊢
        clear cc ff E5 D4
        obtain ⟨⟨y6, e6, l6⟩, hn6⟩ : ∃ y, Pkt.four e5 l5 = y := ⟨_, rfl⟩
        have HN6 := hide hn6
        clear hn6
        go_upto_region 10 with fail
        go_wp2_with fail
        refine Calls.mono (reader_four D5.out.rd (by omega) HN6.out) ?_
        rintro e v6 ⟨A6, n6, c6', rfl, rd1, hb6, hk1', hz1⟩
        have E6 := hide (D5.out.num rd1 hk1')
        have ff := E6.out.p.frozen 8
        have cc := E6.out.p.cell (j := 8) (by simp)
        simp only [List.set_cons_succ, List.set_cons_zero, List.getElem_cons_zero, List.getElem_cons_succ] at cc
        clear rd1 hk1' hz1
        go_upto_region 11 with fail
        have D6 := hide (E6.out.set HBB.out 8 (.int .u32 y6))
        generalize World.setCell v6 _ _ = z6 at D6 ⊢
        clear cc ff E6 D5
        obtain ⟨⟨y7, e7, l7⟩, hn7⟩ : ∃ y, Pkt.num e6 l6 = y := ⟨_, rfl⟩
        have HN7 := hide hn7
        clear hn7
        go_wp2_with fail
        refine Calls.mono (reader_num D6.out.rd (by omega) HN7.out) ?_
        rintro e v7 ⟨A7, n7, c7', rfl, rd1, hb7, hk1', hz1⟩
        have D7 := hide (D6.out.num rd1 hk1')
        have cc := D7.out.rd.arr.cell (j := 0) (by simp)
        simp only [List.getElem_cons_zero] at cc
        clear rd1 hk1' hz1 D6
        obtain ⟨⟨y, ey⟩, hR⟩ : ∃ R, Runs.dec 32 true 0 [] l7 = R := ⟨_, rfl⟩
        have HR := hide hR
        clear hR
        go_wp2_with fail
        refine Calls.mono (runs_Decode_v 32 D7.out.rd.lies D7.out.rd.cap (Nat.le_trans HBB.out D7.out.bel.size) (by omega) (by omega) (by omega) (by omega) HR.out (.inl (by omega))) ?_
        rintro e v8 ⟨A8, n8, c8', rfl, own8, hb8⟩
        have D8 := hide (D7.out.below hb8 (Nat.le_trans HBB.out D7.out.bel.size))
        have hl8 := own8.len
        have hcap8 := own8.cap
        have hbl8 := own8.blk
        have O8 := hide own8
        have hs7 := D7.out.bel.size
        clear own8 hb8 cc
        have HQ0 : Hid (∀ p, Pkt.Is b p → p = ⟨kb.toNat, sb.toNat, db.toNat, x1, y3, y, y4, y5, y6⟩ ∧ e7 = false ∧ ey = 0 ∧ y7 = (y.length : Int)) := by
          intro p hp
          obtain ⟨-, k, s, d, t, hb, k1, s1, d1, e⟩ := Pkt.is_head hp
          have hbt := HBT.out
          rw [hb] at hbt
          simp only [List.cons.injEq] at hbt
          obtain ⟨rfl, rfl, rfl, -⟩ := hbt
          have f := Pkt.may_iff.1 hp.1
          have hw := hp.2.1
          rw [hl, show m + 4 - 4 = m by omega, ← HL0.out] at e
          rcases f.kind with ⟨h, a1, a2, a3, a4⟩ | ⟨h, -⟩
          · rw [Pkt.is_one hp h] at e
            have q1 := HN1.out
            rw [e, Pkt.num_put (by have := f.id; omega) (by have := f.id; omega)] at q1
            simp only [Prod.mk.injEq] at q1
            obtain ⟨i1, i2, i3⟩ := q1
            have q3 := HN3.out
            rw [← i2, ← i3, Pkt.num_put (by omega) (by omega)] at q3
            simp only [Prod.mk.injEq] at q3
            obtain ⟨j1, j2, j3⟩ := q3
            have q4 := HN4.out
            rw [← j2, ← j3, Pkt.num_put (by omega) (by omega)] at q4
            simp only [Prod.mk.injEq] at q4
            obtain ⟨o1, o2, o3⟩ := q4
            have q5 := HN5.out
            rw [← o2, ← o3, Pkt.num_put (by omega) (by omega)] at q5
            simp only [Prod.mk.injEq] at q5
            obtain ⟨r1, r2, r3⟩ := q5
            have q6 := HN6.out
            rw [← r2, ← r3, Pkt.four_be32 hw.1 hw.2] at q6
            simp only [Prod.mk.injEq] at q6
            obtain ⟨s1', s2, s3⟩ := q6
            have q7 := HN7.out
            rw [← s2, ← s3, Pkt.num_put (by omega) (by omega)] at q7
            simp only [Prod.mk.injEq] at q7
            obtain ⟨t1, t2, t3⟩ := q7
            have q8 := HR.out
            rw [← t3, Runs.dec_enc0 32 _ (by omega), if_pos a4] at q8
            simp only [Prod.mk.injEq] at q8
            obtain ⟨u1, u2⟩ := q8
            refine ⟨?_, t2.symm, u2.symm, by rw [← t1, ← u1]⟩
            cases p
            simp only [Pkt.mk.injEq] at *
            exact ⟨k1.symm, s1.symm, d1.symm, i1, j1, u1, o1, r1, s1'⟩
          · omega
        have hlt7 := D7.out.p.lt
        clear D7
        by_cases he : ey = 0
        · subst he
          have hy32 := (Runs.dec_back0 HR.out rfl).2
          by_cases h7n : y7 = (n8 : Int)
          · have d3 : (y7 != (n8 : Int)) = false := by simp [h7n]
            have f5 := D8.out.p.frozen 5
            have c5 := D8.out.p.cell (j := 5) (by simp)
            simp only [List.set_cons_succ, List.set_cons_zero, List.getElem_cons_zero, List.getElem_cons_succ] at c5
            go_upto_region 16 with fail
            have D9 := hide (D8.out.set HBB.out 5 (.slice A8 n8 c8'))
            have O9 := hide ((O8.out.keeps (Keeps.setCell v8 ⟨w.heap.size + 1, 5, none⟩ (.slice A8 n8 c8')) (fun k hk => by have := (O8.out.blk k hk).1; show ¬ k = w.heap.size + 1; omega)).lies)
            have HA8 : Hid (∀ b off, A8 = some ⟨b, off, none⟩ → y ≠ [] → ¬ b = w.heap.size) := by
              intro b' off' hb' hy
              have h0 : 0 < n8 := by rcases Nat.eq_zero_or_pos n8 with h | h; · rw [h] at hl8; exact absurd (List.eq_nil_of_length_eq_zero hl8) hy
                                     · exact h
              obtain ⟨g, hg, hg2, -⟩ := O8.out.form h0
              rw [hb'] at hg
              injection hg with hg
              injection hg with hg
              omega
            generalize World.setCell v8 _ _ = w2' at D9 O9 ⊢
            obtain ⟨q, hq⟩ : ∃ q : Pkt, q = ⟨kb.toNat, sb.toNat, db.toNat, x1, y3, y, y4, y5, y6⟩ := ⟨_, rfl⟩
            have D : Hid (DS w w2' B wc.heap.size (q.row (.slice A8 n8 c8')) e7 A7 n7 c7' l7) := by subst hq; exact D9.out
            have LQ : Hid (LiesB w2' w2'.heap.size A8 n8 q.press) := by subst hq; exact O9.out
            have HW : Hid q.WF := by
              subst hq
              show 0 ≤ y6 ∧ y6 < 4294967296
              have h6 := HN6.out
              have hr := Pkt.get4_range l5
              unfold Pkt.four at h6
              split at h6
              · simp only [Prod.mk.injEq] at h6; omega
              · simp only [Prod.mk.injEq] at h6; omega
            have HQ : Hid (∀ p, Pkt.Is b p → p = q ∧ e7 = false) := fun p hp => by rw [hq]; exact ⟨(HQ0.out p hp).1, (HQ0.out p hp).2.1⟩
            have HC : Hid (n8 ≤ c8' ∧ n8 ≤ 32) := ⟨hcap8, by omega⟩
            have HA9 : Hid (∀ b off, A8 = some ⟨b, off, none⟩ → q.press ≠ [] → ¬ b = w.heap.size) := by subst hq; exact HA8.out
            clear D8 D9 O8 O9 c5 f5 hq hbl8
            go_wp2_with (refine wpP_load rfl (.tmp 4) rfl (w.heap.size + 1) rfl q (.slice A8 n8 c8') D.out.p ?_)
            refine Calls.mono (packet_Encode q LQ.out (Nat.le_refl _) (by omega) HW.out) ?_
            rintro e w9 ⟨A9, n9, c9, rfl, own9, hb9, hnil⟩
            have D9 := hide (D.out.below hb9 (Nat.le_trans HBB.out D.out.bel.size))
            have O9 := hide own9
            have LB9 := hide (LA.out.below (D9.out.bel.mono HBB.out))
            have cb := D9.out.rd.arr.cell (j := 1) (by simp)
            simp only [List.getElem_cons_zero, List.getElem_cons_succ] at cb
            cases e7
            case true =>
              have NO : Hid (∀ p, ¬ Pkt.Is b p) := fun p hp => by have := (HQ.out p hp).2; cases this
              have heq : (q.enc == b) = (q.enc == b) := rfl
              go_wp2_with (first | rw [Lib.run_eql_slice_nil_nil _ _ _ Try.underlying22] | rw [Lib.run_eql_slice_some_nil _ _ _ _ Try.underlying22] | (go_at_call 34; (refine Calls.mono (bytes_Equal O9.out.lies LB9.out heq) ?_); rintro e w10 ⟨rfl, rfl⟩) | (refine wpP_store rfl (.tmp 2) (.tmp 89) rfl w.heap.size rfl Pkt.zero Pkt.zero none none 0 0 0 0 rfl D9.out.res ?_; intro w12 ha12 hk12 hs12))
              refine bodyPost_ret (results_P2 (fn := Try.f16) rfl _ _ w.heap.size rfl _ rfl Pkt.zero (.slice none 0 0) ha12) rfl ?_
              exact ⟨.no NO.out, D9.out.bel.trans (hk12.below D9.out.bel.size (fun k hk => by omega))⟩
            case false =>
              cases hm : q.may
              case false =>
                have NO : Hid (∀ p, ¬ Pkt.Is b p) := fun p hp => by have := (HQ.out p hp).1; subst this; rw [hp.1] at hm; cases hm
                obtain ⟨rfl, rfl, rfl⟩ := hnil hm
                have heq : (q.enc == b) = (q.enc == b) := rfl
                clear hnil own9
                go_wp2_with (first | rw [Lib.run_eql_slice_nil_nil _ _ _ Try.underlying22] | rw [Lib.run_eql_slice_some_nil _ _ _ _ Try.underlying22] | (go_at_call 34; (refine Calls.mono (bytes_Equal O9.out.lies LB9.out heq) ?_); rintro e w10 ⟨rfl, rfl⟩) | (refine wpP_store rfl (.tmp 2) (.tmp 89) rfl w.heap.size rfl Pkt.zero Pkt.zero none none 0 0 0 0 rfl D9.out.res ?_; intro w12 ha12 hk12 hs12))
                refine bodyPost_ret (results_P2 (fn := Try.f16) rfl _ _ w.heap.size rfl _ rfl Pkt.zero (.slice none 0 0) ha12) rfl ?_
                exact ⟨.no NO.out, D9.out.bel.trans (hk12.below D9.out.bel.size (fun k hk => by omega))⟩
              case true =>
                have hne : 0 < n9 := by have := own9.len; rcases Nat.eq_zero_or_pos n9 with h | h; · rw [h] at this; have := Pkt.enc_nil_iff.1 (List.eq_nil_of_length_eq_zero this); rw [hm] at this; cases this
                                        · exact h
                obtain ⟨g9, rfl, -, -⟩ := own9.form hne
                clear hnil own9
                cases heq : (q.enc == b)
                case false =>
                  have NO : Hid (∀ p, ¬ Pkt.Is b p) := fun p hp => by have := (HQ.out p hp).1; subst this; rw [← Pkt.is_enc hp] at heq; simp at heq
                  go_wp2_with (first | rw [Lib.run_eql_slice_nil_nil _ _ _ Try.underlying22] | rw [Lib.run_eql_slice_some_nil _ _ _ _ Try.underlying22] | (go_at_call 34; (refine Calls.mono (bytes_Equal O9.out.lies LB9.out heq) ?_); rintro e w10 ⟨rfl, rfl⟩) | (refine wpP_store rfl (.tmp 2) (.tmp 89) rfl w.heap.size rfl Pkt.zero Pkt.zero none none 0 0 0 0 rfl D9.out.res ?_; intro w12 ha12 hk12 hs12))
                  refine bodyPost_ret (results_P2 (fn := Try.f16) rfl _ _ w.heap.size rfl _ rfl Pkt.zero (.slice none 0 0) ha12) rfl ?_
                  exact ⟨.no NO.out, D9.out.bel.trans (hk12.below D9.out.bel.size (fun k hk => by omega))⟩
                case true =>
                  have YES : Hid (Pkt.Is b q) := by show Pkt.Is b q; have := Pkt.enc_is hm HW.out; rwa [eq_of_beq heq] at this
                  have LQ9 := hide ((LQ.out.below hb9).more hb9.size)
                  go_wp2_with (first | rw [Lib.run_eql_slice_nil_nil _ _ _ Try.underlying22] | rw [Lib.run_eql_slice_some_nil _ _ _ _ Try.underlying22] | (go_at_call 34; (refine Calls.mono (bytes_Equal O9.out.lies LB9.out heq) ?_); rintro e w10 ⟨rfl, rfl⟩) | (refine wpP_load rfl (.tmp 4) rfl (w.heap.size + 1) rfl q (.slice A8 n8 c8') D9.out.p ?_) | (refine wpP_store rfl (.tmp 2) (.tmp 90) rfl w.heap.size rfl q Pkt.zero A8 none n8 0 c8' 0 rfl D9.out.res ?_; intro w12 ha12 hk12 hs12))
                  refine bodyPost_ret (results_P2 (fn := Try.f16) rfl _ _ w.heap.size rfl _ rfl q (.slice A8 n8 c8') ha12) rfl ?_
                  have LY := LQ9.out.keeps hk12 HA9.out
                  rw [← hs12] at LY
                  exact ⟨.yes q _ _ _ YES.out LY HC.out.1 HC.out.2, D9.out.bel.trans (hk12.below D9.out.bel.size (fun k hk => by omega))⟩
          · have d3 : (y7 != (n8 : Int)) = true := by simp [h7n]
            have NO : Hid (∀ p, ¬ Pkt.Is b p) := fun p hp => by have := (HQ0.out p hp).2.2.2; omega
            clear h7n
            go_wp2_with (refine wpP_store rfl (.tmp 2) (.tmp 70) rfl w.heap.size rfl Pkt.zero Pkt.zero none none 0 0 0 0 rfl D8.out.res ?_; intro w12 ha12 hk12 hs12)
            refine bodyPost_ret (results_P2 (fn := Try.f16) rfl _ _ w.heap.size rfl _ rfl Pkt.zero (.slice none 0 0) ha12) rfl ?_
            exact ⟨.no NO.out, D8.out.bel.trans (hk12.below D8.out.bel.size (fun k hk => by omega))⟩
        · have d3 : (ey != 0) = true := by simp [he]
          have NO : Hid (∀ p, ¬ Pkt.Is b p) := fun p hp => he (HQ0.out p hp).2.2.1
          clear he
          go_wp2_with (refine wpP_store rfl (.tmp 2) (.tmp 70) rfl w.heap.size rfl Pkt.zero Pkt.zero none none 0 0 0 0 rfl D8.out.res ?_; intro w12 ha12 hk12 hs12)
          refine bodyPost_ret (results_P2 (fn := Try.f16) rfl _ _ w.heap.size rfl _ rfl Pkt.zero (.slice none 0 0) ha12) rfl ?_
          exact ⟨.no NO.out, D8.out.bel.trans (hk12.below D8.out.bel.size (fun k hk => by omega))⟩
      · have d2 : ((kb.toNat : Int) == 1) = false := by simp [hk1]
        go_upto_region 16 with fail
        obtain ⟨q, hq⟩ : ∃ q : Pkt, q = ⟨kb.toNat, sb.toNat, db.toNat, x1, 0, [], 0, 0, 0⟩ := ⟨_, rfl⟩
        have D : Hid (DS w w2 B wc.heap.size (q.row (.slice none 0 0)) e1 A1 n1 c1 l1) := by subst hq; exact D2.out
        have LQ : Hid (LiesB w2 w2.heap.size none 0 q.press) := by subst hq; exact LiesB.nil _ _ _
        have HW : Hid q.WF := by subst hq; exact ⟨by show (0 : Int) ≤ 0; decide, by show (0 : Int) < 4294967296; decide⟩
        have HQ : Hid (∀ p, Pkt.Is b p → p = q ∧ e1 = false) := by
          intro p hp
          obtain ⟨-, k, s, d, t, hb, k1, s1, d1, e⟩ := Pkt.is_head hp
          have hbt := HBT.out
          rw [hb] at hbt
          simp only [List.cons.injEq] at hbt
          obtain ⟨rfl, rfl, rfl, -⟩ := hbt
          have f := Pkt.may_iff.1 hp.1
          rw [hl, show m + 4 - 4 = m by omega, ← HL0.out] at e
          have hn1 := HN1.out
          rw [e, Pkt.num_put (by have := f.id; omega) (by have := f.id; omega)] at hn1
          simp only [Prod.mk.injEq] at hn1
          refine ⟨?_, hn1.2.1.symm⟩
          rcases f.kind with ⟨h, -⟩ | ⟨h, a1, a2, a3, a4, a5⟩
          · omega
          · rw [hq]
            cases p
            simp only [Pkt.mk.injEq] at *
            exact ⟨k1.symm, s1.symm, d1.symm, hn1.1, a1, a4, a2, a3, a5⟩
        have HC : Hid (0 ≤ 0 ∧ 0 ≤ 32) := ⟨by omega, by omega⟩
        have HA9 : Hid (∀ b off, (none : Option Addr) = some ⟨b, off, none⟩ → q.press ≠ [] → ¬ b = w.heap.size) := fun b off h => by cases h
        clear D2 c0 hq
        go_wp2_with (refine wpP_load rfl (.tmp 4) rfl (w.heap.size + 1) rfl q (.slice none 0 0) D.out.p ?_)
        refine Calls.mono (packet_Encode q LQ.out (Nat.le_refl _) (by omega) HW.out) ?_
        rintro e w9 ⟨A9, n9, c9, rfl, own9, hb9, hnil⟩
        have D9 := hide (D.out.below hb9 (Nat.le_trans HBB.out D.out.bel.size))
        have O9 := hide own9
        have LB9 := hide (LA.out.below (D9.out.bel.mono HBB.out))
        have cb := D9.out.rd.arr.cell (j := 1) (by simp)
        simp only [List.getElem_cons_zero, List.getElem_cons_succ] at cb
        cases e1
        case true =>
          have NO : Hid (∀ p, ¬ Pkt.Is b p) := fun p hp => by have := (HQ.out p hp).2; cases this
          have heq : (q.enc == b) = (q.enc == b) := rfl
          go_wp2_with (first | rw [Lib.run_eql_slice_nil_nil _ _ _ Try.underlying22] | rw [Lib.run_eql_slice_some_nil _ _ _ _ Try.underlying22] | (go_at_call 34; (refine Calls.mono (bytes_Equal O9.out.lies LB9.out heq) ?_); rintro e w10 ⟨rfl, rfl⟩) | (refine wpP_store rfl (.tmp 2) (.tmp 89) rfl w.heap.size rfl Pkt.zero Pkt.zero none none 0 0 0 0 rfl D9.out.res ?_; intro w12 ha12 hk12 hs12))
          refine bodyPost_ret (results_P2 (fn := Try.f16) rfl _ _ w.heap.size rfl _ rfl Pkt.zero (.slice none 0 0) ha12) rfl ?_
          exact ⟨.no NO.out, D9.out.bel.trans (hk12.below D9.out.bel.size (fun k hk => by omega))⟩
        case false =>
          cases hm : q.may
          case false =>
            have NO : Hid (∀ p, ¬ Pkt.Is b p) := fun p hp => by have := (HQ.out p hp).1; subst this; rw [hp.1] at hm; cases hm
            obtain ⟨rfl, rfl, rfl⟩ := hnil hm
            have heq : (q.enc == b) = (q.enc == b) := rfl
            clear hnil own9
            go_wp2_with (first | rw [Lib.run_eql_slice_nil_nil _ _ _ Try.underlying22] | rw [Lib.run_eql_slice_some_nil _ _ _ _ Try.underlying22] | (go_at_call 34; (refine Calls.mono (bytes_Equal O9.out.lies LB9.out heq) ?_); rintro e w10 ⟨rfl, rfl⟩) | (refine wpP_store rfl (.tmp 2) (.tmp 89) rfl w.heap.size rfl Pkt.zero Pkt.zero none none 0 0 0 0 rfl D9.out.res ?_; intro w12 ha12 hk12 hs12))
            refine bodyPost_ret (results_P2 (fn := Try.f16) rfl _ _ w.heap.size rfl _ rfl Pkt.zero (.slice none 0 0) ha12) rfl ?_
            exact ⟨.no NO.out, D9.out.bel.trans (hk12.below D9.out.bel.size (fun k hk => by omega))⟩
          case true =>
            have hne : 0 < n9 := by have := own9.len; rcases Nat.eq_zero_or_pos n9 with h | h; · rw [h] at this; have := Pkt.enc_nil_iff.1 (List.eq_nil_of_length_eq_zero this); rw [hm] at this; cases this
                                    · exact h
            obtain ⟨g9, rfl, -, -⟩ := own9.form hne
            clear hnil own9
            cases heq : (q.enc == b)
            case false =>
              have NO : Hid (∀ p, ¬ Pkt.Is b p) := fun p hp => by have := (HQ.out p hp).1; subst this; rw [← Pkt.is_enc hp] at heq; simp at heq
              go_wp2_with (first | rw [Lib.run_eql_slice_nil_nil _ _ _ Try.underlying22] | rw [Lib.run_eql_slice_some_nil _ _ _ _ Try.underlying22] | (go_at_call 34; (refine Calls.mono (bytes_Equal O9.out.lies LB9.out heq) ?_); rintro e w10 ⟨rfl, rfl⟩) | (refine wpP_store rfl (.tmp 2) (.tmp 89) rfl w.heap.size rfl Pkt.zero Pkt.zero none none 0 0 0 0 rfl D9.out.res ?_; intro w12 ha12 hk12 hs12))
              refine bodyPost_ret (results_P2 (fn := Try.f16) rfl _ _ w.heap.size rfl _ rfl Pkt.zero (.slice none 0 0) ha12) rfl ?_
              exact ⟨.no NO.out, D9.out.bel.trans (hk12.below D9.out.bel.size (fun k hk => by omega))⟩
            case true =>
              have YES : Hid (Pkt.Is b q) := by show Pkt.Is b q; have := Pkt.enc_is hm HW.out; rwa [eq_of_beq heq] at this
              have LQ9 := hide ((LQ.out.below hb9).more hb9.size)
              go_wp2_with (first | rw [Lib.run_eql_slice_nil_nil _ _ _ Try.underlying22] | rw [Lib.run_eql_slice_some_nil _ _ _ _ Try.underlying22] | (go_at_call 34; (refine Calls.mono (bytes_Equal O9.out.lies LB9.out heq) ?_); rintro e w10 ⟨rfl, rfl⟩) | (refine wpP_load rfl (.tmp 4) rfl (w.heap.size + 1) rfl q (.slice none 0 0) D9.out.p ?_) | (refine wpP_store rfl (.tmp 2) (.tmp 90) rfl w.heap.size rfl q Pkt.zero none none 0 0 0 0 rfl D9.out.res ?_; intro w12 ha12 hk12 hs12))
              refine bodyPost_ret (results_P2 (fn := Try.f16) rfl _ _ w.heap.size rfl _ rfl q (.slice none 0 0) ha12) rfl ?_
              have LY := LQ9.out.keeps hk12 HA9.out
              rw [← hs12] at LY
              exact ⟨.yes q _ _ _ YES.out LY HC.out.1 HC.out.2, D9.out.bel.trans (hk12.below D9.out.bel.size (fun k hk => by omega))⟩
end Go.Proofs.Ytcjcmjkpfijhdaa
