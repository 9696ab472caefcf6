/-
  The sums; quintainlaw8.begun: one game.
-/
import Derived.Test.YtmikaidfdcamfaaArrEq
import Derived.Test.YtmikaidfdcamfaaShort
import Derived.Test.YtmikaidfdcamfaaRegion
namespace Go.Proofs.Ytmikaidfdcamfaa
open Go.RowKit
set_option linter.unusedVariables false
/-- The array of type ty that lies in block g, read whole. -/
def Whole (ty : TypeId) (g : Nat) (l : List Value) (w : World) : Prop := (Instr.loadAt ty (.pointer (some ⟨g, 0, none⟩))).run Try.prog w = .ok (.agg l.toArray) w
theorem Arr.whole {T : TypeId} {w : World} {g : Nat} {l : List Value} (h : Arr T w g l) (ty : TypeId) (n : Nat) (e : TypeId) (hu : Try.prog.underlying ty = some (.array n e)) (hi : (Try.prog.info? ty).map (·.size) = some n) (hn : l.length = n) : Whole ty g l w := by
  have := run_loadVar_row (P := Try.prog) w g T ty l.toArray (0, 0) _ h hu rfl (by rw [hi]; simp [hn])
  unfold Whole
  simp only [Instr.loadAt, Instr.sureAddr, Sem.run_bind, Sem.run_pure, Result.andThen_ok, this]
theorem exec_whole {o : Oper} {a : Act} {ty : TypeId} {x : Operand} {g : Nat} {l : List Value} {w : World} (h : Whole ty g l w) (ho : o.op = .load ty x) (hx : a.eval x = .pointer (some ⟨g, 0, none⟩)) :
    (execOp a.eval o).run Try.prog w = .ok (.value (.agg l.toArray)) w := by
  unfold execOp
  unfold Whole at h
  simp only [ho, hx, Sem.run_bind, h, Result.andThen_ok, Sem.run_pure]
section
variable {l p : List Int} {L R P : List Value} {i : Int}
theorem state_Encode_v (hL : L = ivs l) (hl : l.length = 32) {b : List UInt8} (hb : b = bytes32 l) (w : World) :
    Calls Try.prog 10 #[.agg L.toArray] w fun e w' => ∃ A c, e = .returned (.slice A 128 c) ∧ OwnB w' w.heap.size A 128 c b ∧ Below w.heap.size w w' := by subst hL hb; exact state_Encode l hl w
theorem ref_Bytes_v (hL : L = ivs l) (hl : l.length = 32) (h32 : I32 l) {b : List UInt8} (hb : b = bytes32 l) (w : World) :
    Calls Try.prog 14 #[.agg L.toArray] w fun e w' => ∃ A c, e = .returned (.slice A 128 c) ∧ OwnB w' w.heap.size A 128 c b ∧ Below w.heap.size w w' := by subst hL hb; exact ref_Bytes l hl h32 w
theorem state_Page_v (hL : L = ivs l) (hl : l.length = 32) (hR : R = ivs (pageOf l i)) (w : World) (lo : -9223372036854775808 ≤ i) (hi : i ≤ 9223372036854775807) :
    Calls Try.prog 13 #[.agg L.toArray, .int .i64 i] w fun e w' => e = .returned (.agg R.toArray) ∧ Below w.heap.size w w' := by subst hL hR; exact state_Page l i hl w lo hi
theorem state_With_v (hL : L = ivs l) (hl : l.length = 32) (hP : P = ivs p) (hp : p.length = 8) (hR : R = ivs (withOf l i p)) (w : World) (lo : -9223372036854775808 ≤ i) (hi : i ≤ 9223372036854775807) :
    Calls Try.prog 12 #[.agg L.toArray, .int .i64 i, .agg P.toArray] w fun e w' => e = .returned (.agg R.toArray) ∧ Below w.heap.size w w' := by subst hL hR hP; exact state_With l i p hl hp w lo hi
theorem state_Decode_v {A : Option Addr} {n c B : Nat} {b : List UInt8} {er : Int} {w : World} (hA : LiesB w B A n b) (hB : B ≤ w.heap.size) (hnc : n ≤ c) (hn : n ≤ 9223372036854775807) (hR : R = ivs (decS b)) (he : er = if n = 128 then 0 else 1) :
    Calls Try.prog 9 #[.slice A n c] w fun e w' => e = .returned (.tuple #[.agg R.toArray, .int .i64 er]) ∧ Below w.heap.size w w' := by subst hR he; exact state_Decode A n c B b w hA hB hnc hn
set_option maxHeartbeats 400000 in
set_option maxRecDepth 10000 in
theorem state_Sum_v (hL : L = ivs l) (hl : l.length = 32) {s : Int} (hs : s = ((Crc.sum (bytes32 l)).toNat : Int)) (w : World) :
    Calls Try.prog 15 #[.agg L.toArray] w fun e w' => e = .returned (.int .u32 s) ∧ Below w.heap.size w w' := by
  have HL := hide hL
  have HS := hide hs
  have HL32 : Hid (L.length = 32) := by rw [hL]; show (ivs l).length = 32; rw [ivs_len, hl]
  have Hl := hide hl
  clear hL hs hl
  have HB0 := hide (Below_new w (.cells L.toArray 26))
  have HG := hide (Arr.new 26 w L.toArray L (by simp))
  go_enter Try.func15, Try.ntmps15
  go_wp2_with (refine wpA_load rfl 26 (.tmp 1) rfl w.heap.size rfl 26 L HG.out 32 21 Try.underlying26 info_state HL32.out ?_)
  refine Calls.mono (state_Encode_v HL.out Hl.out rfl _) ?_
  rintro e w1 ⟨A, c, rfl, own1, hb1⟩
  have HB1 := hide (Below_step HB0.out hb1)
  have O1 := hide own1
  clear own1 hb1
  go_wp2_with fail
  refine Calls.mono (crc_Sum _ _ _ _ _ _ O1.out.lies (by omega)) ?_
  rintro e w2 ⟨rfl, rfl⟩
  rw [← HS.out]
  go_wp2_with fail
  go_ret
  exact ⟨rfl, HB1.out⟩
set_option maxHeartbeats 400000 in
set_option maxRecDepth 10000 in
theorem ref_SumOf_v (hL : L = ivs l) (hl : l.length = 32) (h32 : I32 l) {s : Int} (hs : s = ((Crc.sum (bytes32 l)).toNat : Int)) (w : World) :
    Calls Try.prog 16 #[.agg L.toArray] w fun e w' => e = .returned (.int .u32 s) ∧ Below w.heap.size w w' := by
  have HL := hide hL
  have HS := hide hs
  have H32 := hide h32
  have HL32 : Hid (L.length = 32) := by rw [hL]; show (ivs l).length = 32; rw [ivs_len, hl]
  have Hl := hide hl
  clear hL hs hl h32
  have HB0 := hide (Below_new w (.cells L.toArray 37))
  have HG := hide (Arr.new 37 w L.toArray L (by simp))
  go_enter Try.func16, Try.ntmps16
  go_wp2_with (refine wpA_load rfl 37 (.tmp 1) rfl w.heap.size rfl 37 L HG.out 32 21 Try.underlying37 info_game HL32.out ?_)
  refine Calls.mono (ref_Bytes_v HL.out Hl.out H32.out rfl _) ?_
  rintro e w1 ⟨A, c, rfl, own1, hb1⟩
  have HB1 := hide (Below_step HB0.out hb1)
  have O1 := hide own1
  clear own1 hb1
  go_wp2_with fail
  refine Calls.mono (ref_Sum _ _ _ _ _ _ O1.out.lies (by omega)) ?_
  rintro e w2 ⟨rfl, rfl⟩
  rw [← HS.out]
  go_wp2_with fail
  go_ret
  exact ⟨rfl, HB1.out⟩
end
theorem get32_bytes (l : List Int) (i : Nat) (hi : i < l.length) (h : I32 l) : get32 ((bytes32 l).drop (4 * i)) = l[i] := by
  induction l generalizing i with
  | nil => simp at hi
  | cons x t ih =>
    have hx := h x (by simp)
    have ht : I32 t := fun y hy => h y (by simp [hy])
    cases i with
    | zero =>
      show get32 (bytes32 (x :: t)) = x
      simp only [bytes32, List.flatMap_cons]
      exact get32_be32 hx.1 hx.2 _
    | succ i =>
      have e : (bytes32 (x :: t)).drop (4 * (i + 1)) = (bytes32 t).drop (4 * i) := by
        show (be32 x ++ bytes32 t).drop (4 * (i + 1)) = _
        rw [List.drop_append, List.drop_eq_nil_of_le (by rw [be32_length]; omega), List.nil_append, be32_length, show 4 * (i + 1) - 4 = 4 * i by omega]
      rw [e]
      simpa using ih i (by simpa using hi) ht
/-- What is written is read back. -/
theorem decS_bytes (l : List Int) (hl : l.length = 32) (h : I32 l) : decS (bytes32 l) = l := by
  rw [decS, if_pos (by rw [bytes32_len, hl])]
  apply List.ext_getElem
  · simp [hl]
  · intro i h1 h2
    simp only [List.getElem_map, List.getElem_range]
    exact get32_bytes l i h2 h
/-- The game that begun makes. -/
def game0 : List Int := ((List.replicate 32 0).set 0 (-1)).set 9 5
theorem game0_len : game0.length = 32 := by decide
theorem game0_I32 : I32 game0 := by unfold I32; decide
def g255 : Int := 255
set_option maxHeartbeats 1000000 in
set_option maxRecDepth 10000 in
theorem begun8 (w : World) :
    Calls Try.prog 7 #[] w fun e w' => e = .returned (.bool true) ∧ Below w.heap.size w w' := by
  obtain ⟨S, hS⟩ : ∃ S, S = ivs game0 := ⟨_, rfl⟩
  obtain ⟨b, hb⟩ : ∃ b, b = bytes32 game0 := ⟨_, rfl⟩
  obtain ⟨P1, hP1⟩ : ∃ P, P = ivs (pageOf game0 1) := ⟨_, rfl⟩
  obtain ⟨U, hU⟩ : ∃ U, U = ivs (withOf game0 0 (pageOf game0 1)) := ⟨_, rfl⟩
  have hb0 : b.length = 128 := by rw [hb, bytes32_len]; rfl
  have hb1 : ∀ h : 0 < b.length, b[0] = 255 := by subst hb; decide
  have hD : decS b = game0 := by rw [hb]; exact decS_bytes _ game0_len game0_I32
  have i1 : ∀ w, (Instr.index 35 (.agg P1.toArray) (.int .i64 1)).run Try.prog w = .ok (.int .i32 5) w := by
    intro w; subst hP1
    exact run_indexA (k := .i64) Try.underlying35 info_int32 _ Try.underlying21 rfl (ivs (pageOf game0 1)) 1 rfl (by decide) w
  have i2 : ∀ w, (Instr.index 26 (.agg U.toArray) (.int .i64 1)).run Try.prog w = .ok (.int .i32 5) w := by
    intro w; subst hU
    exact run_indexA (k := .i64) Try.underlying26 info_int32 _ Try.underlying21 rfl (ivs (withOf game0 0 (pageOf game0 1))) 1 rfl (by decide) w
  have HS := hide hS
  have HP1 := hide hP1
  have HU := hide hU
  have Hb := hide hb
  have Hb0 := hide hb0
  have Hb1 := hide hb1
  have HDS : Hid (S = ivs (decS b)) := by rw [hD]; exact hS
  have I1 := hide i1
  have I2 := hide i2
  have HS32 : Hid (S.length = 32) := by rw [hS]; rfl
  clear hS hP1 hU hb hb0 hb1 hD i1 i2
  go_enter Try.func7, Try.ntmps7
  go_upto_region 2 with fail
  go_cut [1] (fun s1 wx => ∃ g1, s1 = .pointer (some ⟨g1, 0, none⟩) ∧ Arr 26 wx g1 S ∧ w.heap.size ≤ g1 ∧ Below w.heap.size w wx)
  case first =>
    go_wp2
    go_meet
    exact ⟨w.heap.size, rfl, Arr.new 26 w _ _ (by rw [HS.out]; rfl), Nat.le_refl _, Below_new _ _⟩
  case rest =>
    obtain ⟨g1, rfl, ha1, hg1, hbw⟩ := hcut
    have H1 := hide ha1
    have HB := hide hbw
    have hsz := hbw.size
    have hc1 := hide (ha1.cell (j := 1) (by have := HS32.out; omega))
    clear ha1 hbw
    go_wp2_with (refine wpA_load rfl 26 (.tmp 1) rfl g1 rfl 26 S H1.out 32 21 Try.underlying26 info_state HS32.out ?_)
    refine Calls.mono (state_Encode_v HS.out game0_len Hb.out _) ?_
    rintro e w1 ⟨A, c, rfl, own1, hb1⟩
    have HB1 := hide (HB.out.trans (hb1.mono hsz))
    have H1 := hide (H1.out.belowN hb1)
    have O1 := hide own1
    have hc := own1.cap
    clear own1 hb1
    go_wp2_with fail
    refine Calls.mono (state_Decode_v O1.out.lies (Nat.le_refl _) hc (by omega) HDS.out rfl) ?_
    rintro e w2 ⟨rfl, hb2⟩
    have HB2 := hide (Below_step HB1.out hb2)
    have H1 := hide (H1.out.belowN hb2)
    have O2 := hide (O1.out.below hb2)
    clear hb2
    go_wp2_with (refine wpA_init rfl 26 (.tmp 3) (.tmp 12) rfl S rfl rfl 32 info_state rfl HS32.out (by rw [HS.out]; exact ivs_one _) ?_; intro w3 ha3 hb3 hs3)
    have HB3 := Below_step HB2.out hb3
    have H1 := H1.out.belowN hb3
    have O3 := O2.out.below hb3
    obtain ⟨gb, rfl, hgb, _⟩ := O3.form (by omega)
    have mk : Hid (∀ w', OwnB w' wc.heap.size (some ⟨gb, 0, none⟩) 128 c b → Arr 26 w' w2.heap.size S → Arr 26 w' g1 S → (fun w' => w'.cell? ⟨gb, 0, none⟩ = some (.int .u8 255) ∧ w'.cell? ⟨w2.heap.size, 9, none⟩ = some (.int .i32 5) ∧ Whole 26 g1 S w' ∧ w'.cell? ⟨g1, 1, none⟩ = some (.int .i32 0)) w') := by
      intro w' k1 k2 k3
      obtain ⟨h0, q1⟩ := k1.cell (j := 0) (by omega)
      rw [Hb1.out h0] at q1
      refine ⟨q1, ?_, k3.whole 26 32 21 Try.underlying26 info_state HS32.out, ?_⟩
      · rw [k2.cell (j := 9) (by rw [HS32.out]; omega)]; simp only [HS.out]; rfl
      · rw [k3.cell (j := 1) (by rw [HS32.out]; omega)]; simp only [HS.out]; rfl
    have hg1r : g1 < w3.heap.size := H1.lt
    clear hs3 hb3
    refine wp_region_noPanic ?_
    refine wp_region_held_drew (S := (fun w' => w'.cell? ⟨gb, 0, none⟩ = some (.int .u8 255) ∧ w'.cell? ⟨w2.heap.size, 9, none⟩ = some (.int .i32 5) ∧ Whole 26 g1 S w' ∧ w'.cell? ⟨g1, 1, none⟩ = some (.int .i32 0))) (by kernel_rfl) (mk.out _ O3.drew ha3.drew H1.drew) (fun hHeld => ?_)
    refine wpAnyH_take (i := 0) (oi := ?_) (v := ?_) ?_ (by kernel_rfl) (by kernel_rfl) (by kernel_rfl) ?_ ?_ (by assumption) ?_
    rotate_left 2
    · (simp only [List.getElem?_toArray, List.getElem?_cons_zero]; rfl)
    · exact fun _ _ _ h => h
    · (refine Or.inl ⟨by rfl, ?_⟩; intro w hSw; (try dsimp only at hSw); go_simp <;> with_reducible rfl)
    try simp only [Act.put, List.setIfInBounds_toArray, List.set_cons_zero, List.set_cons_succ]
    refine wpAnyH_take (i := 1) (oi := ?_) (v := ?_) ?_ (by kernel_rfl) (by kernel_rfl) (by kernel_rfl) ?_ ?_ (by assumption) ?_
    rotate_left 2
    · (simp only [List.getElem?_toArray, List.getElem?_cons_succ, List.getElem?_cons_zero]; rfl)
    · exact fun _ _ _ h => h
    · (refine Or.inl ⟨by rfl, ?_⟩; intro w hSw; (try dsimp only at hSw); go_simp <;> with_reducible rfl)
    try simp only [Act.put, List.setIfInBounds_toArray, List.set_cons_zero, List.set_cons_succ]
    refine wpAnyH_take (i := 2) (oi := ?_) (v := ?_) ?_ (by kernel_rfl) (by kernel_rfl) (by kernel_rfl) ?_ ?_ (by assumption) ?_
    rotate_left 2
    · (simp only [List.getElem?_toArray, List.getElem?_cons_succ, List.getElem?_cons_zero]; rfl)
    · exact fun _ _ _ h => h
    · (refine Or.inl ⟨by rfl, ?_⟩; intro w hSw; (try dsimp only at hSw); go_simp <;> with_reducible rfl)
    try simp only [Act.put, List.setIfInBounds_toArray, List.set_cons_zero, List.set_cons_succ]
    refine wpAnyH_take (i := 3) (oi := ?_) (v := ?_) ?_ (by kernel_rfl) (by kernel_rfl) (by kernel_rfl) ?_ ?_ (by assumption) ?_
    rotate_left 2
    · (simp only [List.getElem?_toArray, List.getElem?_cons_succ, List.getElem?_cons_zero]; rfl)
    · exact fun _ _ _ h => h
    · (refine Or.inl ⟨by rfl, ?_⟩; intro w hSw; (try dsimp only at hSw); go_simp <;> with_reducible rfl)
    try simp only [Act.put, List.setIfInBounds_toArray, List.set_cons_zero, List.set_cons_succ]
    refine wpAnyH_take (i := 4) (oi := ?_) (v := ?_) ?_ (by kernel_rfl) (by kernel_rfl) (by kernel_rfl) ?_ ?_ (by assumption) ?_
    rotate_left 2
    · (simp only [List.getElem?_toArray, List.getElem?_cons_succ, List.getElem?_cons_zero]; rfl)
    · exact fun _ _ _ h => h
    · (refine Or.inl ⟨by rfl, ?_⟩; intro w hSw; (try dsimp only at hSw); go_simp <;> with_reducible rfl)
    try simp only [Act.put, List.setIfInBounds_toArray, List.set_cons_zero, List.set_cons_succ]
    refine wpAnyH_take (i := 5) (oi := ?_) (v := ?_) ?_ (by kernel_rfl) (by kernel_rfl) (by kernel_rfl) ?_ ?_ (by assumption) ?_
    rotate_left 2
    · (simp only [List.getElem?_toArray, List.getElem?_cons_succ, List.getElem?_cons_zero]; rfl)
    · exact fun _ _ _ h => h
    · (refine Or.inl ⟨by rfl, ?_⟩; intro w hSw; (try dsimp only at hSw); go_simp <;> with_reducible rfl)
    try simp only [Act.put, List.setIfInBounds_toArray, List.set_cons_zero, List.set_cons_succ]
    refine wpAnyH_take (i := 6) (oi := ?_) (v := ?_) ?_ (by kernel_rfl) (by kernel_rfl) (by kernel_rfl) ?_ ?_ (by assumption) ?_
    rotate_left 2
    · (simp only [List.getElem?_toArray, List.getElem?_cons_succ, List.getElem?_cons_zero]; rfl)
    · exact fun _ _ _ h => h
    · (refine Or.inl ⟨by rfl, ?_⟩; intro w hSw; (try dsimp only at hSw); go_simp <;> with_reducible rfl)
    try simp only [Act.put, List.setIfInBounds_toArray, List.set_cons_zero, List.set_cons_succ]
    refine wpAnyH_take (i := 7) (oi := ?_) (v := ?_) ?_ (by kernel_rfl) (by kernel_rfl) (by kernel_rfl) ?_ ?_ (by assumption) ?_
    rotate_left 2
    · (simp only [List.getElem?_toArray, List.getElem?_cons_succ, List.getElem?_cons_zero]; rfl)
    · exact fun _ _ _ h => h
    · (refine Or.inl ⟨by rfl, ?_⟩; intro w hSw; (try dsimp only at hSw); go_simp <;> with_reducible rfl)
    try simp only [Act.put, List.setIfInBounds_toArray, List.set_cons_zero, List.set_cons_succ]
    refine wpAnyH_take (i := 8) (oi := ?_) (v := ?_) ?_ (by kernel_rfl) (by kernel_rfl) (by kernel_rfl) ?_ ?_ (by assumption) ?_
    rotate_left 2
    · (simp only [List.getElem?_toArray, List.getElem?_cons_succ, List.getElem?_cons_zero]; rfl)
    · exact fun _ _ _ h => h
    · (refine Or.inl ⟨by rfl, ?_⟩; intro w hSw; (try dsimp only at hSw); go_simp <;> with_reducible rfl)
    try simp only [Act.put, List.setIfInBounds_toArray, List.set_cons_zero, List.set_cons_succ]
    refine wpAnyH_take (i := 9) (oi := ?_) (v := ?_) ?_ (by kernel_rfl) (by kernel_rfl) (by kernel_rfl) ?_ ?_ (by assumption) ?_
    rotate_left 2
    · (simp only [List.getElem?_toArray, List.getElem?_cons_succ, List.getElem?_cons_zero]; rfl)
    · exact fun _ _ _ h => h
    · (refine Or.inl ⟨by rfl, ?_⟩; intro w hSw; (try dsimp only at hSw); go_simp <;> with_reducible rfl)
    try simp only [Act.put, List.setIfInBounds_toArray, List.set_cons_zero, List.set_cons_succ]
    refine wpAnyH_take (i := 10) (oi := ?_) (v := ?_) ?_ (by kernel_rfl) (by kernel_rfl) (by kernel_rfl) ?_ ?_ (by assumption) ?_
    rotate_left 2
    · (simp only [List.getElem?_toArray, List.getElem?_cons_succ, List.getElem?_cons_zero]; rfl)
    · exact fun _ _ _ h => h
    · (refine Or.inl ⟨by rfl, ?_⟩; intro w hSw; (try dsimp only at hSw); go_simp <;> with_reducible rfl)
    try simp only [Act.put, List.setIfInBounds_toArray, List.set_cons_zero, List.set_cons_succ]
    refine wpAnyH_take (i := 11) (oi := ?_) (v := ?_) ?_ (by kernel_rfl) (by kernel_rfl) (by kernel_rfl) ?_ ?_ (by assumption) ?_
    rotate_left 2
    · (simp only [List.getElem?_toArray, List.getElem?_cons_succ, List.getElem?_cons_zero]; rfl)
    · exact fun _ _ _ h => h
    · (refine Or.inl ⟨by rfl, ?_⟩; intro w hSw; (try dsimp only at hSw); go_simp <;> with_reducible rfl)
    try simp only [Act.put, List.setIfInBounds_toArray, List.set_cons_zero, List.set_cons_succ]
    refine wpAnyH_take (i := 12) (oi := ?_) (v := ?_) ?_ (by kernel_rfl) (by kernel_rfl) (by kernel_rfl) ?_ ?_ (by assumption) ?_
    rotate_left 2
    · (simp only [List.getElem?_toArray, List.getElem?_cons_succ, List.getElem?_cons_zero]; rfl)
    · exact fun _ _ _ h => h
    · (refine Or.inl ⟨by rfl, ?_⟩; intro w hSw; (try dsimp only at hSw); go_simp <;> with_reducible rfl)
    try simp only [Act.put, List.setIfInBounds_toArray, List.set_cons_zero, List.set_cons_succ]
    refine wpAnyH_take (i := 13) (oi := ?_) (v := ?_) ?_ (by kernel_rfl) (by kernel_rfl) (by kernel_rfl) ?_ ?_ (by assumption) ?_
    rotate_left 2
    · (simp only [List.getElem?_toArray, List.getElem?_cons_succ, List.getElem?_cons_zero]; rfl)
    · exact fun _ _ _ h => h
    · (refine Or.inl ⟨by rfl, ?_⟩; intro w hSw; (try dsimp only at hSw); go_simp <;> with_reducible rfl)
    try simp only [Act.put, List.setIfInBounds_toArray, List.set_cons_zero, List.set_cons_succ]
    refine wpAnyH_take (i := 14) (oi := ?_) (v := ?_) ?_ (by kernel_rfl) (by kernel_rfl) (by kernel_rfl) ?_ ?_ (by assumption) ?_
    rotate_left 2
    · (simp only [List.getElem?_toArray, List.getElem?_cons_succ, List.getElem?_cons_zero]; rfl)
    · exact fun _ _ _ h => h
    · (refine Or.inl ⟨by rfl, ?_⟩; intro w hSw; (try dsimp only at hSw); go_simp <;> with_reducible rfl)
    try simp only [Act.put, List.setIfInBounds_toArray, List.set_cons_zero, List.set_cons_succ]
    refine wpAnyH_take (i := 15) (oi := ?_) (v := ?_) ?_ (by kernel_rfl) (by kernel_rfl) (by kernel_rfl) ?_ ?_ (by assumption) ?_
    rotate_left 2
    · (simp only [List.getElem?_toArray, List.getElem?_cons_succ, List.getElem?_cons_zero]; rfl)
    · exact fun _ _ _ h => h
    · (refine Or.inl ⟨by rfl, ?_⟩; intro w hSw; (try dsimp only at hSw); go_simp <;> with_reducible rfl)
    try simp only [Act.put, List.setIfInBounds_toArray, List.set_cons_zero, List.set_cons_succ]
    refine wpAnyH_take (i := 16) (oi := ?_) (v := ?_) ?_ (by kernel_rfl) (by kernel_rfl) (by kernel_rfl) ?_ ?_ (by assumption) ?_
    rotate_left 2
    · (simp only [List.getElem?_toArray, List.getElem?_cons_succ, List.getElem?_cons_zero]; rfl)
    · exact fun _ _ _ h => h
    · (refine Or.inl ⟨by rfl, ?_⟩; intro w hSw; (try dsimp only at hSw); go_simp <;> with_reducible rfl)
    try simp only [Act.put, List.setIfInBounds_toArray, List.set_cons_zero, List.set_cons_succ]
    refine wpAnyH_take (i := 17) (oi := ?_) (v := ?_) ?_ (by kernel_rfl) (by kernel_rfl) (by kernel_rfl) ?_ ?_ (by assumption) ?_
    rotate_left 2
    · (simp only [List.getElem?_toArray, List.getElem?_cons_succ, List.getElem?_cons_zero]; rfl)
    · exact fun _ _ _ h => h
    · (refine Or.inl ⟨by rfl, ?_⟩; intro w hSw; (try dsimp only at hSw); go_simp <;> with_reducible rfl)
    try simp only [Act.put, List.setIfInBounds_toArray, List.set_cons_zero, List.set_cons_succ]
    refine wpAnyH_take (i := 18) (oi := ?_) (v := ?_) ?_ (by kernel_rfl) (by kernel_rfl) (by kernel_rfl) ?_ ?_ (by assumption) ?_
    rotate_left 2
    · (simp only [List.getElem?_toArray, List.getElem?_cons_succ, List.getElem?_cons_zero]; rfl)
    · exact fun _ _ _ h => h
    · (refine Or.inl ⟨by rfl, ?_⟩; intro w hSw; (try dsimp only at hSw); go_simp <;> with_reducible rfl)
    try simp only [Act.put, List.setIfInBounds_toArray, List.set_cons_zero, List.set_cons_succ]
    refine wpAnyH_take (i := 19) (oi := ?_) (v := .agg S.toArray) ?_ (by kernel_rfl) (by kernel_rfl) (by kernel_rfl) ?_ ?_ (by assumption) ?_
    rotate_left 1
    · (simp only [List.getElem?_toArray, List.getElem?_cons_succ, List.getElem?_cons_zero]; rfl)
    · exact fun _ _ _ h => h
    · (refine Or.inl ⟨by rfl, ?_⟩; intro w hSw; (try dsimp only at hSw); exact exec_whole (x := .tmp 1) hSw.2.2.1 rfl rfl)
    try simp only [Act.put, List.setIfInBounds_toArray, List.set_cons_zero, List.set_cons_succ]
    refine wpAnyH_ready (rs := [20]) (by kernel_rfl) (by simp) ?_
    refine AllReadyH.cons (o := ?_) ?_ (fun K hK => ?_) AllReadyH.nil
    rotate_left 1
    · (simp only [List.getElem?_toArray, List.getElem?_cons_succ, List.getElem?_cons_zero]; rfl)
    go_simp
    refine Calls.mono (state_Page_v HS.out game0_len HP1.out _ (by omega) (by omega)) ?_
    rintro e w4 ⟨rfl, hb4⟩
    have O3 := O3.drew.below hb4
    have ha3 := ha3.drew.belowN hb4
    have H1 := H1.drew.belowN hb4
    have HB3 := Below_step HB3.drew hb4
    refine hK.out _ _ (mk.out _ O3 ha3 H1) (fun hHeld => ?_)
    clear hK K
    try simp only [Act.put, List.setIfInBounds_toArray, List.set_cons_zero, List.set_cons_succ]
    refine wpAnyH_take (i := 21) (oi := ?_) (v := ?_) ?_ (by kernel_rfl) (by kernel_rfl) (by kernel_rfl) ?_ ?_ (by assumption) ?_
    rotate_left 2
    · (simp only [List.getElem?_toArray, List.getElem?_cons_succ, List.getElem?_cons_zero]; rfl)
    · exact fun _ _ _ h => h
    · (refine Or.inl ⟨by rfl, ?_⟩; intro w hSw; (try dsimp only at hSw); have i1 := I1.out; go_simp <;> with_reducible rfl)
    try simp only [Act.put, List.setIfInBounds_toArray, List.set_cons_zero, List.set_cons_succ]
    refine wpAnyH_take (i := 22) (oi := ?_) (v := ?_) ?_ (by kernel_rfl) (by kernel_rfl) (by kernel_rfl) ?_ ?_ (by assumption) ?_
    rotate_left 2
    · (simp only [List.getElem?_toArray, List.getElem?_cons_succ, List.getElem?_cons_zero]; rfl)
    · exact fun _ _ _ h => h
    · (refine Or.inl ⟨by rfl, ?_⟩; intro w hSw; (try dsimp only at hSw); go_simp <;> with_reducible rfl)
    try simp only [Act.put, List.setIfInBounds_toArray, List.set_cons_zero, List.set_cons_succ]
    refine wpAnyH_take (i := 23) (oi := ?_) (v := ?_) ?_ (by kernel_rfl) (by kernel_rfl) (by kernel_rfl) ?_ ?_ (by assumption) ?_
    rotate_left 2
    · (simp only [List.getElem?_toArray, List.getElem?_cons_succ, List.getElem?_cons_zero]; rfl)
    · exact fun _ _ _ h => h
    · (refine Or.inl ⟨by rfl, ?_⟩; intro w hSw; (try dsimp only at hSw); go_simp <;> with_reducible rfl)
    try simp only [Act.put, List.setIfInBounds_toArray, List.set_cons_zero, List.set_cons_succ]
    refine wpAnyH_take (i := 24) (oi := ?_) (v := ?_) ?_ (by kernel_rfl) (by kernel_rfl) (by kernel_rfl) ?_ ?_ (by assumption) ?_
    rotate_left 2
    · (simp only [List.getElem?_toArray, List.getElem?_cons_succ, List.getElem?_cons_zero]; rfl)
    · exact fun _ _ _ h => h
    · (refine Or.inl ⟨by rfl, ?_⟩; intro w hSw; (try dsimp only at hSw); go_simp <;> with_reducible rfl)
    try simp only [Act.put, List.setIfInBounds_toArray, List.set_cons_zero, List.set_cons_succ]
    refine wpAnyH_take (i := 25) (oi := ?_) (v := .agg S.toArray) ?_ (by kernel_rfl) (by kernel_rfl) (by kernel_rfl) ?_ ?_ (by assumption) ?_
    rotate_left 1
    · (simp only [List.getElem?_toArray, List.getElem?_cons_succ, List.getElem?_cons_zero]; rfl)
    · exact fun _ _ _ h => h
    · (refine Or.inl ⟨by rfl, ?_⟩; intro w hSw; (try dsimp only at hSw); exact exec_whole (x := .tmp 1) hSw.2.2.1 rfl rfl)
    try simp only [Act.put, List.setIfInBounds_toArray, List.set_cons_zero, List.set_cons_succ]
    refine wpAnyH_take (i := 26) (oi := ?_) (v := .agg S.toArray) ?_ (by kernel_rfl) (by kernel_rfl) (by kernel_rfl) ?_ ?_ (by assumption) ?_
    rotate_left 1
    · (simp only [List.getElem?_toArray, List.getElem?_cons_succ, List.getElem?_cons_zero]; rfl)
    · exact fun _ _ _ h => h
    · (refine Or.inl ⟨by rfl, ?_⟩; intro w hSw; (try dsimp only at hSw); exact exec_whole (x := .tmp 1) hSw.2.2.1 rfl rfl)
    try simp only [Act.put, List.setIfInBounds_toArray, List.set_cons_zero, List.set_cons_succ]
    refine wpAnyH_ready (rs := [27]) (by kernel_rfl) (by simp) ?_
    refine AllReadyH.cons (o := ?_) ?_ (fun K hK => ?_) AllReadyH.nil
    rotate_left 1
    · (simp only [List.getElem?_toArray, List.getElem?_cons_succ, List.getElem?_cons_zero]; rfl)
    go_simp
    refine Calls.mono (state_Page_v HS.out game0_len HP1.out _ (by omega) (by omega)) ?_
    rintro e w5 ⟨rfl, hb5⟩
    have O3 := O3.below hb5
    have ha3 := ha3.belowN hb5
    have H1 := H1.belowN hb5
    have HB3 := Below_step HB3 hb5
    refine hK.out _ _ (mk.out _ O3 ha3 H1) (fun hHeld => ?_)
    clear hK K
    try simp only [Act.put, List.setIfInBounds_toArray, List.set_cons_zero, List.set_cons_succ]
    refine wpAnyH_ready (rs := [28]) (by kernel_rfl) (by simp) ?_
    refine AllReadyH.cons (o := ?_) ?_ (fun K hK => ?_) AllReadyH.nil
    rotate_left 1
    · (simp only [List.getElem?_toArray, List.getElem?_cons_succ, List.getElem?_cons_zero]; rfl)
    go_simp
    refine Calls.mono (state_With_v HS.out game0_len HP1.out (by decide) HU.out _ (by omega) (by omega)) ?_
    rintro e w6 ⟨rfl, hb6⟩
    have O3 := O3.below hb6
    have ha3 := ha3.belowN hb6
    have H1 := H1.belowN hb6
    have HB3 := Below_step HB3 hb6
    refine hK.out _ _ (mk.out _ O3 ha3 H1) (fun hHeld => ?_)
    clear hK K
    try simp only [Act.put, List.setIfInBounds_toArray, List.set_cons_zero, List.set_cons_succ]
    refine wpAnyH_take (i := 29) (oi := ?_) (v := ?_) ?_ (by kernel_rfl) (by kernel_rfl) (by kernel_rfl) ?_ ?_ (by assumption) ?_
    rotate_left 2
    · (simp only [List.getElem?_toArray, List.getElem?_cons_succ, List.getElem?_cons_zero]; rfl)
    · exact fun _ _ _ h => h
    · (refine Or.inl ⟨by rfl, ?_⟩; intro w hSw; (try dsimp only at hSw); have i2 := I2.out; go_simp <;> with_reducible rfl)
    try simp only [Act.put, List.setIfInBounds_toArray, List.set_cons_zero, List.set_cons_succ]
    refine wpAnyH_take (i := 30) (oi := ?_) (v := ?_) ?_ (by kernel_rfl) (by kernel_rfl) (by kernel_rfl) ?_ ?_ (by assumption) ?_
    rotate_left 2
    · (simp only [List.getElem?_toArray, List.getElem?_cons_succ, List.getElem?_cons_zero]; rfl)
    · exact fun _ _ _ h => h
    · (refine Or.inl ⟨by rfl, ?_⟩; intro w hSw; (try dsimp only at hSw); go_simp <;> with_reducible rfl)
    try simp only [Act.put, List.setIfInBounds_toArray, List.set_cons_zero, List.set_cons_succ]
    refine wpAnyH_take (i := 31) (oi := ?_) (v := ?_) ?_ (by kernel_rfl) (by kernel_rfl) (by kernel_rfl) ?_ ?_ (by assumption) ?_
    rotate_left 2
    · (simp only [List.getElem?_toArray, List.getElem?_cons_succ, List.getElem?_cons_zero]; rfl)
    · exact fun _ _ _ h => h
    · (refine Or.inl ⟨by rfl, ?_⟩; intro w hSw; (try dsimp only at hSw); go_simp <;> with_reducible rfl)
    try simp only [Act.put, List.setIfInBounds_toArray, List.set_cons_zero, List.set_cons_succ]
    refine wpAnyH_take (i := 32) (oi := ?_) (v := ?_) ?_ (by kernel_rfl) (by kernel_rfl) (by kernel_rfl) ?_ ?_ (by assumption) ?_
    rotate_left 2
    · (simp only [List.getElem?_toArray, List.getElem?_cons_succ, List.getElem?_cons_zero]; rfl)
    · exact fun _ _ _ h => h
    · (refine Or.inl ⟨by rfl, ?_⟩; intro w hSw; (try dsimp only at hSw); go_simp <;> with_reducible rfl)
    try simp only [Act.put, List.setIfInBounds_toArray, List.set_cons_zero, List.set_cons_succ]
    refine wpAnyH_take (i := 33) (oi := ?_) (v := ?_) ?_ (by kernel_rfl) (by kernel_rfl) (by kernel_rfl) ?_ ?_ (by assumption) ?_
    rotate_left 2
    · (simp only [List.getElem?_toArray, List.getElem?_cons_succ, List.getElem?_cons_zero]; rfl)
    · exact fun _ _ _ h => h
    · (refine Or.inl ⟨by rfl, ?_⟩; intro w hSw; (try dsimp only at hSw); go_simp <;> with_reducible rfl)
    try simp only [Act.put, List.setIfInBounds_toArray, List.set_cons_zero, List.set_cons_succ]
    refine wpAnyH_take (i := 34) (oi := ?_) (v := ?_) ?_ (by kernel_rfl) (by kernel_rfl) (by kernel_rfl) ?_ ?_ (by assumption) ?_
    rotate_left 2
    · (simp only [List.getElem?_toArray, List.getElem?_cons_succ, List.getElem?_cons_zero]; rfl)
    · exact fun _ _ _ h => h
    · (refine Or.inl ⟨by rfl, ?_⟩; intro w hSw; (try dsimp only at hSw); go_simp <;> with_reducible rfl)
    try simp only [Act.put, List.setIfInBounds_toArray, List.set_cons_zero, List.set_cons_succ]
    refine wpAnyH_take (i := 35) (oi := ?_) (v := ?_) ?_ (by kernel_rfl) (by kernel_rfl) (by kernel_rfl) ?_ ?_ (by assumption) ?_
    rotate_left 2
    · (simp only [List.getElem?_toArray, List.getElem?_cons_succ, List.getElem?_cons_zero]; rfl)
    · exact fun _ _ _ h => h
    · (refine Or.inl ⟨by rfl, ?_⟩; intro w hSw; (try dsimp only at hSw); go_simp <;> with_reducible rfl)
    try simp only [Act.put, List.setIfInBounds_toArray, List.set_cons_zero, List.set_cons_succ]
    refine wpAnyH_take (i := 36) (oi := ?_) (v := ?_) ?_ (by kernel_rfl) (by kernel_rfl) (by kernel_rfl) ?_ ?_ (by assumption) ?_
    rotate_left 2
    · (simp only [List.getElem?_toArray, List.getElem?_cons_succ, List.getElem?_cons_zero]; rfl)
    · exact fun _ _ _ h => h
    · (refine Or.inl ⟨by rfl, ?_⟩; intro w hSw; (try dsimp only at hSw); go_simp <;> with_reducible rfl)
    try simp only [Act.put, List.setIfInBounds_toArray, List.set_cons_zero, List.set_cons_succ]
    refine wpAnyH_take (i := 37) (oi := ?_) (v := ?_) ?_ (by kernel_rfl) (by kernel_rfl) (by kernel_rfl) ?_ ?_ (by assumption) ?_
    rotate_left 2
    · (simp only [List.getElem?_toArray, List.getElem?_cons_succ, List.getElem?_cons_zero]; rfl)
    · exact fun _ _ _ h => h
    · (refine Or.inl ⟨by rfl, ?_⟩; intro w hSw; (try dsimp only at hSw); go_simp <;> with_reducible rfl)
    try simp only [Act.put, List.setIfInBounds_toArray, List.set_cons_zero]
    refine wpAnyH_done (by kernel_rfl) (NoPanic.normal ?_) _
    go_wp2_with fail
    go_ret
    exact ⟨rfl, HB3⟩
end Go.Proofs.Ytmikaidfdcamfaa
