/-
  The document's player: begun.
-/
import Derived.Test.YtbcgffgiifminaaDocB
namespace Go.Proofs.Ytbcgffgiifminaa
open Go.RowKit
set_option maxRecDepth 10000
set_option linter.unusedVariables false
theorem run_makeR {t e : TypeId} {z : Value} {cs : Array Value} {sz nb : Nat} (ht : Try.prog.underlying t = some (.slice e)) (hi : (Try.prog.info? e).map (fun i => (i.zero, i.size, i.bytes)) = some (some z, sz, nb)) (hcs : z.cells = cs) (n k : Nat) (hk : n * sz = k) (hb : nb * n ≤ 281474976710656) (hn : n ≤ 9223372036854775807) (w : World) :
    (Instr.makeSlice t (.int .i64 (n : Int)) (.int .i64 (n : Int))).run Try.prog w = .ok (.slice (some ⟨w.heap.size, 0, none⟩) n n) (w.alloc (.cells (madeCells cs k) e)) := by
  subst hcs hk
  cases hq : Try.prog.info? e with
  | none => rw [hq] at hi; simp at hi
  | some i =>
    rw [hq] at hi
    simp only [Option.map_some, Option.some.injEq, Prod.mk.injEq] at hi
    obtain ⟨hz, hs, hbb⟩ := hi
    have hb2 : (i.bytes : Int) * (n : Int) ≤ 281474976710656 := by
      rw [hbb]
      have h : ((nb * n : Nat) : Int) ≤ 281474976710656 := by omega
      rwa [Int.natCast_mul] at h
    have hr := run_make (P := Try.prog) w t e i z ht hq hz .i64 .i64 n n (by omega) (by omega) hb2 (by omega)
    simp only [Int.toNat_natCast] at hr
    rw [hr, hs]
theorem made2 (a b : Value) (n : Nat) : (madeCells #[a, b] (n * 2)).toList = (List.replicate n [a, b]).flatten := by
  apply List.ext_getElem?
  intro j
  have hs : (madeCells #[a, b] (n * 2)).size = n * 2 := size_madeCells _ _
  have e : (List.replicate n [a, b]).flatten = (List.range n).flatMap fun _ => [a, b] := by
    rw [List.flatMap_def, List.map_const', List.length_range]
  rw [e]
  by_cases hj : j < n * 2
  · have h2 := flat_get (f := fun _ : Nat => [a, b]) (m := 2) (fun _ => rfl) (List.range n) (j / 2) (j % 2) (by simp; omega) (by omega)
    rw [show j / 2 * 2 + j % 2 = j by omega] at h2
    rw [h2]
    simp only [madeCells, Array.getElem?_toList]
    rcases Nat.mod_two_eq_zero_or_one j with h | h <;> simp [hj, h]
  · rw [List.getElem?_eq_none (by rw [Array.length_toList, hs]; omega), List.getElem?_eq_none (by rw [flat_len (m := 2) (fun _ => rfl)]; simp; omega)]
section
variable {w : World} {e : TypeId} {B k n : Nat} {l : List Value}
theorem own_mk1 (hk : k = w.heap.size) (hB : B ≤ w.heap.size) (hn : n ≤ maxLen) (z : Value) (hl : l = List.replicate n z) : (w.alloc (.cells (madeCells #[z] n) e)).ownsRow B e 1 (.slice (some ⟨k, 0, none⟩) n n) n l := by
  subst hk hl
  have h := World.ownsRow_lit (e := e) (size := 1) w (madeCells #[z] n) n hB hn (by rw [size_madeCells]; omega)
  rw [toList_madeCells_one] at h
  exact h
theorem own_mk2 (hk : k = w.heap.size) (hB : B ≤ w.heap.size) (hn : n ≤ maxLen) (a b : Value) (hl : l = (List.replicate n [a, b]).flatten) : (w.alloc (.cells (madeCells #[a, b] (n * 2)) e)).ownsRow B e 2 (.slice (some ⟨k, 0, none⟩) n n) n l := by
  subst hk hl
  have h := World.ownsRow_lit (e := e) (size := 2) w (madeCells #[a, b] (n * 2)) n hB hn (by rw [size_madeCells])
  rw [made2] at h
  exact h
end
/-- The document's player while it is made: no lines yet. -/
def newCo (c : Cfg) (m : Nat) : Co := ⟨c, [], List.replicate m ⟨0, 0, 0, 0, false⟩, [], [], 0, false⟩
/-- .. k of its lines are there. -/
def newK (c : Cfg) (m d k : Nat) : Co := ⟨c, List.replicate k (List.replicate d 0), List.replicate k ⟨c.delay, 0, 0, 0, false⟩ ++ List.replicate (m - k) ⟨0, 0, 0, 0, false⟩, [], [], 0, false⟩
def newRP (m hg ag wg tg : Nat) : RP := ⟨none, 0, [], hg, m, ag, m, wg, m, tg, m, none, 0, 0, none, 0, 0⟩
theorem newK_step (c : Cfg) {m : Nat} (d k : Nat) (hk : k < m) {B : Nat} {w : World} {x : Nat} {p : RP} {y : Sl} {A : Option Addr} {gc : Nat} (h : RAt B w x { p with A := A, gc := gc, ss := p.ss ++ [y] } { newK c m d k with ls := (newK c m d k).ls ++ [List.replicate d 0] }) (hd : c.delay = (d : Int)) :
    RAt B (w.setCell ⟨p.ag, k, none⟩ (.int .i64 (d : Int))) x { p with A := A, gc := gc, ss := p.ss ++ [y] } (newK c m d (k + 1)) ∧ Below B w (w.setCell ⟨p.ag, k, none⟩ (.int .i64 (d : Int))) := by
  have hl : k < (newK c m d k).peers.length := by simp [newK]; omega
  have hp : (newK c m d k).peers[k] = ⟨0, 0, 0, 0, false⟩ := by
    have h3 : (newK c m d k).peers[k]? = some ⟨0, 0, 0, 0, false⟩ := by
      show (List.replicate k _ ++ List.replicate (m - k) _)[k]? = _
      rw [List.getElem?_append_right (by simp), List.length_replicate, Nat.sub_self, List.getElem?_replicate, if_pos (by omega)]
    rw [List.getElem?_eq_getElem hl] at h3
    injection h3
  have h2 := h.setPeer k ⟨c.delay, 0, 0, 0, false⟩ hl p.ag k (.int .i64 (d : Int)) (.inr (.inl ⟨rfl, rfl, by show Value.int .i64 c.delay = _; rw [hd], by show _ = rhv (newK c m d k).peers[k]; rw [hp]; rfl, by show _ = rwv (newK c m d k).peers[k]; rw [hp]; rfl, by show _ = rtv (newK c m d k).peers[k]; rw [hp]; rfl⟩))
  have e : ({ newK c m d k with ls := (newK c m d k).ls ++ [List.replicate d 0], peers := (newK c m d k).peers.set k ⟨c.delay, 0, 0, 0, false⟩ } : Co) = newK c m d (k + 1) := by
    have e1 : (newK c m d k).ls ++ [List.replicate d 0] = (newK c m d (k + 1)).ls := (List.replicate_succ' ).symm
    have e2 : (newK c m d k).peers.set k ⟨c.delay, 0, 0, 0, false⟩ = (newK c m d (k + 1)).peers := by
      show (List.replicate k _ ++ List.replicate (m - k) _).set k _ = List.replicate (k + 1) _ ++ List.replicate (m - (k + 1)) _
      obtain ⟨n, hn⟩ : ∃ n, m - k = n + 1 := ⟨m - k - 1, by omega⟩
      rw [List.set_append_right _ _ (by simp), hn, show m - (k + 1) = n by omega, List.length_replicate, Nat.sub_self, List.replicate_succ (n := n), List.set_cons_zero, List.replicate_succ', List.append_assoc]; rfl
    rw [e1, e2]; rfl
  refine ⟨by rw [← e]; exact h2.1, (Below.refl B w).setCell (p := ⟨p.ag, k, none⟩) ?_ _⟩
  exact (h.blocks p.ag (.inr (.inr (.inr (.inr (.inl rfl)))))).1
theorem RAt.fresh {B : Nat} {w : World} {x m hg ag wg tg : Nat} {c : Cfg} {l : List Value} (h : Arr 120 w x l) (hl : l = reRow (newCo c m) (newRP m hg ag wg tg)) (hx : B ≤ x) (h1 : w.ownsRow B 3 1 (.slice (some ⟨hg, 0, none⟩) m m) m (List.replicate m (.int .i64 0))) (h2 : w.ownsRow B 3 1 (.slice (some ⟨ag, 0, none⟩) m m) m (List.replicate m (.int .i64 0)))
    (h3 : w.ownsRow B 128 2 (.slice (some ⟨wg, 0, none⟩) m m) m (List.replicate m [.int .i64 0, .int .u32 0]).flatten) (h4 : w.ownsRow B 4 1 (.slice (some ⟨tg, 0, none⟩) m m) m (List.replicate m (.bool false))) (hne : hg ≠ ag) : RAt B w x (newRP m hg ag wg tg) (newCo c m) := by
  have hlen : (newCo c m).peers.length = m := List.length_replicate
  subst hl
  refine ⟨h, hx, .inl ⟨rfl, rfl, rfl, rfl⟩, ?_, ?_, ?_, ?_, hne, OwnV.nil _ _ _, World.ownsRow_nil _ _ _ _⟩
  · rw [hlen]; show OwnV _ _ _ _ _ _ ((List.replicate m _).map rhv); rw [List.map_replicate]; exact h1
  · rw [hlen]; show OwnV _ _ _ _ _ _ ((List.replicate m _).map rav); rw [List.map_replicate]; exact h2
  · rw [hlen]; show World.ownsRow _ _ _ _ _ _ ((List.replicate m _).flatMap rwv); rw [List.flatMap_def, List.map_replicate]; exact h3
  · rw [hlen]; show OwnV _ _ _ _ _ _ ((List.replicate m _).map rtv); rw [List.map_replicate]; exact h4
set_option maxHeartbeats 16000000 in
theorem ref_NewCore (c : Cfg) (hf : c.Fine) (w : World) : Calls Try.prog 35 #[c.val] w fun e w' => ∃ x p, e = .returned (.pointer (some ⟨x, 0, none⟩)) ∧ RAt w.heap.size w' x p (Co.new c) ∧ Below w.heap.size w w' := by
  obtain ⟨m, hm⟩ : ∃ m : Nat, c.n = (m : Int) := ⟨c.n.toNat, by have := hf.n; omega⟩
  obtain ⟨d, hd⟩ : ∃ d : Nat, c.delay = (d : Int) := ⟨c.delay.toNat, by have := hf.delay; omega⟩
  have hm2 : 2 ≤ m ∧ m ≤ 8 := by have := hf.n; omega
  have hd2 : d ≤ 8 := by have := hf.delay; omega
  have HF := hide hf
  have HM := hide hm
  have HD := hide hd
  have mkI := run_makeR (t := 35) (e := 3) (z := .int .i64 0) (sz := 1) (nb := 8) Try.underlying35 (by kernel_rfl) rfl m m (by omega) (by omega) (by omega)
  have mkW := run_makeR (t := 116) (e := 128) (z := .agg #[.int .i64 0, .int .u32 0]) (sz := 2) (nb := 16) Try.underlying116 (by kernel_rfl) rfl m (m * 2) (by omega) (by omega) (by omega)
  have mkB := run_makeR (t := 117) (e := 4) (z := .bool false) (sz := 1) (nb := 1) Try.underlying117 (by kernel_rfl) rfl m m (by omega) (by omega) (by omega)
  have mkC := run_makeR (t := 34) (e := 5) (z := .int .u8 0) (sz := 1) (nb := 1) Try.underlying34 (by kernel_rfl) rfl d d (by omega) (by omega) (by omega)
  clear hf hm hd
  go_enter Try.func35, Try.ntmps35
  go_upto_region 1 with fail
  have HP : Hid (Arr 28 (w.alloc (.cells c.row.toArray 28)) w.heap.size c.row) := Arr.new 28 w _ _ rfl
  have HB : Hid (Below w.heap.size w (w.alloc (.cells c.row.toArray 28))) := Below_new _ _
  simp only [Cfg.row] at HP HB
  generalize World.alloc w _ = w1 at HP HB ⊢
  obtain ⟨g1, hg1⟩ : ∃ g, g = w.heap.size := ⟨_, rfl⟩
  have HG1 := hide hg1
  rw [← hg1] at HP ⊢
  clear hg1
  have c0 := HP.out.cell (j := 0) (by simp)
  simp only [List.getElem_cons_zero] at c0
  rw [HM.out] at c0
  have HSZ : Hid (w.heap.size ≤ w1.heap.size) := HB.out.size
  have HML : Hid (m ≤ maxLen) := by show m ≤ maxLen; simp only [maxLen]; omega
  go_cut [3] (fun s3 wx => ∃ x hg ag wg tg, s3 = .pointer (some ⟨x, 0, none⟩) ∧ RAt w.heap.size wx x (newRP m hg ag wg tg) (newCo c m) ∧ Arr 28 wx g1 c.row ∧ Below w.heap.size w wx)
  case first =>
    refine wp_region_noPanic ?_
    refine wp_region_held_drew (S := (fun w' => WholeC g1 c.val w' ∧ w'.cell? ⟨g1, 0, none⟩ = some (.int .i64 (m : Int)))) (by kernel_rfl) ⟨Arr.wholeC (c := c) HP.out.drew, c0⟩ (fun hHeld => ?_)
    refine tk0 0 (v := c.val) (hy := by refine Or.inl ⟨by rfl, ?_⟩; intro w hSw; (try dsimp only at hSw); exact exec_wholeC (x := .tmp 1) hSw.1 rfl rfl) ?_
    refine tk 1 ?_
    refine tk 2 ?_
    refine tk 4 ?_
    refine tk 5 ?_
    refine tk 7 ?_
    refine tk 8 ?_
    refine tk 10 ?_
    refine tk 11 ?_
    refine wpAnyH_ready (rs := [3, 6, 9, 12]) (by kernel_rfl) (by simp) ?_
    refine AllReadyH.cons (o := ?_) ?_ (fun K hK => ?_) ?_
    rotate_left 1
    · (simp only [List.getElem?_toArray, List.getElem?_cons_succ, List.getElem?_cons_zero]; rfl)
    · go_simp
      skip
      clear hHeld
      refine hK.out _ _ ⟨Arr.wholeC (c := c) (by repeat (first | exact HP.out | exact HP.out.drew | refine Arr.al ?_ _)), by repeat (first | exact c0 | refine cell_al ?_ _)⟩ (fun hHeld => ?_)
      clear hK K
      try simp only [Act.put, List.setIfInBounds_toArray, List.set_cons_zero, List.set_cons_succ]
      refine wpAnyH_ready (rs := [6, 9, 12]) (by kernel_rfl) (by simp) ?_
      refine AllReadyH.cons (o := ?_) ?_ (fun K hK => ?_) ?_
      rotate_left 1
      · (simp only [List.getElem?_toArray, List.getElem?_cons_succ, List.getElem?_cons_zero]; rfl)
      · go_simp
        skip
        clear hHeld
        refine hK.out _ _ ⟨Arr.wholeC (c := c) (by repeat (first | exact HP.out | exact HP.out.drew | refine Arr.al ?_ _)), by repeat (first | exact c0 | refine cell_al ?_ _)⟩ (fun hHeld => ?_)
        clear hK K
        try simp only [Act.put, List.setIfInBounds_toArray, List.set_cons_zero, List.set_cons_succ]
        refine wpAnyH_ready (rs := [9, 12]) (by kernel_rfl) (by simp) ?_
        refine AllReadyH.cons (o := ?_) ?_ (fun K hK => ?_) ?_
        rotate_left 1
        · (simp only [List.getElem?_toArray, List.getElem?_cons_succ, List.getElem?_cons_zero]; rfl)
        · go_simp
          skip
          clear hHeld
          refine hK.out _ _ ⟨Arr.wholeC (c := c) (by repeat (first | exact HP.out | exact HP.out.drew | refine Arr.al ?_ _)), by repeat (first | exact c0 | refine cell_al ?_ _)⟩ (fun hHeld => ?_)
          clear hK K
          try simp only [Act.put, List.setIfInBounds_toArray, List.set_cons_zero, List.set_cons_succ]
          refine rdy 12 fun K hK => ?_
          go_simp
          clear hHeld
          refine hK.out _ _ ⟨Arr.wholeC (c := c) (by repeat (first | exact HP.out | exact HP.out.drew | refine Arr.al ?_ _)), by repeat (first | exact c0 | refine cell_al ?_ _)⟩ (fun hHeld => ?_)
          clear hK K
          try simp only [Act.put, List.setIfInBounds_toArray, List.set_cons_zero, List.set_cons_succ]
          refine tk 13 ?_
          refine rdy 14 fun K hK => ?_
          go_simp
          clear hHeld
          refine hK.out _ _ ⟨Arr.wholeC (c := c) (by repeat (first | exact HP.out | exact HP.out.drew | refine Arr.al ?_ _)), by repeat (first | exact c0 | refine cell_al ?_ _)⟩ (fun hHeld => ?_)
          clear hK K
          try simp only [Act.put, List.setIfInBounds_toArray, List.set_cons_zero, List.set_cons_succ]
          refine tk 15 ?_
          refine wpAnyH_done (by kernel_rfl) (NoPanic.normal ?_) _
          clear hHeld
          go_wp2_with fail
          go_meet
          refine ⟨w1.heap.size + 1 + 1 + 1 + 1, w1.heap.size, w1.heap.size + 1, w1.heap.size + 1 + 1, w1.heap.size + 1 + 1 + 1, rfl, RAt.fresh (by repeat (first | with_reducible refine Arr.drew ?_ | (refine Arr.mk _ ?_ rfl; first | (with_reducible rfl) | (simp only [World.size_alloc]; done)))) (by simp [reRow, newCo, newRP, Cfg.row]) (by have := HSZ.out; omega) ?_ ?_ ?_ ?_ (by omega), ?_, ?_⟩
          · repeat (first | with_reducible refine own_drew ?_ | (with_reducible refine own_mk1 ?_ ?_ HML.out _ rfl <;> first | (with_reducible rfl) | (simp only [World.size_alloc]; done) | (have := HSZ.out; omega) | (simp only [World.size_alloc]; have := HSZ.out; omega)) | refine own_al ?_ _)
          · repeat (first | with_reducible refine own_drew ?_ | (with_reducible refine own_mk1 ?_ ?_ HML.out _ rfl <;> first | (with_reducible rfl) | (simp only [World.size_alloc]; done) | (have := HSZ.out; omega) | (simp only [World.size_alloc]; have := HSZ.out; omega)) | refine own_al ?_ _)
          · repeat (first | with_reducible refine own_drew ?_ | (with_reducible refine own_mk2 ?_ ?_ HML.out _ _ rfl <;> first | (with_reducible rfl) | (simp only [World.size_alloc]; done) | (have := HSZ.out; omega) | (simp only [World.size_alloc]; have := HSZ.out; omega)) | refine own_al ?_ _)
          · repeat (first | with_reducible refine own_drew ?_ | (with_reducible refine own_mk1 ?_ ?_ HML.out _ rfl <;> first | (with_reducible rfl) | (simp only [World.size_alloc]; done) | (have := HSZ.out; omega) | (simp only [World.size_alloc]; have := HSZ.out; omega)) | refine own_al ?_ _)
          · repeat (first | exact HP.out | exact HP.out.drew | refine Arr.al ?_ _ | refine Arr.drew ?_)
          · repeat (first | exact HB.out | exact HB.out.drew | refine Below_step ?_ (Below_new _ _) | refine Below.drew ?_)
        refine AllReadyH.cons (o := ?_) ?_ (fun K hK => ?_) ?_
        rotate_left 1
        · (simp only [List.getElem?_toArray, List.getElem?_cons_succ, List.getElem?_cons_zero]; rfl)
        · go_simp
          skip
          clear hHeld
          refine hK.out _ _ ⟨Arr.wholeC (c := c) (by repeat (first | exact HP.out | exact HP.out.drew | refine Arr.al ?_ _)), by repeat (first | exact c0 | refine cell_al ?_ _)⟩ (fun hHeld => ?_)
          clear hK K
          try simp only [Act.put, List.setIfInBounds_toArray, List.set_cons_zero, List.set_cons_succ]
          refine rdy 9 fun K hK => ?_
          go_simp
          clear hHeld
          refine hK.out _ _ ⟨Arr.wholeC (c := c) (by repeat (first | exact HP.out | exact HP.out.drew | refine Arr.al ?_ _)), by repeat (first | exact c0 | refine cell_al ?_ _)⟩ (fun hHeld => ?_)
          clear hK K
          try simp only [Act.put, List.setIfInBounds_toArray, List.set_cons_zero, List.set_cons_succ]
          refine tk 13 ?_
          refine rdy 14 fun K hK => ?_
          go_simp
          clear hHeld
          refine hK.out _ _ ⟨Arr.wholeC (c := c) (by repeat (first | exact HP.out | exact HP.out.drew | refine Arr.al ?_ _)), by repeat (first | exact c0 | refine cell_al ?_ _)⟩ (fun hHeld => ?_)
          clear hK K
          try simp only [Act.put, List.setIfInBounds_toArray, List.set_cons_zero, List.set_cons_succ]
          refine tk 15 ?_
          refine wpAnyH_done (by kernel_rfl) (NoPanic.normal ?_) _
          clear hHeld
          go_wp2_with fail
          go_meet
          refine ⟨w1.heap.size + 1 + 1 + 1 + 1, w1.heap.size, w1.heap.size + 1, w1.heap.size + 1 + 1 + 1, w1.heap.size + 1 + 1, rfl, RAt.fresh (by repeat (first | with_reducible refine Arr.drew ?_ | (refine Arr.mk _ ?_ rfl; first | (with_reducible rfl) | (simp only [World.size_alloc]; done)))) (by simp [reRow, newCo, newRP, Cfg.row]) (by have := HSZ.out; omega) ?_ ?_ ?_ ?_ (by omega), ?_, ?_⟩
          · repeat (first | with_reducible refine own_drew ?_ | (with_reducible refine own_mk1 ?_ ?_ HML.out _ rfl <;> first | (with_reducible rfl) | (simp only [World.size_alloc]; done) | (have := HSZ.out; omega) | (simp only [World.size_alloc]; have := HSZ.out; omega)) | refine own_al ?_ _)
          · repeat (first | with_reducible refine own_drew ?_ | (with_reducible refine own_mk1 ?_ ?_ HML.out _ rfl <;> first | (with_reducible rfl) | (simp only [World.size_alloc]; done) | (have := HSZ.out; omega) | (simp only [World.size_alloc]; have := HSZ.out; omega)) | refine own_al ?_ _)
          · repeat (first | with_reducible refine own_drew ?_ | (with_reducible refine own_mk2 ?_ ?_ HML.out _ _ rfl <;> first | (with_reducible rfl) | (simp only [World.size_alloc]; done) | (have := HSZ.out; omega) | (simp only [World.size_alloc]; have := HSZ.out; omega)) | refine own_al ?_ _)
          · repeat (first | with_reducible refine own_drew ?_ | (with_reducible refine own_mk1 ?_ ?_ HML.out _ rfl <;> first | (with_reducible rfl) | (simp only [World.size_alloc]; done) | (have := HSZ.out; omega) | (simp only [World.size_alloc]; have := HSZ.out; omega)) | refine own_al ?_ _)
          · repeat (first | exact HP.out | exact HP.out.drew | refine Arr.al ?_ _ | refine Arr.drew ?_)
          · repeat (first | exact HB.out | exact HB.out.drew | refine Below_step ?_ (Below_new _ _) | refine Below.drew ?_)
        exact AllReadyH.nil
      refine AllReadyH.cons (o := ?_) ?_ (fun K hK => ?_) ?_
      rotate_left 1
      · (simp only [List.getElem?_toArray, List.getElem?_cons_succ, List.getElem?_cons_zero]; rfl)
      · go_simp
        skip
        clear hHeld
        refine hK.out _ _ ⟨Arr.wholeC (c := c) (by repeat (first | exact HP.out | exact HP.out.drew | refine Arr.al ?_ _)), by repeat (first | exact c0 | refine cell_al ?_ _)⟩ (fun hHeld => ?_)
        clear hK K
        try simp only [Act.put, List.setIfInBounds_toArray, List.set_cons_zero, List.set_cons_succ]
        refine wpAnyH_ready (rs := [6, 12]) (by kernel_rfl) (by simp) ?_
        refine AllReadyH.cons (o := ?_) ?_ (fun K hK => ?_) ?_
        rotate_left 1
        · (simp only [List.getElem?_toArray, List.getElem?_cons_succ, List.getElem?_cons_zero]; rfl)
        · go_simp
          skip
          clear hHeld
          refine hK.out _ _ ⟨Arr.wholeC (c := c) (by repeat (first | exact HP.out | exact HP.out.drew | refine Arr.al ?_ _)), by repeat (first | exact c0 | refine cell_al ?_ _)⟩ (fun hHeld => ?_)
          clear hK K
          try simp only [Act.put, List.setIfInBounds_toArray, List.set_cons_zero, List.set_cons_succ]
          refine rdy 12 fun K hK => ?_
          go_simp
          clear hHeld
          refine hK.out _ _ ⟨Arr.wholeC (c := c) (by repeat (first | exact HP.out | exact HP.out.drew | refine Arr.al ?_ _)), by repeat (first | exact c0 | refine cell_al ?_ _)⟩ (fun hHeld => ?_)
          clear hK K
          try simp only [Act.put, List.setIfInBounds_toArray, List.set_cons_zero, List.set_cons_succ]
          refine tk 13 ?_
          refine rdy 14 fun K hK => ?_
          go_simp
          clear hHeld
          refine hK.out _ _ ⟨Arr.wholeC (c := c) (by repeat (first | exact HP.out | exact HP.out.drew | refine Arr.al ?_ _)), by repeat (first | exact c0 | refine cell_al ?_ _)⟩ (fun hHeld => ?_)
          clear hK K
          try simp only [Act.put, List.setIfInBounds_toArray, List.set_cons_zero, List.set_cons_succ]
          refine tk 15 ?_
          refine wpAnyH_done (by kernel_rfl) (NoPanic.normal ?_) _
          clear hHeld
          go_wp2_with fail
          go_meet
          refine ⟨w1.heap.size + 1 + 1 + 1 + 1, w1.heap.size, w1.heap.size + 1 + 1, w1.heap.size + 1, w1.heap.size + 1 + 1 + 1, rfl, RAt.fresh (by repeat (first | with_reducible refine Arr.drew ?_ | (refine Arr.mk _ ?_ rfl; first | (with_reducible rfl) | (simp only [World.size_alloc]; done)))) (by simp [reRow, newCo, newRP, Cfg.row]) (by have := HSZ.out; omega) ?_ ?_ ?_ ?_ (by omega), ?_, ?_⟩
          · repeat (first | with_reducible refine own_drew ?_ | (with_reducible refine own_mk1 ?_ ?_ HML.out _ rfl <;> first | (with_reducible rfl) | (simp only [World.size_alloc]; done) | (have := HSZ.out; omega) | (simp only [World.size_alloc]; have := HSZ.out; omega)) | refine own_al ?_ _)
          · repeat (first | with_reducible refine own_drew ?_ | (with_reducible refine own_mk1 ?_ ?_ HML.out _ rfl <;> first | (with_reducible rfl) | (simp only [World.size_alloc]; done) | (have := HSZ.out; omega) | (simp only [World.size_alloc]; have := HSZ.out; omega)) | refine own_al ?_ _)
          · repeat (first | with_reducible refine own_drew ?_ | (with_reducible refine own_mk2 ?_ ?_ HML.out _ _ rfl <;> first | (with_reducible rfl) | (simp only [World.size_alloc]; done) | (have := HSZ.out; omega) | (simp only [World.size_alloc]; have := HSZ.out; omega)) | refine own_al ?_ _)
          · repeat (first | with_reducible refine own_drew ?_ | (with_reducible refine own_mk1 ?_ ?_ HML.out _ rfl <;> first | (with_reducible rfl) | (simp only [World.size_alloc]; done) | (have := HSZ.out; omega) | (simp only [World.size_alloc]; have := HSZ.out; omega)) | refine own_al ?_ _)
          · repeat (first | exact HP.out | exact HP.out.drew | refine Arr.al ?_ _ | refine Arr.drew ?_)
          · repeat (first | exact HB.out | exact HB.out.drew | refine Below_step ?_ (Below_new _ _) | refine Below.drew ?_)
        refine AllReadyH.cons (o := ?_) ?_ (fun K hK => ?_) ?_
        rotate_left 1
        · (simp only [List.getElem?_toArray, List.getElem?_cons_succ, List.getElem?_cons_zero]; rfl)
        · go_simp
          skip
          clear hHeld
          refine hK.out _ _ ⟨Arr.wholeC (c := c) (by repeat (first | exact HP.out | exact HP.out.drew | refine Arr.al ?_ _)), by repeat (first | exact c0 | refine cell_al ?_ _)⟩ (fun hHeld => ?_)
          clear hK K
          try simp only [Act.put, List.setIfInBounds_toArray, List.set_cons_zero, List.set_cons_succ]
          refine rdy 6 fun K hK => ?_
          go_simp
          clear hHeld
          refine hK.out _ _ ⟨Arr.wholeC (c := c) (by repeat (first | exact HP.out | exact HP.out.drew | refine Arr.al ?_ _)), by repeat (first | exact c0 | refine cell_al ?_ _)⟩ (fun hHeld => ?_)
          clear hK K
          try simp only [Act.put, List.setIfInBounds_toArray, List.set_cons_zero, List.set_cons_succ]
          refine tk 13 ?_
          refine rdy 14 fun K hK => ?_
          go_simp
          clear hHeld
          refine hK.out _ _ ⟨Arr.wholeC (c := c) (by repeat (first | exact HP.out | exact HP.out.drew | refine Arr.al ?_ _)), by repeat (first | exact c0 | refine cell_al ?_ _)⟩ (fun hHeld => ?_)
          clear hK K
          try simp only [Act.put, List.setIfInBounds_toArray, List.set_cons_zero, List.set_cons_succ]
          refine tk 15 ?_
          refine wpAnyH_done (by kernel_rfl) (NoPanic.normal ?_) _
          clear hHeld
          go_wp2_with fail
          go_meet
          refine ⟨w1.heap.size + 1 + 1 + 1 + 1, w1.heap.size, w1.heap.size + 1 + 1 + 1, w1.heap.size + 1, w1.heap.size + 1 + 1, rfl, RAt.fresh (by repeat (first | with_reducible refine Arr.drew ?_ | (refine Arr.mk _ ?_ rfl; first | (with_reducible rfl) | (simp only [World.size_alloc]; done)))) (by simp [reRow, newCo, newRP, Cfg.row]) (by have := HSZ.out; omega) ?_ ?_ ?_ ?_ (by omega), ?_, ?_⟩
          · repeat (first | with_reducible refine own_drew ?_ | (with_reducible refine own_mk1 ?_ ?_ HML.out _ rfl <;> first | (with_reducible rfl) | (simp only [World.size_alloc]; done) | (have := HSZ.out; omega) | (simp only [World.size_alloc]; have := HSZ.out; omega)) | refine own_al ?_ _)
          · repeat (first | with_reducible refine own_drew ?_ | (with_reducible refine own_mk1 ?_ ?_ HML.out _ rfl <;> first | (with_reducible rfl) | (simp only [World.size_alloc]; done) | (have := HSZ.out; omega) | (simp only [World.size_alloc]; have := HSZ.out; omega)) | refine own_al ?_ _)
          · repeat (first | with_reducible refine own_drew ?_ | (with_reducible refine own_mk2 ?_ ?_ HML.out _ _ rfl <;> first | (with_reducible rfl) | (simp only [World.size_alloc]; done) | (have := HSZ.out; omega) | (simp only [World.size_alloc]; have := HSZ.out; omega)) | refine own_al ?_ _)
          · repeat (first | with_reducible refine own_drew ?_ | (with_reducible refine own_mk1 ?_ ?_ HML.out _ rfl <;> first | (with_reducible rfl) | (simp only [World.size_alloc]; done) | (have := HSZ.out; omega) | (simp only [World.size_alloc]; have := HSZ.out; omega)) | refine own_al ?_ _)
          · repeat (first | exact HP.out | exact HP.out.drew | refine Arr.al ?_ _ | refine Arr.drew ?_)
          · repeat (first | exact HB.out | exact HB.out.drew | refine Below_step ?_ (Below_new _ _) | refine Below.drew ?_)
        exact AllReadyH.nil
      refine AllReadyH.cons (o := ?_) ?_ (fun K hK => ?_) ?_
      rotate_left 1
      · (simp only [List.getElem?_toArray, List.getElem?_cons_succ, List.getElem?_cons_zero]; rfl)
      · go_simp
        skip
        clear hHeld
        refine hK.out _ _ ⟨Arr.wholeC (c := c) (by repeat (first | exact HP.out | exact HP.out.drew | refine Arr.al ?_ _)), by repeat (first | exact c0 | refine cell_al ?_ _)⟩ (fun hHeld => ?_)
        clear hK K
        try simp only [Act.put, List.setIfInBounds_toArray, List.set_cons_zero, List.set_cons_succ]
        refine wpAnyH_ready (rs := [6, 9]) (by kernel_rfl) (by simp) ?_
        refine AllReadyH.cons (o := ?_) ?_ (fun K hK => ?_) ?_
        rotate_left 1
        · (simp only [List.getElem?_toArray, List.getElem?_cons_succ, List.getElem?_cons_zero]; rfl)
        · go_simp
          skip
          clear hHeld
          refine hK.out _ _ ⟨Arr.wholeC (c := c) (by repeat (first | exact HP.out | exact HP.out.drew | refine Arr.al ?_ _)), by repeat (first | exact c0 | refine cell_al ?_ _)⟩ (fun hHeld => ?_)
          clear hK K
          try simp only [Act.put, List.setIfInBounds_toArray, List.set_cons_zero, List.set_cons_succ]
          refine rdy 9 fun K hK => ?_
          go_simp
          clear hHeld
          refine hK.out _ _ ⟨Arr.wholeC (c := c) (by repeat (first | exact HP.out | exact HP.out.drew | refine Arr.al ?_ _)), by repeat (first | exact c0 | refine cell_al ?_ _)⟩ (fun hHeld => ?_)
          clear hK K
          try simp only [Act.put, List.setIfInBounds_toArray, List.set_cons_zero, List.set_cons_succ]
          refine tk 13 ?_
          refine rdy 14 fun K hK => ?_
          go_simp
          clear hHeld
          refine hK.out _ _ ⟨Arr.wholeC (c := c) (by repeat (first | exact HP.out | exact HP.out.drew | refine Arr.al ?_ _)), by repeat (first | exact c0 | refine cell_al ?_ _)⟩ (fun hHeld => ?_)
          clear hK K
          try simp only [Act.put, List.setIfInBounds_toArray, List.set_cons_zero, List.set_cons_succ]
          refine tk 15 ?_
          refine wpAnyH_done (by kernel_rfl) (NoPanic.normal ?_) _
          clear hHeld
          go_wp2_with fail
          go_meet
          refine ⟨w1.heap.size + 1 + 1 + 1 + 1, w1.heap.size, w1.heap.size + 1 + 1, w1.heap.size + 1 + 1 + 1, w1.heap.size + 1, rfl, RAt.fresh (by repeat (first | with_reducible refine Arr.drew ?_ | (refine Arr.mk _ ?_ rfl; first | (with_reducible rfl) | (simp only [World.size_alloc]; done)))) (by simp [reRow, newCo, newRP, Cfg.row]) (by have := HSZ.out; omega) ?_ ?_ ?_ ?_ (by omega), ?_, ?_⟩
          · repeat (first | with_reducible refine own_drew ?_ | (with_reducible refine own_mk1 ?_ ?_ HML.out _ rfl <;> first | (with_reducible rfl) | (simp only [World.size_alloc]; done) | (have := HSZ.out; omega) | (simp only [World.size_alloc]; have := HSZ.out; omega)) | refine own_al ?_ _)
          · repeat (first | with_reducible refine own_drew ?_ | (with_reducible refine own_mk1 ?_ ?_ HML.out _ rfl <;> first | (with_reducible rfl) | (simp only [World.size_alloc]; done) | (have := HSZ.out; omega) | (simp only [World.size_alloc]; have := HSZ.out; omega)) | refine own_al ?_ _)
          · repeat (first | with_reducible refine own_drew ?_ | (with_reducible refine own_mk2 ?_ ?_ HML.out _ _ rfl <;> first | (with_reducible rfl) | (simp only [World.size_alloc]; done) | (have := HSZ.out; omega) | (simp only [World.size_alloc]; have := HSZ.out; omega)) | refine own_al ?_ _)
          · repeat (first | with_reducible refine own_drew ?_ | (with_reducible refine own_mk1 ?_ ?_ HML.out _ rfl <;> first | (with_reducible rfl) | (simp only [World.size_alloc]; done) | (have := HSZ.out; omega) | (simp only [World.size_alloc]; have := HSZ.out; omega)) | refine own_al ?_ _)
          · repeat (first | exact HP.out | exact HP.out.drew | refine Arr.al ?_ _ | refine Arr.drew ?_)
          · repeat (first | exact HB.out | exact HB.out.drew | refine Below_step ?_ (Below_new _ _) | refine Below.drew ?_)
        refine AllReadyH.cons (o := ?_) ?_ (fun K hK => ?_) ?_
        rotate_left 1
        · (simp only [List.getElem?_toArray, List.getElem?_cons_succ, List.getElem?_cons_zero]; rfl)
        · go_simp
          skip
          clear hHeld
          refine hK.out _ _ ⟨Arr.wholeC (c := c) (by repeat (first | exact HP.out | exact HP.out.drew | refine Arr.al ?_ _)), by repeat (first | exact c0 | refine cell_al ?_ _)⟩ (fun hHeld => ?_)
          clear hK K
          try simp only [Act.put, List.setIfInBounds_toArray, List.set_cons_zero, List.set_cons_succ]
          refine rdy 6 fun K hK => ?_
          go_simp
          clear hHeld
          refine hK.out _ _ ⟨Arr.wholeC (c := c) (by repeat (first | exact HP.out | exact HP.out.drew | refine Arr.al ?_ _)), by repeat (first | exact c0 | refine cell_al ?_ _)⟩ (fun hHeld => ?_)
          clear hK K
          try simp only [Act.put, List.setIfInBounds_toArray, List.set_cons_zero, List.set_cons_succ]
          refine tk 13 ?_
          refine rdy 14 fun K hK => ?_
          go_simp
          clear hHeld
          refine hK.out _ _ ⟨Arr.wholeC (c := c) (by repeat (first | exact HP.out | exact HP.out.drew | refine Arr.al ?_ _)), by repeat (first | exact c0 | refine cell_al ?_ _)⟩ (fun hHeld => ?_)
          clear hK K
          try simp only [Act.put, List.setIfInBounds_toArray, List.set_cons_zero, List.set_cons_succ]
          refine tk 15 ?_
          refine wpAnyH_done (by kernel_rfl) (NoPanic.normal ?_) _
          clear hHeld
          go_wp2_with fail
          go_meet
          refine ⟨w1.heap.size + 1 + 1 + 1 + 1, w1.heap.size, w1.heap.size + 1 + 1 + 1, w1.heap.size + 1 + 1, w1.heap.size + 1, rfl, RAt.fresh (by repeat (first | with_reducible refine Arr.drew ?_ | (refine Arr.mk _ ?_ rfl; first | (with_reducible rfl) | (simp only [World.size_alloc]; done)))) (by simp [reRow, newCo, newRP, Cfg.row]) (by have := HSZ.out; omega) ?_ ?_ ?_ ?_ (by omega), ?_, ?_⟩
          · repeat (first | with_reducible refine own_drew ?_ | (with_reducible refine own_mk1 ?_ ?_ HML.out _ rfl <;> first | (with_reducible rfl) | (simp only [World.size_alloc]; done) | (have := HSZ.out; omega) | (simp only [World.size_alloc]; have := HSZ.out; omega)) | refine own_al ?_ _)
          · repeat (first | with_reducible refine own_drew ?_ | (with_reducible refine own_mk1 ?_ ?_ HML.out _ rfl <;> first | (with_reducible rfl) | (simp only [World.size_alloc]; done) | (have := HSZ.out; omega) | (simp only [World.size_alloc]; have := HSZ.out; omega)) | refine own_al ?_ _)
          · repeat (first | with_reducible refine own_drew ?_ | (with_reducible refine own_mk2 ?_ ?_ HML.out _ _ rfl <;> first | (with_reducible rfl) | (simp only [World.size_alloc]; done) | (have := HSZ.out; omega) | (simp only [World.size_alloc]; have := HSZ.out; omega)) | refine own_al ?_ _)
          · repeat (first | with_reducible refine own_drew ?_ | (with_reducible refine own_mk1 ?_ ?_ HML.out _ rfl <;> first | (with_reducible rfl) | (simp only [World.size_alloc]; done) | (have := HSZ.out; omega) | (simp only [World.size_alloc]; have := HSZ.out; omega)) | refine own_al ?_ _)
          · repeat (first | exact HP.out | exact HP.out.drew | refine Arr.al ?_ _ | refine Arr.drew ?_)
          · repeat (first | exact HB.out | exact HB.out.drew | refine Below_step ?_ (Below_new _ _) | refine Below.drew ?_)
        exact AllReadyH.nil
      exact AllReadyH.nil
    refine AllReadyH.cons (o := ?_) ?_ (fun K hK => ?_) ?_
    rotate_left 1
    · (simp only [List.getElem?_toArray, List.getElem?_cons_succ, List.getElem?_cons_zero]; rfl)
    · go_simp
      skip
      clear hHeld
      refine hK.out _ _ ⟨Arr.wholeC (c := c) (by repeat (first | exact HP.out | exact HP.out.drew | refine Arr.al ?_ _)), by repeat (first | exact c0 | refine cell_al ?_ _)⟩ (fun hHeld => ?_)
      clear hK K
      try simp only [Act.put, List.setIfInBounds_toArray, List.set_cons_zero, List.set_cons_succ]
      refine wpAnyH_ready (rs := [3, 9, 12]) (by kernel_rfl) (by simp) ?_
      refine AllReadyH.cons (o := ?_) ?_ (fun K hK => ?_) ?_
      rotate_left 1
      · (simp only [List.getElem?_toArray, List.getElem?_cons_succ, List.getElem?_cons_zero]; rfl)
      · go_simp
        skip
        clear hHeld
        refine hK.out _ _ ⟨Arr.wholeC (c := c) (by repeat (first | exact HP.out | exact HP.out.drew | refine Arr.al ?_ _)), by repeat (first | exact c0 | refine cell_al ?_ _)⟩ (fun hHeld => ?_)
        clear hK K
        try simp only [Act.put, List.setIfInBounds_toArray, List.set_cons_zero, List.set_cons_succ]
        refine wpAnyH_ready (rs := [9, 12]) (by kernel_rfl) (by simp) ?_
        refine AllReadyH.cons (o := ?_) ?_ (fun K hK => ?_) ?_
        rotate_left 1
        · (simp only [List.getElem?_toArray, List.getElem?_cons_succ, List.getElem?_cons_zero]; rfl)
        · go_simp
          skip
          clear hHeld
          refine hK.out _ _ ⟨Arr.wholeC (c := c) (by repeat (first | exact HP.out | exact HP.out.drew | refine Arr.al ?_ _)), by repeat (first | exact c0 | refine cell_al ?_ _)⟩ (fun hHeld => ?_)
          clear hK K
          try simp only [Act.put, List.setIfInBounds_toArray, List.set_cons_zero, List.set_cons_succ]
          refine rdy 12 fun K hK => ?_
          go_simp
          clear hHeld
          refine hK.out _ _ ⟨Arr.wholeC (c := c) (by repeat (first | exact HP.out | exact HP.out.drew | refine Arr.al ?_ _)), by repeat (first | exact c0 | refine cell_al ?_ _)⟩ (fun hHeld => ?_)
          clear hK K
          try simp only [Act.put, List.setIfInBounds_toArray, List.set_cons_zero, List.set_cons_succ]
          refine tk 13 ?_
          refine rdy 14 fun K hK => ?_
          go_simp
          clear hHeld
          refine hK.out _ _ ⟨Arr.wholeC (c := c) (by repeat (first | exact HP.out | exact HP.out.drew | refine Arr.al ?_ _)), by repeat (first | exact c0 | refine cell_al ?_ _)⟩ (fun hHeld => ?_)
          clear hK K
          try simp only [Act.put, List.setIfInBounds_toArray, List.set_cons_zero, List.set_cons_succ]
          refine tk 15 ?_
          refine wpAnyH_done (by kernel_rfl) (NoPanic.normal ?_) _
          clear hHeld
          go_wp2_with fail
          go_meet
          refine ⟨w1.heap.size + 1 + 1 + 1 + 1, w1.heap.size + 1, w1.heap.size, w1.heap.size + 1 + 1, w1.heap.size + 1 + 1 + 1, rfl, RAt.fresh (by repeat (first | with_reducible refine Arr.drew ?_ | (refine Arr.mk _ ?_ rfl; first | (with_reducible rfl) | (simp only [World.size_alloc]; done)))) (by simp [reRow, newCo, newRP, Cfg.row]) (by have := HSZ.out; omega) ?_ ?_ ?_ ?_ (by omega), ?_, ?_⟩
          · repeat (first | with_reducible refine own_drew ?_ | (with_reducible refine own_mk1 ?_ ?_ HML.out _ rfl <;> first | (with_reducible rfl) | (simp only [World.size_alloc]; done) | (have := HSZ.out; omega) | (simp only [World.size_alloc]; have := HSZ.out; omega)) | refine own_al ?_ _)
          · repeat (first | with_reducible refine own_drew ?_ | (with_reducible refine own_mk1 ?_ ?_ HML.out _ rfl <;> first | (with_reducible rfl) | (simp only [World.size_alloc]; done) | (have := HSZ.out; omega) | (simp only [World.size_alloc]; have := HSZ.out; omega)) | refine own_al ?_ _)
          · repeat (first | with_reducible refine own_drew ?_ | (with_reducible refine own_mk2 ?_ ?_ HML.out _ _ rfl <;> first | (with_reducible rfl) | (simp only [World.size_alloc]; done) | (have := HSZ.out; omega) | (simp only [World.size_alloc]; have := HSZ.out; omega)) | refine own_al ?_ _)
          · repeat (first | with_reducible refine own_drew ?_ | (with_reducible refine own_mk1 ?_ ?_ HML.out _ rfl <;> first | (with_reducible rfl) | (simp only [World.size_alloc]; done) | (have := HSZ.out; omega) | (simp only [World.size_alloc]; have := HSZ.out; omega)) | refine own_al ?_ _)
          · repeat (first | exact HP.out | exact HP.out.drew | refine Arr.al ?_ _ | refine Arr.drew ?_)
          · repeat (first | exact HB.out | exact HB.out.drew | refine Below_step ?_ (Below_new _ _) | refine Below.drew ?_)
        refine AllReadyH.cons (o := ?_) ?_ (fun K hK => ?_) ?_
        rotate_left 1
        · (simp only [List.getElem?_toArray, List.getElem?_cons_succ, List.getElem?_cons_zero]; rfl)
        · go_simp
          skip
          clear hHeld
          refine hK.out _ _ ⟨Arr.wholeC (c := c) (by repeat (first | exact HP.out | exact HP.out.drew | refine Arr.al ?_ _)), by repeat (first | exact c0 | refine cell_al ?_ _)⟩ (fun hHeld => ?_)
          clear hK K
          try simp only [Act.put, List.setIfInBounds_toArray, List.set_cons_zero, List.set_cons_succ]
          refine rdy 9 fun K hK => ?_
          go_simp
          clear hHeld
          refine hK.out _ _ ⟨Arr.wholeC (c := c) (by repeat (first | exact HP.out | exact HP.out.drew | refine Arr.al ?_ _)), by repeat (first | exact c0 | refine cell_al ?_ _)⟩ (fun hHeld => ?_)
          clear hK K
          try simp only [Act.put, List.setIfInBounds_toArray, List.set_cons_zero, List.set_cons_succ]
          refine tk 13 ?_
          refine rdy 14 fun K hK => ?_
          go_simp
          clear hHeld
          refine hK.out _ _ ⟨Arr.wholeC (c := c) (by repeat (first | exact HP.out | exact HP.out.drew | refine Arr.al ?_ _)), by repeat (first | exact c0 | refine cell_al ?_ _)⟩ (fun hHeld => ?_)
          clear hK K
          try simp only [Act.put, List.setIfInBounds_toArray, List.set_cons_zero, List.set_cons_succ]
          refine tk 15 ?_
          refine wpAnyH_done (by kernel_rfl) (NoPanic.normal ?_) _
          clear hHeld
          go_wp2_with fail
          go_meet
          refine ⟨w1.heap.size + 1 + 1 + 1 + 1, w1.heap.size + 1, w1.heap.size, w1.heap.size + 1 + 1 + 1, w1.heap.size + 1 + 1, rfl, RAt.fresh (by repeat (first | with_reducible refine Arr.drew ?_ | (refine Arr.mk _ ?_ rfl; first | (with_reducible rfl) | (simp only [World.size_alloc]; done)))) (by simp [reRow, newCo, newRP, Cfg.row]) (by have := HSZ.out; omega) ?_ ?_ ?_ ?_ (by omega), ?_, ?_⟩
          · repeat (first | with_reducible refine own_drew ?_ | (with_reducible refine own_mk1 ?_ ?_ HML.out _ rfl <;> first | (with_reducible rfl) | (simp only [World.size_alloc]; done) | (have := HSZ.out; omega) | (simp only [World.size_alloc]; have := HSZ.out; omega)) | refine own_al ?_ _)
          · repeat (first | with_reducible refine own_drew ?_ | (with_reducible refine own_mk1 ?_ ?_ HML.out _ rfl <;> first | (with_reducible rfl) | (simp only [World.size_alloc]; done) | (have := HSZ.out; omega) | (simp only [World.size_alloc]; have := HSZ.out; omega)) | refine own_al ?_ _)
          · repeat (first | with_reducible refine own_drew ?_ | (with_reducible refine own_mk2 ?_ ?_ HML.out _ _ rfl <;> first | (with_reducible rfl) | (simp only [World.size_alloc]; done) | (have := HSZ.out; omega) | (simp only [World.size_alloc]; have := HSZ.out; omega)) | refine own_al ?_ _)
          · repeat (first | with_reducible refine own_drew ?_ | (with_reducible refine own_mk1 ?_ ?_ HML.out _ rfl <;> first | (with_reducible rfl) | (simp only [World.size_alloc]; done) | (have := HSZ.out; omega) | (simp only [World.size_alloc]; have := HSZ.out; omega)) | refine own_al ?_ _)
          · repeat (first | exact HP.out | exact HP.out.drew | refine Arr.al ?_ _ | refine Arr.drew ?_)
          · repeat (first | exact HB.out | exact HB.out.drew | refine Below_step ?_ (Below_new _ _) | refine Below.drew ?_)
        exact AllReadyH.nil
      refine AllReadyH.cons (o := ?_) ?_ (fun K hK => ?_) ?_
      rotate_left 1
      · (simp only [List.getElem?_toArray, List.getElem?_cons_succ, List.getElem?_cons_zero]; rfl)
      · go_simp
        skip
        clear hHeld
        refine hK.out _ _ ⟨Arr.wholeC (c := c) (by repeat (first | exact HP.out | exact HP.out.drew | refine Arr.al ?_ _)), by repeat (first | exact c0 | refine cell_al ?_ _)⟩ (fun hHeld => ?_)
        clear hK K
        try simp only [Act.put, List.setIfInBounds_toArray, List.set_cons_zero, List.set_cons_succ]
        refine wpAnyH_ready (rs := [3, 12]) (by kernel_rfl) (by simp) ?_
        refine AllReadyH.cons (o := ?_) ?_ (fun K hK => ?_) ?_
        rotate_left 1
        · (simp only [List.getElem?_toArray, List.getElem?_cons_succ, List.getElem?_cons_zero]; rfl)
        · go_simp
          skip
          clear hHeld
          refine hK.out _ _ ⟨Arr.wholeC (c := c) (by repeat (first | exact HP.out | exact HP.out.drew | refine Arr.al ?_ _)), by repeat (first | exact c0 | refine cell_al ?_ _)⟩ (fun hHeld => ?_)
          clear hK K
          try simp only [Act.put, List.setIfInBounds_toArray, List.set_cons_zero, List.set_cons_succ]
          refine rdy 12 fun K hK => ?_
          go_simp
          clear hHeld
          refine hK.out _ _ ⟨Arr.wholeC (c := c) (by repeat (first | exact HP.out | exact HP.out.drew | refine Arr.al ?_ _)), by repeat (first | exact c0 | refine cell_al ?_ _)⟩ (fun hHeld => ?_)
          clear hK K
          try simp only [Act.put, List.setIfInBounds_toArray, List.set_cons_zero, List.set_cons_succ]
          refine tk 13 ?_
          refine rdy 14 fun K hK => ?_
          go_simp
          clear hHeld
          refine hK.out _ _ ⟨Arr.wholeC (c := c) (by repeat (first | exact HP.out | exact HP.out.drew | refine Arr.al ?_ _)), by repeat (first | exact c0 | refine cell_al ?_ _)⟩ (fun hHeld => ?_)
          clear hK K
          try simp only [Act.put, List.setIfInBounds_toArray, List.set_cons_zero, List.set_cons_succ]
          refine tk 15 ?_
          refine wpAnyH_done (by kernel_rfl) (NoPanic.normal ?_) _
          clear hHeld
          go_wp2_with fail
          go_meet
          refine ⟨w1.heap.size + 1 + 1 + 1 + 1, w1.heap.size + 1 + 1, w1.heap.size, w1.heap.size + 1, w1.heap.size + 1 + 1 + 1, rfl, RAt.fresh (by repeat (first | with_reducible refine Arr.drew ?_ | (refine Arr.mk _ ?_ rfl; first | (with_reducible rfl) | (simp only [World.size_alloc]; done)))) (by simp [reRow, newCo, newRP, Cfg.row]) (by have := HSZ.out; omega) ?_ ?_ ?_ ?_ (by omega), ?_, ?_⟩
          · repeat (first | with_reducible refine own_drew ?_ | (with_reducible refine own_mk1 ?_ ?_ HML.out _ rfl <;> first | (with_reducible rfl) | (simp only [World.size_alloc]; done) | (have := HSZ.out; omega) | (simp only [World.size_alloc]; have := HSZ.out; omega)) | refine own_al ?_ _)
          · repeat (first | with_reducible refine own_drew ?_ | (with_reducible refine own_mk1 ?_ ?_ HML.out _ rfl <;> first | (with_reducible rfl) | (simp only [World.size_alloc]; done) | (have := HSZ.out; omega) | (simp only [World.size_alloc]; have := HSZ.out; omega)) | refine own_al ?_ _)
          · repeat (first | with_reducible refine own_drew ?_ | (with_reducible refine own_mk2 ?_ ?_ HML.out _ _ rfl <;> first | (with_reducible rfl) | (simp only [World.size_alloc]; done) | (have := HSZ.out; omega) | (simp only [World.size_alloc]; have := HSZ.out; omega)) | refine own_al ?_ _)
          · repeat (first | with_reducible refine own_drew ?_ | (with_reducible refine own_mk1 ?_ ?_ HML.out _ rfl <;> first | (with_reducible rfl) | (simp only [World.size_alloc]; done) | (have := HSZ.out; omega) | (simp only [World.size_alloc]; have := HSZ.out; omega)) | refine own_al ?_ _)
          · repeat (first | exact HP.out | exact HP.out.drew | refine Arr.al ?_ _ | refine Arr.drew ?_)
          · repeat (first | exact HB.out | exact HB.out.drew | refine Below_step ?_ (Below_new _ _) | refine Below.drew ?_)
        refine AllReadyH.cons (o := ?_) ?_ (fun K hK => ?_) ?_
        rotate_left 1
        · (simp only [List.getElem?_toArray, List.getElem?_cons_succ, List.getElem?_cons_zero]; rfl)
        · go_simp
          skip
          clear hHeld
          refine hK.out _ _ ⟨Arr.wholeC (c := c) (by repeat (first | exact HP.out | exact HP.out.drew | refine Arr.al ?_ _)), by repeat (first | exact c0 | refine cell_al ?_ _)⟩ (fun hHeld => ?_)
          clear hK K
          try simp only [Act.put, List.setIfInBounds_toArray, List.set_cons_zero, List.set_cons_succ]
          refine rdy 3 fun K hK => ?_
          go_simp
          clear hHeld
          refine hK.out _ _ ⟨Arr.wholeC (c := c) (by repeat (first | exact HP.out | exact HP.out.drew | refine Arr.al ?_ _)), by repeat (first | exact c0 | refine cell_al ?_ _)⟩ (fun hHeld => ?_)
          clear hK K
          try simp only [Act.put, List.setIfInBounds_toArray, List.set_cons_zero, List.set_cons_succ]
          refine tk 13 ?_
          refine rdy 14 fun K hK => ?_
          go_simp
          clear hHeld
          refine hK.out _ _ ⟨Arr.wholeC (c := c) (by repeat (first | exact HP.out | exact HP.out.drew | refine Arr.al ?_ _)), by repeat (first | exact c0 | refine cell_al ?_ _)⟩ (fun hHeld => ?_)
          clear hK K
          try simp only [Act.put, List.setIfInBounds_toArray, List.set_cons_zero, List.set_cons_succ]
          refine tk 15 ?_
          refine wpAnyH_done (by kernel_rfl) (NoPanic.normal ?_) _
          clear hHeld
          go_wp2_with fail
          go_meet
          refine ⟨w1.heap.size + 1 + 1 + 1 + 1, w1.heap.size + 1 + 1 + 1, w1.heap.size, w1.heap.size + 1, w1.heap.size + 1 + 1, rfl, RAt.fresh (by repeat (first | with_reducible refine Arr.drew ?_ | (refine Arr.mk _ ?_ rfl; first | (with_reducible rfl) | (simp only [World.size_alloc]; done)))) (by simp [reRow, newCo, newRP, Cfg.row]) (by have := HSZ.out; omega) ?_ ?_ ?_ ?_ (by omega), ?_, ?_⟩
          · repeat (first | with_reducible refine own_drew ?_ | (with_reducible refine own_mk1 ?_ ?_ HML.out _ rfl <;> first | (with_reducible rfl) | (simp only [World.size_alloc]; done) | (have := HSZ.out; omega) | (simp only [World.size_alloc]; have := HSZ.out; omega)) | refine own_al ?_ _)
          · repeat (first | with_reducible refine own_drew ?_ | (with_reducible refine own_mk1 ?_ ?_ HML.out _ rfl <;> first | (with_reducible rfl) | (simp only [World.size_alloc]; done) | (have := HSZ.out; omega) | (simp only [World.size_alloc]; have := HSZ.out; omega)) | refine own_al ?_ _)
          · repeat (first | with_reducible refine own_drew ?_ | (with_reducible refine own_mk2 ?_ ?_ HML.out _ _ rfl <;> first | (with_reducible rfl) | (simp only [World.size_alloc]; done) | (have := HSZ.out; omega) | (simp only [World.size_alloc]; have := HSZ.out; omega)) | refine own_al ?_ _)
          · repeat (first | with_reducible refine own_drew ?_ | (with_reducible refine own_mk1 ?_ ?_ HML.out _ rfl <;> first | (with_reducible rfl) | (simp only [World.size_alloc]; done) | (have := HSZ.out; omega) | (simp only [World.size_alloc]; have := HSZ.out; omega)) | refine own_al ?_ _)
          · repeat (first | exact HP.out | exact HP.out.drew | refine Arr.al ?_ _ | refine Arr.drew ?_)
          · repeat (first | exact HB.out | exact HB.out.drew | refine Below_step ?_ (Below_new _ _) | refine Below.drew ?_)
        exact AllReadyH.nil
      refine AllReadyH.cons (o := ?_) ?_ (fun K hK => ?_) ?_
      rotate_left 1
      · (simp only [List.getElem?_toArray, List.getElem?_cons_succ, List.getElem?_cons_zero]; rfl)
      · go_simp
        skip
        clear hHeld
        refine hK.out _ _ ⟨Arr.wholeC (c := c) (by repeat (first | exact HP.out | exact HP.out.drew | refine Arr.al ?_ _)), by repeat (first | exact c0 | refine cell_al ?_ _)⟩ (fun hHeld => ?_)
        clear hK K
        try simp only [Act.put, List.setIfInBounds_toArray, List.set_cons_zero, List.set_cons_succ]
        refine wpAnyH_ready (rs := [3, 9]) (by kernel_rfl) (by simp) ?_
        refine AllReadyH.cons (o := ?_) ?_ (fun K hK => ?_) ?_
        rotate_left 1
        · (simp only [List.getElem?_toArray, List.getElem?_cons_succ, List.getElem?_cons_zero]; rfl)
        · go_simp
          skip
          clear hHeld
          refine hK.out _ _ ⟨Arr.wholeC (c := c) (by repeat (first | exact HP.out | exact HP.out.drew | refine Arr.al ?_ _)), by repeat (first | exact c0 | refine cell_al ?_ _)⟩ (fun hHeld => ?_)
          clear hK K
          try simp only [Act.put, List.setIfInBounds_toArray, List.set_cons_zero, List.set_cons_succ]
          refine rdy 9 fun K hK => ?_
          go_simp
          clear hHeld
          refine hK.out _ _ ⟨Arr.wholeC (c := c) (by repeat (first | exact HP.out | exact HP.out.drew | refine Arr.al ?_ _)), by repeat (first | exact c0 | refine cell_al ?_ _)⟩ (fun hHeld => ?_)
          clear hK K
          try simp only [Act.put, List.setIfInBounds_toArray, List.set_cons_zero, List.set_cons_succ]
          refine tk 13 ?_
          refine rdy 14 fun K hK => ?_
          go_simp
          clear hHeld
          refine hK.out _ _ ⟨Arr.wholeC (c := c) (by repeat (first | exact HP.out | exact HP.out.drew | refine Arr.al ?_ _)), by repeat (first | exact c0 | refine cell_al ?_ _)⟩ (fun hHeld => ?_)
          clear hK K
          try simp only [Act.put, List.setIfInBounds_toArray, List.set_cons_zero, List.set_cons_succ]
          refine tk 15 ?_
          refine wpAnyH_done (by kernel_rfl) (NoPanic.normal ?_) _
          clear hHeld
          go_wp2_with fail
          go_meet
          refine ⟨w1.heap.size + 1 + 1 + 1 + 1, w1.heap.size + 1 + 1, w1.heap.size, w1.heap.size + 1 + 1 + 1, w1.heap.size + 1, rfl, RAt.fresh (by repeat (first | with_reducible refine Arr.drew ?_ | (refine Arr.mk _ ?_ rfl; first | (with_reducible rfl) | (simp only [World.size_alloc]; done)))) (by simp [reRow, newCo, newRP, Cfg.row]) (by have := HSZ.out; omega) ?_ ?_ ?_ ?_ (by omega), ?_, ?_⟩
          · repeat (first | with_reducible refine own_drew ?_ | (with_reducible refine own_mk1 ?_ ?_ HML.out _ rfl <;> first | (with_reducible rfl) | (simp only [World.size_alloc]; done) | (have := HSZ.out; omega) | (simp only [World.size_alloc]; have := HSZ.out; omega)) | refine own_al ?_ _)
          · repeat (first | with_reducible refine own_drew ?_ | (with_reducible refine own_mk1 ?_ ?_ HML.out _ rfl <;> first | (with_reducible rfl) | (simp only [World.size_alloc]; done) | (have := HSZ.out; omega) | (simp only [World.size_alloc]; have := HSZ.out; omega)) | refine own_al ?_ _)
          · repeat (first | with_reducible refine own_drew ?_ | (with_reducible refine own_mk2 ?_ ?_ HML.out _ _ rfl <;> first | (with_reducible rfl) | (simp only [World.size_alloc]; done) | (have := HSZ.out; omega) | (simp only [World.size_alloc]; have := HSZ.out; omega)) | refine own_al ?_ _)
          · repeat (first | with_reducible refine own_drew ?_ | (with_reducible refine own_mk1 ?_ ?_ HML.out _ rfl <;> first | (with_reducible rfl) | (simp only [World.size_alloc]; done) | (have := HSZ.out; omega) | (simp only [World.size_alloc]; have := HSZ.out; omega)) | refine own_al ?_ _)
          · repeat (first | exact HP.out | exact HP.out.drew | refine Arr.al ?_ _ | refine Arr.drew ?_)
          · repeat (first | exact HB.out | exact HB.out.drew | refine Below_step ?_ (Below_new _ _) | refine Below.drew ?_)
        refine AllReadyH.cons (o := ?_) ?_ (fun K hK => ?_) ?_
        rotate_left 1
        · (simp only [List.getElem?_toArray, List.getElem?_cons_succ, List.getElem?_cons_zero]; rfl)
        · go_simp
          skip
          clear hHeld
          refine hK.out _ _ ⟨Arr.wholeC (c := c) (by repeat (first | exact HP.out | exact HP.out.drew | refine Arr.al ?_ _)), by repeat (first | exact c0 | refine cell_al ?_ _)⟩ (fun hHeld => ?_)
          clear hK K
          try simp only [Act.put, List.setIfInBounds_toArray, List.set_cons_zero, List.set_cons_succ]
          refine rdy 3 fun K hK => ?_
          go_simp
          clear hHeld
          refine hK.out _ _ ⟨Arr.wholeC (c := c) (by repeat (first | exact HP.out | exact HP.out.drew | refine Arr.al ?_ _)), by repeat (first | exact c0 | refine cell_al ?_ _)⟩ (fun hHeld => ?_)
          clear hK K
          try simp only [Act.put, List.setIfInBounds_toArray, List.set_cons_zero, List.set_cons_succ]
          refine tk 13 ?_
          refine rdy 14 fun K hK => ?_
          go_simp
          clear hHeld
          refine hK.out _ _ ⟨Arr.wholeC (c := c) (by repeat (first | exact HP.out | exact HP.out.drew | refine Arr.al ?_ _)), by repeat (first | exact c0 | refine cell_al ?_ _)⟩ (fun hHeld => ?_)
          clear hK K
          try simp only [Act.put, List.setIfInBounds_toArray, List.set_cons_zero, List.set_cons_succ]
          refine tk 15 ?_
          refine wpAnyH_done (by kernel_rfl) (NoPanic.normal ?_) _
          clear hHeld
          go_wp2_with fail
          go_meet
          refine ⟨w1.heap.size + 1 + 1 + 1 + 1, w1.heap.size + 1 + 1 + 1, w1.heap.size, w1.heap.size + 1 + 1, w1.heap.size + 1, rfl, RAt.fresh (by repeat (first | with_reducible refine Arr.drew ?_ | (refine Arr.mk _ ?_ rfl; first | (with_reducible rfl) | (simp only [World.size_alloc]; done)))) (by simp [reRow, newCo, newRP, Cfg.row]) (by have := HSZ.out; omega) ?_ ?_ ?_ ?_ (by omega), ?_, ?_⟩
          · repeat (first | with_reducible refine own_drew ?_ | (with_reducible refine own_mk1 ?_ ?_ HML.out _ rfl <;> first | (with_reducible rfl) | (simp only [World.size_alloc]; done) | (have := HSZ.out; omega) | (simp only [World.size_alloc]; have := HSZ.out; omega)) | refine own_al ?_ _)
          · repeat (first | with_reducible refine own_drew ?_ | (with_reducible refine own_mk1 ?_ ?_ HML.out _ rfl <;> first | (with_reducible rfl) | (simp only [World.size_alloc]; done) | (have := HSZ.out; omega) | (simp only [World.size_alloc]; have := HSZ.out; omega)) | refine own_al ?_ _)
          · repeat (first | with_reducible refine own_drew ?_ | (with_reducible refine own_mk2 ?_ ?_ HML.out _ _ rfl <;> first | (with_reducible rfl) | (simp only [World.size_alloc]; done) | (have := HSZ.out; omega) | (simp only [World.size_alloc]; have := HSZ.out; omega)) | refine own_al ?_ _)
          · repeat (first | with_reducible refine own_drew ?_ | (with_reducible refine own_mk1 ?_ ?_ HML.out _ rfl <;> first | (with_reducible rfl) | (simp only [World.size_alloc]; done) | (have := HSZ.out; omega) | (simp only [World.size_alloc]; have := HSZ.out; omega)) | refine own_al ?_ _)
          · repeat (first | exact HP.out | exact HP.out.drew | refine Arr.al ?_ _ | refine Arr.drew ?_)
          · repeat (first | exact HB.out | exact HB.out.drew | refine Below_step ?_ (Below_new _ _) | refine Below.drew ?_)
        exact AllReadyH.nil
      exact AllReadyH.nil
    refine AllReadyH.cons (o := ?_) ?_ (fun K hK => ?_) ?_
    rotate_left 1
    · (simp only [List.getElem?_toArray, List.getElem?_cons_succ, List.getElem?_cons_zero]; rfl)
    · go_simp
      skip
      clear hHeld
      refine hK.out _ _ ⟨Arr.wholeC (c := c) (by repeat (first | exact HP.out | exact HP.out.drew | refine Arr.al ?_ _)), by repeat (first | exact c0 | refine cell_al ?_ _)⟩ (fun hHeld => ?_)
      clear hK K
      try simp only [Act.put, List.setIfInBounds_toArray, List.set_cons_zero, List.set_cons_succ]
      refine wpAnyH_ready (rs := [3, 6, 12]) (by kernel_rfl) (by simp) ?_
      refine AllReadyH.cons (o := ?_) ?_ (fun K hK => ?_) ?_
      rotate_left 1
      · (simp only [List.getElem?_toArray, List.getElem?_cons_succ, List.getElem?_cons_zero]; rfl)
      · go_simp
        skip
        clear hHeld
        refine hK.out _ _ ⟨Arr.wholeC (c := c) (by repeat (first | exact HP.out | exact HP.out.drew | refine Arr.al ?_ _)), by repeat (first | exact c0 | refine cell_al ?_ _)⟩ (fun hHeld => ?_)
        clear hK K
        try simp only [Act.put, List.setIfInBounds_toArray, List.set_cons_zero, List.set_cons_succ]
        refine wpAnyH_ready (rs := [6, 12]) (by kernel_rfl) (by simp) ?_
        refine AllReadyH.cons (o := ?_) ?_ (fun K hK => ?_) ?_
        rotate_left 1
        · (simp only [List.getElem?_toArray, List.getElem?_cons_succ, List.getElem?_cons_zero]; rfl)
        · go_simp
          skip
          clear hHeld
          refine hK.out _ _ ⟨Arr.wholeC (c := c) (by repeat (first | exact HP.out | exact HP.out.drew | refine Arr.al ?_ _)), by repeat (first | exact c0 | refine cell_al ?_ _)⟩ (fun hHeld => ?_)
          clear hK K
          try simp only [Act.put, List.setIfInBounds_toArray, List.set_cons_zero, List.set_cons_succ]
          refine rdy 12 fun K hK => ?_
          go_simp
          clear hHeld
          refine hK.out _ _ ⟨Arr.wholeC (c := c) (by repeat (first | exact HP.out | exact HP.out.drew | refine Arr.al ?_ _)), by repeat (first | exact c0 | refine cell_al ?_ _)⟩ (fun hHeld => ?_)
          clear hK K
          try simp only [Act.put, List.setIfInBounds_toArray, List.set_cons_zero, List.set_cons_succ]
          refine tk 13 ?_
          refine rdy 14 fun K hK => ?_
          go_simp
          clear hHeld
          refine hK.out _ _ ⟨Arr.wholeC (c := c) (by repeat (first | exact HP.out | exact HP.out.drew | refine Arr.al ?_ _)), by repeat (first | exact c0 | refine cell_al ?_ _)⟩ (fun hHeld => ?_)
          clear hK K
          try simp only [Act.put, List.setIfInBounds_toArray, List.set_cons_zero, List.set_cons_succ]
          refine tk 15 ?_
          refine wpAnyH_done (by kernel_rfl) (NoPanic.normal ?_) _
          clear hHeld
          go_wp2_with fail
          go_meet
          refine ⟨w1.heap.size + 1 + 1 + 1 + 1, w1.heap.size + 1, w1.heap.size + 1 + 1, w1.heap.size, w1.heap.size + 1 + 1 + 1, rfl, RAt.fresh (by repeat (first | with_reducible refine Arr.drew ?_ | (refine Arr.mk _ ?_ rfl; first | (with_reducible rfl) | (simp only [World.size_alloc]; done)))) (by simp [reRow, newCo, newRP, Cfg.row]) (by have := HSZ.out; omega) ?_ ?_ ?_ ?_ (by omega), ?_, ?_⟩
          · repeat (first | with_reducible refine own_drew ?_ | (with_reducible refine own_mk1 ?_ ?_ HML.out _ rfl <;> first | (with_reducible rfl) | (simp only [World.size_alloc]; done) | (have := HSZ.out; omega) | (simp only [World.size_alloc]; have := HSZ.out; omega)) | refine own_al ?_ _)
          · repeat (first | with_reducible refine own_drew ?_ | (with_reducible refine own_mk1 ?_ ?_ HML.out _ rfl <;> first | (with_reducible rfl) | (simp only [World.size_alloc]; done) | (have := HSZ.out; omega) | (simp only [World.size_alloc]; have := HSZ.out; omega)) | refine own_al ?_ _)
          · repeat (first | with_reducible refine own_drew ?_ | (with_reducible refine own_mk2 ?_ ?_ HML.out _ _ rfl <;> first | (with_reducible rfl) | (simp only [World.size_alloc]; done) | (have := HSZ.out; omega) | (simp only [World.size_alloc]; have := HSZ.out; omega)) | refine own_al ?_ _)
          · repeat (first | with_reducible refine own_drew ?_ | (with_reducible refine own_mk1 ?_ ?_ HML.out _ rfl <;> first | (with_reducible rfl) | (simp only [World.size_alloc]; done) | (have := HSZ.out; omega) | (simp only [World.size_alloc]; have := HSZ.out; omega)) | refine own_al ?_ _)
          · repeat (first | exact HP.out | exact HP.out.drew | refine Arr.al ?_ _ | refine Arr.drew ?_)
          · repeat (first | exact HB.out | exact HB.out.drew | refine Below_step ?_ (Below_new _ _) | refine Below.drew ?_)
        refine AllReadyH.cons (o := ?_) ?_ (fun K hK => ?_) ?_
        rotate_left 1
        · (simp only [List.getElem?_toArray, List.getElem?_cons_succ, List.getElem?_cons_zero]; rfl)
        · go_simp
          skip
          clear hHeld
          refine hK.out _ _ ⟨Arr.wholeC (c := c) (by repeat (first | exact HP.out | exact HP.out.drew | refine Arr.al ?_ _)), by repeat (first | exact c0 | refine cell_al ?_ _)⟩ (fun hHeld => ?_)
          clear hK K
          try simp only [Act.put, List.setIfInBounds_toArray, List.set_cons_zero, List.set_cons_succ]
          refine rdy 6 fun K hK => ?_
          go_simp
          clear hHeld
          refine hK.out _ _ ⟨Arr.wholeC (c := c) (by repeat (first | exact HP.out | exact HP.out.drew | refine Arr.al ?_ _)), by repeat (first | exact c0 | refine cell_al ?_ _)⟩ (fun hHeld => ?_)
          clear hK K
          try simp only [Act.put, List.setIfInBounds_toArray, List.set_cons_zero, List.set_cons_succ]
          refine tk 13 ?_
          refine rdy 14 fun K hK => ?_
          go_simp
          clear hHeld
          refine hK.out _ _ ⟨Arr.wholeC (c := c) (by repeat (first | exact HP.out | exact HP.out.drew | refine Arr.al ?_ _)), by repeat (first | exact c0 | refine cell_al ?_ _)⟩ (fun hHeld => ?_)
          clear hK K
          try simp only [Act.put, List.setIfInBounds_toArray, List.set_cons_zero, List.set_cons_succ]
          refine tk 15 ?_
          refine wpAnyH_done (by kernel_rfl) (NoPanic.normal ?_) _
          clear hHeld
          go_wp2_with fail
          go_meet
          refine ⟨w1.heap.size + 1 + 1 + 1 + 1, w1.heap.size + 1, w1.heap.size + 1 + 1 + 1, w1.heap.size, w1.heap.size + 1 + 1, rfl, RAt.fresh (by repeat (first | with_reducible refine Arr.drew ?_ | (refine Arr.mk _ ?_ rfl; first | (with_reducible rfl) | (simp only [World.size_alloc]; done)))) (by simp [reRow, newCo, newRP, Cfg.row]) (by have := HSZ.out; omega) ?_ ?_ ?_ ?_ (by omega), ?_, ?_⟩
          · repeat (first | with_reducible refine own_drew ?_ | (with_reducible refine own_mk1 ?_ ?_ HML.out _ rfl <;> first | (with_reducible rfl) | (simp only [World.size_alloc]; done) | (have := HSZ.out; omega) | (simp only [World.size_alloc]; have := HSZ.out; omega)) | refine own_al ?_ _)
          · repeat (first | with_reducible refine own_drew ?_ | (with_reducible refine own_mk1 ?_ ?_ HML.out _ rfl <;> first | (with_reducible rfl) | (simp only [World.size_alloc]; done) | (have := HSZ.out; omega) | (simp only [World.size_alloc]; have := HSZ.out; omega)) | refine own_al ?_ _)
          · repeat (first | with_reducible refine own_drew ?_ | (with_reducible refine own_mk2 ?_ ?_ HML.out _ _ rfl <;> first | (with_reducible rfl) | (simp only [World.size_alloc]; done) | (have := HSZ.out; omega) | (simp only [World.size_alloc]; have := HSZ.out; omega)) | refine own_al ?_ _)
          · repeat (first | with_reducible refine own_drew ?_ | (with_reducible refine own_mk1 ?_ ?_ HML.out _ rfl <;> first | (with_reducible rfl) | (simp only [World.size_alloc]; done) | (have := HSZ.out; omega) | (simp only [World.size_alloc]; have := HSZ.out; omega)) | refine own_al ?_ _)
          · repeat (first | exact HP.out | exact HP.out.drew | refine Arr.al ?_ _ | refine Arr.drew ?_)
          · repeat (first | exact HB.out | exact HB.out.drew | refine Below_step ?_ (Below_new _ _) | refine Below.drew ?_)
        exact AllReadyH.nil
      refine AllReadyH.cons (o := ?_) ?_ (fun K hK => ?_) ?_
      rotate_left 1
      · (simp only [List.getElem?_toArray, List.getElem?_cons_succ, List.getElem?_cons_zero]; rfl)
      · go_simp
        skip
        clear hHeld
        refine hK.out _ _ ⟨Arr.wholeC (c := c) (by repeat (first | exact HP.out | exact HP.out.drew | refine Arr.al ?_ _)), by repeat (first | exact c0 | refine cell_al ?_ _)⟩ (fun hHeld => ?_)
        clear hK K
        try simp only [Act.put, List.setIfInBounds_toArray, List.set_cons_zero, List.set_cons_succ]
        refine wpAnyH_ready (rs := [3, 12]) (by kernel_rfl) (by simp) ?_
        refine AllReadyH.cons (o := ?_) ?_ (fun K hK => ?_) ?_
        rotate_left 1
        · (simp only [List.getElem?_toArray, List.getElem?_cons_succ, List.getElem?_cons_zero]; rfl)
        · go_simp
          skip
          clear hHeld
          refine hK.out _ _ ⟨Arr.wholeC (c := c) (by repeat (first | exact HP.out | exact HP.out.drew | refine Arr.al ?_ _)), by repeat (first | exact c0 | refine cell_al ?_ _)⟩ (fun hHeld => ?_)
          clear hK K
          try simp only [Act.put, List.setIfInBounds_toArray, List.set_cons_zero, List.set_cons_succ]
          refine rdy 12 fun K hK => ?_
          go_simp
          clear hHeld
          refine hK.out _ _ ⟨Arr.wholeC (c := c) (by repeat (first | exact HP.out | exact HP.out.drew | refine Arr.al ?_ _)), by repeat (first | exact c0 | refine cell_al ?_ _)⟩ (fun hHeld => ?_)
          clear hK K
          try simp only [Act.put, List.setIfInBounds_toArray, List.set_cons_zero, List.set_cons_succ]
          refine tk 13 ?_
          refine rdy 14 fun K hK => ?_
          go_simp
          clear hHeld
          refine hK.out _ _ ⟨Arr.wholeC (c := c) (by repeat (first | exact HP.out | exact HP.out.drew | refine Arr.al ?_ _)), by repeat (first | exact c0 | refine cell_al ?_ _)⟩ (fun hHeld => ?_)
          clear hK K
          try simp only [Act.put, List.setIfInBounds_toArray, List.set_cons_zero, List.set_cons_succ]
          refine tk 15 ?_
          refine wpAnyH_done (by kernel_rfl) (NoPanic.normal ?_) _
          clear hHeld
          go_wp2_with fail
          go_meet
          refine ⟨w1.heap.size + 1 + 1 + 1 + 1, w1.heap.size + 1 + 1, w1.heap.size + 1, w1.heap.size, w1.heap.size + 1 + 1 + 1, rfl, RAt.fresh (by repeat (first | with_reducible refine Arr.drew ?_ | (refine Arr.mk _ ?_ rfl; first | (with_reducible rfl) | (simp only [World.size_alloc]; done)))) (by simp [reRow, newCo, newRP, Cfg.row]) (by have := HSZ.out; omega) ?_ ?_ ?_ ?_ (by omega), ?_, ?_⟩
          · repeat (first | with_reducible refine own_drew ?_ | (with_reducible refine own_mk1 ?_ ?_ HML.out _ rfl <;> first | (with_reducible rfl) | (simp only [World.size_alloc]; done) | (have := HSZ.out; omega) | (simp only [World.size_alloc]; have := HSZ.out; omega)) | refine own_al ?_ _)
          · repeat (first | with_reducible refine own_drew ?_ | (with_reducible refine own_mk1 ?_ ?_ HML.out _ rfl <;> first | (with_reducible rfl) | (simp only [World.size_alloc]; done) | (have := HSZ.out; omega) | (simp only [World.size_alloc]; have := HSZ.out; omega)) | refine own_al ?_ _)
          · repeat (first | with_reducible refine own_drew ?_ | (with_reducible refine own_mk2 ?_ ?_ HML.out _ _ rfl <;> first | (with_reducible rfl) | (simp only [World.size_alloc]; done) | (have := HSZ.out; omega) | (simp only [World.size_alloc]; have := HSZ.out; omega)) | refine own_al ?_ _)
          · repeat (first | with_reducible refine own_drew ?_ | (with_reducible refine own_mk1 ?_ ?_ HML.out _ rfl <;> first | (with_reducible rfl) | (simp only [World.size_alloc]; done) | (have := HSZ.out; omega) | (simp only [World.size_alloc]; have := HSZ.out; omega)) | refine own_al ?_ _)
          · repeat (first | exact HP.out | exact HP.out.drew | refine Arr.al ?_ _ | refine Arr.drew ?_)
          · repeat (first | exact HB.out | exact HB.out.drew | refine Below_step ?_ (Below_new _ _) | refine Below.drew ?_)
        refine AllReadyH.cons (o := ?_) ?_ (fun K hK => ?_) ?_
        rotate_left 1
        · (simp only [List.getElem?_toArray, List.getElem?_cons_succ, List.getElem?_cons_zero]; rfl)
        · go_simp
          skip
          clear hHeld
          refine hK.out _ _ ⟨Arr.wholeC (c := c) (by repeat (first | exact HP.out | exact HP.out.drew | refine Arr.al ?_ _)), by repeat (first | exact c0 | refine cell_al ?_ _)⟩ (fun hHeld => ?_)
          clear hK K
          try simp only [Act.put, List.setIfInBounds_toArray, List.set_cons_zero, List.set_cons_succ]
          refine rdy 3 fun K hK => ?_
          go_simp
          clear hHeld
          refine hK.out _ _ ⟨Arr.wholeC (c := c) (by repeat (first | exact HP.out | exact HP.out.drew | refine Arr.al ?_ _)), by repeat (first | exact c0 | refine cell_al ?_ _)⟩ (fun hHeld => ?_)
          clear hK K
          try simp only [Act.put, List.setIfInBounds_toArray, List.set_cons_zero, List.set_cons_succ]
          refine tk 13 ?_
          refine rdy 14 fun K hK => ?_
          go_simp
          clear hHeld
          refine hK.out _ _ ⟨Arr.wholeC (c := c) (by repeat (first | exact HP.out | exact HP.out.drew | refine Arr.al ?_ _)), by repeat (first | exact c0 | refine cell_al ?_ _)⟩ (fun hHeld => ?_)
          clear hK K
          try simp only [Act.put, List.setIfInBounds_toArray, List.set_cons_zero, List.set_cons_succ]
          refine tk 15 ?_
          refine wpAnyH_done (by kernel_rfl) (NoPanic.normal ?_) _
          clear hHeld
          go_wp2_with fail
          go_meet
          refine ⟨w1.heap.size + 1 + 1 + 1 + 1, w1.heap.size + 1 + 1 + 1, w1.heap.size + 1, w1.heap.size, w1.heap.size + 1 + 1, rfl, RAt.fresh (by repeat (first | with_reducible refine Arr.drew ?_ | (refine Arr.mk _ ?_ rfl; first | (with_reducible rfl) | (simp only [World.size_alloc]; done)))) (by simp [reRow, newCo, newRP, Cfg.row]) (by have := HSZ.out; omega) ?_ ?_ ?_ ?_ (by omega), ?_, ?_⟩
          · repeat (first | with_reducible refine own_drew ?_ | (with_reducible refine own_mk1 ?_ ?_ HML.out _ rfl <;> first | (with_reducible rfl) | (simp only [World.size_alloc]; done) | (have := HSZ.out; omega) | (simp only [World.size_alloc]; have := HSZ.out; omega)) | refine own_al ?_ _)
          · repeat (first | with_reducible refine own_drew ?_ | (with_reducible refine own_mk1 ?_ ?_ HML.out _ rfl <;> first | (with_reducible rfl) | (simp only [World.size_alloc]; done) | (have := HSZ.out; omega) | (simp only [World.size_alloc]; have := HSZ.out; omega)) | refine own_al ?_ _)
          · repeat (first | with_reducible refine own_drew ?_ | (with_reducible refine own_mk2 ?_ ?_ HML.out _ _ rfl <;> first | (with_reducible rfl) | (simp only [World.size_alloc]; done) | (have := HSZ.out; omega) | (simp only [World.size_alloc]; have := HSZ.out; omega)) | refine own_al ?_ _)
          · repeat (first | with_reducible refine own_drew ?_ | (with_reducible refine own_mk1 ?_ ?_ HML.out _ rfl <;> first | (with_reducible rfl) | (simp only [World.size_alloc]; done) | (have := HSZ.out; omega) | (simp only [World.size_alloc]; have := HSZ.out; omega)) | refine own_al ?_ _)
          · repeat (first | exact HP.out | exact HP.out.drew | refine Arr.al ?_ _ | refine Arr.drew ?_)
          · repeat (first | exact HB.out | exact HB.out.drew | refine Below_step ?_ (Below_new _ _) | refine Below.drew ?_)
        exact AllReadyH.nil
      refine AllReadyH.cons (o := ?_) ?_ (fun K hK => ?_) ?_
      rotate_left 1
      · (simp only [List.getElem?_toArray, List.getElem?_cons_succ, List.getElem?_cons_zero]; rfl)
      · go_simp
        skip
        clear hHeld
        refine hK.out _ _ ⟨Arr.wholeC (c := c) (by repeat (first | exact HP.out | exact HP.out.drew | refine Arr.al ?_ _)), by repeat (first | exact c0 | refine cell_al ?_ _)⟩ (fun hHeld => ?_)
        clear hK K
        try simp only [Act.put, List.setIfInBounds_toArray, List.set_cons_zero, List.set_cons_succ]
        refine wpAnyH_ready (rs := [3, 6]) (by kernel_rfl) (by simp) ?_
        refine AllReadyH.cons (o := ?_) ?_ (fun K hK => ?_) ?_
        rotate_left 1
        · (simp only [List.getElem?_toArray, List.getElem?_cons_succ, List.getElem?_cons_zero]; rfl)
        · go_simp
          skip
          clear hHeld
          refine hK.out _ _ ⟨Arr.wholeC (c := c) (by repeat (first | exact HP.out | exact HP.out.drew | refine Arr.al ?_ _)), by repeat (first | exact c0 | refine cell_al ?_ _)⟩ (fun hHeld => ?_)
          clear hK K
          try simp only [Act.put, List.setIfInBounds_toArray, List.set_cons_zero, List.set_cons_succ]
          refine rdy 6 fun K hK => ?_
          go_simp
          clear hHeld
          refine hK.out _ _ ⟨Arr.wholeC (c := c) (by repeat (first | exact HP.out | exact HP.out.drew | refine Arr.al ?_ _)), by repeat (first | exact c0 | refine cell_al ?_ _)⟩ (fun hHeld => ?_)
          clear hK K
          try simp only [Act.put, List.setIfInBounds_toArray, List.set_cons_zero, List.set_cons_succ]
          refine tk 13 ?_
          refine rdy 14 fun K hK => ?_
          go_simp
          clear hHeld
          refine hK.out _ _ ⟨Arr.wholeC (c := c) (by repeat (first | exact HP.out | exact HP.out.drew | refine Arr.al ?_ _)), by repeat (first | exact c0 | refine cell_al ?_ _)⟩ (fun hHeld => ?_)
          clear hK K
          try simp only [Act.put, List.setIfInBounds_toArray, List.set_cons_zero, List.set_cons_succ]
          refine tk 15 ?_
          refine wpAnyH_done (by kernel_rfl) (NoPanic.normal ?_) _
          clear hHeld
          go_wp2_with fail
          go_meet
          refine ⟨w1.heap.size + 1 + 1 + 1 + 1, w1.heap.size + 1 + 1, w1.heap.size + 1 + 1 + 1, w1.heap.size, w1.heap.size + 1, rfl, RAt.fresh (by repeat (first | with_reducible refine Arr.drew ?_ | (refine Arr.mk _ ?_ rfl; first | (with_reducible rfl) | (simp only [World.size_alloc]; done)))) (by simp [reRow, newCo, newRP, Cfg.row]) (by have := HSZ.out; omega) ?_ ?_ ?_ ?_ (by omega), ?_, ?_⟩
          · repeat (first | with_reducible refine own_drew ?_ | (with_reducible refine own_mk1 ?_ ?_ HML.out _ rfl <;> first | (with_reducible rfl) | (simp only [World.size_alloc]; done) | (have := HSZ.out; omega) | (simp only [World.size_alloc]; have := HSZ.out; omega)) | refine own_al ?_ _)
          · repeat (first | with_reducible refine own_drew ?_ | (with_reducible refine own_mk1 ?_ ?_ HML.out _ rfl <;> first | (with_reducible rfl) | (simp only [World.size_alloc]; done) | (have := HSZ.out; omega) | (simp only [World.size_alloc]; have := HSZ.out; omega)) | refine own_al ?_ _)
          · repeat (first | with_reducible refine own_drew ?_ | (with_reducible refine own_mk2 ?_ ?_ HML.out _ _ rfl <;> first | (with_reducible rfl) | (simp only [World.size_alloc]; done) | (have := HSZ.out; omega) | (simp only [World.size_alloc]; have := HSZ.out; omega)) | refine own_al ?_ _)
          · repeat (first | with_reducible refine own_drew ?_ | (with_reducible refine own_mk1 ?_ ?_ HML.out _ rfl <;> first | (with_reducible rfl) | (simp only [World.size_alloc]; done) | (have := HSZ.out; omega) | (simp only [World.size_alloc]; have := HSZ.out; omega)) | refine own_al ?_ _)
          · repeat (first | exact HP.out | exact HP.out.drew | refine Arr.al ?_ _ | refine Arr.drew ?_)
          · repeat (first | exact HB.out | exact HB.out.drew | refine Below_step ?_ (Below_new _ _) | refine Below.drew ?_)
        refine AllReadyH.cons (o := ?_) ?_ (fun K hK => ?_) ?_
        rotate_left 1
        · (simp only [List.getElem?_toArray, List.getElem?_cons_succ, List.getElem?_cons_zero]; rfl)
        · go_simp
          skip
          clear hHeld
          refine hK.out _ _ ⟨Arr.wholeC (c := c) (by repeat (first | exact HP.out | exact HP.out.drew | refine Arr.al ?_ _)), by repeat (first | exact c0 | refine cell_al ?_ _)⟩ (fun hHeld => ?_)
          clear hK K
          try simp only [Act.put, List.setIfInBounds_toArray, List.set_cons_zero, List.set_cons_succ]
          refine rdy 3 fun K hK => ?_
          go_simp
          clear hHeld
          refine hK.out _ _ ⟨Arr.wholeC (c := c) (by repeat (first | exact HP.out | exact HP.out.drew | refine Arr.al ?_ _)), by repeat (first | exact c0 | refine cell_al ?_ _)⟩ (fun hHeld => ?_)
          clear hK K
          try simp only [Act.put, List.setIfInBounds_toArray, List.set_cons_zero, List.set_cons_succ]
          refine tk 13 ?_
          refine rdy 14 fun K hK => ?_
          go_simp
          clear hHeld
          refine hK.out _ _ ⟨Arr.wholeC (c := c) (by repeat (first | exact HP.out | exact HP.out.drew | refine Arr.al ?_ _)), by repeat (first | exact c0 | refine cell_al ?_ _)⟩ (fun hHeld => ?_)
          clear hK K
          try simp only [Act.put, List.setIfInBounds_toArray, List.set_cons_zero, List.set_cons_succ]
          refine tk 15 ?_
          refine wpAnyH_done (by kernel_rfl) (NoPanic.normal ?_) _
          clear hHeld
          go_wp2_with fail
          go_meet
          refine ⟨w1.heap.size + 1 + 1 + 1 + 1, w1.heap.size + 1 + 1 + 1, w1.heap.size + 1 + 1, w1.heap.size, w1.heap.size + 1, rfl, RAt.fresh (by repeat (first | with_reducible refine Arr.drew ?_ | (refine Arr.mk _ ?_ rfl; first | (with_reducible rfl) | (simp only [World.size_alloc]; done)))) (by simp [reRow, newCo, newRP, Cfg.row]) (by have := HSZ.out; omega) ?_ ?_ ?_ ?_ (by omega), ?_, ?_⟩
          · repeat (first | with_reducible refine own_drew ?_ | (with_reducible refine own_mk1 ?_ ?_ HML.out _ rfl <;> first | (with_reducible rfl) | (simp only [World.size_alloc]; done) | (have := HSZ.out; omega) | (simp only [World.size_alloc]; have := HSZ.out; omega)) | refine own_al ?_ _)
          · repeat (first | with_reducible refine own_drew ?_ | (with_reducible refine own_mk1 ?_ ?_ HML.out _ rfl <;> first | (with_reducible rfl) | (simp only [World.size_alloc]; done) | (have := HSZ.out; omega) | (simp only [World.size_alloc]; have := HSZ.out; omega)) | refine own_al ?_ _)
          · repeat (first | with_reducible refine own_drew ?_ | (with_reducible refine own_mk2 ?_ ?_ HML.out _ _ rfl <;> first | (with_reducible rfl) | (simp only [World.size_alloc]; done) | (have := HSZ.out; omega) | (simp only [World.size_alloc]; have := HSZ.out; omega)) | refine own_al ?_ _)
          · repeat (first | with_reducible refine own_drew ?_ | (with_reducible refine own_mk1 ?_ ?_ HML.out _ rfl <;> first | (with_reducible rfl) | (simp only [World.size_alloc]; done) | (have := HSZ.out; omega) | (simp only [World.size_alloc]; have := HSZ.out; omega)) | refine own_al ?_ _)
          · repeat (first | exact HP.out | exact HP.out.drew | refine Arr.al ?_ _ | refine Arr.drew ?_)
          · repeat (first | exact HB.out | exact HB.out.drew | refine Below_step ?_ (Below_new _ _) | refine Below.drew ?_)
        exact AllReadyH.nil
      exact AllReadyH.nil
    refine AllReadyH.cons (o := ?_) ?_ (fun K hK => ?_) ?_
    rotate_left 1
    · (simp only [List.getElem?_toArray, List.getElem?_cons_succ, List.getElem?_cons_zero]; rfl)
    · go_simp
      skip
      clear hHeld
      refine hK.out _ _ ⟨Arr.wholeC (c := c) (by repeat (first | exact HP.out | exact HP.out.drew | refine Arr.al ?_ _)), by repeat (first | exact c0 | refine cell_al ?_ _)⟩ (fun hHeld => ?_)
      clear hK K
      try simp only [Act.put, List.setIfInBounds_toArray, List.set_cons_zero, List.set_cons_succ]
      refine wpAnyH_ready (rs := [3, 6, 9]) (by kernel_rfl) (by simp) ?_
      refine AllReadyH.cons (o := ?_) ?_ (fun K hK => ?_) ?_
      rotate_left 1
      · (simp only [List.getElem?_toArray, List.getElem?_cons_succ, List.getElem?_cons_zero]; rfl)
      · go_simp
        skip
        clear hHeld
        refine hK.out _ _ ⟨Arr.wholeC (c := c) (by repeat (first | exact HP.out | exact HP.out.drew | refine Arr.al ?_ _)), by repeat (first | exact c0 | refine cell_al ?_ _)⟩ (fun hHeld => ?_)
        clear hK K
        try simp only [Act.put, List.setIfInBounds_toArray, List.set_cons_zero, List.set_cons_succ]
        refine wpAnyH_ready (rs := [6, 9]) (by kernel_rfl) (by simp) ?_
        refine AllReadyH.cons (o := ?_) ?_ (fun K hK => ?_) ?_
        rotate_left 1
        · (simp only [List.getElem?_toArray, List.getElem?_cons_succ, List.getElem?_cons_zero]; rfl)
        · go_simp
          skip
          clear hHeld
          refine hK.out _ _ ⟨Arr.wholeC (c := c) (by repeat (first | exact HP.out | exact HP.out.drew | refine Arr.al ?_ _)), by repeat (first | exact c0 | refine cell_al ?_ _)⟩ (fun hHeld => ?_)
          clear hK K
          try simp only [Act.put, List.setIfInBounds_toArray, List.set_cons_zero, List.set_cons_succ]
          refine rdy 9 fun K hK => ?_
          go_simp
          clear hHeld
          refine hK.out _ _ ⟨Arr.wholeC (c := c) (by repeat (first | exact HP.out | exact HP.out.drew | refine Arr.al ?_ _)), by repeat (first | exact c0 | refine cell_al ?_ _)⟩ (fun hHeld => ?_)
          clear hK K
          try simp only [Act.put, List.setIfInBounds_toArray, List.set_cons_zero, List.set_cons_succ]
          refine tk 13 ?_
          refine rdy 14 fun K hK => ?_
          go_simp
          clear hHeld
          refine hK.out _ _ ⟨Arr.wholeC (c := c) (by repeat (first | exact HP.out | exact HP.out.drew | refine Arr.al ?_ _)), by repeat (first | exact c0 | refine cell_al ?_ _)⟩ (fun hHeld => ?_)
          clear hK K
          try simp only [Act.put, List.setIfInBounds_toArray, List.set_cons_zero, List.set_cons_succ]
          refine tk 15 ?_
          refine wpAnyH_done (by kernel_rfl) (NoPanic.normal ?_) _
          clear hHeld
          go_wp2_with fail
          go_meet
          refine ⟨w1.heap.size + 1 + 1 + 1 + 1, w1.heap.size + 1, w1.heap.size + 1 + 1, w1.heap.size + 1 + 1 + 1, w1.heap.size, rfl, RAt.fresh (by repeat (first | with_reducible refine Arr.drew ?_ | (refine Arr.mk _ ?_ rfl; first | (with_reducible rfl) | (simp only [World.size_alloc]; done)))) (by simp [reRow, newCo, newRP, Cfg.row]) (by have := HSZ.out; omega) ?_ ?_ ?_ ?_ (by omega), ?_, ?_⟩
          · repeat (first | with_reducible refine own_drew ?_ | (with_reducible refine own_mk1 ?_ ?_ HML.out _ rfl <;> first | (with_reducible rfl) | (simp only [World.size_alloc]; done) | (have := HSZ.out; omega) | (simp only [World.size_alloc]; have := HSZ.out; omega)) | refine own_al ?_ _)
          · repeat (first | with_reducible refine own_drew ?_ | (with_reducible refine own_mk1 ?_ ?_ HML.out _ rfl <;> first | (with_reducible rfl) | (simp only [World.size_alloc]; done) | (have := HSZ.out; omega) | (simp only [World.size_alloc]; have := HSZ.out; omega)) | refine own_al ?_ _)
          · repeat (first | with_reducible refine own_drew ?_ | (with_reducible refine own_mk2 ?_ ?_ HML.out _ _ rfl <;> first | (with_reducible rfl) | (simp only [World.size_alloc]; done) | (have := HSZ.out; omega) | (simp only [World.size_alloc]; have := HSZ.out; omega)) | refine own_al ?_ _)
          · repeat (first | with_reducible refine own_drew ?_ | (with_reducible refine own_mk1 ?_ ?_ HML.out _ rfl <;> first | (with_reducible rfl) | (simp only [World.size_alloc]; done) | (have := HSZ.out; omega) | (simp only [World.size_alloc]; have := HSZ.out; omega)) | refine own_al ?_ _)
          · repeat (first | exact HP.out | exact HP.out.drew | refine Arr.al ?_ _ | refine Arr.drew ?_)
          · repeat (first | exact HB.out | exact HB.out.drew | refine Below_step ?_ (Below_new _ _) | refine Below.drew ?_)
        refine AllReadyH.cons (o := ?_) ?_ (fun K hK => ?_) ?_
        rotate_left 1
        · (simp only [List.getElem?_toArray, List.getElem?_cons_succ, List.getElem?_cons_zero]; rfl)
        · go_simp
          skip
          clear hHeld
          refine hK.out _ _ ⟨Arr.wholeC (c := c) (by repeat (first | exact HP.out | exact HP.out.drew | refine Arr.al ?_ _)), by repeat (first | exact c0 | refine cell_al ?_ _)⟩ (fun hHeld => ?_)
          clear hK K
          try simp only [Act.put, List.setIfInBounds_toArray, List.set_cons_zero, List.set_cons_succ]
          refine rdy 6 fun K hK => ?_
          go_simp
          clear hHeld
          refine hK.out _ _ ⟨Arr.wholeC (c := c) (by repeat (first | exact HP.out | exact HP.out.drew | refine Arr.al ?_ _)), by repeat (first | exact c0 | refine cell_al ?_ _)⟩ (fun hHeld => ?_)
          clear hK K
          try simp only [Act.put, List.setIfInBounds_toArray, List.set_cons_zero, List.set_cons_succ]
          refine tk 13 ?_
          refine rdy 14 fun K hK => ?_
          go_simp
          clear hHeld
          refine hK.out _ _ ⟨Arr.wholeC (c := c) (by repeat (first | exact HP.out | exact HP.out.drew | refine Arr.al ?_ _)), by repeat (first | exact c0 | refine cell_al ?_ _)⟩ (fun hHeld => ?_)
          clear hK K
          try simp only [Act.put, List.setIfInBounds_toArray, List.set_cons_zero, List.set_cons_succ]
          refine tk 15 ?_
          refine wpAnyH_done (by kernel_rfl) (NoPanic.normal ?_) _
          clear hHeld
          go_wp2_with fail
          go_meet
          refine ⟨w1.heap.size + 1 + 1 + 1 + 1, w1.heap.size + 1, w1.heap.size + 1 + 1 + 1, w1.heap.size + 1 + 1, w1.heap.size, rfl, RAt.fresh (by repeat (first | with_reducible refine Arr.drew ?_ | (refine Arr.mk _ ?_ rfl; first | (with_reducible rfl) | (simp only [World.size_alloc]; done)))) (by simp [reRow, newCo, newRP, Cfg.row]) (by have := HSZ.out; omega) ?_ ?_ ?_ ?_ (by omega), ?_, ?_⟩
          · repeat (first | with_reducible refine own_drew ?_ | (with_reducible refine own_mk1 ?_ ?_ HML.out _ rfl <;> first | (with_reducible rfl) | (simp only [World.size_alloc]; done) | (have := HSZ.out; omega) | (simp only [World.size_alloc]; have := HSZ.out; omega)) | refine own_al ?_ _)
          · repeat (first | with_reducible refine own_drew ?_ | (with_reducible refine own_mk1 ?_ ?_ HML.out _ rfl <;> first | (with_reducible rfl) | (simp only [World.size_alloc]; done) | (have := HSZ.out; omega) | (simp only [World.size_alloc]; have := HSZ.out; omega)) | refine own_al ?_ _)
          · repeat (first | with_reducible refine own_drew ?_ | (with_reducible refine own_mk2 ?_ ?_ HML.out _ _ rfl <;> first | (with_reducible rfl) | (simp only [World.size_alloc]; done) | (have := HSZ.out; omega) | (simp only [World.size_alloc]; have := HSZ.out; omega)) | refine own_al ?_ _)
          · repeat (first | with_reducible refine own_drew ?_ | (with_reducible refine own_mk1 ?_ ?_ HML.out _ rfl <;> first | (with_reducible rfl) | (simp only [World.size_alloc]; done) | (have := HSZ.out; omega) | (simp only [World.size_alloc]; have := HSZ.out; omega)) | refine own_al ?_ _)
          · repeat (first | exact HP.out | exact HP.out.drew | refine Arr.al ?_ _ | refine Arr.drew ?_)
          · repeat (first | exact HB.out | exact HB.out.drew | refine Below_step ?_ (Below_new _ _) | refine Below.drew ?_)
        exact AllReadyH.nil
      refine AllReadyH.cons (o := ?_) ?_ (fun K hK => ?_) ?_
      rotate_left 1
      · (simp only [List.getElem?_toArray, List.getElem?_cons_succ, List.getElem?_cons_zero]; rfl)
      · go_simp
        skip
        clear hHeld
        refine hK.out _ _ ⟨Arr.wholeC (c := c) (by repeat (first | exact HP.out | exact HP.out.drew | refine Arr.al ?_ _)), by repeat (first | exact c0 | refine cell_al ?_ _)⟩ (fun hHeld => ?_)
        clear hK K
        try simp only [Act.put, List.setIfInBounds_toArray, List.set_cons_zero, List.set_cons_succ]
        refine wpAnyH_ready (rs := [3, 9]) (by kernel_rfl) (by simp) ?_
        refine AllReadyH.cons (o := ?_) ?_ (fun K hK => ?_) ?_
        rotate_left 1
        · (simp only [List.getElem?_toArray, List.getElem?_cons_succ, List.getElem?_cons_zero]; rfl)
        · go_simp
          skip
          clear hHeld
          refine hK.out _ _ ⟨Arr.wholeC (c := c) (by repeat (first | exact HP.out | exact HP.out.drew | refine Arr.al ?_ _)), by repeat (first | exact c0 | refine cell_al ?_ _)⟩ (fun hHeld => ?_)
          clear hK K
          try simp only [Act.put, List.setIfInBounds_toArray, List.set_cons_zero, List.set_cons_succ]
          refine rdy 9 fun K hK => ?_
          go_simp
          clear hHeld
          refine hK.out _ _ ⟨Arr.wholeC (c := c) (by repeat (first | exact HP.out | exact HP.out.drew | refine Arr.al ?_ _)), by repeat (first | exact c0 | refine cell_al ?_ _)⟩ (fun hHeld => ?_)
          clear hK K
          try simp only [Act.put, List.setIfInBounds_toArray, List.set_cons_zero, List.set_cons_succ]
          refine tk 13 ?_
          refine rdy 14 fun K hK => ?_
          go_simp
          clear hHeld
          refine hK.out _ _ ⟨Arr.wholeC (c := c) (by repeat (first | exact HP.out | exact HP.out.drew | refine Arr.al ?_ _)), by repeat (first | exact c0 | refine cell_al ?_ _)⟩ (fun hHeld => ?_)
          clear hK K
          try simp only [Act.put, List.setIfInBounds_toArray, List.set_cons_zero, List.set_cons_succ]
          refine tk 15 ?_
          refine wpAnyH_done (by kernel_rfl) (NoPanic.normal ?_) _
          clear hHeld
          go_wp2_with fail
          go_meet
          refine ⟨w1.heap.size + 1 + 1 + 1 + 1, w1.heap.size + 1 + 1, w1.heap.size + 1, w1.heap.size + 1 + 1 + 1, w1.heap.size, rfl, RAt.fresh (by repeat (first | with_reducible refine Arr.drew ?_ | (refine Arr.mk _ ?_ rfl; first | (with_reducible rfl) | (simp only [World.size_alloc]; done)))) (by simp [reRow, newCo, newRP, Cfg.row]) (by have := HSZ.out; omega) ?_ ?_ ?_ ?_ (by omega), ?_, ?_⟩
          · repeat (first | with_reducible refine own_drew ?_ | (with_reducible refine own_mk1 ?_ ?_ HML.out _ rfl <;> first | (with_reducible rfl) | (simp only [World.size_alloc]; done) | (have := HSZ.out; omega) | (simp only [World.size_alloc]; have := HSZ.out; omega)) | refine own_al ?_ _)
          · repeat (first | with_reducible refine own_drew ?_ | (with_reducible refine own_mk1 ?_ ?_ HML.out _ rfl <;> first | (with_reducible rfl) | (simp only [World.size_alloc]; done) | (have := HSZ.out; omega) | (simp only [World.size_alloc]; have := HSZ.out; omega)) | refine own_al ?_ _)
          · repeat (first | with_reducible refine own_drew ?_ | (with_reducible refine own_mk2 ?_ ?_ HML.out _ _ rfl <;> first | (with_reducible rfl) | (simp only [World.size_alloc]; done) | (have := HSZ.out; omega) | (simp only [World.size_alloc]; have := HSZ.out; omega)) | refine own_al ?_ _)
          · repeat (first | with_reducible refine own_drew ?_ | (with_reducible refine own_mk1 ?_ ?_ HML.out _ rfl <;> first | (with_reducible rfl) | (simp only [World.size_alloc]; done) | (have := HSZ.out; omega) | (simp only [World.size_alloc]; have := HSZ.out; omega)) | refine own_al ?_ _)
          · repeat (first | exact HP.out | exact HP.out.drew | refine Arr.al ?_ _ | refine Arr.drew ?_)
          · repeat (first | exact HB.out | exact HB.out.drew | refine Below_step ?_ (Below_new _ _) | refine Below.drew ?_)
        refine AllReadyH.cons (o := ?_) ?_ (fun K hK => ?_) ?_
        rotate_left 1
        · (simp only [List.getElem?_toArray, List.getElem?_cons_succ, List.getElem?_cons_zero]; rfl)
        · go_simp
          skip
          clear hHeld
          refine hK.out _ _ ⟨Arr.wholeC (c := c) (by repeat (first | exact HP.out | exact HP.out.drew | refine Arr.al ?_ _)), by repeat (first | exact c0 | refine cell_al ?_ _)⟩ (fun hHeld => ?_)
          clear hK K
          try simp only [Act.put, List.setIfInBounds_toArray, List.set_cons_zero, List.set_cons_succ]
          refine rdy 3 fun K hK => ?_
          go_simp
          clear hHeld
          refine hK.out _ _ ⟨Arr.wholeC (c := c) (by repeat (first | exact HP.out | exact HP.out.drew | refine Arr.al ?_ _)), by repeat (first | exact c0 | refine cell_al ?_ _)⟩ (fun hHeld => ?_)
          clear hK K
          try simp only [Act.put, List.setIfInBounds_toArray, List.set_cons_zero, List.set_cons_succ]
          refine tk 13 ?_
          refine rdy 14 fun K hK => ?_
          go_simp
          clear hHeld
          refine hK.out _ _ ⟨Arr.wholeC (c := c) (by repeat (first | exact HP.out | exact HP.out.drew | refine Arr.al ?_ _)), by repeat (first | exact c0 | refine cell_al ?_ _)⟩ (fun hHeld => ?_)
          clear hK K
          try simp only [Act.put, List.setIfInBounds_toArray, List.set_cons_zero, List.set_cons_succ]
          refine tk 15 ?_
          refine wpAnyH_done (by kernel_rfl) (NoPanic.normal ?_) _
          clear hHeld
          go_wp2_with fail
          go_meet
          refine ⟨w1.heap.size + 1 + 1 + 1 + 1, w1.heap.size + 1 + 1 + 1, w1.heap.size + 1, w1.heap.size + 1 + 1, w1.heap.size, rfl, RAt.fresh (by repeat (first | with_reducible refine Arr.drew ?_ | (refine Arr.mk _ ?_ rfl; first | (with_reducible rfl) | (simp only [World.size_alloc]; done)))) (by simp [reRow, newCo, newRP, Cfg.row]) (by have := HSZ.out; omega) ?_ ?_ ?_ ?_ (by omega), ?_, ?_⟩
          · repeat (first | with_reducible refine own_drew ?_ | (with_reducible refine own_mk1 ?_ ?_ HML.out _ rfl <;> first | (with_reducible rfl) | (simp only [World.size_alloc]; done) | (have := HSZ.out; omega) | (simp only [World.size_alloc]; have := HSZ.out; omega)) | refine own_al ?_ _)
          · repeat (first | with_reducible refine own_drew ?_ | (with_reducible refine own_mk1 ?_ ?_ HML.out _ rfl <;> first | (with_reducible rfl) | (simp only [World.size_alloc]; done) | (have := HSZ.out; omega) | (simp only [World.size_alloc]; have := HSZ.out; omega)) | refine own_al ?_ _)
          · repeat (first | with_reducible refine own_drew ?_ | (with_reducible refine own_mk2 ?_ ?_ HML.out _ _ rfl <;> first | (with_reducible rfl) | (simp only [World.size_alloc]; done) | (have := HSZ.out; omega) | (simp only [World.size_alloc]; have := HSZ.out; omega)) | refine own_al ?_ _)
          · repeat (first | with_reducible refine own_drew ?_ | (with_reducible refine own_mk1 ?_ ?_ HML.out _ rfl <;> first | (with_reducible rfl) | (simp only [World.size_alloc]; done) | (have := HSZ.out; omega) | (simp only [World.size_alloc]; have := HSZ.out; omega)) | refine own_al ?_ _)
          · repeat (first | exact HP.out | exact HP.out.drew | refine Arr.al ?_ _ | refine Arr.drew ?_)
          · repeat (first | exact HB.out | exact HB.out.drew | refine Below_step ?_ (Below_new _ _) | refine Below.drew ?_)
        exact AllReadyH.nil
      refine AllReadyH.cons (o := ?_) ?_ (fun K hK => ?_) ?_
      rotate_left 1
      · (simp only [List.getElem?_toArray, List.getElem?_cons_succ, List.getElem?_cons_zero]; rfl)
      · go_simp
        skip
        clear hHeld
        refine hK.out _ _ ⟨Arr.wholeC (c := c) (by repeat (first | exact HP.out | exact HP.out.drew | refine Arr.al ?_ _)), by repeat (first | exact c0 | refine cell_al ?_ _)⟩ (fun hHeld => ?_)
        clear hK K
        try simp only [Act.put, List.setIfInBounds_toArray, List.set_cons_zero, List.set_cons_succ]
        refine wpAnyH_ready (rs := [3, 6]) (by kernel_rfl) (by simp) ?_
        refine AllReadyH.cons (o := ?_) ?_ (fun K hK => ?_) ?_
        rotate_left 1
        · (simp only [List.getElem?_toArray, List.getElem?_cons_succ, List.getElem?_cons_zero]; rfl)
        · go_simp
          skip
          clear hHeld
          refine hK.out _ _ ⟨Arr.wholeC (c := c) (by repeat (first | exact HP.out | exact HP.out.drew | refine Arr.al ?_ _)), by repeat (first | exact c0 | refine cell_al ?_ _)⟩ (fun hHeld => ?_)
          clear hK K
          try simp only [Act.put, List.setIfInBounds_toArray, List.set_cons_zero, List.set_cons_succ]
          refine rdy 6 fun K hK => ?_
          go_simp
          clear hHeld
          refine hK.out _ _ ⟨Arr.wholeC (c := c) (by repeat (first | exact HP.out | exact HP.out.drew | refine Arr.al ?_ _)), by repeat (first | exact c0 | refine cell_al ?_ _)⟩ (fun hHeld => ?_)
          clear hK K
          try simp only [Act.put, List.setIfInBounds_toArray, List.set_cons_zero, List.set_cons_succ]
          refine tk 13 ?_
          refine rdy 14 fun K hK => ?_
          go_simp
          clear hHeld
          refine hK.out _ _ ⟨Arr.wholeC (c := c) (by repeat (first | exact HP.out | exact HP.out.drew | refine Arr.al ?_ _)), by repeat (first | exact c0 | refine cell_al ?_ _)⟩ (fun hHeld => ?_)
          clear hK K
          try simp only [Act.put, List.setIfInBounds_toArray, List.set_cons_zero, List.set_cons_succ]
          refine tk 15 ?_
          refine wpAnyH_done (by kernel_rfl) (NoPanic.normal ?_) _
          clear hHeld
          go_wp2_with fail
          go_meet
          refine ⟨w1.heap.size + 1 + 1 + 1 + 1, w1.heap.size + 1 + 1, w1.heap.size + 1 + 1 + 1, w1.heap.size + 1, w1.heap.size, rfl, RAt.fresh (by repeat (first | with_reducible refine Arr.drew ?_ | (refine Arr.mk _ ?_ rfl; first | (with_reducible rfl) | (simp only [World.size_alloc]; done)))) (by simp [reRow, newCo, newRP, Cfg.row]) (by have := HSZ.out; omega) ?_ ?_ ?_ ?_ (by omega), ?_, ?_⟩
          · repeat (first | with_reducible refine own_drew ?_ | (with_reducible refine own_mk1 ?_ ?_ HML.out _ rfl <;> first | (with_reducible rfl) | (simp only [World.size_alloc]; done) | (have := HSZ.out; omega) | (simp only [World.size_alloc]; have := HSZ.out; omega)) | refine own_al ?_ _)
          · repeat (first | with_reducible refine own_drew ?_ | (with_reducible refine own_mk1 ?_ ?_ HML.out _ rfl <;> first | (with_reducible rfl) | (simp only [World.size_alloc]; done) | (have := HSZ.out; omega) | (simp only [World.size_alloc]; have := HSZ.out; omega)) | refine own_al ?_ _)
          · repeat (first | with_reducible refine own_drew ?_ | (with_reducible refine own_mk2 ?_ ?_ HML.out _ _ rfl <;> first | (with_reducible rfl) | (simp only [World.size_alloc]; done) | (have := HSZ.out; omega) | (simp only [World.size_alloc]; have := HSZ.out; omega)) | refine own_al ?_ _)
          · repeat (first | with_reducible refine own_drew ?_ | (with_reducible refine own_mk1 ?_ ?_ HML.out _ rfl <;> first | (with_reducible rfl) | (simp only [World.size_alloc]; done) | (have := HSZ.out; omega) | (simp only [World.size_alloc]; have := HSZ.out; omega)) | refine own_al ?_ _)
          · repeat (first | exact HP.out | exact HP.out.drew | refine Arr.al ?_ _ | refine Arr.drew ?_)
          · repeat (first | exact HB.out | exact HB.out.drew | refine Below_step ?_ (Below_new _ _) | refine Below.drew ?_)
        refine AllReadyH.cons (o := ?_) ?_ (fun K hK => ?_) ?_
        rotate_left 1
        · (simp only [List.getElem?_toArray, List.getElem?_cons_succ, List.getElem?_cons_zero]; rfl)
        · go_simp
          skip
          clear hHeld
          refine hK.out _ _ ⟨Arr.wholeC (c := c) (by repeat (first | exact HP.out | exact HP.out.drew | refine Arr.al ?_ _)), by repeat (first | exact c0 | refine cell_al ?_ _)⟩ (fun hHeld => ?_)
          clear hK K
          try simp only [Act.put, List.setIfInBounds_toArray, List.set_cons_zero, List.set_cons_succ]
          refine rdy 3 fun K hK => ?_
          go_simp
          clear hHeld
          refine hK.out _ _ ⟨Arr.wholeC (c := c) (by repeat (first | exact HP.out | exact HP.out.drew | refine Arr.al ?_ _)), by repeat (first | exact c0 | refine cell_al ?_ _)⟩ (fun hHeld => ?_)
          clear hK K
          try simp only [Act.put, List.setIfInBounds_toArray, List.set_cons_zero, List.set_cons_succ]
          refine tk 13 ?_
          refine rdy 14 fun K hK => ?_
          go_simp
          clear hHeld
          refine hK.out _ _ ⟨Arr.wholeC (c := c) (by repeat (first | exact HP.out | exact HP.out.drew | refine Arr.al ?_ _)), by repeat (first | exact c0 | refine cell_al ?_ _)⟩ (fun hHeld => ?_)
          clear hK K
          try simp only [Act.put, List.setIfInBounds_toArray, List.set_cons_zero, List.set_cons_succ]
          refine tk 15 ?_
          refine wpAnyH_done (by kernel_rfl) (NoPanic.normal ?_) _
          clear hHeld
          go_wp2_with fail
          go_meet
          refine ⟨w1.heap.size + 1 + 1 + 1 + 1, w1.heap.size + 1 + 1 + 1, w1.heap.size + 1 + 1, w1.heap.size + 1, w1.heap.size, rfl, RAt.fresh (by repeat (first | with_reducible refine Arr.drew ?_ | (refine Arr.mk _ ?_ rfl; first | (with_reducible rfl) | (simp only [World.size_alloc]; done)))) (by simp [reRow, newCo, newRP, Cfg.row]) (by have := HSZ.out; omega) ?_ ?_ ?_ ?_ (by omega), ?_, ?_⟩
          · repeat (first | with_reducible refine own_drew ?_ | (with_reducible refine own_mk1 ?_ ?_ HML.out _ rfl <;> first | (with_reducible rfl) | (simp only [World.size_alloc]; done) | (have := HSZ.out; omega) | (simp only [World.size_alloc]; have := HSZ.out; omega)) | refine own_al ?_ _)
          · repeat (first | with_reducible refine own_drew ?_ | (with_reducible refine own_mk1 ?_ ?_ HML.out _ rfl <;> first | (with_reducible rfl) | (simp only [World.size_alloc]; done) | (have := HSZ.out; omega) | (simp only [World.size_alloc]; have := HSZ.out; omega)) | refine own_al ?_ _)
          · repeat (first | with_reducible refine own_drew ?_ | (with_reducible refine own_mk2 ?_ ?_ HML.out _ _ rfl <;> first | (with_reducible rfl) | (simp only [World.size_alloc]; done) | (have := HSZ.out; omega) | (simp only [World.size_alloc]; have := HSZ.out; omega)) | refine own_al ?_ _)
          · repeat (first | with_reducible refine own_drew ?_ | (with_reducible refine own_mk1 ?_ ?_ HML.out _ rfl <;> first | (with_reducible rfl) | (simp only [World.size_alloc]; done) | (have := HSZ.out; omega) | (simp only [World.size_alloc]; have := HSZ.out; omega)) | refine own_al ?_ _)
          · repeat (first | exact HP.out | exact HP.out.drew | refine Arr.al ?_ _ | refine Arr.drew ?_)
          · repeat (first | exact HB.out | exact HB.out.drew | refine Below_step ?_ (Below_new _ _) | refine Below.drew ?_)
        exact AllReadyH.nil
      exact AllReadyH.nil
    exact AllReadyH.nil
  case rest =>
  obtain ⟨x, hg, ag, wg, tg, rfl, hr1, hc1, hb1⟩ := hcut
  obtain ⟨w2, hw2⟩ : ∃ w2, w2 = wc := ⟨_, rfl⟩
  subst hw2
  have HR1 := hide hr1
  have HC1 := hide hc1
  have HB1 := hide hb1
  clear hr1 hc1 hb1 HP HB c0 mkI mkW mkB
  go_wp2_with fail
  go_loopg [4] m (fun gg s4 wr => ∃ (k : Nat) (p : RP), k ≤ m ∧ gg = m - k ∧ s4 = .int .i64 (k : Int) ∧ Hid (RAt w.heap.size wr x p (newK c m d k)) ∧ Hid (Arr 28 wr g1 c.row) ∧ Hid (Below w.heap.size w wr))
  case atStart => exact ⟨0, newRP m hg ag wg tg, by omega, rfl, rfl, HR1, HC1, HB1⟩
  case round =>
    obtain ⟨W1, hW1⟩ : ∃ W1, W1 = wr := ⟨_, rfl⟩
    subst hW1
    obtain ⟨k, p, hkm, rfl, rfl, HR, HC, HB⟩ := hrel
    have cN := HC.out.cell (j := 0) (by simp [Cfg.row])
    have cD := HC.out.cell (j := 3) (by simp [Cfg.row])
    simp only [Cfg.row, List.getElem_cons_zero, List.getElem_cons_succ] at cN cD
    rw [HM.out] at cN
    rw [HD.out] at cD
    by_cases hlt : k < m
    · have hkm2 : (k : Int) < (m : Int) := by omega
      have hll : (newK c m d k).ls.length = k := List.length_replicate
      have cL : W1.cell? ⟨x, 10, none⟩ = some (.slice p.A k p.gc) := by
        have := HR.out.cell (j := 10) (v := .slice p.A (newK c m d k).ls.length p.gc) rfl
        rwa [hll] at this
      go_upto_region 5 with fail
      have b2 := Below_new W1 (.cells (madeCells #[.int .u8 0] d) 5)
      have own2 : OwnB (W1.alloc (.cells (madeCells #[.int .u8 0] d) 5)) W1.heap.size (some ⟨W1.heap.size, 0, none⟩) d d (List.replicate d 0) := by
        show World.ownsRow _ _ _ _ _ _ _
        have e : (List.replicate d (0 : UInt8)).map bv = List.replicate d (.int .u8 0) := by rw [List.map_replicate]; rfl
        rw [e]
        exact own_mk1 (w := W1) rfl (Nat.le_refl _) (by simp only [maxLen]; omega) _ rfl
      have b3 := (Below_new (W1.alloc (.cells (madeCells #[.int .u8 0] d) 5)) (.cells #[.slice (some ⟨W1.heap.size, 0, none⟩) d d] 122)).drew
      have HB2 := hide b2
      have HB3 := hide b3
      have HO2 := hide own2
      have hl3 := (Lies.new (W1.alloc (.cells (madeCells #[.int .u8 0] d) 5)) #[.slice (some ⟨W1.heap.size, 0, none⟩) d d] 122 (0, 0)).drew
      rw [World.size_alloc] at hl3
      have HL3 := hide hl3
      have HW : Hid (w.heap.size ≤ W1.heap.size) := HB.out.size
      have HRW3 : Hid (OwnV 122 ((W1.alloc (.cells (madeCells #[.int .u8 0] d) 5)).alloc (.cells #[.slice (some ⟨W1.heap.size, 0, none⟩) d d] 122)).drew w.heap.size p.A k p.gc (p.ss.map sv)) := by
        rcases HR.out.ls with ⟨e1, e2, e3, e4⟩ | ⟨g, e, h0, hr⟩
        · have hk0 : k = 0 := by rw [← hll, e2]; rfl
          rw [e1, e3, e4, hk0]
          exact OwnV.nil _ _ _
        · rw [e, ← hll]
          exact (hr.row.below b2).below b3
      have hB3 : w.heap.size ≤ ((W1.alloc (.cells (madeCells #[.int .u8 0] d) 5)).alloc (.cells #[.slice (some ⟨W1.heap.size, 0, none⟩) d d] 122)).drew.heap.size := Nat.le_trans HW.out (Nat.le_trans b2.size b3.size)
      have cL2 := cell_al (cell_al cL (.cells (madeCells #[.int .u8 0] d) 5)) (.cells #[.slice (some ⟨W1.heap.size, 0, none⟩) d d] 122)
      have cD2 := cell_al (cell_al cD (.cells (madeCells #[.int .u8 0] d) 5)) (.cells #[.slice (some ⟨W1.heap.size, 0, none⟩) d d] 122)
      have HC2 := hide ((HC.out.belowN b2).belowN b3)
      have HRT : Hid (∀ j, Mine p.A k p.gc j → TB ((W1.alloc (.cells (madeCells #[.int .u8 0] d) 5)).alloc (.cells #[.slice (some ⟨W1.heap.size, 0, none⟩) d d] 122)).drew j 122) := owns_tb HRW3.out
      have cLm := cell_al cL (.cells (madeCells #[.int .u8 0] d) 5)
      clear b2 b3 own2 hl3
      refine wp_region_noPanic ?_
      refine wp_region_held_drew (S := (fun w' => w'.cell? ⟨g1, 3, none⟩ = some (.int .i64 (d : Int)))) (by kernel_rfl) cD (fun hHeld => ?_)
      refine tk0 0 ?_
      refine tk 1 ?_
      refine tk 2 ?_
      refine tk 3 ?_
      refine tk 5 ?_
      refine tk 6 ?_
      refine wpAnyH_ready (rs := [4, 7]) (by kernel_rfl) (by simp) ?_
      refine AllReadyH.cons (o := ?_) ?_ (fun K hK => ?_) ?_
      rotate_left 1
      · (simp only [List.getElem?_toArray, List.getElem?_cons_succ, List.getElem?_cons_zero]; rfl)
      · go_simp
        skip
        refine hK.out _ _ cD (fun hHeld => ?_)
        clear hK K
        try simp only [Act.put, List.setIfInBounds_toArray, List.set_cons_zero, List.set_cons_succ]
        refine rdy 7 fun K hK => ?_
        go_simp
        refine hK.out _ _ (cell_al cD _) (fun hHeld => ?_)
        clear hK K
        try simp only [Act.put, List.setIfInBounds_toArray, List.set_cons_zero, List.set_cons_succ]
        refine tk 8 ?_
        refine rdy 9 fun K hK => ?_
        go_simp
        refine hK.out _ _ cD2 (fun hHeld => ?_)
        clear hK K
        try simp only [Act.put, List.setIfInBounds_toArray, List.set_cons_zero, List.set_cons_succ]
        refine rdy 10 fun K hK => ?_
        (refine step_appendV elem_rline rfl (.tmp 30) (.tmp 35) rfl w.heap.size p.A k p.gc _ rfl HRW3.out _ _ 1 1 [.slice (some ⟨W1.heap.size, 0, none⟩) d d] rfl rfl HL3.out (by simp [Value.oneCell']) (by omega) (k + 1) _ rfl rfl (by omega) (by omega) hB3 ?_; intro A5 c5 w5 own5 k5 hk5)
        obtain ⟨g5, rfl, -, -⟩ := own5.form (by omega)
        have HA5 := hide (HR.out.addLine (y := (some ⟨W1.heap.size, 0, none⟩, d, d)) HW.out HB2.out HO2.out HB3.out (by rw [hll]; exact own5) (by rw [hll]; exact k5) (by simp; omega))
        have HC5 := hide (HC2.out.off k5 (Off.of (Ts := [28]) HRT.out (by decide)) (by simp))
        have cL5 := HA5.out.1.at_ (reRow_L _ _)
        rw [hll] at cL5
        have fL5 := HA5.out.1.frozen 10
        have cD5 := HC5.out.cell (j := 3) (by simp [Cfg.row])
        simp only [Cfg.row, List.getElem_cons_zero, List.getElem_cons_succ] at cD5
        rw [HD.out] at cD5
        refine hK.out _ _ cD5 (fun hHeld => ?_)
        clear hK K
        try simp only [Act.put, List.setIfInBounds_toArray, List.set_cons_zero, List.set_cons_succ]
        refine tk 11 ?_
        refine tk 12 ?_
        refine rdy 13 fun K hK => ?_
        go_simp
        have HA6 := HA5.out.2
        rw [hll] at HA6
        have HC6 := hide (HC5.out.off (Keeps.setCell w5 ⟨x, 10, none⟩ (.slice (some ⟨g5, 0, none⟩) (k + 1) c5)) (Off.of (T := 120) (Ts := [28]) (fun j hj => by rw [hj]; exact HA5.out.1.tb) (by decide)) (by simp))
        generalize World.setCell w5 _ _ = w6 at HA6 HC6 ⊢
        have HR6 := hide HA6.1
        have HB6 := hide (HB.out.trans HA6.2)
        have cD6 := HC6.out.cell (j := 3) (by simp [Cfg.row])
        simp only [Cfg.row, List.getElem_cons_zero, List.getElem_cons_succ] at cD6
        rw [HD.out] at cD6
        refine hK.out _ _ cD6 (fun hHeld => ?_)
        clear hK K
        try simp only [Act.put]
        refine wpAnyH_done (by kernel_rfl) (NoPanic.normal ?_) _
        have hcon := newK_step c d k hlt (p := p) (y := (some (⟨W1.heap.size, 0, none⟩ : Addr), d, d)) (A := some ⟨g5, 0, none⟩) (gc := c5) HR6.out HD.out
        have HCON := hide hcon
        have cA6 := HR6.out.head.at_ (reRow_has _ _)
        have hpl2 : ({ newK c m d k with ls := (newK c m d k).ls ++ [List.replicate d 0] } : Co).peers.length = m := by simp [newK]; omega
        rw [hpl2] at cA6
        have fA6 := HR6.out.has.frozen k
        have hA6 := (HR6.out.has.cell (j := k) (by rw [hpl2]; omega))
        obtain ⟨hAl, hA6⟩ := hA6
        have hA6 : w6.cell? ⟨p.ag, k, none⟩ = some _ := hA6
        have fA6 : w6.frozen? ⟨p.ag, k, none⟩ = false := fA6
        clear hcon HA5 HA6 HC5 cL5 fL5 cD5 hk5 k5 own5 hHeld HRW3 HRT HL3 HO2 HB2 HB3 cL2 cD2 hB3 HC2 cLm cL
        go_upto_region 6 with fail
        have hm6 : (k : Int) < (m : Int) := by omega
        refine wp_region_noPanic ?_
        refine wp_region_held_drew (S := (fun w' => w'.cell? ⟨x, 13, none⟩ = some (.slice (some ⟨p.ag, 0, none⟩) m p.ac) ∧ w'.cell? ⟨g1, 3, none⟩ = some (.int .i64 (d : Int)))) (by kernel_rfl) ⟨cA6, cD6⟩ (fun hHeld => ?_)
        refine tk0 0 ?_
        refine tk 1 ?_
        refine tk 2 ?_
        refine tk 3 ?_
        refine tk 4 ?_
        refine tk 5 ?_
        refine tk 6 ?_
        refine tk 7 ?_
        refine rdy 8 fun K hK => ?_
        go_simp
        have HC7 := hide (HC6.out.off (Keeps.setCell w6 ⟨p.ag, k, none⟩ (.int .i64 (d : Int))) (Off.of (T := 3) (Ts := [28]) (fun j hj => by rw [hj]; exact owns_tb HR6.out.has _ rfl) (by decide)) (by simp))
        have cA7 := HCON.out.1.head.at_ (reRow_has _ _)
        have hpl3 : (newK c m d (k + 1)).peers.length = m := by simp [newK]; omega
        rw [hpl3] at cA7
        have cD7 := HC7.out.cell (j := 3) (by simp [Cfg.row])
        simp only [Cfg.row, List.getElem_cons_zero, List.getElem_cons_succ] at cD7
        rw [HD.out] at cD7
        refine hK.out _ _ ⟨cA7, cD7⟩ (fun hHeld => ?_)
        clear hK K
        try simp only [Act.put]
        refine wpAnyH_done (by kernel_rfl) (NoPanic.normal ?_) _
        go_wp2_with fail
        go_roundg (m - (k + 1))
        case measure => omega
        case rel => exact ⟨k + 1, _, by omega, rfl, by go_num, hide HCON.out.1.drew, hide HC7.out.drew, hide (HB6.out.trans HCON.out.2).drew⟩
      refine AllReadyH.cons (o := ?_) ?_ (fun K hK => ?_) ?_
      rotate_left 1
      · (simp only [List.getElem?_toArray, List.getElem?_cons_succ, List.getElem?_cons_zero]; rfl)
      · go_simp
        skip
        refine hK.out _ _ (cell_al cD _) (fun hHeld => ?_)
        clear hK K
        try simp only [Act.put, List.setIfInBounds_toArray, List.set_cons_zero, List.set_cons_succ]
        refine tk 8 ?_
        refine wpAnyH_ready (rs := [4, 9]) (by kernel_rfl) (by simp) ?_
        refine AllReadyH.cons (o := ?_) ?_ (fun K hK => ?_) ?_
        rotate_left 1
        · (simp only [List.getElem?_toArray, List.getElem?_cons_succ, List.getElem?_cons_zero]; rfl)
        · go_simp
          skip
          refine hK.out _ _ (cell_al cD _) (fun hHeld => ?_)
          clear hK K
          try simp only [Act.put, List.setIfInBounds_toArray, List.set_cons_zero, List.set_cons_succ]
          refine rdy 9 fun K hK => ?_
          go_simp
          refine hK.out _ _ cD2 (fun hHeld => ?_)
          clear hK K
          try simp only [Act.put, List.setIfInBounds_toArray, List.set_cons_zero, List.set_cons_succ]
          refine rdy 10 fun K hK => ?_
          (refine step_appendV elem_rline rfl (.tmp 30) (.tmp 35) rfl w.heap.size p.A k p.gc _ rfl HRW3.out _ _ 1 1 [.slice (some ⟨W1.heap.size, 0, none⟩) d d] rfl rfl HL3.out (by simp [Value.oneCell']) (by omega) (k + 1) _ rfl rfl (by omega) (by omega) hB3 ?_; intro A5 c5 w5 own5 k5 hk5)
          obtain ⟨g5, rfl, -, -⟩ := own5.form (by omega)
          have HA5 := hide (HR.out.addLine (y := (some ⟨W1.heap.size, 0, none⟩, d, d)) HW.out HB2.out HO2.out HB3.out (by rw [hll]; exact own5) (by rw [hll]; exact k5) (by simp; omega))
          have HC5 := hide (HC2.out.off k5 (Off.of (Ts := [28]) HRT.out (by decide)) (by simp))
          have cL5 := HA5.out.1.at_ (reRow_L _ _)
          rw [hll] at cL5
          have fL5 := HA5.out.1.frozen 10
          have cD5 := HC5.out.cell (j := 3) (by simp [Cfg.row])
          simp only [Cfg.row, List.getElem_cons_zero, List.getElem_cons_succ] at cD5
          rw [HD.out] at cD5
          refine hK.out _ _ cD5 (fun hHeld => ?_)
          clear hK K
          try simp only [Act.put, List.setIfInBounds_toArray, List.set_cons_zero, List.set_cons_succ]
          refine tk 11 ?_
          refine tk 12 ?_
          refine rdy 13 fun K hK => ?_
          go_simp
          have HA6 := HA5.out.2
          rw [hll] at HA6
          have HC6 := hide (HC5.out.off (Keeps.setCell w5 ⟨x, 10, none⟩ (.slice (some ⟨g5, 0, none⟩) (k + 1) c5)) (Off.of (T := 120) (Ts := [28]) (fun j hj => by rw [hj]; exact HA5.out.1.tb) (by decide)) (by simp))
          generalize World.setCell w5 _ _ = w6 at HA6 HC6 ⊢
          have HR6 := hide HA6.1
          have HB6 := hide (HB.out.trans HA6.2)
          have cD6 := HC6.out.cell (j := 3) (by simp [Cfg.row])
          simp only [Cfg.row, List.getElem_cons_zero, List.getElem_cons_succ] at cD6
          rw [HD.out] at cD6
          refine hK.out _ _ cD6 (fun hHeld => ?_)
          clear hK K
          try simp only [Act.put]
          refine wpAnyH_done (by kernel_rfl) (NoPanic.normal ?_) _
          have hcon := newK_step c d k hlt (p := p) (y := (some (⟨W1.heap.size, 0, none⟩ : Addr), d, d)) (A := some ⟨g5, 0, none⟩) (gc := c5) HR6.out HD.out
          have HCON := hide hcon
          have cA6 := HR6.out.head.at_ (reRow_has _ _)
          have hpl2 : ({ newK c m d k with ls := (newK c m d k).ls ++ [List.replicate d 0] } : Co).peers.length = m := by simp [newK]; omega
          rw [hpl2] at cA6
          have fA6 := HR6.out.has.frozen k
          have hA6 := (HR6.out.has.cell (j := k) (by rw [hpl2]; omega))
          obtain ⟨hAl, hA6⟩ := hA6
          have hA6 : w6.cell? ⟨p.ag, k, none⟩ = some _ := hA6
          have fA6 : w6.frozen? ⟨p.ag, k, none⟩ = false := fA6
          clear hcon HA5 HA6 HC5 cL5 fL5 cD5 hk5 k5 own5 hHeld HRW3 HRT HL3 HO2 HB2 HB3 cL2 cD2 hB3 HC2 cLm cL
          go_upto_region 6 with fail
          have hm6 : (k : Int) < (m : Int) := by omega
          refine wp_region_noPanic ?_
          refine wp_region_held_drew (S := (fun w' => w'.cell? ⟨x, 13, none⟩ = some (.slice (some ⟨p.ag, 0, none⟩) m p.ac) ∧ w'.cell? ⟨g1, 3, none⟩ = some (.int .i64 (d : Int)))) (by kernel_rfl) ⟨cA6, cD6⟩ (fun hHeld => ?_)
          refine tk0 0 ?_
          refine tk 1 ?_
          refine tk 2 ?_
          refine tk 3 ?_
          refine tk 4 ?_
          refine tk 5 ?_
          refine tk 6 ?_
          refine tk 7 ?_
          refine rdy 8 fun K hK => ?_
          go_simp
          have HC7 := hide (HC6.out.off (Keeps.setCell w6 ⟨p.ag, k, none⟩ (.int .i64 (d : Int))) (Off.of (T := 3) (Ts := [28]) (fun j hj => by rw [hj]; exact owns_tb HR6.out.has _ rfl) (by decide)) (by simp))
          have cA7 := HCON.out.1.head.at_ (reRow_has _ _)
          have hpl3 : (newK c m d (k + 1)).peers.length = m := by simp [newK]; omega
          rw [hpl3] at cA7
          have cD7 := HC7.out.cell (j := 3) (by simp [Cfg.row])
          simp only [Cfg.row, List.getElem_cons_zero, List.getElem_cons_succ] at cD7
          rw [HD.out] at cD7
          refine hK.out _ _ ⟨cA7, cD7⟩ (fun hHeld => ?_)
          clear hK K
          try simp only [Act.put]
          refine wpAnyH_done (by kernel_rfl) (NoPanic.normal ?_) _
          go_wp2_with fail
          go_roundg (m - (k + 1))
          case measure => omega
          case rel => exact ⟨k + 1, _, by omega, rfl, by go_num, hide HCON.out.1.drew, hide HC7.out.drew, hide (HB6.out.trans HCON.out.2).drew⟩
        refine AllReadyH.cons (o := ?_) ?_ (fun K hK => ?_) ?_
        rotate_left 1
        · (simp only [List.getElem?_toArray, List.getElem?_cons_succ, List.getElem?_cons_zero]; rfl)
        · go_simp
          skip
          refine hK.out _ _ cD2 (fun hHeld => ?_)
          clear hK K
          try simp only [Act.put, List.setIfInBounds_toArray, List.set_cons_zero, List.set_cons_succ]
          refine rdy 4 fun K hK => ?_
          go_simp
          refine hK.out _ _ cD2 (fun hHeld => ?_)
          clear hK K
          try simp only [Act.put, List.setIfInBounds_toArray, List.set_cons_zero, List.set_cons_succ]
          refine rdy 10 fun K hK => ?_
          (refine step_appendV elem_rline rfl (.tmp 30) (.tmp 35) rfl w.heap.size p.A k p.gc _ rfl HRW3.out _ _ 1 1 [.slice (some ⟨W1.heap.size, 0, none⟩) d d] rfl rfl HL3.out (by simp [Value.oneCell']) (by omega) (k + 1) _ rfl rfl (by omega) (by omega) hB3 ?_; intro A5 c5 w5 own5 k5 hk5)
          obtain ⟨g5, rfl, -, -⟩ := own5.form (by omega)
          have HA5 := hide (HR.out.addLine (y := (some ⟨W1.heap.size, 0, none⟩, d, d)) HW.out HB2.out HO2.out HB3.out (by rw [hll]; exact own5) (by rw [hll]; exact k5) (by simp; omega))
          have HC5 := hide (HC2.out.off k5 (Off.of (Ts := [28]) HRT.out (by decide)) (by simp))
          have cL5 := HA5.out.1.at_ (reRow_L _ _)
          rw [hll] at cL5
          have fL5 := HA5.out.1.frozen 10
          have cD5 := HC5.out.cell (j := 3) (by simp [Cfg.row])
          simp only [Cfg.row, List.getElem_cons_zero, List.getElem_cons_succ] at cD5
          rw [HD.out] at cD5
          refine hK.out _ _ cD5 (fun hHeld => ?_)
          clear hK K
          try simp only [Act.put, List.setIfInBounds_toArray, List.set_cons_zero, List.set_cons_succ]
          refine tk 11 ?_
          refine tk 12 ?_
          refine rdy 13 fun K hK => ?_
          go_simp
          have HA6 := HA5.out.2
          rw [hll] at HA6
          have HC6 := hide (HC5.out.off (Keeps.setCell w5 ⟨x, 10, none⟩ (.slice (some ⟨g5, 0, none⟩) (k + 1) c5)) (Off.of (T := 120) (Ts := [28]) (fun j hj => by rw [hj]; exact HA5.out.1.tb) (by decide)) (by simp))
          generalize World.setCell w5 _ _ = w6 at HA6 HC6 ⊢
          have HR6 := hide HA6.1
          have HB6 := hide (HB.out.trans HA6.2)
          have cD6 := HC6.out.cell (j := 3) (by simp [Cfg.row])
          simp only [Cfg.row, List.getElem_cons_zero, List.getElem_cons_succ] at cD6
          rw [HD.out] at cD6
          refine hK.out _ _ cD6 (fun hHeld => ?_)
          clear hK K
          try simp only [Act.put]
          refine wpAnyH_done (by kernel_rfl) (NoPanic.normal ?_) _
          have hcon := newK_step c d k hlt (p := p) (y := (some (⟨W1.heap.size, 0, none⟩ : Addr), d, d)) (A := some ⟨g5, 0, none⟩) (gc := c5) HR6.out HD.out
          have HCON := hide hcon
          have cA6 := HR6.out.head.at_ (reRow_has _ _)
          have hpl2 : ({ newK c m d k with ls := (newK c m d k).ls ++ [List.replicate d 0] } : Co).peers.length = m := by simp [newK]; omega
          rw [hpl2] at cA6
          have fA6 := HR6.out.has.frozen k
          have hA6 := (HR6.out.has.cell (j := k) (by rw [hpl2]; omega))
          obtain ⟨hAl, hA6⟩ := hA6
          have hA6 : w6.cell? ⟨p.ag, k, none⟩ = some _ := hA6
          have fA6 : w6.frozen? ⟨p.ag, k, none⟩ = false := fA6
          clear hcon HA5 HA6 HC5 cL5 fL5 cD5 hk5 k5 own5 hHeld HRW3 HRT HL3 HO2 HB2 HB3 cL2 cD2 hB3 HC2 cLm cL
          go_upto_region 6 with fail
          have hm6 : (k : Int) < (m : Int) := by omega
          refine wp_region_noPanic ?_
          refine wp_region_held_drew (S := (fun w' => w'.cell? ⟨x, 13, none⟩ = some (.slice (some ⟨p.ag, 0, none⟩) m p.ac) ∧ w'.cell? ⟨g1, 3, none⟩ = some (.int .i64 (d : Int)))) (by kernel_rfl) ⟨cA6, cD6⟩ (fun hHeld => ?_)
          refine tk0 0 ?_
          refine tk 1 ?_
          refine tk 2 ?_
          refine tk 3 ?_
          refine tk 4 ?_
          refine tk 5 ?_
          refine tk 6 ?_
          refine tk 7 ?_
          refine rdy 8 fun K hK => ?_
          go_simp
          have HC7 := hide (HC6.out.off (Keeps.setCell w6 ⟨p.ag, k, none⟩ (.int .i64 (d : Int))) (Off.of (T := 3) (Ts := [28]) (fun j hj => by rw [hj]; exact owns_tb HR6.out.has _ rfl) (by decide)) (by simp))
          have cA7 := HCON.out.1.head.at_ (reRow_has _ _)
          have hpl3 : (newK c m d (k + 1)).peers.length = m := by simp [newK]; omega
          rw [hpl3] at cA7
          have cD7 := HC7.out.cell (j := 3) (by simp [Cfg.row])
          simp only [Cfg.row, List.getElem_cons_zero, List.getElem_cons_succ] at cD7
          rw [HD.out] at cD7
          refine hK.out _ _ ⟨cA7, cD7⟩ (fun hHeld => ?_)
          clear hK K
          try simp only [Act.put]
          refine wpAnyH_done (by kernel_rfl) (NoPanic.normal ?_) _
          go_wp2_with fail
          go_roundg (m - (k + 1))
          case measure => omega
          case rel => exact ⟨k + 1, _, by omega, rfl, by go_num, hide HCON.out.1.drew, hide HC7.out.drew, hide (HB6.out.trans HCON.out.2).drew⟩
        exact AllReadyH.nil
      exact AllReadyH.nil
    · obtain rfl : m = k := by omega
      go_wp2_with fail
      go_ret
      refine ⟨x, p, rfl, ?_, HB.out⟩
      have := HR.out
      have e : newK c m d m = Co.new c := by
        have h1 : c.n.toNat = m := by rw [HM.out]; rfl
        have h2 : c.delay.toNat = d := by rw [HD.out]; rfl
        unfold newK Co.new
        rw [h1, h2, Nat.sub_self, List.replicate_zero, List.append_nil]
      rw [← e]
      exact this
end Go.Proofs.Ytbcgffgiifminaa
