/-
  What a player is told.
  Rows of mails; a player that quits.
  A player's clock goes on.
  A packet heard.
-/
import Derived.Test.YtbcgffgiifminaaStand10
namespace Go.Proofs.Ytbcgffgiifminaa
open Go.RowKit
set_option maxRecDepth 10000
set_option linter.unusedVariables false
/-- What player i is told. -/
def Co.telling (s : Co) (i : Nat) : Pkt := ⟨1, s.cfg.me, i, s.cfg.id, (s.peers.getD i ⟨0, 0, 0, 0, false⟩).has, fromLine s.mine (s.peers.getD i ⟨0, 0, 0, 0, false⟩).has 32, ((s.ls.getD i []).length : Int), (s.marks.length : Int), if s.marks.length = 0 then 0 else s.marks.getD (s.marks.length - 1) 0⟩
set_option maxHeartbeats 8000000 in
theorem core_input {B : Nat} {w : World} {x : Nat} {p : CP} {s : Co} (h : CAt B w x p s) (hB : B ≤ w.heap.size) (i : Nat) (hi : i < s.peers.length) {ix : Int} (hix : ix = (i : Int)) :
    Calls Try.prog 61 #[.pointer (some ⟨x, 0, none⟩), .int .i64 ix] w fun r w' => ∃ A' n' c', r = .returned (.agg #[.int .i64 s.cfg.me, .int .i64 ix, .slice A' n' c']) ∧ OwnB w' w.heap.size A' n' c' (s.telling i).enc ∧ Below w.heap.size w w' := by
  subst hix
  have H := hide h
  have HB := hide hB
  have HI := hide hi
  have hn8 : s.peers.length ≤ 8 := by have := h.ok.np; have := h.ok.cfg.n; omega
  have HPI : Hid (i < p.xs.length) := by show _ < _; rw [h.nx]; exact hi
  obtain ⟨mi, hme, hmi, hmil, hll, h8⟩ := h.me
  have HME := hide hme
  have HMI := hide hmi
  have HMN := hide h.mn
  have c11 := h.cell (coRow_peers s p)
  have c10 := h.cell (coRow_q s p)
  have c12 := h.cell (coRow_marks s p)
  have c1 := h.cell (coRow_me s p)
  obtain ⟨pr, hpr⟩ : ∃ pr, pr = s.peers[i] := ⟨_, rfl⟩
  have HPR : Hid (s.peers.getD i ⟨0, 0, 0, 0, false⟩ = pr) := by show _ = _; rw [List.getD_eq_getElem?_getD, List.getElem?_eq_getElem hi, hpr]; rfl
  have ch : w.cell? ⟨p.g, i * 5, none⟩ = some (.int .i64 pr.has) := h.pcell (j := 0) (v := .int .i64 pr.has) hi (by omega) (by rw [hpr]; rfl)
  obtain ⟨n, hn⟩ : ∃ n, n = s.peers.length := ⟨_, rfl⟩
  have HN := hide hn
  rw [← hn] at c11
  have hin : (i : Int) < (n : Int) := by rw [hn]; omega
  obtain ⟨hs, hhs⟩ : ∃ hs, hs = pr.has := ⟨_, rfl⟩
  rw [← hhs] at ch
  have HHS := hide hhs
  obtain ⟨len, hlen⟩ : ∃ len, len = ((s.ls.getD i []).length : Int) := ⟨_, rfl⟩
  have HLEN := hide hlen
  have hhs2 : 0 ≤ hs ∧ hs ≤ 1000 := by have := h.ok.has pr (by rw [hpr]; exact List.getElem_mem hi); have := h.ok.short s.cfg.me.toNat; rw [hhs]; omega
  have HMINE : Hid (s.ls.getD mi [] = s.mine) := by show _ = _; rw [Co.mine, hme, Int.toNat_natCast]
  have hmn : p.mn ≤ 1000 := by have := h.ok.marks; rw [h.mn] at this; exact this
  clear h hB hn hpr hhs hlen hme hll hmil
  go_enter Try.func61, Try.ntmps61
  go_upto_region 1 with fail
  have HM : Hid (Arr 47 (w.alloc (.cells (mailRow 0 0 (.slice none 0 0)).toArray 47)) w.heap.size (mailRow 0 0 (.slice none 0 0))) := Arr.new 47 w _ _ rfl
  have HB1 : Hid (Below w.heap.size w (w.alloc (.cells (mailRow 0 0 (.slice none 0 0)).toArray 47))) := Below_new _ _
  simp only [mailRow] at HM HB1
  generalize World.alloc w _ = w1 at HM HB1 ⊢
  obtain ⟨g, hg⟩ : ∃ g, g = w.heap.size := ⟨_, rfl⟩
  have HG := hide hg
  rw [← hg] at HM ⊢
  have hgg : g < w1.heap.size := HM.out.lt
  have HC1 := hide (H.out.below HB1.out)
  have c11 := below_cell HB1.out c11
  have c10 := below_cell HB1.out c10
  have c12 := below_cell HB1.out c12
  have c1 := below_cell HB1.out c1
  have ch := below_cell HB1.out ch
  clear hg
  have HZ : Hid (Arr 41 (w1.drew.alloc (.cells (Pkt.zero.row (.slice none 0 0)).toArray 41)) w1.heap.size (Pkt.zero.row (.slice none 0 0))) := Arr.new 41 w1.drew _ _ rfl
  have bn := Below_new w1.drew (.cells (Pkt.zero.row (.slice none 0 0)).toArray 41)
  simp only [Pkt.row, Pkt.zero] at HZ bn
  have HC2 := hide (HC1.out.drew.below bn)
  have d11 := below_cell bn c11
  have d10 := below_cell bn c10
  have d12 := below_cell bn c12
  have dh := below_cell bn ch
  have HB2 : Hid (Below w1.heap.size w1 (w1.drew.alloc (.cells (Pkt.zero.row (.slice none 0 0)).toArray 41))) := Below_step ((Below.refl _ _).drew) bn
  clear bn
  go_cut [5] (fun s5 wx => s5 = .pointer (some ⟨w1.heap.size, 0, none⟩) ∧ Arr 41 wx w1.heap.size (Pkt.row ⟨1, 0, 0, 0, hs, [], len, p.mn, 0⟩ (.slice none 0 0)) ∧ Below w1.heap.size w1 wx)
  case first =>
    refine wp_region_noPanic ?_
    refine wp_region_held_drew (S := (fun w' => w'.cell? ⟨x, 11, none⟩ = some (.slice (some ⟨p.g, 0, none⟩) n p.pc) ∧ w'.cell? ⟨x, 10, none⟩ = some (.pointer (some ⟨p.q, 0, none⟩)) ∧ w'.cell? ⟨x, 12, none⟩ = some (.slice p.mA p.mn p.mc) ∧ w'.cell? ⟨p.g, i * 5, none⟩ = some (.int .i64 hs))) (by kernel_rfl) ⟨c11, c10, c12, ch⟩ (fun hHeld => ?_)
    refine wpAnyH_take (i := 0) (oi := ?_) (v := ?_) ?_ (by kernel_rfl) (by kernel_rfl) (by kernel_rfl) ?_ ?_ (by assumption) ?_
    rotate_left 2
    · (simp only [List.getElem?_toArray, List.getElem?_cons_zero]; rfl)
    · exact fun _ _ _ h => h
    · (refine Or.inl ⟨by rfl, ?_⟩; intro w hSw; (try dsimp only at hSw); go_simp <;> with_reducible rfl)
    try simp only [Act.put, List.setIfInBounds_toArray, List.set_cons_zero, List.set_cons_succ]
    refine wpAnyH_take (i := 1) (oi := ?_) (v := ?_) ?_ (by kernel_rfl) (by kernel_rfl) (by kernel_rfl) ?_ ?_ (by assumption) ?_
    rotate_left 2
    · (simp only [List.getElem?_toArray, List.getElem?_cons_succ, List.getElem?_cons_zero]; rfl)
    · exact fun _ _ _ h => h
    · (refine Or.inl ⟨by rfl, ?_⟩; intro w hSw; (try dsimp only at hSw); go_simp <;> with_reducible rfl)
    try simp only [Act.put, List.setIfInBounds_toArray, List.set_cons_zero, List.set_cons_succ]
    refine wpAnyH_take (i := 2) (oi := ?_) (v := ?_) ?_ (by kernel_rfl) (by kernel_rfl) (by kernel_rfl) ?_ ?_ (by assumption) ?_
    rotate_left 2
    · (simp only [List.getElem?_toArray, List.getElem?_cons_succ, List.getElem?_cons_zero]; rfl)
    · exact fun _ _ _ h => h
    · (refine Or.inl ⟨by rfl, ?_⟩; intro w hSw; (try dsimp only at hSw); go_simp <;> with_reducible rfl)
    try simp only [Act.put, List.setIfInBounds_toArray, List.set_cons_zero, List.set_cons_succ]
    refine wpAnyH_take (i := 3) (oi := ?_) (v := ?_) ?_ (by kernel_rfl) (by kernel_rfl) (by kernel_rfl) ?_ ?_ (by assumption) ?_
    rotate_left 2
    · (simp only [List.getElem?_toArray, List.getElem?_cons_succ, List.getElem?_cons_zero]; rfl)
    · exact fun _ _ _ h => h
    · (refine Or.inl ⟨by rfl, ?_⟩; intro w hSw; (try dsimp only at hSw); go_simp <;> with_reducible rfl)
    try simp only [Act.put, List.setIfInBounds_toArray, List.set_cons_zero, List.set_cons_succ]
    refine wpAnyH_take (i := 4) (oi := ?_) (v := ?_) ?_ (by kernel_rfl) (by kernel_rfl) (by kernel_rfl) ?_ ?_ (by assumption) ?_
    rotate_left 2
    · (simp only [List.getElem?_toArray, List.getElem?_cons_succ, List.getElem?_cons_zero]; rfl)
    · exact fun _ _ _ h => h
    · (refine Or.inl ⟨by rfl, ?_⟩; intro w hSw; (try dsimp only at hSw); go_simp <;> with_reducible rfl)
    try simp only [Act.put, List.setIfInBounds_toArray, List.set_cons_zero, List.set_cons_succ]
    refine wpAnyH_take (i := 5) (oi := ?_) (v := ?_) ?_ (by kernel_rfl) (by kernel_rfl) (by kernel_rfl) ?_ ?_ (by assumption) ?_
    rotate_left 2
    · (simp only [List.getElem?_toArray, List.getElem?_cons_succ, List.getElem?_cons_zero]; rfl)
    · exact fun _ _ _ h => h
    · (refine Or.inl ⟨by rfl, ?_⟩; intro w hSw; (try dsimp only at hSw); go_simp <;> with_reducible rfl)
    try simp only [Act.put, List.setIfInBounds_toArray, List.set_cons_zero, List.set_cons_succ]
    refine wpAnyH_take (i := 6) (oi := ?_) (v := ?_) ?_ (by kernel_rfl) (by kernel_rfl) (by kernel_rfl) ?_ ?_ (by assumption) ?_
    rotate_left 2
    · (simp only [List.getElem?_toArray, List.getElem?_cons_succ, List.getElem?_cons_zero]; rfl)
    · exact fun _ _ _ h => h
    · (refine Or.inl ⟨by rfl, ?_⟩; intro w hSw; (try dsimp only at hSw); go_simp <;> with_reducible rfl)
    try simp only [Act.put, List.setIfInBounds_toArray, List.set_cons_zero, List.set_cons_succ]
    refine wpAnyH_take (i := 7) (oi := ?_) (v := ?_) ?_ (by kernel_rfl) (by kernel_rfl) (by kernel_rfl) ?_ ?_ (by assumption) ?_
    rotate_left 2
    · (simp only [List.getElem?_toArray, List.getElem?_cons_succ, List.getElem?_cons_zero]; rfl)
    · exact fun _ _ _ h => h
    · (refine Or.inl ⟨by rfl, ?_⟩; intro w hSw; (try dsimp only at hSw); go_simp <;> with_reducible rfl)
    try simp only [Act.put, List.setIfInBounds_toArray, List.set_cons_zero, List.set_cons_succ]
    refine wpAnyH_take (i := 8) (oi := ?_) (v := ?_) ?_ (by kernel_rfl) (by kernel_rfl) (by kernel_rfl) ?_ ?_ (by assumption) ?_
    rotate_left 2
    · (simp only [List.getElem?_toArray, List.getElem?_cons_succ, List.getElem?_cons_zero]; rfl)
    · exact fun _ _ _ h => h
    · (refine Or.inl ⟨by rfl, ?_⟩; intro w hSw; (try dsimp only at hSw); go_simp <;> with_reducible rfl)
    try simp only [Act.put, List.setIfInBounds_toArray, List.set_cons_zero, List.set_cons_succ]
    refine wpAnyH_take (i := 9) (oi := ?_) (v := ?_) ?_ (by kernel_rfl) (by kernel_rfl) (by kernel_rfl) ?_ ?_ (by assumption) ?_
    rotate_left 2
    · (simp only [List.getElem?_toArray, List.getElem?_cons_succ, List.getElem?_cons_zero]; rfl)
    · exact fun _ _ _ h => h
    · (refine Or.inl ⟨by rfl, ?_⟩; intro w hSw; (try dsimp only at hSw); go_simp <;> with_reducible rfl)
    try simp only [Act.put, List.setIfInBounds_toArray, List.set_cons_zero, List.set_cons_succ]
    refine wpAnyH_take (i := 10) (oi := ?_) (v := ?_) ?_ (by kernel_rfl) (by kernel_rfl) (by kernel_rfl) ?_ ?_ (by assumption) ?_
    rotate_left 2
    · (simp only [List.getElem?_toArray, List.getElem?_cons_succ, List.getElem?_cons_zero]; rfl)
    · exact fun _ _ _ h => h
    · (refine Or.inl ⟨by rfl, ?_⟩; intro w hSw; (try dsimp only at hSw); go_simp <;> with_reducible rfl)
    try simp only [Act.put, List.setIfInBounds_toArray, List.set_cons_zero, List.set_cons_succ]
    refine wpAnyH_take (i := 11) (oi := ?_) (v := ?_) ?_ (by kernel_rfl) (by kernel_rfl) (by kernel_rfl) ?_ ?_ (by assumption) ?_
    rotate_left 2
    · (simp only [List.getElem?_toArray, List.getElem?_cons_succ, List.getElem?_cons_zero]; rfl)
    · exact fun _ _ _ h => h
    · (refine Or.inl ⟨by rfl, ?_⟩; intro w hSw; (try dsimp only at hSw); go_simp <;> with_reducible rfl)
    try simp only [Act.put, List.setIfInBounds_toArray, List.set_cons_zero, List.set_cons_succ]
    refine wpAnyH_take (i := 12) (oi := ?_) (v := ?_) ?_ (by kernel_rfl) (by kernel_rfl) (by kernel_rfl) ?_ ?_ (by assumption) ?_
    rotate_left 2
    · (simp only [List.getElem?_toArray, List.getElem?_cons_succ, List.getElem?_cons_zero]; rfl)
    · exact fun _ _ _ h => h
    · (refine Or.inl ⟨by rfl, ?_⟩; intro w hSw; (try dsimp only at hSw); go_simp <;> with_reducible rfl)
    try simp only [Act.put, List.setIfInBounds_toArray, List.set_cons_zero, List.set_cons_succ]
    refine wpAnyH_take (i := 15) (oi := ?_) (v := ?_) ?_ (by kernel_rfl) (by kernel_rfl) (by kernel_rfl) ?_ ?_ (by assumption) ?_
    rotate_left 2
    · (simp only [List.getElem?_toArray, List.getElem?_cons_succ, List.getElem?_cons_zero]; rfl)
    · exact fun _ _ _ h => h
    · (refine Or.inl ⟨by rfl, ?_⟩; intro w hSw; (try dsimp only at hSw); go_simp <;> with_reducible rfl)
    try simp only [Act.put, List.setIfInBounds_toArray, List.set_cons_zero, List.set_cons_succ]
    refine wpAnyH_take (i := 16) (oi := ?_) (v := ?_) ?_ (by kernel_rfl) (by kernel_rfl) (by kernel_rfl) ?_ ?_ (by assumption) ?_
    rotate_left 2
    · (simp only [List.getElem?_toArray, List.getElem?_cons_succ, List.getElem?_cons_zero]; rfl)
    · exact fun _ _ _ h => h
    · (refine Or.inl ⟨by rfl, ?_⟩; intro w hSw; (try dsimp only at hSw); go_simp <;> with_reducible rfl)
    try simp only [Act.put, List.setIfInBounds_toArray, List.set_cons_zero, List.set_cons_succ]
    refine wpAnyH_take (i := 17) (oi := ?_) (v := ?_) ?_ (by kernel_rfl) (by kernel_rfl) (by kernel_rfl) ?_ ?_ (by assumption) ?_
    rotate_left 2
    · (simp only [List.getElem?_toArray, List.getElem?_cons_succ, List.getElem?_cons_zero]; rfl)
    · exact fun _ _ _ h => h
    · (refine Or.inl ⟨by rfl, ?_⟩; intro w hSw; (try dsimp only at hSw); go_simp <;> with_reducible rfl)
    try simp only [Act.put, List.setIfInBounds_toArray, List.set_cons_zero, List.set_cons_succ]
    refine wpAnyH_take (i := 18) (oi := ?_) (v := ?_) ?_ (by kernel_rfl) (by kernel_rfl) (by kernel_rfl) ?_ ?_ (by assumption) ?_
    rotate_left 2
    · (simp only [List.getElem?_toArray, List.getElem?_cons_succ, List.getElem?_cons_zero]; rfl)
    · exact fun _ _ _ h => h
    · (refine Or.inl ⟨by rfl, ?_⟩; intro w hSw; (try dsimp only at hSw); go_simp <;> with_reducible rfl)
    try simp only [Act.put, List.setIfInBounds_toArray, List.set_cons_zero, List.set_cons_succ]
    refine wpAnyH_take (i := 19) (oi := ?_) (v := ?_) ?_ (by kernel_rfl) (by kernel_rfl) (by kernel_rfl) ?_ ?_ (by assumption) ?_
    rotate_left 2
    · (simp only [List.getElem?_toArray, List.getElem?_cons_succ, List.getElem?_cons_zero]; rfl)
    · exact fun _ _ _ h => h
    · (refine Or.inl ⟨by rfl, ?_⟩; intro w hSw; (try dsimp only at hSw); go_simp <;> with_reducible rfl)
    try simp only [Act.put, List.setIfInBounds_toArray, List.set_cons_zero, List.set_cons_succ]
    refine wpAnyH_ready (rs := [13, 21]) (by kernel_rfl) (by simp) ?_
    refine AllReadyH.cons (o := ?_) ?_ (fun K hK => ?_) ?_
    rotate_left 1
    · (simp only [List.getElem?_toArray, List.getElem?_cons_succ, List.getElem?_cons_zero]; rfl)
    · go_simp
      refine Calls.mono (queue_Line HC1.out.drew.q i HPI.out (by omega) rfl rfl) ?_
      rintro r w3 ⟨rfl, rfl⟩
      refine hK.out _ _ ⟨c11, c10, c12, ch⟩ (fun hHeld => ?_)
      clear hK K
      try simp only [Act.put, List.setIfInBounds_toArray, List.set_cons_zero, List.set_cons_succ]
      refine wpAnyH_ready (rs := [14, 21]) (by kernel_rfl) (by simp) ?_
      refine AllReadyH.cons (o := ?_) ?_ (fun K hK => ?_) ?_
      rotate_left 1
      · (simp only [List.getElem?_toArray, List.getElem?_cons_succ, List.getElem?_cons_zero]; rfl)
      · go_simp
        refine Calls.mono (line_Len_v _ _ (s.ls.getD i []) len _ (HC1.out.drew.line i HPI.out) HLEN.out.symm) ?_
        rintro r w3 ⟨rfl, rfl⟩
        refine hK.out _ _ ⟨c11, c10, c12, ch⟩ (fun hHeld => ?_)
        clear hK K
        try simp only [Act.put, List.setIfInBounds_toArray, List.set_cons_zero, List.set_cons_succ]
        refine wpAnyH_take (i := 20) (oi := ?_) (v := .agg #[.int .i64 1, .int .i64 0, .int .i64 0, .int .i64 0, .int .i64 hs, .slice none 0 0, .int .i64 len, .int .i64 (p.mn : Int), .int .u32 0]) ?_ (by kernel_rfl) (by kernel_rfl) (by kernel_rfl) ?_ ?_ (by assumption) ?_
        rotate_left 1
        · (simp only [List.getElem?_toArray, List.getElem?_cons_succ, List.getElem?_cons_zero]; rfl)
        · exact fun _ _ _ h => h
        · (refine Or.inl ⟨by rfl, ?_⟩; intro w hSw; (try dsimp only at hSw); (go_simp <;> with_reducible rfl))
        try simp only [Act.put, List.setIfInBounds_toArray, List.set_cons_zero, List.set_cons_succ]
        refine wpAnyH_ready (rs := [21]) (by kernel_rfl) (by simp) ?_
        refine AllReadyH.cons (o := ?_) ?_ (fun K hK => ?_) AllReadyH.nil
        rotate_left 1
        · (simp only [List.getElem?_toArray, List.getElem?_cons_succ, List.getElem?_cons_zero]; rfl)
        go_simp
        refine hK.out _ _ ⟨d11, d10, d12, dh⟩ (fun hHeld => ?_)
        clear hK K
        try simp only [Act.put, List.setIfInBounds_toArray, List.set_cons_zero, List.set_cons_succ]
        refine wpAnyH_ready (rs := [22]) (by kernel_rfl) (by simp) ?_
        refine AllReadyH.cons (o := ?_) ?_ (fun K hK => ?_) AllReadyH.nil
        rotate_left 1
        · (simp only [List.getElem?_toArray, List.getElem?_cons_succ, List.getElem?_cons_zero]; rfl)
        (refine step_putA rfl 41 (.tmp 5) (.tmp 27) rfl w1.heap.size (Pkt.row ⟨1, 0, 0, 0, hs, [], len, p.mn, 0⟩ (.slice none 0 0)) rfl rfl 41 HZ.out 9 info_packet rfl rfl (Pkt.row_oneV _ _ _ _) ?_; intro w5 ha5 hk5 hs5)
        have HB5 := hide (HB2.out.trans (hk5.below HB2.out.size (fun k hk => by omega)))
        have HC5 := hide (HC1.out.below HB5.out)
        refine hK.out _ _ ⟨by have := HC5.out.cell (coRow_peers s p); rw [← HN.out] at this; exact this, HC5.out.cell (coRow_q s p), HC5.out.cell (coRow_marks s p), below_cell HB5.out ch⟩ (fun hHeld => ?_)
        clear hK K
        try simp only [Act.put]
        refine wpAnyH_done (by kernel_rfl) (NoPanic.normal ?_) _
        go_wp2_with fail
        go_meet
        exact ⟨rfl, ha5, HB5.out⟩
      refine AllReadyH.cons (o := ?_) ?_ (fun K hK => ?_) ?_
      rotate_left 1
      · (simp only [List.getElem?_toArray, List.getElem?_cons_succ, List.getElem?_cons_zero]; rfl)
      · go_simp
        skip
        refine hK.out _ _ ⟨d11, d10, d12, dh⟩ (fun hHeld => ?_)
        clear hK K
        try simp only [Act.put, List.setIfInBounds_toArray, List.set_cons_zero, List.set_cons_succ]
        refine wpAnyH_ready (rs := [14]) (by kernel_rfl) (by simp) ?_
        refine AllReadyH.cons (o := ?_) ?_ (fun K hK => ?_) AllReadyH.nil
        rotate_left 1
        · (simp only [List.getElem?_toArray, List.getElem?_cons_succ, List.getElem?_cons_zero]; rfl)
        go_simp
        refine Calls.mono (line_Len_v _ _ (s.ls.getD i []) len _ (HC2.out.line i HPI.out) HLEN.out.symm) ?_
        rintro r w3 ⟨rfl, rfl⟩
        refine hK.out _ _ ⟨d11, d10, d12, dh⟩ (fun hHeld => ?_)
        clear hK K
        try simp only [Act.put, List.setIfInBounds_toArray, List.set_cons_zero, List.set_cons_succ]
        refine wpAnyH_take (i := 20) (oi := ?_) (v := .agg #[.int .i64 1, .int .i64 0, .int .i64 0, .int .i64 0, .int .i64 hs, .slice none 0 0, .int .i64 len, .int .i64 (p.mn : Int), .int .u32 0]) ?_ (by kernel_rfl) (by kernel_rfl) (by kernel_rfl) ?_ ?_ (by assumption) ?_
        rotate_left 1
        · (simp only [List.getElem?_toArray, List.getElem?_cons_succ, List.getElem?_cons_zero]; rfl)
        · exact fun _ _ _ h => h
        · (refine Or.inl ⟨by rfl, ?_⟩; intro w hSw; (try dsimp only at hSw); (go_simp <;> with_reducible rfl))
        try simp only [Act.put, List.setIfInBounds_toArray, List.set_cons_zero, List.set_cons_succ]
        refine wpAnyH_ready (rs := [22]) (by kernel_rfl) (by simp) ?_
        refine AllReadyH.cons (o := ?_) ?_ (fun K hK => ?_) AllReadyH.nil
        rotate_left 1
        · (simp only [List.getElem?_toArray, List.getElem?_cons_succ, List.getElem?_cons_zero]; rfl)
        (refine step_putA rfl 41 (.tmp 5) (.tmp 27) rfl w1.heap.size (Pkt.row ⟨1, 0, 0, 0, hs, [], len, p.mn, 0⟩ (.slice none 0 0)) rfl rfl 41 HZ.out 9 info_packet rfl rfl (Pkt.row_oneV _ _ _ _) ?_; intro w5 ha5 hk5 hs5)
        have HB5 := hide (HB2.out.trans (hk5.below HB2.out.size (fun k hk => by omega)))
        have HC5 := hide (HC1.out.below HB5.out)
        refine hK.out _ _ ⟨by have := HC5.out.cell (coRow_peers s p); rw [← HN.out] at this; exact this, HC5.out.cell (coRow_q s p), HC5.out.cell (coRow_marks s p), below_cell HB5.out ch⟩ (fun hHeld => ?_)
        clear hK K
        try simp only [Act.put]
        refine wpAnyH_done (by kernel_rfl) (NoPanic.normal ?_) _
        go_wp2_with fail
        go_meet
        exact ⟨rfl, ha5, HB5.out⟩
      exact AllReadyH.nil
    refine AllReadyH.cons (o := ?_) ?_ (fun K hK => ?_) ?_
    rotate_left 1
    · (simp only [List.getElem?_toArray, List.getElem?_cons_succ, List.getElem?_cons_zero]; rfl)
    · go_simp
      skip
      refine hK.out _ _ ⟨d11, d10, d12, dh⟩ (fun hHeld => ?_)
      clear hK K
      try simp only [Act.put, List.setIfInBounds_toArray, List.set_cons_zero, List.set_cons_succ]
      refine wpAnyH_ready (rs := [13]) (by kernel_rfl) (by simp) ?_
      refine AllReadyH.cons (o := ?_) ?_ (fun K hK => ?_) AllReadyH.nil
      rotate_left 1
      · (simp only [List.getElem?_toArray, List.getElem?_cons_succ, List.getElem?_cons_zero]; rfl)
      go_simp
      refine Calls.mono (queue_Line HC2.out.q i HPI.out (by omega) rfl rfl) ?_
      rintro r w3 ⟨rfl, rfl⟩
      refine hK.out _ _ ⟨d11, d10, d12, dh⟩ (fun hHeld => ?_)
      clear hK K
      try simp only [Act.put, List.setIfInBounds_toArray, List.set_cons_zero, List.set_cons_succ]
      refine wpAnyH_ready (rs := [14]) (by kernel_rfl) (by simp) ?_
      refine AllReadyH.cons (o := ?_) ?_ (fun K hK => ?_) AllReadyH.nil
      rotate_left 1
      · (simp only [List.getElem?_toArray, List.getElem?_cons_succ, List.getElem?_cons_zero]; rfl)
      go_simp
      refine Calls.mono (line_Len_v _ _ (s.ls.getD i []) len _ (HC2.out.line i HPI.out) HLEN.out.symm) ?_
      rintro r w3 ⟨rfl, rfl⟩
      refine hK.out _ _ ⟨d11, d10, d12, dh⟩ (fun hHeld => ?_)
      clear hK K
      try simp only [Act.put, List.setIfInBounds_toArray, List.set_cons_zero, List.set_cons_succ]
      refine wpAnyH_take (i := 20) (oi := ?_) (v := .agg #[.int .i64 1, .int .i64 0, .int .i64 0, .int .i64 0, .int .i64 hs, .slice none 0 0, .int .i64 len, .int .i64 (p.mn : Int), .int .u32 0]) ?_ (by kernel_rfl) (by kernel_rfl) (by kernel_rfl) ?_ ?_ (by assumption) ?_
      rotate_left 1
      · (simp only [List.getElem?_toArray, List.getElem?_cons_succ, List.getElem?_cons_zero]; rfl)
      · exact fun _ _ _ h => h
      · (refine Or.inl ⟨by rfl, ?_⟩; intro w hSw; (try dsimp only at hSw); (go_simp <;> with_reducible rfl))
      try simp only [Act.put, List.setIfInBounds_toArray, List.set_cons_zero, List.set_cons_succ]
      refine wpAnyH_ready (rs := [22]) (by kernel_rfl) (by simp) ?_
      refine AllReadyH.cons (o := ?_) ?_ (fun K hK => ?_) AllReadyH.nil
      rotate_left 1
      · (simp only [List.getElem?_toArray, List.getElem?_cons_succ, List.getElem?_cons_zero]; rfl)
      (refine step_putA rfl 41 (.tmp 5) (.tmp 27) rfl w1.heap.size (Pkt.row ⟨1, 0, 0, 0, hs, [], len, p.mn, 0⟩ (.slice none 0 0)) rfl rfl 41 HZ.out 9 info_packet rfl rfl (Pkt.row_oneV _ _ _ _) ?_; intro w5 ha5 hk5 hs5)
      have HB5 := hide (HB2.out.trans (hk5.below HB2.out.size (fun k hk => by omega)))
      have HC5 := hide (HC1.out.below HB5.out)
      refine hK.out _ _ ⟨by have := HC5.out.cell (coRow_peers s p); rw [← HN.out] at this; exact this, HC5.out.cell (coRow_q s p), HC5.out.cell (coRow_marks s p), below_cell HB5.out ch⟩ (fun hHeld => ?_)
      clear hK K
      try simp only [Act.put]
      refine wpAnyH_done (by kernel_rfl) (NoPanic.normal ?_) _
      go_wp2_with fail
      go_meet
      exact ⟨rfl, ha5, HB5.out⟩
    exact AllReadyH.nil
  case rest =>
  obtain ⟨rfl, ha2, hb2⟩ := hcut
  obtain ⟨w2, hw2⟩ : ∃ w2, w2 = wc := ⟨_, rfl⟩
  subst hw2
  have HP2 := hide ha2
  have HBX := hide hb2
  have HC3 := hide (HC1.out.below hb2)
  have c10 := below_cell hb2 c10
  have c1 := below_cell hb2 c1
  have c4 := HP2.out.cell (j := 4) (by simp)
  have c5 := HP2.out.cell (j := 5) (by simp)
  have f5 := HP2.out.frozen 5
  simp only [List.getElem_cons_zero, List.getElem_cons_succ] at c4 c5
  have hlt2 : w1.heap.size < w2.heap.size := HP2.out.lt
  obtain ⟨F, hF⟩ : ∃ F, fromLine s.mine hs 32 = F := ⟨_, rfl⟩
  have HF := hide hF
  obtain ⟨m, hm⟩ : ∃ m, F.length = m := ⟨_, rfl⟩
  have HFM := hide hm
  have hm32 : m ≤ 1000 := by rw [← hm, ← hF]; unfold fromLine; split; exact Nat.zero_le _; rw [List.length_take]; omega
  clear hm ha2 hb2 HC2 HZ HB2 hF d11 d10 d12 dh c11 c12 ch
  go_upto_region 2 with fail
  refine wp_region_noPanic ?_
  refine wp_region_held_drew (S := (fun w' => w'.cell? ⟨x, 10, none⟩ = some (.pointer (some ⟨p.q, 0, none⟩)) ∧ w'.cell? ⟨x, 1, none⟩ = some (.int .i64 s.cfg.me) ∧ w'.cell? ⟨w1.heap.size, 4, none⟩ = some (.int .i64 hs))) (by kernel_rfl) ⟨c10, c1, c4⟩ (fun hHeld => ?_)
  refine wpAnyH_take (i := 0) (oi := ?_) (v := ?_) ?_ (by kernel_rfl) (by kernel_rfl) (by kernel_rfl) ?_ ?_ (by assumption) ?_
  rotate_left 2
  · (simp only [List.getElem?_toArray, List.getElem?_cons_zero]; rfl)
  · exact fun _ _ _ h => h
  · (refine Or.inl ⟨by rfl, ?_⟩; intro w hSw; (try dsimp only at hSw); go_simp <;> with_reducible rfl)
  try simp only [Act.put, List.setIfInBounds_toArray, List.set_cons_zero, List.set_cons_succ]
  refine wpAnyH_take (i := 1) (oi := ?_) (v := ?_) ?_ (by kernel_rfl) (by kernel_rfl) (by kernel_rfl) ?_ ?_ (by assumption) ?_
  rotate_left 2
  · (simp only [List.getElem?_toArray, List.getElem?_cons_succ, List.getElem?_cons_zero]; rfl)
  · exact fun _ _ _ h => h
  · (refine Or.inl ⟨by rfl, ?_⟩; intro w hSw; (try dsimp only at hSw); go_simp <;> with_reducible rfl)
  try simp only [Act.put, List.setIfInBounds_toArray, List.set_cons_zero, List.set_cons_succ]
  refine wpAnyH_take (i := 2) (oi := ?_) (v := ?_) ?_ (by kernel_rfl) (by kernel_rfl) (by kernel_rfl) ?_ ?_ (by assumption) ?_
  rotate_left 2
  · (simp only [List.getElem?_toArray, List.getElem?_cons_succ, List.getElem?_cons_zero]; rfl)
  · exact fun _ _ _ h => h
  · (refine Or.inl ⟨by rfl, ?_⟩; intro w hSw; (try dsimp only at hSw); go_simp <;> with_reducible rfl)
  try simp only [Act.put, List.setIfInBounds_toArray, List.set_cons_zero, List.set_cons_succ]
  refine wpAnyH_take (i := 3) (oi := ?_) (v := ?_) ?_ (by kernel_rfl) (by kernel_rfl) (by kernel_rfl) ?_ ?_ (by assumption) ?_
  rotate_left 2
  · (simp only [List.getElem?_toArray, List.getElem?_cons_succ, List.getElem?_cons_zero]; rfl)
  · exact fun _ _ _ h => h
  · (refine Or.inl ⟨by rfl, ?_⟩; intro w hSw; (try dsimp only at hSw); go_simp <;> with_reducible rfl)
  try simp only [Act.put, List.setIfInBounds_toArray, List.set_cons_zero, List.set_cons_succ]
  refine wpAnyH_take (i := 4) (oi := ?_) (v := ?_) ?_ (by kernel_rfl) (by kernel_rfl) (by kernel_rfl) ?_ ?_ (by assumption) ?_
  rotate_left 2
  · (simp only [List.getElem?_toArray, List.getElem?_cons_succ, List.getElem?_cons_zero]; rfl)
  · exact fun _ _ _ h => h
  · (refine Or.inl ⟨by rfl, ?_⟩; intro w hSw; (try dsimp only at hSw); go_simp <;> with_reducible rfl)
  try simp only [Act.put, List.setIfInBounds_toArray, List.set_cons_zero, List.set_cons_succ]
  refine wpAnyH_take (i := 5) (oi := ?_) (v := ?_) ?_ (by kernel_rfl) (by kernel_rfl) (by kernel_rfl) ?_ ?_ (by assumption) ?_
  rotate_left 2
  · (simp only [List.getElem?_toArray, List.getElem?_cons_succ, List.getElem?_cons_zero]; rfl)
  · exact fun _ _ _ h => h
  · (refine Or.inl ⟨by rfl, ?_⟩; intro w hSw; (try dsimp only at hSw); go_simp <;> with_reducible rfl)
  try simp only [Act.put, List.setIfInBounds_toArray, List.set_cons_zero, List.set_cons_succ]
  refine wpAnyH_take (i := 6) (oi := ?_) (v := ?_) ?_ (by kernel_rfl) (by kernel_rfl) (by kernel_rfl) ?_ ?_ (by assumption) ?_
  rotate_left 2
  · (simp only [List.getElem?_toArray, List.getElem?_cons_succ, List.getElem?_cons_zero]; rfl)
  · exact fun _ _ _ h => h
  · (refine Or.inl ⟨by rfl, ?_⟩; intro w hSw; (try dsimp only at hSw); go_simp <;> with_reducible rfl)
  try simp only [Act.put, List.setIfInBounds_toArray, List.set_cons_zero, List.set_cons_succ]
  refine wpAnyH_take (i := 7) (oi := ?_) (v := ?_) ?_ (by kernel_rfl) (by kernel_rfl) (by kernel_rfl) ?_ ?_ (by assumption) ?_
  rotate_left 2
  · (simp only [List.getElem?_toArray, List.getElem?_cons_succ, List.getElem?_cons_zero]; rfl)
  · exact fun _ _ _ h => h
  · (refine Or.inl ⟨by rfl, ?_⟩; intro w hSw; (try dsimp only at hSw); go_simp <;> with_reducible rfl)
  try simp only [Act.put, List.setIfInBounds_toArray, List.set_cons_zero, List.set_cons_succ]
  refine wpAnyH_take (i := 8) (oi := ?_) (v := ?_) ?_ (by kernel_rfl) (by kernel_rfl) (by kernel_rfl) ?_ ?_ (by assumption) ?_
  rotate_left 2
  · (simp only [List.getElem?_toArray, List.getElem?_cons_succ, List.getElem?_cons_zero]; rfl)
  · exact fun _ _ _ h => h
  · (refine Or.inl ⟨by rfl, ?_⟩; intro w hSw; (try dsimp only at hSw); go_simp <;> with_reducible rfl)
  try simp only [Act.put, List.setIfInBounds_toArray, List.set_cons_zero, List.set_cons_succ]
  refine wpAnyH_take (i := 10) (oi := ?_) (v := ?_) ?_ (by kernel_rfl) (by kernel_rfl) (by kernel_rfl) ?_ ?_ (by assumption) ?_
  rotate_left 2
  · (simp only [List.getElem?_toArray, List.getElem?_cons_succ, List.getElem?_cons_zero]; rfl)
  · exact fun _ _ _ h => h
  · (refine Or.inl ⟨by rfl, ?_⟩; intro w hSw; (try dsimp only at hSw); go_simp <;> with_reducible rfl)
  try simp only [Act.put, List.setIfInBounds_toArray, List.set_cons_zero, List.set_cons_succ]
  refine wpAnyH_take (i := 11) (oi := ?_) (v := ?_) ?_ (by kernel_rfl) (by kernel_rfl) (by kernel_rfl) ?_ ?_ (by assumption) ?_
  rotate_left 2
  · (simp only [List.getElem?_toArray, List.getElem?_cons_succ, List.getElem?_cons_zero]; rfl)
  · exact fun _ _ _ h => h
  · (refine Or.inl ⟨by rfl, ?_⟩; intro w hSw; (try dsimp only at hSw); go_simp <;> with_reducible rfl)
  try simp only [Act.put, List.setIfInBounds_toArray, List.set_cons_zero, List.set_cons_succ]
  refine wpAnyH_ready (rs := [9]) (by kernel_rfl) (by simp) ?_
  refine AllReadyH.cons (o := ?_) ?_ (fun K hK => ?_) AllReadyH.nil
  rotate_left 1
  · (simp only [List.getElem?_toArray, List.getElem?_cons_succ, List.getElem?_cons_zero]; rfl)
  go_simp
  refine Calls.mono (queue_Line HC3.out.drew.q mi HMI.out (by omega) HME.out rfl) ?_
  rintro r w3 ⟨rfl, rfl⟩
  refine hK.out _ _ ⟨c10, c1, c4⟩ (fun hHeld => ?_)
  clear hK K
  try simp only [Act.put, List.setIfInBounds_toArray, List.set_cons_zero, List.set_cons_succ]
  refine wpAnyH_ready (rs := [12]) (by kernel_rfl) (by simp) ?_
  refine AllReadyH.cons (o := ?_) ?_ (fun K hK => ?_) AllReadyH.nil
  rotate_left 1
  · (simp only [List.getElem?_toArray, List.getElem?_cons_succ, List.getElem?_cons_zero]; rfl)
  go_simp
  refine Calls.mono (line_From_v _ _ s.mine F hs 32 m _ (by rw [← HMINE.out]; exact HC3.out.drew.line mi HMI.out) (by omega) (by omega) (by omega) (by omega) HF.out HFM.out) ?_
  rintro r w4 ⟨A5, k5, rfl, ho4, hb4⟩
  have HP4 := hide (HP2.out.drew.belowN hb4)
  have HC4 := hide (HC3.out.drew.below hb4)
  have HB4 := hide (Below_step HBX.out.drew hb4)
  have c5 := below_cell hb4 c5
  have f5 := HP4.out.frozen 5
  have c10 := below_cell hb4 c10
  have c1 := below_cell hb4 c1
  have c4 := below_cell hb4 c4
  refine hK.out _ _ ⟨c10, c1, c4⟩ (fun hHeld => ?_)
  clear hK K
  try simp only [Act.put, List.setIfInBounds_toArray, List.set_cons_zero, List.set_cons_succ]
  refine wpAnyH_take (i := 13) (oi := ?_) (v := ?_) ?_ (by kernel_rfl) (by kernel_rfl) (by kernel_rfl) ?_ ?_ (by assumption) ?_
  rotate_left 2
  · (simp only [List.getElem?_toArray, List.getElem?_cons_succ, List.getElem?_cons_zero]; rfl)
  · exact fun _ _ _ h => h
  · (refine Or.inl ⟨by rfl, ?_⟩; intro w hSw; (try dsimp only at hSw); go_simp <;> with_reducible rfl)
  try simp only [Act.put, List.setIfInBounds_toArray, List.set_cons_zero, List.set_cons_succ]
  refine wpAnyH_ready (rs := [14]) (by kernel_rfl) (by simp) ?_
  refine AllReadyH.cons (o := ?_) ?_ (fun K hK => ?_) AllReadyH.nil
  rotate_left 1
  · (simp only [List.getElem?_toArray, List.getElem?_cons_succ, List.getElem?_cons_zero]; rfl)
  go_simp
  have HP6 : Hid (Arr 41 (w4.setCell ⟨w1.heap.size, 5, none⟩ (.slice A5 m k5)) w1.heap.size (Pkt.row ⟨1, 0, 0, 0, hs, F, len, p.mn, 0⟩ (.slice A5 m k5))) := HP4.out.set 5 _
  have hk6 := Keeps.setCell w4 ⟨w1.heap.size, 5, none⟩ (.slice A5 m k5)
  have HB6 := hide (HB4.out.trans (hk6.below HB4.out.size (fun k hk => by show ¬ k = w1.heap.size; omega)))
  have e2 : w2.drew.heap.size = w2.heap.size := rfl
  have HO6 := hide (OwnB.base_le (OwnB.keeps ho4 hk6 (fun j hj hm => by have hl := ho4.blk j hj; have hm : j = w1.heap.size := hm; omega)) (base' := w2.heap.size) (Nat.le_refl _))
  have HC6 := hide (HC1.out.below HB6.out)
  have q4 := HP6.out.cell (j := 4) (by simp)
  simp only [List.getElem_cons_zero, List.getElem_cons_succ] at q4
  generalize World.setCell w4 _ _ = w6 at HP6 HB6 HO6 HC6 q4 ⊢
  refine hK.out _ _ ⟨HC6.out.cell (coRow_q s p), HC6.out.cell (coRow_me s p), q4⟩ (fun hHeld => ?_)
  clear hK K
  try simp only [Act.put]
  refine wpAnyH_done (by kernel_rfl) (NoPanic.normal ?_) _
  clear hb4 ho4 hHeld
  have HMK := HC6.out.marks
  have c12 := HC6.out.cell (coRow_marks s p)
  by_cases hm0 : p.mn = 0
  · have d1 : decide ((p.mn : Int) > 0) = false := decide_eq_false (by omega)
    have d2 : decide (0 < p.mn) = false := decide_eq_false (by omega)
    have HTELL : Hid (s.telling i = Pkt.sent ⟨1, 0, 0, 0, hs, F, len, p.mn, 0⟩ s.cfg.me i s.cfg.id) := by
      show _ = _
      rw [Co.telling, HPR.out, ← HHS.out, HF.out, ← HLEN.out, HMN.out, hm0]
      rfl
    clear hm0
    go_upto_region 6 with fail
    go_wp2_with (refine wpP_load rfl (.tmp 5) rfl w1.heap.size rfl ⟨1, 0, 0, 0, hs, F, len, p.mn, 0⟩ (.slice A5 m k5) HP6.out ?_)
    refine Calls.mono (core_mail HC6.out ⟨1, 0, 0, 0, hs, F, len, p.mn, 0⟩ (HO6.out.lies) (Nat.le_refl _) (by omega) ⟨by show (0 : Int) ≤ 0; omega, by show (0 : Int) < _; omega⟩ (i : Int)) ?_
    rintro r w8 ⟨A8, n8, c8, rfl, ho8, hb8⟩
    have HB8 := hide (HB6.out.trans (hb8.mono HB6.out.size))
    have HM8 := hide (HM.out.belowN HB8.out)
    have hgs : g < w6.heap.size := Nat.lt_of_lt_of_le hgg HB6.out.size
    clear hb8
    go_wp2_with (refine wpA_store rfl 47 (.tmp 4) (.tmp 61) rfl g (mailRow s.cfg.me i (.slice A8 n8 c8)) rfl rfl 47 _ HM8.out 3 info_mail rfl rfl (by simp [mailRow, Value.oneCell']) ?_; intro w9 ha9 hk9 hs9)
    refine bodyPost_ret (results_Mail (fn := Try.f61) rfl _ _ g rfl s.cfg.me i (.slice A8 n8 c8) ha9) rfl ⟨A8, n8, c8, rfl, ?_, ?_⟩
    · have h9 := OwnB.keeps ho8 hk9 (fun j hj hm => by have hl := ho8.blk j hj; omega)
      have h9 := OwnB.base_le (base' := w.heap.size) h9 (Nat.le_trans HB1.out.size HB6.out.size)
      rw [HTELL.out]
      exact h9
    · exact (HB1.out.trans (HB8.out.mono HB1.out.size)).trans (hk9.below (Nat.le_trans HB1.out.size HB8.out.size) (fun k hk => by have := HG.out; omega))
  · have d1 : decide ((p.mn : Int) > 0) = true := decide_eq_true (by omega)
    obtain ⟨k, hk⟩ : ∃ k, p.mn = k + 1 := ⟨p.mn - 1, by omega⟩
    have hkm : k < p.mn := by omega
    obtain ⟨gm, hmA, -, -⟩ := HC6.out.marks.form (by omega)
    rw [hmA] at HMK c12
    obtain ⟨hl9, c9⟩ := HMK.cell hkm
    obtain ⟨mk, hmk2⟩ : ∃ mk, mk = s.marks.getD k 0 := ⟨_, rfl⟩
    have hl10 : k < s.marks.length := by rw [HMN.out]; exact hkm
    have hc9 : w6.cell? ⟨gm, k, none⟩ = some (.int .u32 mk) := by
      rw [c9, List.getElem_map, hmk2, List.getD_eq_getElem?_getD, List.getElem?_eq_getElem hl10]; rfl
    have hmw : 0 ≤ mk ∧ mk < 4294967296 := by
      rw [hmk2, List.getD_eq_getElem?_getD, List.getElem?_eq_getElem hl10]
      exact HC6.out.ok.mark _ (List.getElem_mem hl10)
    have hkk : (p.mn : Int) - 1 = (k : Int) := by omega
    have hki : (k : Int) < (p.mn : Int) := by omega
    have hww : IntKind.i64.wrap (k : Int) = (k : Int) := IntWalk.i64_in _ ⟨by omega, by omega⟩
    have HTELL : Hid (s.telling i = Pkt.sent ⟨1, 0, 0, 0, hs, F, len, p.mn, mk⟩ s.cfg.me i s.cfg.id) := by
      show _ = _
      rw [Co.telling, HPR.out, ← HHS.out, HF.out, ← HLEN.out, HMN.out, if_neg hm0, show p.mn - 1 = k by omega, ← hmk2]
      rfl
    have c8 := HP6.out.cell (j := 8) (by simp)
    have f8 := HP6.out.frozen 8
    simp only [List.getElem_cons_zero, List.getElem_cons_succ] at c8
    clear hm0 hk hmA HMK hl9 c9 hmk2 hl10
    go_upto_region 6 with fail
    have HP7 : Hid (Arr 41 (w6.setCell ⟨w1.heap.size, 8, none⟩ (.int .u32 mk)) w1.heap.size (Pkt.row ⟨1, 0, 0, 0, hs, F, len, p.mn, mk⟩ (.slice A5 m k5))) := HP6.out.set 8 _
    have hk7 := Keeps.setCell w6 ⟨w1.heap.size, 8, none⟩ (.int .u32 mk)
    have HB7 := hide (HB6.out.trans (hk7.below HB6.out.size (fun k hk => by show ¬ k = w1.heap.size; omega)))
    have HO7 := hide (OwnB.keeps HO6.out hk7 (fun j hj hm => by have hl := HO6.out.blk j hj; have hm : j = w1.heap.size := hm; omega))
    have HC7 := hide (HC1.out.below HB7.out)
    generalize World.setCell w6 _ _ = w7 at HP7 HB7 HO7 HC7 ⊢
    go_wp2_with (refine wpP_load rfl (.tmp 5) rfl w1.heap.size rfl ⟨1, 0, 0, 0, hs, F, len, p.mn, mk⟩ (.slice A5 m k5) HP7.out ?_)
    refine Calls.mono (core_mail HC7.out ⟨1, 0, 0, 0, hs, F, len, p.mn, mk⟩ (HO7.out.lies) (Nat.le_refl _) (by omega) hmw (i : Int)) ?_
    rintro r w8 ⟨A8, n8, c8, rfl, ho8, hb8⟩
    have HB8 := hide (HB7.out.trans (hb8.mono HB7.out.size))
    have HM8 := hide (HM.out.belowN HB8.out)
    have hgs : g < w7.heap.size := Nat.lt_of_lt_of_le hgg HB7.out.size
    clear hb8
    go_wp2_with (refine wpA_store rfl 47 (.tmp 4) (.tmp 61) rfl g (mailRow s.cfg.me i (.slice A8 n8 c8)) rfl rfl 47 _ HM8.out 3 info_mail rfl rfl (by simp [mailRow, Value.oneCell']) ?_; intro w9 ha9 hk9 hs9)
    refine bodyPost_ret (results_Mail (fn := Try.f61) rfl _ _ g rfl s.cfg.me i (.slice A8 n8 c8) ha9) rfl ⟨A8, n8, c8, rfl, ?_, ?_⟩
    · have h9 := OwnB.keeps ho8 hk9 (fun j hj hm => by have hl := ho8.blk j hj; omega)
      have h9 := OwnB.base_le (base' := w.heap.size) h9 (Nat.le_trans HB1.out.size HB7.out.size)
      rw [HTELL.out]
      exact h9
    · exact (HB1.out.trans (HB8.out.mono HB1.out.size)).trans (hk9.below (Nat.le_trans HB1.out.size HB8.out.size) (fun k hk => by have := HG.out; omega))
end Go.Proofs.Ytbcgffgiifminaa
namespace Go.Proofs.Ytbcgffgiifminaa
open Go.RowKit
set_option maxRecDepth 10000
set_option linter.unusedVariables false
/-- A mail. -/
structure Mle where
  src : Int
  dst : Int
  b : List UInt8
def mrow (x : Mle × Sl) : List Value := [.int .i64 x.1.src, .int .i64 x.1.dst, sv x.2]
theorem mrow_len (x : Mle × Sl) : (mrow x).length = 3 := rfl
theorem ownsRow_base_le {w : World} {B B' sz n : Nat} {e : TypeId} {v : Value} {l : List Value} (h : w.ownsRow B e sz v n l) (hb : B' ≤ B) : w.ownsRow B' e sz v n l := by
  refine ⟨h.1, ?_⟩
  rcases h.2 with h2 | ⟨g, cap, cur, hv, hg, r⟩
  · exact .inl h2
  · exact .inr ⟨g, cap, cur, hv, Nat.le_trans hb hg, r⟩
/-- A row of mails of type T. -/
structure ML (T : TypeId) (B : Nat) (w : World) (A : Option Addr) (n c : Nat) (xs : List (Mle × Sl)) : Prop where
  row : w.ownsRow B T 3 (.slice A n c) n (xs.flatMap mrow)
  line : ∀ x ∈ xs, OwnB w B x.2.1 x.2.2.1 x.2.2.2 x.1.b
section
variable {T : TypeId} {B B' : Nat} {w w' : World} {A : Option Addr} {n c : Nat} {xs : List (Mle × Sl)}
theorem ML.nil (T : TypeId) (B : Nat) (w : World) : ML T B w none 0 0 [] := ⟨World.ownsRow_nil _ _ _ _, fun x h => by simp at h⟩
theorem ML.len (h : ML T B w A n c xs) : xs.length = n := by
  have := h.row.1
  rw [flat_len mrow_len] at this
  omega
theorem ML.below (h : ML T B w A n c xs) (hb : Below w.heap.size w w') : ML T B w' A n c xs := ⟨ownsRow_below h.row hb, fun x hx => (h.line x hx).below hb⟩
theorem ML.drew (h : ML T B w A n c xs) : ML T B w.drew A n c xs := h.below ((Below.refl _ _).drew)
theorem ML.base_le (h : ML T B w A n c xs) (hb : B' ≤ B) : ML T B' w A n c xs := ⟨ownsRow_base_le h.row hb, fun x hx => OwnB.base_le (h.line x hx) hb⟩
theorem ML.add {w2 w4 : World} {g4 c4 : Nat} {x : Mle × Sl} (h : ML T B w A n c xs) (hT : T ≠ 5) (hx : OwnB w2 B x.2.1 x.2.2.1 x.2.2.2 x.1.b) (hb : Below w.heap.size w w2) (hb3 : Below w2.heap.size w2 w')
    (own4 : w4.ownsRow B T 3 (.slice (some ⟨g4, 0, none⟩) (n + 1) c4) (n + 1) (xs.flatMap mrow ++ mrow x)) (k4 : Keeps (Mine A n c) w' w4) : ML T B w4 (some ⟨g4, 0, none⟩) (n + 1) c4 (xs ++ [x]) := by
  have off : Off (Mine A n c) w' [5] := Off.of (T := T) (owns_tb (ownsRow_below (ownsRow_below h.row hb) hb3)) (by simpa using hT)
  refine ⟨by rw [List.flatMap_append, List.flatMap_singleton]; exact own4, fun y hy => ?_⟩
  rcases List.mem_append.1 hy with hy | hy
  · exact owns_off (((h.line y hy).below hb).below hb3) k4 off (by simp)
  · rw [List.mem_singleton.1 hy]
    exact owns_off (hx.below hb3) k4 off (by simp)
theorem ML.keepsBelow {w4 : World} (h : ML T B w A n c xs) (hB : B ≤ w.heap.size) (k4 : Keeps (Mine A n c) w w4) : Below B w w4 := k4.below hB fun k hk hm => by have := World.ownsRow.lt h.row k hm.symm; omega
end
theorem elem_mails : ElemN 42 47 (.agg #[.int .i64 0, .int .i64 0, .slice none 0 0]) 3 40 := ⟨Try.underlying42, by kernel_rfl, rfl, by omega⟩
/-- What who quits sends. -/
def Co.quitTo (s : Co) (j : Nat) : Mle := ⟨s.cfg.me, j, (⟨2, s.cfg.me, j, s.cfg.id, 0, [], 0, 0, 0⟩ : Pkt).enc⟩
def Co.them (s : Co) : List Nat := othersOf s.peers.length s.cfg.me.toNat
def Co.quitMails (s : Co) : List Mle := if s.closed = true then [] else s.them.map s.quitTo
def Co.quit (s : Co) : Co := { s with closed := true }
theorem othersOf_pos {n me : Nat} (h : 2 ≤ n) : 0 < (othersOf n me).length := by
  apply List.length_pos_of_mem (a := if me = 0 then 1 else 0)
  unfold othersOf
  rw [List.mem_filter, List.mem_range]
  split
  · exact ⟨by omega, by simp; omega⟩
  · exact ⟨by omega, by simp; omega⟩
theorem take_succ_map {α β : Type} (f : α → β) (l : List α) (k : Nat) (h : k < l.length) : (l.take (k + 1)).map f = (l.take k).map f ++ [f l[k]] := by
  rw [List.take_succ_eq_append_getElem h, List.map_append]; rfl
theorem core_Quit_nil (w : World) : Calls Try.prog 32 #[.pointer none] w fun r w' => r = .returned (.slice none 0 0) ∧ w = w' := by
  go_enter Try.func32, Try.ntmps32
  go_wp2_with fail
  refine Calls.mono (core_Closed_nil w) ?_
  rintro r w2 ⟨rfl, rfl⟩
  go_wp2_with fail
  go_ret
  exact ⟨rfl, rfl⟩
set_option maxHeartbeats 4000000 in
theorem core_Quit {B : Nat} {w : World} {x : Nat} {p : CP} {s : Co} (h : CAt B w x p s) (hB : B ≤ w.heap.size) :
    Calls Try.prog 32 #[.pointer (some ⟨x, 0, none⟩)] w fun r w' => ∃ A n c xs, r = .returned (.slice A n c) ∧ ML 47 w.heap.size w' A n c xs ∧ xs.map Prod.fst = s.quitMails ∧ CAt B w' x p s.quit ∧ Stp w w' x p p := by
  have H := hide h
  have HB := hide hB
  obtain ⟨cl, hcl⟩ : ∃ cl, cl = s.closed := ⟨_, rfl⟩
  have HCL := hide hcl
  obtain ⟨Q, hQ⟩ : ∃ Q, Q = s.quitMails := ⟨_, rfl⟩
  have HQ := hide hQ
  obtain ⟨S, hS⟩ : ∃ S, S = s.quit := ⟨_, rfl⟩
  have HS := hide hS
  rw [← hQ, ← hS]
  have cc := h.cell (coRow_closed s p)
  have fz := h.hfrozen 15
  clear h hB hcl hQ hS
  go_enter Try.func32, Try.ntmps32
  go_wp2_with fail
  refine Calls.mono (core_Closed H.out) ?_
  rintro r w2 ⟨rfl, rfl⟩
  rw [← HCL.out]
  cases cl with
  | true =>
    have hSs : S = s := by
      rw [HS.out, Co.quit]
      have := HCL.out
      cases s
      simp only at this
      rw [← this]
    go_wp2_with fail
    go_ret
    exact ⟨none, 0, 0, [], rfl, ML.nil _ _ _, by rw [HQ.out, Co.quitMails, if_pos HCL.out.symm]; rfl, by rw [hSs]; exact H.out, Stp.refl _ _ _⟩
  | false =>
    obtain ⟨mi, hme, hmi, hmil, hll, h8⟩ := H.out.me
    have HME := hide hme
    have hn8 : s.peers.length ≤ 8 := by have := H.out.ok.np; have := H.out.ok.cfg.n; omega
    have HS2 := hide (H.out.setHead 15 (.bool true) s.quit (by rfl) rfl rfl rfl rfl ⟨H.out.ok.cfg, H.out.ok.np, H.out.ok.nl, H.out.ok.short, H.out.ok.head, H.out.ok.has, H.out.ok.heard, H.out.ok.frame, H.out.ok.sum, H.out.ok.marks, H.out.ok.mark, H.out.ok.now, H.out.ok.events⟩)
    have hq2 : s.quitMails = s.them.map s.quitTo := by rw [Co.quitMails, if_neg (by rw [← HCL.out]; decide)]
    have HQ2 : Hid (Q = (othersOf s.peers.length mi).map s.quitTo) := by show _ = _; rw [HQ.out, hq2, Co.them, hme, Int.toNat_natCast]
    have HSZ : Hid ((w.setCell ⟨x, 15, none⟩ (.bool true)).heap.size = w.heap.size) := World.size_setCell _ _ _
    clear hq2 hmi hmil hll hme
    go_upto_region 5 with fail
    generalize World.setCell w _ _ = w1 at HS2 HSZ ⊢
    have HC1 := hide HS2.out.1
    go_wp2_with fail
    refine Calls.mono (core_others HC1.out mi HME.out) ?_
    rintro r w2 ⟨oA, oc, rfl, ho2, hb2⟩
    have hlen : (Co.quit s).peers.length = s.peers.length := rfl
    rw [hlen] at ho2 ⊢
    obtain ⟨L, hL⟩ : ∃ L, L = othersOf s.peers.length mi := ⟨_, rfl⟩
    rw [← hL] at ho2 ⊢
    have HL := hide hL
    have hL1 : 0 < L.length := by rw [hL]; exact othersOf_pos (by have := H.out.ok.np; have := H.out.ok.cfg.n; omega)
    have hL8 : L.length ≤ 8 := by rw [hL]; exact Nat.le_trans (othersOf_len _ _) hn8
    obtain ⟨n, hn⟩ : ∃ n, n = L.length := ⟨_, rfl⟩
    rw [← hn] at ho2 hL8 hL1 ⊢
    have HN := hide hn
    obtain ⟨gL, hgL, -, -⟩ := ho2.form hL1
    subst hgL
    have HO2 := hide ho2
    have HB2 := hide hb2
    clear ho2 hb2 hL hn hlen cc fz
    go_wp2_with fail
    go_loopg [3, 14] n (fun gg s3 s14 wr => ∃ (k : Nat) (A : Option Addr) (c : Nat) (xs : List (Mle × Sl)), k ≤ n ∧ gg = n - k ∧ s14 = .int .i64 (k : Int) ∧ s3 = .slice A k c ∧ Hid (ML 47 w1.heap.size wr A k c xs) ∧ Hid (xs.map Prod.fst = (L.take k).map s.quitTo) ∧ Hid (OwnV 3 wr w1.heap.size (some ⟨gL, 0, none⟩) n oc (L.map iv)) ∧ Hid (Below w1.heap.size w1 wr))
    case atStart => exact ⟨0, none, 0, [], by omega, rfl, rfl, rfl, ML.nil _ _ _, rfl, HO2, HB2⟩
    case round =>
      obtain ⟨W1, hW1⟩ : ∃ W1, W1 = wr := ⟨_, rfl⟩
      subst hW1
      obtain ⟨k, A, c, xs, hkn, rfl, rfl, rfl, HML, HXS, HO, HBW⟩ := hrel
      by_cases hlt : k < n
      · obtain ⟨hl9, c9⟩ := HO.out.cell hlt
        have hlL : k < L.length := by rw [← HN.out]; exact hlt
        obtain ⟨j, hj⟩ : ∃ j, j = L[k] := ⟨_, rfl⟩
        have hc9 : W1.cell? ⟨gL, k, none⟩ = some (.int .i64 (j : Int)) := by rw [c9, List.getElem_map, hj]; rfl
        have HXS2 : Hid ((L.take (k + 1)).map s.quitTo = (L.take k).map s.quitTo ++ [s.quitTo j]) := by show _ = _; rw [take_succ_map _ _ _ hlL, hj]
        have HCW := hide (HC1.out.below HBW.out)
        have hki : (k : Int) < (n : Int) := by omega
        have hszW : w1.heap.size ≤ W1.heap.size := HBW.out.size
        clear hl9 c9 hj hlL
        go_wp2_with fail
        refine Calls.mono (core_mail HCW.out ⟨2, 0, 0, 0, 0, [], 0, 0, 0⟩ (LiesB.nil _ _ none) (Nat.le_refl _) (by omega) ⟨by show (0 : Int) ≤ 0; omega, by show (0 : Int) < _; omega⟩ (j : Int)) ?_
        rintro r w8 ⟨A8, n8, c8, rfl, ho8, hb8⟩
        have bn := Below_new w8 (.cells #[.int .i64 s.cfg.me, .int .i64 (j : Int), .slice A8 n8 c8] 47)
        have HML2 := hide ((HML.out.below hb8).below bn)
        have HL2 := hide (Lies.new w8 #[.int .i64 s.cfg.me, .int .i64 (j : Int), .slice A8 n8 c8] 47 (0, 0))
        have HB8 := hide (HBW.out.trans (hb8.mono hszW))
        have HB9 := hide (Below_step HB8.out bn)
        have HO8 := hide ho8
        have HBN := hide bn
        have HBB := hide hb8
        have hB9 : w1.heap.size ≤ (World.alloc w8 (.cells #[.int .i64 s.cfg.me, .int .i64 (j : Int), .slice A8 n8 c8] 47)).heap.size := HB9.out.size
        clear bn ho8 hb8
        have hme2 : s.quit.cfg.me = s.cfg.me := rfl
        rw [hme2]
        clear hme2
        go_wp2_with (refine wpN_append elem_mails rfl (.tmp 18) (.tmp 23) rfl w1.heap.size A k c _ rfl HML2.out.row _ _ 1 [.int .i64 s.cfg.me, .int .i64 (j : Int), .slice A8 n8 c8] rfl rfl HL2.out (by simp [Value.oneCell']) (by omega) (by omega) hB9 ?_; intro g9 c9 w9 own9 k9 hk9; have HOW := hide own9; have HK9 := hide k9; clear own9 k9 hk9)
        go_roundg (n - (k + 1))
        case measure => omega
        case rel =>
          refine ⟨k + 1, some ⟨g9, 0, none⟩, c9, xs ++ [(s.quitTo j, (A8, n8, c8))], by omega, rfl, by go_num, rfl, ?_, ?_, ?_, ?_⟩
          · exact HML.out.add (x := (s.quitTo j, (A8, n8, c8))) (by decide) (OwnB.base_le HO8.out hszW) HBB.out HBN.out HOW.out HK9.out
          · show _ = _
            rw [HXS2.out, ← HXS.out, List.map_append]; rfl
          · exact owns_off ((HO.out.below HBB.out).below HBN.out) HK9.out (Off.of (Ts := [3]) (owns_tb HML2.out.row) (by decide)) (by simp)
          · exact HB9.out.trans (HML2.out.keepsBelow hB9 HK9.out)
      · obtain rfl : k = n := by omega
        go_wp2_with fail
        go_ret
        have e1 : w1.heap.size = w.heap.size := HSZ.out
        refine ⟨A, k, c, xs, rfl, by have := HML.out; rw [e1] at this; exact this, ?_, by rw [HS.out]; exact HC1.out.below HBW.out, HS2.out.2.trans (Stp.of_below HBW.out)⟩
        rw [HXS.out, HQ2.out, HN.out, List.take_length, HL.out]
end Go.Proofs.Ytbcgffgiifminaa
namespace Go.Proofs.Ytbcgffgiifminaa
open Go.RowKit
set_option maxRecDepth 10000
set_option linter.unusedVariables false
def Peer.zero : Peer := ⟨0, 0, 0, 0, false⟩
def Co.ticked (s : Co) : Co := { s with now := s.now + 1 }
/-- Was nothing heard of a player for long? -/
def Co.isLate (s : Co) (j : Nat) : Bool := decide (40 ≤ s.now - (s.peers.getD j Peer.zero).heard)
def Co.lateWho (s : Co) : Option Nat := s.them.find? s.isLate
def Co.tick (s : Co) : Co := if s.closed = true then s else match s.ticked.lateWho with
  | some j => { s.ticked with events := s.events ++ [.late j], closed := true }
  | none => s.ticked
def Co.tellTo (s : Co) (j : Nat) : Mle := ⟨s.cfg.me, j, (s.telling j).enc⟩
def Co.tickMails (s : Co) : List Mle := if s.closed = true then [] else match s.ticked.lateWho with
  | some _ => []
  | none => s.them.map s.ticked.tellTo
theorem Co.Ok.tick {s : Co} (h : s.Ok) (hn : s.now < 1000000000) : s.ticked.Ok := ⟨h.cfg, h.np, h.nl, h.short, h.head, h.has, fun p hp => by have := h.heard p hp; show _ ∧ p.heard ≤ s.now + 1; omega, h.frame, h.sum, h.marks, h.mark, by have := h.now; show 0 ≤ s.now + 1 ∧ s.now + 1 ≤ _; omega, h.events⟩
theorem mem_others {n me j : Nat} : j ∈ othersOf n me ↔ j < n ∧ j ≠ me := by unfold othersOf; simp
theorem core_Tick_nil (w : World) : Calls Try.prog 22 #[.pointer none] w fun r w' => r = .returned (.slice none 0 0) ∧ w = w' := by
  go_enter Try.func22, Try.ntmps22
  go_wp2_with fail
  refine Calls.mono (core_Closed_nil w) ?_
  rintro r w2 ⟨rfl, rfl⟩
  go_wp2_with fail
  go_ret
  exact ⟨rfl, rfl⟩
set_option maxHeartbeats 8000000 in
theorem core_Tick {B : Nat} {w : World} {x : Nat} {p : CP} {s : Co} (h : CAt B w x p s) (hB : B ≤ w.heap.size) (hnow : s.now < 1000000000) (hen : p.en < 1000000000) :
    Calls Try.prog 22 #[.pointer (some ⟨x, 0, none⟩)] w fun r w' => ∃ A n c xs, r = .returned (.slice A n c) ∧ ML 47 w.heap.size w' A n c xs ∧ xs.map Prod.fst = s.tickMails ∧ ∃ p', CAt B w' x p' s.tick ∧ Stp w w' x p p' ∧ (0 < n → p' = p) := by
  have H := hide h
  have HB := hide hB
  obtain ⟨cl, hcl⟩ : ∃ cl, cl = s.closed := ⟨_, rfl⟩
  have HCL := hide hcl
  obtain ⟨Q, hQ⟩ : ∃ Q, Q = s.tickMails := ⟨_, rfl⟩
  have HQ := hide hQ
  obtain ⟨S, hS⟩ : ∃ S, S = s.tick := ⟨_, rfl⟩
  have HS := hide hS
  rw [← hQ, ← hS]
  have cn := h.cell (coRow_now s p)
  have fz := h.hfrozen 14
  clear h hB hcl hQ hS
  go_enter Try.func22, Try.ntmps22
  go_wp2_with fail
  refine Calls.mono (core_Closed H.out) ?_
  rintro r w2 ⟨rfl, rfl⟩
  rw [← HCL.out]
  cases cl with
  | true =>
    have hSs : S = s := by rw [HS.out, Co.tick, if_pos HCL.out.symm]
    go_wp2_with fail
    go_ret
    exact ⟨none, 0, 0, [], rfl, ML.nil _ _ _, by rw [HQ.out, Co.tickMails, if_pos HCL.out.symm]; rfl, p, by rw [hSs]; exact H.out, Stp.refl _ _ _, fun _ => rfl⟩
  | false =>
    obtain ⟨mi, hme, hmi, hmil, hll, h8⟩ := H.out.me
    have HME := hide hme
    have hn8 : s.peers.length ≤ 8 := by have := H.out.ok.np; have := H.out.ok.cfg.n; omega
    obtain ⟨nw, hnw⟩ : ∃ nw, nw = s.now := ⟨_, rfl⟩
    have HNW := hide hnw
    rw [← hnw] at cn
    have hnw2 : 0 ≤ nw ∧ nw < 1000000000 := by have := H.out.ok.now; rw [hnw]; omega
    have hww : IntKind.i64.wrap (nw + 1) = nw + 1 := IntWalk.i64_in _ ⟨by omega, by omega⟩
    have HS2 := hide (H.out.setHead 14 (.int .i64 (nw + 1)) s.ticked (by rw [hnw]; rfl) rfl rfl rfl rfl (H.out.ok.tick hnow))
    have HSZ : Hid ((w.setCell ⟨x, 14, none⟩ (.int .i64 (nw + 1))).heap.size = w.heap.size) := World.size_setCell _ _ _
    clear hmi hmil hll hme hnw
    go_upto_region 5 with fail
    generalize World.setCell w _ _ = w1 at HS2 HSZ ⊢
    have HC1 := hide HS2.out.1
    go_wp2_with fail
    refine Calls.mono (core_others HC1.out mi HME.out) ?_
    rintro r w2 ⟨oA, oc, rfl, ho2, hb2⟩
    have hlen : s.ticked.peers.length = s.peers.length := rfl
    rw [hlen] at ho2 ⊢
    obtain ⟨L, hL⟩ : ∃ L, L = othersOf s.peers.length mi := ⟨_, rfl⟩
    rw [← hL] at ho2 ⊢
    have HL := hide hL
    have hL1 : 0 < L.length := by rw [hL]; exact othersOf_pos (by have := H.out.ok.np; have := H.out.ok.cfg.n; omega)
    have hL8 : L.length ≤ 8 := by rw [hL]; exact Nat.le_trans (othersOf_len _ _) hn8
    have HLM : Hid (∀ j ∈ L, j < s.peers.length) := fun j hj => by rw [hL] at hj; exact (mem_others.1 hj).1
    have HTH : Hid (s.them = L) := by show _ = _; rw [hL, Co.them, HME.out, Int.toNat_natCast]
    obtain ⟨n, hn⟩ : ∃ n, n = L.length := ⟨_, rfl⟩
    rw [← hn] at ho2 hL8 hL1 ⊢
    have HN := hide hn
    obtain ⟨gL, hgL, -, -⟩ := ho2.form hL1
    subst hgL
    have HO2 := hide ho2
    have HC2 := hide (HC1.out.below hb2)
    have HB2 := hide hb2
    clear ho2 hb2 hL hn hlen cn fz
    go_wp2_with fail
    go_loopg [20] n (fun gg s20 wr => ∃ (k : Nat) (nd : Nat), k ≤ n ∧ gg = n - k ∧ s20 = .int .i64 (k : Int) ∧ wr = w2.drewN nd ∧ Hid (∀ j ∈ L.take k, s.ticked.isLate j = false))
    case atStart => exact ⟨0, 0, by omega, rfl, rfl, rfl, fun j hj => by simp at hj⟩
    case round =>
      obtain ⟨W1, hW1⟩ : ∃ W1, W1 = wr := ⟨_, rfl⟩
      subst hW1
      obtain ⟨k, nd, hkn, rfl, rfl, hnd, HNL⟩ := hrel
      have HND := hide hnd
      have HCW : Hid (CAt B W1 x p s.ticked) := by show CAt _ _ _ _ _; rw [hnd]; exact HC2.out.drewN nd
      have HOW : Hid (OwnV 3 W1 w1.heap.size (some ⟨gL, 0, none⟩) n oc (L.map iv)) := by show OwnV _ _ _ _ _ _ _; rw [hnd]; exact HO2.out.below (Below_drewN (Below.refl _ _) nd)
      have HBW : Hid (Below w1.heap.size w1 W1) := by show Below _ _ _; rw [hnd]; exact Below_drewN HB2.out nd
      clear hnd
      by_cases hlt : k < n
      · obtain ⟨hl9, c9⟩ := HOW.out.cell hlt
        have hlL : k < L.length := by rw [← HN.out]; exact hlt
        obtain ⟨j, hj⟩ : ∃ j, j = L[k] := ⟨_, rfl⟩
        have hc9 : W1.cell? ⟨gL, k, none⟩ = some (.int .i64 (j : Int)) := by rw [c9, List.getElem_map, hj]; rfl
        have hjn : j < s.peers.length := HLM.out j (by rw [hj]; exact List.getElem_mem _)
        have HJ : Hid (L[k]? = some j) := by show _ = _; rw [List.getElem?_eq_getElem hlL, hj]
        obtain ⟨pr, hpr⟩ : ∃ pr, pr = s.peers[j] := ⟨_, rfl⟩
        have hpr2 : s.ticked.peers[j]'hjn = pr := hpr.symm
        obtain ⟨hd, hhd⟩ : ∃ hd, hd = pr.heard := ⟨_, rfl⟩
        have c1 : W1.cell? ⟨p.g, j * 5 + 1, none⟩ = some (.int .i64 hd) := HCW.out.pcell (j := 1) (v := .int .i64 hd) (i := j) hjn (by omega) (by rw [hpr2, hhd]; rfl)
        have hhd2 : 0 ≤ hd ∧ hd ≤ nw := by rw [hhd, HNW.out]; exact H.out.ok.heard pr (by rw [hpr]; exact List.getElem_mem _)
        have cP := HCW.out.cell (coRow_peers _ _)
        have hnp : s.ticked.peers.length = s.peers.length := rfl
        obtain ⟨np, hnp2⟩ : ∃ np, np = s.peers.length := ⟨_, rfl⟩
        rw [hnp, ← hnp2] at cP
        have hjn2 : (j : Int) < (np : Int) := by rw [hnp2]; omega
        have cN := HCW.out.cell (coRow_now _ _)
        have hnn : s.ticked.now = nw + 1 := by rw [HNW.out]; rfl
        rw [hnn] at cN
        have hw2 : IntKind.i64.wrap (nw + 1 - hd) = nw + 1 - hd := IntWalk.i64_in _ ⟨by omega, by omega⟩
        obtain ⟨z, hz⟩ : ∃ z : Bool, decide (nw + 1 - hd ≥ 40) = z := ⟨_, rfl⟩
        have HZ : Hid (s.ticked.isLate j = z) := by
          show _ = _
          have hg : s.ticked.peers.getD j Peer.zero = pr := by show s.peers.getD j Peer.zero = pr; rw [List.getD_eq_getElem?_getD, List.getElem?_eq_getElem hjn, hpr]; rfl
          rw [← hz, Co.isLate, hnn, hg, ← hhd]
        have HJN := hide hjn
        have hki : (k : Int) < (n : Int) := by omega
        clear hl9 c9 hj hlL hpr hpr2 hhd hnp hnp2 hnn hjn
        go_upto_region 8 with fail
        go_cut [37] from 21 to 45 (fun s37 wx => s37 = .bool z ∧ ∃ nd2, wx = W1.drewN nd2)
        case first =>
          go_quiet (fail)
          go_wp2_with fail
          go_meet
          exact ⟨rfl, _, rfl⟩
        case rest =>
        obtain ⟨rfl, nd2, hnd2⟩ := hcut
        obtain ⟨W2, hW2⟩ : ∃ W2, W2 = wc := ⟨_, rfl⟩
        subst hW2
        have HND2 : Hid (W2 = w2.drewN (nd + nd2)) := by show _ = _; rw [hnd2, HND.out]; exact World.drewN_drewN _ _ _
        have HC3 : Hid (CAt B W2 x p s.ticked) := by show CAt _ _ _ _ _; rw [hnd2]; exact HCW.out.drewN nd2
        have HB3 : Hid (Below w1.heap.size w1 W2) := by show Below _ _ _; rw [hnd2]; exact Below_drewN HBW.out nd2
        clear hnd2 c1 cP cN
        cases z with
        | false =>
          go_wp2_with fail
          go_roundg (n - (k + 1))
          case measure => omega
          case rel =>
            refine ⟨k + 1, nd + nd2, by omega, rfl, by go_num, HND2.out, ?_⟩
            intro q hq
            rw [List.take_add_one, HJ.out] at hq
            rcases List.mem_append.1 hq with hq | hq
            · exact HNL.out q hq
            · have : q = j := by simpa using hq
              rw [this]; exact HZ.out
        | true =>
          have HLW : Hid (s.ticked.lateWho = some j) := by
            show _ = _
            have e1 : s.ticked.lateWho = s.them.find? s.ticked.isLate := rfl
            obtain ⟨hlk, hjk⟩ := List.getElem?_eq_some_iff.1 HJ.out
            rw [e1, HTH.out, List.find?_eq_some_iff_append]
            refine ⟨HZ.out, L.take k, L.drop (k + 1), ?_, fun q hq => by rw [HNL.out q hq]; rfl⟩
            rw [← hjk, List.getElem_cons_drop, List.take_append_drop]
          have hB3 : B ≤ W2.heap.size := by have := HB.out; have := HSZ.out; have := HB3.out.size; omega
          have hj8 : j < 8 := by have := HJN.out; omega
          go_wp2_with fail
          refine Calls.mono (core_note HC3.out hB3 (.late (j : Int)) ⟨⟨by show 0 ≤ (j : Int); omega, by show (j : Int) < 8; omega⟩, ⟨by show (0 : Int) ≤ 0; omega, by show (0 : Int) ≤ 1000; omega⟩⟩ hen) ?_
          rintro r w5 ⟨rfl, p5, hc5, hst5⟩
          have HC5 := hide hc5
          have HST5 := hide hst5
          have f15 := hc5.hfrozen 15
          have c15 := hc5.cell (coRow_closed _ _)
          have HC6 := hide (hc5.setHead 15 (.bool true) { s.ticked with events := s.ticked.events ++ [.late (j : Int)], closed := true } (by rfl) rfl rfl rfl rfl ⟨hc5.ok.cfg, hc5.ok.np, hc5.ok.nl, hc5.ok.short, hc5.ok.head, hc5.ok.has, hc5.ok.heard, hc5.ok.frame, hc5.ok.sum, hc5.ok.marks, hc5.ok.mark, hc5.ok.now, hc5.ok.events⟩)
          clear hc5 hst5
          go_wp2_with fail
          go_ret
          refine ⟨none, 0, 0, [], rfl, ML.nil _ _ _, ?_, p5, ?_, ((HS2.out.2.trans (Stp.of_below HB3.out)).trans HST5.out).trans HC6.out.2, fun h => absurd h (by omega)⟩
          · rw [HQ.out, Co.tickMails, if_neg (by rw [← HCL.out]; decide), HLW.out]; rfl
          · rw [HS.out, Co.tick, if_neg (by rw [← HCL.out]; decide), HLW.out]
            exact HC6.out.1
      · obtain rfl : n = k := by omega
        have HLW : Hid (s.ticked.lateWho = none) := by
          show _ = _
          have e1 : s.ticked.lateWho = s.them.find? s.ticked.isLate := rfl
          rw [e1, HTH.out, List.find?_eq_none]
          intro q hq
          rw [HNL.out q (by rw [HN.out, List.take_length]; exact hq)]
          decide
        clear HNL
        go_wp2_with fail
        refine Calls.mono (core_others HCW.out mi HME.out) ?_
        rintro r w3 ⟨oA, oc3, rfl, ho3, hb3⟩
        have hlen : s.ticked.peers.length = s.peers.length := rfl
        rw [hlen, ← HL.out, ← HN.out] at ho3 ⊢
        obtain ⟨g3, hg3, -, -⟩ := ho3.form hL1
        subst hg3
        have HO3 := hide (ho3.base_le HBW.out.size)
        have HB3 := hide (Below_step HBW.out hb3)
        clear ho3 hb3 hlen
        go_wp2_with fail
        go_loopg [3, 49] n (fun gg s3 s49 wr => ∃ (k : Nat) (A : Option Addr) (c : Nat) (xs : List (Mle × Sl)), k ≤ n ∧ gg = n - k ∧ s49 = .int .i64 (k : Int) ∧ s3 = .slice A k c ∧ Hid (ML 47 w1.heap.size wr A k c xs) ∧ Hid (xs.map Prod.fst = (L.take k).map s.ticked.tellTo) ∧ Hid (OwnV 3 wr w1.heap.size (some ⟨g3, 0, none⟩) n oc3 (L.map iv)) ∧ Hid (Below w1.heap.size w1 wr))
        case atStart => exact ⟨0, none, 0, [], by omega, rfl, rfl, rfl, ML.nil _ _ _, rfl, HO3, HB3⟩
        case round =>
          obtain ⟨W1, hW1⟩ : ∃ W1, W1 = wr := ⟨_, rfl⟩
          subst hW1
          obtain ⟨k, A, c, xs, hkn, rfl, rfl, rfl, HML, HXS, HO, HBW⟩ := hrel
          by_cases hlt : k < n
          · obtain ⟨hl9, c9⟩ := HO.out.cell hlt
            have hlL : k < L.length := by rw [← HN.out]; exact hlt
            obtain ⟨j, hj⟩ : ∃ j, j = L[k] := ⟨_, rfl⟩
            have hc9 : W1.cell? ⟨g3, k, none⟩ = some (.int .i64 (j : Int)) := by rw [c9, List.getElem_map, hj]; rfl
            have HXS2 : Hid ((L.take (k + 1)).map s.ticked.tellTo = (L.take k).map s.ticked.tellTo ++ [s.ticked.tellTo j]) := by show _ = _; rw [take_succ_map _ _ _ hlL, hj]
            have HCW := hide (HC1.out.below HBW.out)
            have hki : (k : Int) < (n : Int) := by omega
            have hjn : j < s.ticked.peers.length := HLM.out j (by rw [hj]; exact List.getElem_mem _)
            have hBW : B ≤ W1.heap.size := by have := HB.out; have := HSZ.out; have := HBW.out.size; omega
            have hszW : w1.heap.size ≤ W1.heap.size := HBW.out.size
            clear hl9 c9 hj hlL
            go_wp2_with fail
            refine Calls.mono (core_input HCW.out hBW j hjn rfl) ?_
            rintro r w8 ⟨A8, n8, c8, rfl, ho8, hb8⟩
            have bn := Below_new w8 (.cells #[.int .i64 s.cfg.me, .int .i64 (j : Int), .slice A8 n8 c8] 47)
            have HML2 := hide ((HML.out.below hb8).below bn)
            have HL2 := hide (Lies.new w8 #[.int .i64 s.cfg.me, .int .i64 (j : Int), .slice A8 n8 c8] 47 (0, 0))
            have HB8 := hide (HBW.out.trans (hb8.mono hszW))
            have HB9 := hide (Below_step HB8.out bn)
            have HO8 := hide ho8
            have HBN := hide bn
            have HBB := hide hb8
            have hB9 : w1.heap.size ≤ (World.alloc w8 (.cells #[.int .i64 s.cfg.me, .int .i64 (j : Int), .slice A8 n8 c8] 47)).heap.size := HB9.out.size
            clear bn ho8 hb8
            have hme2 : s.ticked.cfg.me = s.cfg.me := rfl
            rw [hme2]
            clear hme2
            go_wp2_with (refine wpN_append elem_mails rfl (.tmp 53) (.tmp 57) rfl w1.heap.size A k c _ rfl HML2.out.row _ _ 1 [.int .i64 s.cfg.me, .int .i64 (j : Int), .slice A8 n8 c8] rfl rfl HL2.out (by simp [Value.oneCell']) (by omega) (by omega) hB9 ?_; intro g9 c9 w9 own9 k9 hk9; have HOW := hide own9; have HK9 := hide k9; clear own9 k9 hk9)
            go_roundg (n - (k + 1))
            case measure => omega
            case rel =>
              refine ⟨k + 1, some ⟨g9, 0, none⟩, c9, xs ++ [(s.ticked.tellTo j, (A8, n8, c8))], by omega, rfl, by go_num, rfl, ?_, ?_, ?_, ?_⟩
              · exact HML.out.add (x := (s.ticked.tellTo j, (A8, n8, c8))) (by decide) (OwnB.base_le HO8.out hszW) HBB.out HBN.out HOW.out HK9.out
              · show _ = _
                rw [HXS2.out, ← HXS.out, List.map_append]; rfl
              · exact owns_off ((HO.out.below HBB.out).below HBN.out) HK9.out (Off.of (Ts := [3]) (owns_tb HML2.out.row) (by decide)) (by simp)
              · exact HB9.out.trans (HML2.out.keepsBelow hB9 HK9.out)
          · obtain rfl : k = n := by omega
            go_wp2_with fail
            go_ret
            have e1 : w1.heap.size = w.heap.size := HSZ.out
            refine ⟨A, k, c, xs, rfl, by have := HML.out; rw [e1] at this; exact this, ?_, p, by rw [HS.out, Co.tick, if_neg (by rw [← HCL.out]; decide), HLW.out]; exact HC1.out.below HBW.out, HS2.out.2.trans (Stp.of_below HBW.out), fun _ => rfl⟩
            rw [HXS.out, HQ.out, Co.tickMails, if_neg (by rw [← HCL.out]; decide), HLW.out, HN.out, List.take_length, HTH.out]
end Go.Proofs.Ytbcgffgiifminaa
namespace Go.Proofs.Ytbcgffgiifminaa
open Go.RowKit
set_option maxRecDepth 10000
set_option linter.unusedVariables false
def Co.setP (s : Co) (j : Nat) (q : Peer) : Co := { s with peers := s.peers.set j q }
def Co.pr (s : Co) (j : Nat) : Peer := s.peers.getD j Peer.zero
def Co.hear1 (s : Co) (j : Nat) : Co := s.setP j { s.pr j with heard := s.now }
def Co.hear2 (s : Co) (j : Nat) (p : Pkt) : Co := { s with ls := s.ls.set j (s.ls.getD j [] ++ putAdd (s.ls.getD j []) p.first p.press) }
def Co.acks (s : Co) (j : Nat) (p : Pkt) : Bool := decide (p.ack > (s.pr j).has) && decide (p.ack ≤ (s.mine.length : Int))
def Co.hear3 (s : Co) (j : Nat) (p : Pkt) : Co := if s.acks j p = true then s.setP j { s.pr j with has := p.ack } else s
def Co.words (s : Co) (j : Nat) (p : Pkt) : Bool := decide (p.frame > 0) && decide (p.frame ≥ (s.pr j).frame)
def Co.hear4 (s : Co) (j : Nat) (p : Pkt) : Co := if s.words j p = true then s.setP j { s.pr j with frame := p.frame, sum := p.sum } else s
/-- What a player knows behind a packet that is for it. -/
def Co.hear (s : Co) (p : Pkt) : Co :=
  if p.kind = 2 then { s.hear1 p.src.toNat with events := s.events ++ [.quit p.src], closed := true }
  else ((((s.hear1 p.src.toNat).hear2 p.src.toNat p).hear3 p.src.toNat p).hear4 p.src.toNat p).hold
/-- Is it for this player, of this game, of one of its players? -/
def Co.fits (s : Co) (p : Pkt) : Bool := decide (p.dst = s.cfg.me) && (decide (p.src < s.cfg.n) && decide (p.id = s.cfg.id))
section
variable {B : Nat} {w : World} {x : Nat} {p : CP} {s : Co}
theorem CAt.off (h : CAt B w x p s) {Ts : List TypeId} (h1 : ∀ T ∈ [84, 90, 50, 109, 5, 86, 39, 114], T ∉ Ts) : Off (cBlocks x p) w Ts := by
  intro k hk T hT hb
  have key : ∀ T', T' ∈ [84, 90, 50, 109, 5, 86, 39, 114] → TB w k T' → False := fun T' hm hb' => by
    rw [hb.one hb'] at hT
    exact h1 T' hm hT
  rcases hk with rfl | rfl | hk | ⟨i, hi, hk⟩ | rfl | hk | hk
  · exact key _ (by simp) h.head.tb
  · exact key _ (by simp) h.q.head.tb
  · exact key _ (by simp) (owns_tb h.q.row k hk)
  · rcases (h.line i hi).tb k hk with h' | h'
    · exact key _ (by simp) h'
    · exact key _ (by simp) h'
  · exact key _ (by simp) (owns_tb h.peers _ rfl)
  · exact key _ (by simp) (owns_tb h.marks k hk)
  · exact key _ (by simp) (owns_tb h.events k hk)
end
theorem core_Receive_nil (A : Option Addr) (n c : Nat) (w : World) : Calls Try.prog 20 #[.pointer none, .slice A n c] w fun r w' => r = .returned (.int .i64 6) ∧ w = w' := by
  go_enter Try.func20, Try.ntmps20
  go_wp2_with fail
  refine Calls.mono (core_Closed_nil w) ?_
  rintro r w2 ⟨rfl, rfl⟩
  go_wp2_with fail
  go_ret
  exact ⟨rfl, rfl⟩
theorem core_Receive_closed {B : Nat} {w : World} {x : Nat} {p : CP} {s : Co} (h : CAt B w x p s) (hcl : s.closed = true) (A : Option Addr) (n c : Nat) : Calls Try.prog 20 #[.pointer (some ⟨x, 0, none⟩), .slice A n c] w fun r w' => r = .returned (.int .i64 6) ∧ w = w' := by
  have H := hide h
  have HC := hide hcl
  clear h hcl
  go_enter Try.func20, Try.ntmps20
  go_wp2_with fail
  refine Calls.mono (core_Closed H.out) ?_
  rintro r w2 ⟨rfl, rfl⟩
  rw [HC.out]
  go_wp2_with fail
  go_ret
  exact ⟨rfl, rfl⟩
set_option maxHeartbeats 2000000 in
theorem core_Receive_no {B : Nat} {w : World} {x : Nat} {p : CP} {s : Co} (h : CAt B w x p s) (hcl : s.closed = false) {A : Option Addr} {n c B' : Nat} {b : List UInt8} (hb : ∀ q, ¬ Pkt.Is b q) (hA : LiesB w B' A n b) (hB' : B' ≤ w.heap.size) (hnc : n ≤ c) (hn : n ≤ 1000000) :
    Calls Try.prog 20 #[.pointer (some ⟨x, 0, none⟩), .slice A n c] w fun r w' => r = .returned (.int .i64 1) ∧ Below w.heap.size w w' := by
  have H := hide h
  have HC := hide hcl
  have HNO := hide hb
  have HA := hide hA
  have HBB := hide hB'
  have HNC := hide hnc
  clear h hcl hb hA hB' hnc
  go_enter Try.func20, Try.ntmps20
  go_wp2_with fail
  refine Calls.mono (core_Closed H.out) ?_
  rintro r w2 ⟨rfl, rfl⟩
  rw [HC.out]
  go_wp2_with fail
  refine Calls.mono (packet_Decode_no HNO.out HA.out HBB.out HNC.out hn) ?_
  rintro r w2 ⟨rfl, hb2⟩
  have HB2 := hide hb2
  clear hb2
  go_upto_region 4 with (refine wpP_init rfl (.tmp 5) (.tmp 13) rfl Pkt.zero none 0 0 rfl rfl rfl ?_; intro w3 ha3 hb3 hs3)
  have HB3 := hide (Below_step HB2.out hb3)
  clear ha3 hb3 hs3
  go_cut [46] (fun s46 wx => s46 = .bool true ∧ ∃ nd, wx = w3.drewN nd)
  case first =>
    go_quiet (fail)
    go_wp2_with fail
    go_meet
    exact ⟨rfl, _, rfl⟩
  case rest =>
  obtain ⟨rfl, nd, rfl⟩ := hcut
  go_wp2_with fail
  go_ret
  exact ⟨rfl, Below_drewN HB3.out nd⟩
end Go.Proofs.Ytbcgffgiifminaa
