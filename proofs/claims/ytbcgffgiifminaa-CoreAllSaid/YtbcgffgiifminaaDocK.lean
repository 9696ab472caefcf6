/-
  Mails as the document has them; does a player know just that?
-/
import Derived.Test.YtbcgffgiifminaaDocJ
import Derived.Test.YtbcgffgiifminaaRLFrom
namespace Go.Proofs.Ytbcgffgiifminaa
open Go.RowKit
set_option maxRecDepth 10000
set_option linter.unusedVariables false
set_option maxHeartbeats 4000000 in
theorem law_Mails {B : Nat} {w : World} {A : Option Addr} {n c : Nat} {xs : List (Mle × Sl)} (h : ML 47 B w A n c xs) (hB : B ≤ w.heap.size) (hn : n ≤ 1000) :
    Calls Try.prog 38 #[.slice A n c] w fun r w' => ∃ A' c', r = .returned (.slice A' n c') ∧ ML 124 B w' A' n c' xs ∧ Below w.heap.size w w' := by
  have H := hide h
  have HB := hide hB
  have hxl := h.len
  have HXL := hide hxl
  clear h hB hxl
  go_enter Try.func38, Try.ntmps38
  go_wp2_with fail
  go_loopg [3, 4] n (fun gg s3 s4 wr => ∃ (k : Nat) (A' : Option Addr) (c' : Nat), k ≤ n ∧ gg = n - k ∧ s4 = .int .i64 (k : Int) ∧ s3 = .slice A' k c' ∧ Hid (wr.ownsRow w.heap.size 124 3 (.slice A' k c') k ((xs.take k).flatMap mrow)) ∧ Hid (Below w.heap.size w wr))
  case atStart => exact ⟨0, none, 0, by omega, rfl, rfl, rfl, World.ownsRow_nil _ _ _ _, Below.refl _ _⟩
  case round =>
    obtain ⟨W1, hW1⟩ : ∃ W1, W1 = wr := ⟨_, rfl⟩
    subst hW1
    obtain ⟨k, A', c', hkn, rfl, rfl, rfl, HR, HBW⟩ := hrel
    by_cases hlt : k < n
    · have hki : (k : Int) < (n : Int) := by omega
      have hx : k < xs.length := by rw [HXL.out]; exact hlt
      obtain ⟨g, rfl, a0, a1, a2⟩ := mail_cell H.out.row hlt hx
      obtain ⟨mm, hmm⟩ : ∃ mm : Mle × Sl, mm = xs[k] := ⟨_, rfl⟩
      rw [← hmm] at a0 a1 a2
      have HTK : Hid ((xs.take (k + 1)).flatMap mrow = (xs.take k).flatMap mrow ++ mrow mm) := by
        show _ = _
        rw [List.take_succ_eq_append_getElem hx, List.flatMap_append, List.flatMap_singleton, hmm]
      obtain ⟨⟨src, dst, bb⟩, A3, n3, c3⟩ := mm
      have a0 := below_cell HBW.out a0
      have a1 := below_cell HBW.out a1
      have a2 : W1.cell? ⟨g, k * 3 + 2, none⟩ = some (.slice A3 n3 c3) := below_cell HBW.out a2
      simp only at a0 a1
      have bn := Below_new W1 (.cells #[.int .i64 src, .int .i64 dst, .slice A3 n3 c3] 124)
      have HR2 := hide (ownsRow_below HR.out bn)
      have HB2 := hide (Below_step HBW.out bn)
      have HL2 := hide (Lies.new W1 #[.int .i64 src, .int .i64 dst, .slice A3 n3 c3] 124 (0, 0))
      have hB2 := HB2.out.size
      have e0 := below_cell bn a0
      have e1 := below_cell bn a1
      have e2 := below_cell bn a2
      clear bn hmm hx
      go_upto_region 5 with fail
      refine wp_region_noPanic ?_
      refine wp_region_held_drew (S := (fun w' => w'.cell? ⟨g, k * 3, none⟩ = some (.int .i64 src) ∧ w'.cell? ⟨g, k * 3 + 1, none⟩ = some (.int .i64 dst) ∧ w'.cell? ⟨g, k * 3 + 2, none⟩ = some (.slice A3 n3 c3))) (by kernel_rfl) ⟨a0, a1, a2⟩ (fun hHeld => ?_)
      refine tk0 0 ?_
      refine tk 1 ?_
      refine tk 2 ?_
      refine tk 3 ?_
      refine tk 4 ?_
      refine tk 5 ?_
      refine tk 6 ?_
      refine tk 7 ?_
      refine tk 8 ?_
      refine tk 9 ?_
      refine tk 10 ?_
      refine tk 11 ?_
      refine tk 12 ?_
      refine tk 13 ?_
      refine tk 14 ?_
      refine tk 15 ?_
      refine tk 16 ?_
      refine rdy 17 fun K hK => ?_
      go_simp
      refine hK.out _ _ ⟨e0, e1, e2⟩ (fun hHeld => ?_)
      clear hK K
      try simp only [Act.put, List.setIfInBounds_toArray, List.set_cons_zero, List.set_cons_succ]
      refine rdy 18 fun K hK => ?_
      (refine step_appendN elem_rmails rfl (.tmp 11) (.tmp 28) rfl w.heap.size A' k c' _ rfl HR2.out _ _ 1 [.int .i64 src, .int .i64 dst, .slice A3 n3 c3] rfl rfl HL2.out (by simp [Value.oneCell']) (by omega) (by omega) hB2 ?_; intro g9 c9 w9 own9 k9 hk9)
      have HOW := hide own9
      have HK9 := hide (HB2.out.drew.trans (k9.below hB2 (fun j hj hm => by have := World.ownsRow.lt HR2.out j hm.symm; omega)))
      have hgk : ¬ Mine A' k c' g := fun hm => by have h1 := (World.ownsRow.lt HR2.out _ hm.symm).1; have h2 := (World.ownsRow.lt H.out.row g rfl).2; omega
      have y0 := keeps_cell' k9 (cell_drew e0) hgk
      have y1 := keeps_cell' k9 (cell_drew e1) hgk
      have y2 := keeps_cell' k9 (cell_drew e2) hgk
      refine hK.out _ _ ⟨y0, y1, y2⟩ (fun hHeld => ?_)
      clear hK K
      try simp only [Act.put, List.setIfInBounds_toArray, List.set_cons_zero, List.set_cons_succ]
      refine tk 19 ?_
      refine wpAnyH_done (by kernel_rfl) (NoPanic.normal ?_) _
      go_wp2_with fail
      go_roundg (n - (k + 1))
      case measure => omega
      case rel => exact ⟨k + 1, some ⟨g9, 0, none⟩, c9, by omega, rfl, by go_num, rfl, by rw [HTK.out]; exact HOW, HK9⟩
    · obtain rfl : n = k := by omega
      go_wp2_with fail
      go_ret
      refine ⟨A', c', rfl, ⟨?_, fun x hx => (H.out.line x hx).below HBW.out⟩, HBW.out⟩
      have := HR.out
      rw [List.take_of_length_le (by rw [HXL.out]; exact Nat.le_refl _)] at this
      exact ownsRow_base_le this HB.out
set_option maxHeartbeats 8000000 in
theorem law_same {B B2 : Nat} {w : World} {x y : Nat} {p : CP} {q : RP} {s : Co} (h : CAt B w x p s) (hr : RAt B2 w y q s) :
    Calls Try.prog 46 #[.pointer (some ⟨x, 0, none⟩), .pointer (some ⟨y, 0, none⟩)] w fun r w' => r = .returned (.bool true) ∧ Below w.heap.size w w' := by
  have H := hide h
  have HR := hide hr
  have OK : Hid s.Ok := h.ok
  obtain ⟨n, hn⟩ : ∃ n, n = s.peers.length := ⟨_, rfl⟩
  have HN := hide hn
  have hn8 : n ≤ 8 := by have := h.ok.len; omega
  have HCN : Hid (s.cfg.n = (n : Int)) := by show _ = _; rw [hn]; exact h.ok.np.symm
  have HXN : Hid (p.xs.length = n) := by show _ = _; rw [h.nx, hn]
  have HLN : Hid (s.ls.length = n) := by show _ = _; rw [h.ok.len.1, hn]
  have hxs : 0 < p.xs.length ∧ p.xs.length ≤ 1000 := by have := h.nx; have := h.ok.len; omega
  have cM := hr.cell (reRow_marks s q)
  have cC := hr.cell (reRow_closed s q)
  have hmm : q.mn = p.mn := by rw [← hr.mn, h.mn]
  rw [hmm] at cM
  obtain ⟨m, hm⟩ : ∃ m : Int, m = (s.mine.length : Int) := ⟨_, rfl⟩
  have HM := hide hm
  obtain ⟨F, hF⟩ : ∃ F : Int, F = (front s.ls : Int) := ⟨_, rfl⟩
  have HF := hide hF
  obtain ⟨cl, hcl⟩ : ∃ cl, cl = s.closed := ⟨_, rfl⟩
  have HCL := hide hcl
  rw [← hcl] at cC
  clear h hr hn hmm hm hF hcl
  go_enter Try.func46, Try.ntmps46
  go_upto_region 1 with fail
  go_cut [37] (fun s37 wx => s37 = .bool false ∧ Below w.heap.size w wx)
  case first =>
    refine wp_region_noPanic ?_
    refine wp_region_held_drew (S := (fun w' => w'.cell? ⟨y, 16, none⟩ = some (.slice q.mA p.mn q.mc) ∧ w'.cell? ⟨y, 18, none⟩ = some (.bool cl))) (by kernel_rfl) ⟨cM, cC⟩ (fun hHeld => ?_)
    refine tk0 0 ?_
    refine tk 2 ?_
    refine rdy 1 fun K hK => ?_
    go_simp
    refine Calls.mono (core_Head H.out.drew) ?_
    rw [← HM.out]
    rintro r w2 ⟨rfl, hb2⟩
    have HB2 := hide hb2
    refine hK.out _ _ ⟨below_cell hb2 cM, below_cell hb2 cC⟩ (fun hHeld => ?_)
    clear hK K
    try simp only [Act.put, List.setIfInBounds_toArray, List.set_cons_zero, List.set_cons_succ]
    refine rdy 3 fun K hK => ?_
    go_simp
    refine Calls.mono (ref_HeadCore (HR.out.drew.below HB2.out) OK.out) ?_
    rw [← HM.out]
    rintro r w3 ⟨rfl, nd3, rfl⟩
    have HB3 := hide (Below_drewN HB2.out nd3)
    have hb3 : Below w.heap.size w (w2.drewN nd3) := (Below.refl _ _).drew.trans HB3.out
    refine hK.out _ _ ⟨below_cell hb3 cM, below_cell hb3 cC⟩ (fun hHeld => ?_)
    clear hK K
    try simp only [Act.put, List.setIfInBounds_toArray, List.set_cons_zero, List.set_cons_succ]
    refine tk 4 ?_
    refine tk 5 ?_
    refine tk 6 ?_
    refine tk 9 ?_
    refine rdy 7 fun K hK => ?_
    go_simp
    refine Calls.mono (core_Queue (H.out.drew.below HB3.out)) ?_
    rintro r w4 ⟨rfl, rfl⟩
    refine hK.out _ _ ⟨below_cell hb3 cM, below_cell hb3 cC⟩ (fun hHeld => ?_)
    clear hK K
    try simp only [Act.put, List.setIfInBounds_toArray, List.set_cons_zero, List.set_cons_succ]
    refine rdy 8 fun K hK => ?_
    go_simp
    refine Calls.mono (queue_Front (H.out.drew.below HB3.out).q hxs.1 hxs.2 HF.out) ?_
    rintro r w4 ⟨rfl, rfl⟩
    refine hK.out _ _ ⟨below_cell hb3 cM, below_cell hb3 cC⟩ (fun hHeld => ?_)
    clear hK K
    try simp only [Act.put, List.setIfInBounds_toArray, List.set_cons_zero, List.set_cons_succ]
    refine rdy 10 fun K hK => ?_
    go_simp
    refine Calls.mono (ref_FrontCore (HR.out.drew.below HB3.out) OK.out HF.out) ?_
    rintro r w4 ⟨rfl, rfl⟩
    refine hK.out _ _ ⟨below_cell hb3 cM, below_cell hb3 cC⟩ (fun hHeld => ?_)
    clear hK K
    try simp only [Act.put, List.setIfInBounds_toArray, List.set_cons_zero, List.set_cons_succ]
    refine tk 11 ?_
    refine tk 12 ?_
    refine tk 13 ?_
    refine tk 14 ?_
    refine tk 16 ?_
    refine tk 17 ?_
    refine tk 18 ?_
    refine tk 19 ?_
    refine tk 20 ?_
    refine rdy 15 fun K hK => ?_
    go_simp
    refine Calls.mono (core_Marks (H.out.drew.below HB3.out)) ?_
    rintro r w4 ⟨rfl, rfl⟩
    refine hK.out _ _ ⟨below_cell hb3 cM, below_cell hb3 cC⟩ (fun hHeld => ?_)
    clear hK K
    try simp only [Act.put, List.setIfInBounds_toArray, List.set_cons_zero, List.set_cons_succ]
    refine tk 21 ?_
    refine tk 22 ?_
    refine tk 23 ?_
    refine tk 24 ?_
    refine tk 26 ?_
    refine tk 27 ?_
    refine tk 28 ?_
    refine tk 29 ?_
    refine rdy 25 fun K hK => ?_
    go_simp
    refine Calls.mono (core_Closed (H.out.drew.below HB3.out)) ?_
    rw [← HCL.out]
    rintro r w4 ⟨rfl, rfl⟩
    refine hK.out _ _ ⟨below_cell hb3 cM, below_cell hb3 cC⟩ (fun hHeld => ?_)
    clear hK K
    try simp only [Act.put, List.setIfInBounds_toArray, List.set_cons_zero, List.set_cons_succ]
    refine tk 30 ?_
    refine tk 31 ?_
    refine wpAnyH_done (by kernel_rfl) (NoPanic.normal ?_) _
    go_wp2_with fail
    go_meet
    exact ⟨rfl, (Below.refl _ _).drew.trans HB3.out⟩
  case rest =>
  obtain ⟨rfl, hb⟩ := hcut
  obtain ⟨w1, hw1⟩ : ∃ w1, w1 = wc := ⟨_, rfl⟩
  subst hw1
  have HB1 := hide hb
  clear hb cM cC
  go_wp2_with fail
  go_loopg [5] n (fun gg s5 wr => ∃ (i : Nat), i ≤ n ∧ gg = n - i ∧ s5 = .int .i64 (i : Int) ∧ Hid (Below w.heap.size w wr))
  case atStart => exact ⟨0, by omega, rfl, rfl, HB1⟩
  case round =>
    obtain ⟨W1, hW1⟩ : ∃ W1, W1 = wr := ⟨_, rfl⟩
    subst hW1
    obtain ⟨i, hin, rfl, rfl, HB⟩ := hrel
    have HCW := hide (H.out.below HB.out)
    have HRW := hide (HR.out.below HB.out)
    have c0 := HRW.out.cell (reRow_n s q)
    rw [HCN.out] at c0
    by_cases hlt : i < n
    · have hii : (i : Int) < (n : Int) := by omega
      obtain ⟨lg, hA, hrl⟩ := HRW.out.rl OK.out
      rw [HLN.out] at hrl
      obtain ⟨hs, cl1, -, hlen⟩ := hrl.cell i hlt
      have ho1 := hrl.line i hs
      obtain ⟨⟨A1, m1, k1⟩, hx1⟩ : ∃ x, x = q.ss[i] := ⟨_, rfl⟩
      rw [← hx1] at cl1 hlen ho1
      simp only at cl1 hlen ho1
      have cL := HRW.out.cell (reRow_L s q)
      rw [hA, HLN.out] at cL
      obtain ⟨bb, hbb⟩ : ∃ bb, bb = s.ls.getD i [] := ⟨_, rfl⟩
      rw [← hbb] at ho1 hlen
      have HR1 : Hid (Reads A1 m1 k1 bb W1.drew) := LiesB.reads ho1.lies.drew
      have HOL := hide ho1
      have hix : i < p.xs.length := by rw [HXN.out]; exact hlt
      have HLI : Hid (LineAt W1 p.xs[i].1 p.xs[i].2 bb) := by show LineAt _ _ _ _; rw [hbb]; exact HCW.out.line i hix
      clear hrl hA hx1 hlen ho1 hbb hs
      go_upto_region 6 with fail
      clear c0
      refine wp_region_noPanic ?_
      refine wp_region_held_drew (S := (fun w' => w'.cell? ⟨y, 10, none⟩ = some (.slice (some ⟨lg, 0, none⟩) n q.gc) ∧ w'.cell? ⟨lg, i, none⟩ = some (.slice A1 m1 k1) ∧ Reads A1 m1 k1 bb w')) (by kernel_rfl) ⟨cL, cl1, HR1.out⟩ (fun hHeld => ?_)
      refine tk0 0 ?_
      refine tk 2 ?_
      refine tk 6 ?_
      refine tk 7 ?_
      refine tk 8 ?_
      refine tk 9 ?_
      refine tk 10 ?_
      refine tk 11 ?_
      refine tk 12 ?_
      refine tk 13 ?_
      refine tk 14 (hy := by refine Or.inl ⟨by rfl, ?_⟩; intro w hSw; (try dsimp only at hSw); have q1 := hSw.2.2; unfold Reads at q1; go_simp <;> with_reducible rfl) ?_
      refine rdy 1 fun K hK => ?_
      go_simp
      refine Calls.mono (core_Queue HCW.out.drew) ?_
      rintro r w4 ⟨rfl, rfl⟩
      refine hK.out _ _ ⟨cL, cl1, HR1.out⟩ (fun hHeld => ?_)
      clear hK K
      try simp only [Act.put, List.setIfInBounds_toArray, List.set_cons_zero, List.set_cons_succ]
      refine rdy 3 fun K hK => ?_
      go_simp
      refine Calls.mono (queue_Line HCW.out.drew.q i hix hxs.2 rfl rfl) ?_
      rintro r w4 ⟨rfl, rfl⟩
      refine hK.out _ _ ⟨cL, cl1, HR1.out⟩ (fun hHeld => ?_)
      clear hK K
      try simp only [Act.put, List.setIfInBounds_toArray, List.set_cons_zero, List.set_cons_succ]
      refine rdy 4 fun K hK => ?_
      go_simp
      refine Calls.mono (line_All _ _ bb _ (LineAt.below HLI.out ((Below.refl _ _).drew))) ?_
      rintro r w5 ⟨A5, c5, rfl, ho5, hb5⟩
      have HB5 := hide hb5
      refine hK.out _ _ ⟨below_cell hb5 cL, below_cell hb5 cl1, LiesB.reads (HOL.out.drew.below hb5).lies⟩ (fun hHeld => ?_)
      clear hK K
      try simp only [Act.put, List.setIfInBounds_toArray, List.set_cons_zero, List.set_cons_succ]
      refine wpAnyH_mono (S' := (fun w' => Reads A5 bb.length c5 bb w' ∧ (fun w' => w'.cell? ⟨y, 10, none⟩ = some (.slice (some ⟨lg, 0, none⟩) n q.gc) ∧ w'.cell? ⟨lg, i, none⟩ = some (.slice A1 m1 k1) ∧ Reads A1 m1 k1 bb w') w')) (fun _ h => h.2) _ _ _ _ ?_
      have hHeld2 := (⟨LiesB.reads ho5.lies, below_cell hb5 cL, below_cell hb5 cl1, LiesB.reads (HOL.out.drew.below hb5).lies⟩ : (fun w' => Reads A5 bb.length c5 bb w' ∧ (fun w' => w'.cell? ⟨y, 10, none⟩ = some (.slice (some ⟨lg, 0, none⟩) n q.gc) ∧ w'.cell? ⟨lg, i, none⟩ = some (.slice A1 m1 k1) ∧ Reads A1 m1 k1 bb w') w') w5)
      refine tk 5 (hy := by refine Or.inl ⟨by rfl, ?_⟩; intro w hSw; (try dsimp only at hSw); have q1 := hSw.1; unfold Reads at q1; go_simp <;> with_reducible rfl) ?_
      refine tk 15 ?_
      refine wpAnyH_done (by kernel_rfl) (NoPanic.normal ?_) _
      have HB6 := hide (Below_step HB.out.drew HB5.out)
      go_wp2_with fail
      go_roundg (n - (i + 1))
      case measure => omega
      case rel => exact ⟨i + 1, by omega, rfl, by go_num, HB6⟩
    · obtain rfl : n = i := by omega
      go_wp2_with fail
      go_ret
      exact ⟨rfl, HB.out⟩
end Go.Proofs.Ytbcgffgiifminaa
