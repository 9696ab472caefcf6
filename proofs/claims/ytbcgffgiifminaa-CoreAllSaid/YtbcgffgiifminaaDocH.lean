/-
  The document's player: Quit.
-/
import Derived.Test.YtbcgffgiifminaaDocE
namespace Go.Proofs.Ytbcgffgiifminaa
open Go.RowKit
set_option maxRecDepth 10000
set_option linter.unusedVariables false
theorem elem_rmails : ElemN 73 124 (.agg #[.int .i64 0, .int .i64 0, .slice none 0 0]) 3 40 := ⟨Try.underlying73, by kernel_rfl, rfl, by omega⟩
set_option maxHeartbeats 4000000 in
theorem ref_QuitCore {B : Nat} {w : World} {x : Nat} {p : RP} {s : Co} (h : RAt B w x p s) (ok : s.Ok) (hB : B ≤ w.heap.size) :
    Calls Try.prog 43 #[.pointer (some ⟨x, 0, none⟩)] w fun r w' => ∃ A n c xs, r = .returned (.slice A n c) ∧ ML 124 w.heap.size w' A n c xs ∧ xs.map Prod.fst = s.quitMails ∧ RAt B w' x p s.quit ∧ RSt w w' x p p := by
  have H := hide h
  have HB := hide hB
  obtain ⟨cl, hcl⟩ : ∃ cl, cl = s.closed := ⟨_, rfl⟩
  have HCL := hide hcl
  obtain ⟨Q, hQ⟩ : ∃ Q, Q = s.quitMails := ⟨_, rfl⟩
  have HQ := hide hQ
  obtain ⟨S, hS⟩ : ∃ S, S = s.quit := ⟨_, rfl⟩
  have HS := hide hS
  rw [← hQ, ← hS]
  have c18 := h.cell (reRow_closed s p)
  rw [← hcl] at c18
  obtain ⟨mi, hme, hil, hip⟩ := ok.me
  have HME := hide hme
  obtain ⟨n, hn⟩ : ∃ n, n = s.peers.length := ⟨_, rfl⟩
  have HN := hide hn
  have hn8 : n ≤ 8 := by have := ok.len; omega
  have HCN : Hid (s.cfg.n = (n : Int)) := by show _ = _; rw [hn]; exact ok.np.symm
  obtain ⟨id, hid⟩ : ∃ id, id = s.cfg.id := ⟨_, rfl⟩
  have HID := hide hid
  clear h hB hcl hQ hS hme hn hid ok hil hip
  go_enter Try.func43, Try.ntmps43
  cases cl with
  | true =>
    have hSs : S = s := by
      rw [HS.out, Co.quit]
      have := HCL.out
      cases s
      simp only at this
      rw [← this]
    go_wp2_with fail
    go_ret
    exact ⟨none, 0, 0, [], rfl, ML.nil _ _ _, by rw [HQ.out, Co.quitMails, if_pos HCL.out.symm]; rfl, by rw [hSs]; exact H.out, RSt.refl _ _ _⟩
  | false =>
    have HQ2 : Hid (Q = (othersOf n mi).map s.quitTo) := by
      show _ = _
      rw [HQ.out, Co.quitMails, if_neg (by rw [← HCL.out]; decide), Co.them, ← HN.out, HME.out, Int.toNat_natCast]
    go_wp2_with fail
    clear c18
    go_loopg [3, 4] n (fun gg s3 s4 wr => ∃ (i m : Nat) (A : Option Addr) (c : Nat) (xs : List (Mle × Sl)), i ≤ n ∧ m ≤ i ∧ gg = n - i ∧ s4 = .int .i64 (i : Int) ∧ s3 = .slice A m c ∧ Hid (ML 124 w.heap.size wr A m c xs) ∧ Hid (xs.map Prod.fst = (othersOf i mi).map s.quitTo) ∧ Hid (Below w.heap.size w wr))
    case atStart => exact ⟨0, 0, none, 0, [], by omega, by omega, rfl, rfl, rfl, ML.nil _ _ _, rfl, Below.refl _ _⟩
    case round =>
      obtain ⟨W1, hW1⟩ : ∃ W1, W1 = wr := ⟨_, rfl⟩
      subst hW1
      obtain ⟨i, m, A, c, xs, hin, hmi, rfl, rfl, rfl, HML, HXS, HBW⟩ := hrel
      have HRW := hide (H.out.below HBW.out)
      have c0 := HRW.out.cell (reRow_n s p)
      have c1 := HRW.out.cell (reRow_me s p)
      have c2 := HRW.out.cell (reRow_id s p)
      rw [HCN.out] at c0
      rw [HME.out] at c1
      rw [← HID.out] at c2
      by_cases hlt : i < n
      · have hii : (i : Int) < (n : Int) := by omega
        by_cases him : i = mi
        · have d1 : ((i : Int) != (mi : Int)) = false := by simp [him]
          have HNX : Hid (othersOf (i + 1) mi = othersOf i mi) := by show _ = _; rw [← him]; exact othersOf_succ_eq i
          clear him
          go_wp2_with fail
          go_roundg (n - (i + 1))
          case measure => omega
          case rel => exact ⟨i + 1, m, A, c, xs, by omega, by omega, rfl, by go_num, rfl, HML, by rw [HNX.out]; exact HXS, HBW⟩
        · have him2 : ¬ (i : Int) = (mi : Int) := by omega
          have d1 : ((i : Int) != (mi : Int)) = true := by simp [him2]
          have HNX : Hid (othersOf (i + 1) mi = othersOf i mi ++ [i]) := othersOf_succ_ne him
          have HQT : Hid (s.quitTo i = ⟨mi, i, (⟨2, mi, i, id, 0, [], 0, 0, 0⟩ : Pkt).enc⟩) := by show _ = _; rw [Co.quitTo, HME.out, HID.out]
          have HSZ : Hid (w.heap.size ≤ W1.heap.size) := HBW.out.size
          clear him him2
          go_upto_region 8 with fail
          refine wp_region_noPanic ?_
          refine wp_region_held_drew (S := (fun w' => w'.cell? ⟨x, 1, none⟩ = some (.int .i64 (mi : Int)) ∧ w'.cell? ⟨x, 2, none⟩ = some (.int .i64 id))) (by kernel_rfl) ⟨c1, c2⟩ (fun hHeld => ?_)
          refine tk0 0 ?_
          refine tk 1 ?_
          refine tk 2 ?_
          refine tk 3 ?_
          refine tk 4 ?_
          refine tk 5 ?_
          refine tk 6 ?_
          refine tk 7 ?_
          refine tk 8 ?_
          refine tk 9 ?_
          refine tk 10 ?_
          refine tk 11 ?_
          refine tk 12 ?_
          refine tk 13 ?_
          refine tk 14 ?_
          refine tk 15 ?_
          refine tk 16 ?_
          refine tk 17 ?_
          refine tk 18 ?_
          refine rdy 19 fun K hK => ?_
          go_simp
          refine Calls.mono (ref_Packet ⟨2, mi, i, id, 0, [], 0, 0, 0⟩ (LiesB.nil _ 0 none) (Nat.zero_le _) (by omega) ⟨by show (0 : Int) ≤ 0; omega, by show (0 : Int) < _; omega⟩) ?_
          rintro r w8 ⟨A8, n8, c8, rfl, ho8, hb8⟩
          have HO8 := hide ho8
          have HB8 := hide hb8
          refine hK.out _ _ ⟨below_cell hb8 c1, below_cell hb8 c2⟩ (fun hHeld => ?_)
          clear hK K
          try simp only [Act.put, List.setIfInBounds_toArray, List.set_cons_zero, List.set_cons_succ]
          refine tk 20 ?_
          refine rdy 21 fun K hK => ?_
          go_simp
          refine hK.out _ _ ⟨cell_al (below_cell hb8 c1) _, cell_al (below_cell hb8 c2) _⟩ (fun hHeld => ?_)
          clear hK K
          try simp only [Act.put, List.setIfInBounds_toArray, List.set_cons_zero, List.set_cons_succ]
          have HBN := hide (Below_new w8 (.cells #[.int .i64 (mi : Int), .int .i64 (i : Int), .slice A8 n8 c8] 124))
          have HML2 := hide ((HML.out.drew.below HB8.out).below HBN.out)
          have HL2 := hide (Lies.new w8 #[.int .i64 (mi : Int), .int .i64 (i : Int), .slice A8 n8 c8] 124 (0, 0))
          have HB9 := hide (Below_step (HBW.out.drew.trans (HB8.out.mono HSZ.out)) HBN.out)
          have hB9 : w.heap.size ≤ (World.alloc w8 (.cells #[.int .i64 (mi : Int), .int .i64 (i : Int), .slice A8 n8 c8] 124)).heap.size := HB9.out.size
          refine rdy 22 fun K hK => ?_
          (refine step_appendN elem_rmails rfl (.tmp 25) (.tmp 46) rfl w.heap.size A m c _ rfl HML2.out.row _ _ 1 [.int .i64 (mi : Int), .int .i64 (i : Int), .slice A8 n8 c8] rfl rfl HL2.out (by simp [Value.oneCell']) (by omega) (by omega) hB9 ?_; intro g9 c9 w9 own9 k9 hk9)
          have HOW := hide own9
          have HK9 := hide k9
          have HBK := hide (HB9.out.trans (HML2.out.keepsBelow hB9 k9))
          have HR9 := hide (H.out.below HBK.out)
          have c19 := HR9.out.cell (reRow_me s p)
          have c29 := HR9.out.cell (reRow_id s p)
          rw [HME.out] at c19
          rw [← HID.out] at c29
          refine hK.out _ _ ⟨c19, c29⟩ (fun hHeld => ?_)
          clear hK K
          try simp only [Act.put, List.setIfInBounds_toArray, List.set_cons_zero, List.set_cons_succ]
          refine tk 23 ?_
          refine wpAnyH_done (by kernel_rfl) (NoPanic.normal ?_) _
          go_wp2_with fail
          go_roundg (n - (i + 1))
          case measure => omega
          case rel =>
            refine ⟨i + 1, m + 1, some ⟨g9, 0, none⟩, c9, xs ++ [(s.quitTo i, (A8, n8, c8))], by omega, by omega, rfl, by go_num, rfl, ?_, ?_, ?_⟩
            · show ML _ _ _ _ _ _ _
              refine HML.out.drew.add (x := (s.quitTo i, (A8, n8, c8))) (by decide) (by rw [HQT.out]; exact OwnB.base_le HO8.out HSZ.out) HB8.out HBN.out ?_ HK9.out
              have := HOW.out
              rw [show mrow (s.quitTo i, (A8, n8, c8)) = [.int .i64 (mi : Int), .int .i64 (i : Int), .slice A8 n8 c8] by rw [HQT.out]; rfl]
              exact this
            · show _ = _
              rw [HNX.out, List.map_append, List.map_append, HXS.out]; rfl
            · exact HBK
      · obtain rfl : n = i := by omega
        have HS2 := hide (HRW.out.setHead 18 (.bool true) p s.quit (by rfl) rfl rfl rfl rfl rfl)
        have c18 := HRW.out.cell (reRow_closed s p)
        have f18 := HRW.out.frozen 18
        have hxB : w.heap.size ≤ w.heap.size := Nat.le_refl _
        go_wp2_with fail
        go_ret
        have ks := Keeps.setCell W1 ⟨x, 18, none⟩ (.bool true)
        have hxl : x < w.heap.size := H.out.head.lt
        refine ⟨A, m, c, xs, rfl, ?_, by rw [HXS.out, HQ2.out], by rw [HS.out]; exact HS2.out.1, (RSt.of_below HBW.out).trans HS2.out.2⟩
        refine ⟨owns_keep HML.out.row ks (fun k hk hs => ?_), fun y hy => (HML.out.line y hy).keeps ks (fun k hk hs => ?_)⟩
        · have h1 := (World.ownsRow.lt HML.out.row k hk.symm).1
          have hs : k = x := hs
          omega
        · have h1 := ((HML.out.line y hy).blk k hk).1
          have hs : k = x := hs
          omega
end Go.Proofs.Ytbcgffgiifminaa
