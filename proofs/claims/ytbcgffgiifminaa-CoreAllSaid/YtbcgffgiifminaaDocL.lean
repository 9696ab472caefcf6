/-
  An operation's packet, its names as they must be.
-/
import Derived.Test.YtbcgffgiifminaaDocE
import Derived.Deep.MidRow
namespace Go.Proofs.Ytbcgffgiifminaa
open Go.RowKit
set_option maxRecDepth 10000
set_option linter.unusedVariables false
/-- An operation of law 21. -/
def op21Row (kd : Int) (bv : Value) (k : Pkt) (pv : Value) (fit : Bool) (sm : Int) : List Value := .int .i64 kd :: bv :: (k.row pv ++ [.bool fit, .int .u32 sm])
def Pkt.cut (k : Pkt) (c : Cfg) (fit : Bool) : Pkt := if fit = true then { k with press := k.press.take 33, dst := c.me, id := c.id } else { k with press := k.press.take 33 }
set_option maxHeartbeats 4000000 in
theorem law_Packet (c : Cfg) (kd : Int) (bA : Option Addr) (bn bc : Nat) (k : Pkt) (A : Option Addr) (n cc : Nat) (fit : Bool) (sm : Int) (hnc : n ≤ cc) (w : World) :
    Calls Try.prog 40 #[c.val, .agg (op21Row kd (.slice bA bn bc) k (.slice A n cc) fit sm).toArray] w fun r w' => r = .returned ((k.cut c fit).val (.slice A (min 33 n) cc)) ∧ Below w.heap.size w w' := by
  obtain ⟨kind, src, dst, kid, first, press, ack, frame, sum⟩ := k
  obtain ⟨m, hm⟩ : ∃ m, m = min 33 n := ⟨_, rfl⟩
  have HM := hide hm
  have HNC := hide hnc
  have b1 := Below_new w (.cells c.row.toArray 28)
  have a1 := Arr.new 28 w c.row.toArray c.row rfl
  have b2 := Below_new (w.alloc (.cells c.row.toArray 28)) (.cells (op21Row kd (.slice bA bn bc) ⟨kind, src, dst, kid, first, press, ack, frame, sum⟩ (.slice A n cc) fit sm).toArray 71)
  have a2 := Arr.new 71 (w.alloc (.cells c.row.toArray 28)) (op21Row kd (.slice bA bn bc) ⟨kind, src, dst, kid, first, press, ack, frame, sum⟩ (.slice A n cc) fit sm).toArray (op21Row kd (.slice bA bn bc) ⟨kind, src, dst, kid, first, press, ack, frame, sum⟩ (.slice A n cc) fit sm) rfl
  have b3 := Below_new ((w.alloc (.cells c.row.toArray 28)).alloc (.cells (op21Row kd (.slice bA bn bc) ⟨kind, src, dst, kid, first, press, ack, frame, sum⟩ (.slice A n cc) fit sm).toArray 71)) (.cells (Pkt.zero.row (.slice none 0 0)).toArray 41)
  have a3 := Arr.new 41 ((w.alloc (.cells c.row.toArray 28)).alloc (.cells (op21Row kd (.slice bA bn bc) ⟨kind, src, dst, kid, first, press, ack, frame, sum⟩ (.slice A n cc) fit sm).toArray 71)) (Pkt.zero.row (.slice none 0 0)).toArray (Pkt.zero.row (.slice none 0 0)) rfl
  have HB := hide (Below_step (Below_step b1 b2) b3)
  have HC := hide ((a1.belowN b2).belowN b3)
  have HO := hide (a2.belowN b3)
  have HZ := hide a3
  simp only [World.size_alloc] at HO HZ
  rw [← hm]
  clear hm hnc b1 a1 b2 a2 b3 a3
  simp only [Cfg.row, op21Row, Pkt.row, Pkt.zero, List.cons_append, List.nil_append] at HB HC HO HZ
  rw [show (op21Row kd (.slice bA bn bc) ⟨kind, src, dst, kid, first, press, ack, frame, sum⟩ (.slice A n cc) fit sm).toArray = #[.int .i64 kd, .slice bA bn bc, .int .i64 kind, .int .i64 src, .int .i64 dst, .int .i64 kid, .int .i64 first, .slice A n cc, .int .i64 ack, .int .i64 frame, .int .u32 sum, .bool fit, .int .u32 sm] from rfl]
  go_enter Try.func40, Try.ntmps40
  go_upto_region 1 with fail
  generalize World.alloc (World.alloc (World.alloc w _) _) _ = w3 at HB HC HO HZ ⊢
  obtain ⟨gc, hgc⟩ : ∃ g, g = w.heap.size := ⟨_, rfl⟩
  obtain ⟨go, hgo⟩ : ∃ g, g = gc + 1 := ⟨_, rfl⟩
  obtain ⟨gz, hgz⟩ : ∃ g, g = gc + 1 + 1 := ⟨_, rfl⟩
  have HGZ : Hid (w.heap.size ≤ gz) := by show _ ≤ _; omega
  have HGO : Hid (w.heap.size ≤ go ∧ w.heap.size ≤ gc) := by show _ ∧ _; omega
  rw [← hgc] at HC HO HZ ⊢
  rw [← hgz] at HZ ⊢
  rw [← hgo] at HO ⊢
  have hrg : w3.rangeAt go 2 [.int .i64 kind, .int .i64 src, .int .i64 dst, .int .i64 kid, .int .i64 first, .slice A n cc, .int .i64 ack, .int .i64 frame, .int .u32 sum] := by
    intro j v hv
    have hj : j < 9 := by rcases Nat.lt_or_ge j 9 with h | h; exact h; rw [List.getElem?_eq_none (by simpa using h)] at hv; cases hv
    refine HO.out.at_ ?_
    rw [show 2 + j = j + 1 + 1 by omega, List.getElem?_cons_succ, List.getElem?_cons_succ]
    match j, hj, hv with
    | 0, _, hv => exact hv
    | 1, _, hv => exact hv
    | 2, _, hv => exact hv
    | 3, _, hv => exact hv
    | 4, _, hv => exact hv
    | 5, _, hv => exact hv
    | 6, _, hv => exact hv
    | 7, _, hv => exact hv
    | 8, _, hv => exact hv
  have HRG := hide hrg
  clear hrg hgc hgo hgz
  have ha4 := Arr.new 41 w3 (Pkt.row ⟨kind, src, dst, kid, first, press, ack, frame, sum⟩ (.slice A n cc)).toArray (Pkt.row ⟨kind, src, dst, kid, first, press, ack, frame, sum⟩ (.slice A n cc)) rfl
  have hb4 := Below_new w3 (.cells (Pkt.row ⟨kind, src, dst, kid, first, press, ack, frame, sum⟩ (.slice A n cc)).toArray 41)
  simp only [Pkt.row] at ha4 hb4
  have HA4 := hide ha4
  have HBB4 := hide hb4
  clear ha4 hb4
  go_upto_region 2 with (refine wpList_load_mid rfl 41 (.tmp 6) rfl go 2 rfl [.int .i64 kind, .int .i64 src, .int .i64 dst, .int .i64 kid, .int .i64 first, .slice A n cc, .int .i64 ack, .int .i64 frame, .int .u32 sum] _ HRG.out Try.underlying41 rfl info_packet ?_)
  generalize World.alloc w3 _ = w4 at HA4 HBB4 ⊢
  have ha4 := HA4.out
  have hb4 := HBB4.out
  obtain ⟨gk, hgk⟩ : ∃ g, g = w3.heap.size := ⟨_, rfl⟩
  have HGK : Hid (gc < gk ∧ go < gk ∧ gz < gk ∧ w.heap.size ≤ gk) := by
    have h1 := HC.out.lt
    have h2 := HO.out.lt
    have h3 := HZ.out.lt
    have h4 := HB.out.size
    show _ ∧ _
    omega
  rw [← hgk] at ha4 ⊢
  have HK4 : Hid (Arr 41 w4 gk (Pkt.row ⟨kind, src, dst, kid, first, press, ack, frame, sum⟩ (.slice A n cc))) := ha4
  have HB4 := hide (Below_step HB.out hb4)
  have HC4 := hide (HC.out.belowN hb4)
  have HO4 := hide (HO.out.belowN hb4)
  have HZ4 := hide (HZ.out.belowN hb4)
  have c5 := ha4.cell (j := 5) (by simp)
  have f5 := ha4.frozen 5
  simp only [List.getElem_cons_zero, List.getElem_cons_succ] at c5
  clear ha4 hb4 hgk HC HO HZ HB HRG HA4 HBB4
  go_wp2_with fail
  refine Calls.mono (law_Short A n cc 33 33 _ HNC.out rfl (by omega)) ?_
  rintro e w5 ⟨rfl, rfl⟩
  rw [← HM.out]
  go_upto_region 3 with fail
  have ks := Keeps.setCell w4 ⟨gk, 5, none⟩ (.slice A m cc)
  have HK5 : Hid (Arr 41 (w4.setCell ⟨gk, 5, none⟩ (.slice A m cc)) gk (Pkt.row (⟨kind, src, dst, kid, first, press.take 33, ack, frame, sum⟩ : Pkt) (.slice A m cc))) := HK4.out.set 5 _
  have HC5 := hide (HC4.out.keeps ks (by have := HGK.out; show ¬ gc = gk; omega))
  have HO5 := hide (HO4.out.keeps ks (by have := HGK.out; show ¬ go = gk; omega))
  have HZ5 := hide (HZ4.out.keeps ks (by have := HGK.out; show ¬ gz = gk; omega))
  have HB5 := hide (HB4.out.setCell (p := ⟨gk, 5, none⟩) HGK.out.2.2.2 (.slice A m cc))
  clear ks c5 f5 HK4 HC4 HO4 HZ4 HB4
  generalize World.setCell w4 _ _ = w5 at HK5 HC5 HO5 HZ5 HB5 ⊢
  have c11 := HO5.out.cell (j := 11) (by simp)
  simp only [List.getElem_cons_zero, List.getElem_cons_succ] at c11
  cases fit with
  | false =>
    go_wp2_with (first | (refine wpP_load rfl (.tmp 5) rfl gk rfl (⟨kind, src, dst, kid, first, press.take 33, ack, frame, sum⟩ : Pkt) (.slice A m cc) HK5.out ?_) | (refine wpP_store rfl (.tmp 4) (.tmp 20) rfl gz rfl (⟨kind, src, dst, kid, first, press.take 33, ack, frame, sum⟩ : Pkt) Pkt.zero A none m 0 cc 0 rfl HZ5.out ?_; intro w9 ha9 hk9 hs9))
    refine bodyPost_ret (results_P (fn := Try.f40) rfl _ _ gz rfl (⟨kind, src, dst, kid, first, press.take 33, ack, frame, sum⟩ : Pkt) (.slice A m cc) ha9) rfl ?_
    refine ⟨?_, HB5.out.trans (hk9.below HB5.out.size (fun k hk e => by have := HGZ.out; omega))⟩
    rfl
  | true =>
    have c1 := HC5.out.cell (j := 1) (by simp)
    have c2 := HC5.out.cell (j := 2) (by simp)
    simp only [List.getElem_cons_zero, List.getElem_cons_succ] at c1 c2
    have k2 := HK5.out.cell (j := 2) (by simp)
    have k3 := HK5.out.cell (j := 3) (by simp)
    simp only [List.getElem_cons_zero, List.getElem_cons_succ] at k2 k3
    have f2 := HK5.out.frozen 2
    have f3 := HK5.out.frozen 3
    go_upto_region 4 with fail
    go_cut [] (fun wx => Hid (Arr 41 wx gk (Pkt.row (⟨kind, src, c.me, c.id, first, press.take 33, ack, frame, sum⟩ : Pkt) (.slice A m cc))) ∧ Hid (Arr 41 wx gz (Pkt.row Pkt.zero (.slice none 0 0))) ∧ Hid (Below w.heap.size w wx))
    case first =>
      have hne : ∀ v1 v2 j1 j2, Arr 41 ((w5.setCell ⟨gk, j1, none⟩ v1).setCell ⟨gk, j2, none⟩ v2) gz (Pkt.row Pkt.zero (.slice none 0 0)) ∧ Below w.heap.size w ((w5.setCell ⟨gk, j1, none⟩ v1).setCell ⟨gk, j2, none⟩ v2) := fun v1 v2 j1 j2 =>
        ⟨(HZ5.out.keeps (Keeps.setCell _ _ _) (by have := HGK.out; show ¬ gz = gk; omega)).keeps (Keeps.setCell _ _ _) (by have := HGK.out; show ¬ gz = gk; omega),
         (HB5.out.setCell (p := ⟨gk, j1, none⟩) HGK.out.2.2.2 v1).setCell (p := ⟨gk, j2, none⟩) HGK.out.2.2.2 v2⟩
      have HNE := hide hne
      have hc : ∀ v1 j1, (w5.setCell ⟨gk, j1, none⟩ v1).cell? ⟨gc, 1, none⟩ = some (.int .i64 c.me) ∧ (w5.setCell ⟨gk, j1, none⟩ v1).cell? ⟨gc, 2, none⟩ = some (.int .i64 c.id) := fun v1 j1 =>
        ⟨keeps_cell' (S := fun k => k = gk) (Keeps.setCell w5 ⟨gk, j1, none⟩ v1) c1 (by have := HGK.out; show ¬ gc = gk; omega), keeps_cell' (S := fun k => k = gk) (Keeps.setCell w5 ⟨gk, j1, none⟩ v1) c2 (by have := HGK.out; show ¬ gc = gk; omega)⟩
      have hc2 : ∀ v1 j1 v2 j2, ((w5.setCell ⟨gk, j1, none⟩ v1).setCell ⟨gk, j2, none⟩ v2).cell? ⟨gc, 1, none⟩ = some (.int .i64 c.me) ∧ ((w5.setCell ⟨gk, j1, none⟩ v1).setCell ⟨gk, j2, none⟩ v2).cell? ⟨gc, 2, none⟩ = some (.int .i64 c.id) := fun v1 j1 v2 j2 =>
        ⟨keeps_cell' (S := fun k => k = gk) (Keeps.setCell (w5.setCell ⟨gk, j1, none⟩ v1) ⟨gk, j2, none⟩ v2) (hc v1 j1).1 (by have := HGK.out; show ¬ gc = gk; omega), keeps_cell' (S := fun k => k = gk) (Keeps.setCell (w5.setCell ⟨gk, j1, none⟩ v1) ⟨gk, j2, none⟩ v2) (hc v1 j1).2 (by have := HGK.out; show ¬ gc = gk; omega)⟩
      have HHC2 := hide hc2
      have HHC := hide hc
      have s23 : (w5.setCell ⟨gk, 2, none⟩ (.int .i64 c.me)).cell? ⟨gk, 3, none⟩ = some (.int .i64 kid) := (HK5.out.set 2 (.int .i64 c.me)).at_ rfl
      have s32 : (w5.setCell ⟨gk, 3, none⟩ (.int .i64 c.id)).cell? ⟨gk, 2, none⟩ = some (.int .i64 dst) := (HK5.out.set 3 (.int .i64 c.id)).at_ rfl
      have g23 : (w5.setCell ⟨gk, 2, none⟩ (.int .i64 c.me)).frozen? ⟨gk, 3, none⟩ = false := (HK5.out.set 2 (.int .i64 c.me)).frozen 3
      have g32 : (w5.setCell ⟨gk, 3, none⟩ (.int .i64 c.id)).frozen? ⟨gk, 2, none⟩ = false := (HK5.out.set 3 (.int .i64 c.id)).frozen 2
      clear hne hc hc2
      refine wp_region_noPanic ?_
      refine wp_region_held_drew (S := (fun w' => w'.cell? ⟨gc, 1, none⟩ = some (.int .i64 c.me) ∧ w'.cell? ⟨gc, 2, none⟩ = some (.int .i64 c.id))) (by kernel_rfl) ⟨c1, c2⟩ (fun hHeld => ?_)
      refine tk0 0 ?_
      refine tk 1 ?_
      refine tk 2 ?_
      refine tk 3 ?_
      refine tk 4 ?_
      refine rdy 5 fun K hK => ?_
      go_simp
      refine hK.out _ _ (HHC.out _ 2) (fun hHeld => ?_)
      clear hK K
      try simp only [Act.put]
      refine tk 6 ?_
      refine rdy 7 fun K hK => ?_
      go_simp
      refine hK.out _ _ (HHC2.out _ 2 _ 3) (fun hHeld => ?_)
      clear hK K
      try simp only [Act.put]
      refine wpAnyH_done (by kernel_rfl) (NoPanic.normal ?_) _
      go_wp2_with fail
      go_meet
      exact ⟨hide ((HK5.out.set 2 (.int .i64 c.me)).set 3 (.int .i64 c.id)).drew, hide (HNE.out _ _ 2 3).1.drew, hide (HNE.out _ _ 2 3).2.drew⟩
    case rest =>
    obtain ⟨HK6, HZ6, HB6⟩ := hcut
    go_wp2_with (first | (refine wpP_load rfl (.tmp 5) rfl gk rfl (⟨kind, src, c.me, c.id, first, press.take 33, ack, frame, sum⟩ : Pkt) (.slice A m cc) HK6.out ?_) | (refine wpP_store rfl (.tmp 4) (.tmp 20) rfl gz rfl (⟨kind, src, c.me, c.id, first, press.take 33, ack, frame, sum⟩ : Pkt) Pkt.zero A none m 0 cc 0 rfl HZ6.out ?_; intro w9 ha9 hk9 hs9))
    refine bodyPost_ret (results_P (fn := Try.f40) rfl _ _ gz rfl (⟨kind, src, c.me, c.id, first, press.take 33, ack, frame, sum⟩ : Pkt) (.slice A m cc) ha9) rfl ?_
    refine ⟨?_, HB6.out.trans (hk9.below HB6.out.size (fun k hk e => by have := HGZ.out; omega))⟩
    rfl
end Go.Proofs.Ytbcgffgiifminaa
