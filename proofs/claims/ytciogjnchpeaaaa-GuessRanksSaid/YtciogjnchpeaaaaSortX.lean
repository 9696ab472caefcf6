/-
  Sorting: the exchange of two stretches, and the turning of a stretch.
-/
import Derived.Test.YtciogjnchpeaaaaSortW
namespace Go.Proofs.Ytciogjnchpeaaaa
open Go.RowKit
set_option maxRecDepth 10000
set_option linter.unusedVariables false
set_option maxHeartbeats 2000000 in
set_option maxRecDepth 10000 in
theorem sort_swapRange {g n c base a b m : Nat} {cv : Value} {P X M Y S l : List UInt8} {w : World} (ho : OwnB w base (some ⟨g, 0, none⟩) n c l) (hn : n ≤ 100000) (hl : l = P ++ (X ++ (M ++ (Y ++ S)))) (ha : P.length = a) (hX : X.length = m) (hY : Y.length = m) (hb : a + m + M.length = b)
    {ai bi mi : Int} (hai : ai = (a : Int)) (hbi : bi = (b : Int)) (hmi : mi = (m : Int)) :
    Calls Try.prog 50 #[.slice (some ⟨g, 0, none⟩) n c, .int .i64 ai, .int .i64 bi, .int .i64 mi, cv] w fun e w' =>
      e = .returned (.tuple #[]) ∧ OwnB w' base (some ⟨g, 0, none⟩) n c (P ++ (Y ++ (M ++ (X ++ S)))) ∧ Keeps (fun k => k = g) w w' := by
  subst hai hbi hmi
  have hlen := ho.len
  have hbn : b + m ≤ n := by rw [← hlen, hl]; simp only [List.length_append]; omega
  have HO : Hid (OwnB w base (some ⟨g, 0, none⟩) n c (P ++ (X ++ (M ++ (Y ++ S))))) := by show OwnB _ _ _ _ _ _; rw [← hl]; exact ho
  have HA := hide ha
  have HX := hide hX
  have HY := hide hY
  have HBB := hide hb
  have ham : a + m ≤ b := by omega
  clear ho hl ha hX hY hb hlen
  go_enter Try.func50, Try.ntmps50
  go_wp2_with fail
  go_loopg [10] m (fun gg s wr => ∃ (k : Nat), k ≤ m ∧ gg = m - k ∧ s = .int .i64 k ∧ Hid (OwnB wr base (some ⟨g, 0, none⟩) n c (P ++ (Y.take k ++ (X.drop k ++ (M ++ (X.take k ++ (Y.drop k ++ S))))))) ∧ Hid (Keeps (fun k => k = g) w wr))
  case atStart => exact ⟨0, by omega, rfl, rfl, HO, Keeps.refl _ _⟩
  case round =>
    obtain ⟨k, hk, rfl, rfl, HOl, HK⟩ := hrel
    by_cases hlt : k < m
    · obtain ⟨x, hx⟩ : ∃ x, X.drop k = x :: X.drop (k + 1) := ⟨_, List.drop_eq_getElem_cons (by rw [HX.out]; exact hlt)⟩
      obtain ⟨y, hy⟩ : ∃ y, Y.drop k = y :: Y.drop (k + 1) := ⟨_, List.drop_eq_getElem_cons (by rw [HY.out]; exact hlt)⟩
      have htx : X.take (k + 1) = X.take k ++ [x] := by
        rw [List.take_succ_eq_append_getElem (by rw [HX.out]; exact hlt)]
        rw [List.drop_eq_getElem_cons (by rw [HX.out]; exact hlt)] at hx
        injection hx with hx
        rw [hx]
      have hty : Y.take (k + 1) = Y.take k ++ [y] := by
        rw [List.take_succ_eq_append_getElem (by rw [HY.out]; exact hlt)]
        rw [List.drop_eq_getElem_cons (by rw [HY.out]; exact hlt)] at hy
        injection hy with hy
        rw [hy]
      obtain ⟨L, hL⟩ : ∃ L, L = P ++ (Y.take k ++ (X.drop k ++ (M ++ (X.take k ++ (Y.drop k ++ S))))) := ⟨_, rfl⟩
      have HOL : Hid (OwnB wr base (some ⟨g, 0, none⟩) n c L) := by show OwnB _ _ _ _ _ _; rw [hL]; exact HOl.out
      have hL2 : L = (P ++ Y.take k) ++ x :: ((X.drop (k + 1) ++ (M ++ X.take k)) ++ y :: (Y.drop (k + 1) ++ S)) := by rw [hL, hx, hy]; simp
      have i1 : (P ++ Y.take k).length = a + k := by rw [List.length_append, HA.out, List.length_take, HY.out]; omega
      have i2 : a + k + 1 + (X.drop (k + 1) ++ (M ++ X.take k)).length = b + k := by have := HBB.out; rw [List.length_append, List.length_append, List.length_drop, List.length_take, HX.out]; omega
      have hLx : L.getD (a + k) 0 = x := by rw [hL2]; exact Srt.getD_mid _ _ _ _ i1
      have hLy : L.getD (b + k) 0 = y := by
        rw [hL2, show (P ++ Y.take k) ++ x :: ((X.drop (k + 1) ++ (M ++ X.take k)) ++ y :: (Y.drop (k + 1) ++ S)) = ((P ++ Y.take k) ++ x :: (X.drop (k + 1) ++ (M ++ X.take k))) ++ y :: (Y.drop (k + 1) ++ S) by simp]
        exact Srt.getD_mid _ _ _ _ (by rw [List.length_append, List.length_cons, i1]; omega)
      have hswp : Srt.swp L (a + k) (b + k) = P ++ (Y.take (k + 1) ++ (X.drop (k + 1) ++ (M ++ (X.take (k + 1) ++ (Y.drop (k + 1) ++ S))))) := by
        rw [hL2, Srt.swp_parts _ _ _ _ _ _ _ i1 i2, htx, hty]; simp
      have cx := HOL.out.getD (j := a + k) (by omega)
      have cy := HOL.out.getD (j := b + k) (by omega)
      rw [hLx] at cx
      rw [hLy] at cy
      have fx := HOL.out.frozen (a + k)
      have fy := HOL.out.frozen (b + k)
      have OS : Hid (OwnB ((wr.drew.setCell ⟨g, a + k, none⟩ (.int .u8 (y.toNat : Int))).setCell ⟨g, b + k, none⟩ (.int .u8 (x.toNat : Int))) base (some ⟨g, 0, none⟩) n c (P ++ (Y.take (k + 1) ++ (X.drop (k + 1) ++ (M ++ (X.take (k + 1) ++ (Y.drop (k + 1) ++ S))))))) := by
        show OwnB _ _ _ _ _ _
        have := HOL.out.drew.swp (a + k) (b + k)
        rwa [hLx, hLy, hswp] at this
      have KS : Hid (Keeps (fun k => k = g) w ((wr.drew.setCell ⟨g, a + k, none⟩ (.int .u8 (y.toNat : Int))).setCell ⟨g, b + k, none⟩ (.int .u8 (x.toNat : Int)))) := HK.out.drew1.trans (Keeps.two g (a + k) (b + k) _ _) fun _ _ h => h
      have a1 : IntKind.i64.wrap ((a : Int) + (k : Int)) = (a : Int) + (k : Int) := by rw [IntKind.wrap_i64]; omega
      have b1 : IntKind.i64.wrap ((b : Int) + (k : Int)) = (b : Int) + (k : Int) := by rw [IntKind.wrap_i64]; omega
      have a2 : (a : Int) + (k : Int) < (n : Int) := by omega
      have b2 : (b : Int) + (k : Int) < (n : Int) := by omega
      have a3 : (0 : Int) ≤ (a : Int) + (k : Int) := by omega
      have b3 : (0 : Int) ≤ (b : Int) + (k : Int) := by omega
      have a4 : ((a : Int) + (k : Int)).toNat = a + k := by omega
      have b4 : ((b : Int) + (k : Int)).toNat = b + k := by omega
      clear hx hy htx hty hL hL2 i1 i2 hLx hLy hswp
      go_upto_region 3 with fail
      refine wp_region_noPanic ?_
      refine wp_region_held_drew (S := (fun _ => True)) (by kernel_rfl) trivial (fun hHeld => ?_)
      refine wpAnyH_take (i := 0) (oi := ?_) (v := ?_) ?_ (by kernel_rfl) (by kernel_rfl) (by kernel_rfl) ?_ ?_ (by assumption) ?_
      rotate_left 2
      · (simp only [List.getElem?_toArray, List.getElem?_cons_zero]; rfl)
      · exact fun _ _ _ h => h
      · (refine Or.inl ⟨by rfl, ?_⟩; intro w hSw; (try dsimp only at hSw); go_simp <;> with_reducible rfl)
      try simp only [Act.put, List.setIfInBounds_toArray, List.set_cons_zero, List.set_cons_succ]
      refine wpAnyH_take (i := 1) (oi := ?_) (v := ?_) ?_ (by kernel_rfl) (by kernel_rfl) (by kernel_rfl) ?_ ?_ (by assumption) ?_
      rotate_left 2
      · (simp only [List.getElem?_toArray, List.getElem?_cons_succ, List.getElem?_cons_zero]; rfl)
      · exact fun _ _ _ h => h
      · (refine Or.inl ⟨by rfl, ?_⟩; intro w hSw; (try dsimp only at hSw); go_simp <;> with_reducible rfl)
      try simp only [Act.put, List.setIfInBounds_toArray, List.set_cons_zero, List.set_cons_succ]
      refine wpAnyH_take (i := 2) (oi := ?_) (v := ?_) ?_ (by kernel_rfl) (by kernel_rfl) (by kernel_rfl) ?_ ?_ (by assumption) ?_
      rotate_left 2
      · (simp only [List.getElem?_toArray, List.getElem?_cons_succ, List.getElem?_cons_zero]; rfl)
      · exact fun _ _ _ h => h
      · (refine Or.inl ⟨by rfl, ?_⟩; intro w hSw; (try dsimp only at hSw); go_simp <;> with_reducible rfl)
      try simp only [Act.put, List.setIfInBounds_toArray, List.set_cons_zero, List.set_cons_succ]
      refine wpAnyH_take (i := 3) (oi := ?_) (v := ?_) ?_ (by kernel_rfl) (by kernel_rfl) (by kernel_rfl) ?_ ?_ (by assumption) ?_
      rotate_left 2
      · (simp only [List.getElem?_toArray, List.getElem?_cons_succ, List.getElem?_cons_zero]; rfl)
      · exact fun _ _ _ h => h
      · (refine Or.inl ⟨by rfl, ?_⟩; intro w hSw; (try dsimp only at hSw); go_simp <;> with_reducible rfl)
      try simp only [Act.put, List.setIfInBounds_toArray, List.set_cons_zero, List.set_cons_succ]
      refine wpAnyH_take (i := 4) (oi := ?_) (v := ?_) ?_ (by kernel_rfl) (by kernel_rfl) (by kernel_rfl) ?_ ?_ (by assumption) ?_
      rotate_left 2
      · (simp only [List.getElem?_toArray, List.getElem?_cons_succ, List.getElem?_cons_zero]; rfl)
      · exact fun _ _ _ h => h
      · (refine Or.inl ⟨by rfl, ?_⟩; intro w hSw; (try dsimp only at hSw); go_simp <;> with_reducible rfl)
      try simp only [Act.put, List.setIfInBounds_toArray, List.set_cons_zero, List.set_cons_succ]
      refine wpAnyH_take (i := 5) (oi := ?_) (v := ?_) ?_ (by kernel_rfl) (by kernel_rfl) (by kernel_rfl) ?_ ?_ (by assumption) ?_
      rotate_left 2
      · (simp only [List.getElem?_toArray, List.getElem?_cons_succ, List.getElem?_cons_zero]; rfl)
      · exact fun _ _ _ h => h
      · (refine Or.inl ⟨by rfl, ?_⟩; intro w hSw; (try dsimp only at hSw); go_simp <;> with_reducible rfl)
      try simp only [Act.put, List.setIfInBounds_toArray, List.set_cons_zero, List.set_cons_succ]
      refine wpAnyH_take (i := 6) (oi := ?_) (v := ?_) ?_ (by kernel_rfl) (by kernel_rfl) (by kernel_rfl) ?_ ?_ (by assumption) ?_
      rotate_left 2
      · (simp only [List.getElem?_toArray, List.getElem?_cons_succ, List.getElem?_cons_zero]; rfl)
      · exact fun _ _ _ h => h
      · (refine Or.inl ⟨by rfl, ?_⟩; intro w hSw; (try dsimp only at hSw); go_simp <;> with_reducible rfl)
      try simp only [Act.put, List.setIfInBounds_toArray, List.set_cons_zero, List.set_cons_succ]
      refine wpAnyH_take (i := 7) (oi := ?_) (v := ?_) ?_ (by kernel_rfl) (by kernel_rfl) (by kernel_rfl) ?_ ?_ (by assumption) ?_
      rotate_left 2
      · (simp only [List.getElem?_toArray, List.getElem?_cons_succ, List.getElem?_cons_zero]; rfl)
      · exact fun _ _ _ h => h
      · (refine Or.inl ⟨by rfl, ?_⟩; intro w hSw; (try dsimp only at hSw); go_simp <;> with_reducible rfl)
      try simp only [Act.put, List.setIfInBounds_toArray, List.set_cons_zero, List.set_cons_succ]
      refine wpAnyH_take (i := 8) (oi := ?_) (v := ?_) ?_ (by kernel_rfl) (by kernel_rfl) (by kernel_rfl) ?_ ?_ (by assumption) ?_
      rotate_left 2
      · (simp only [List.getElem?_toArray, List.getElem?_cons_succ, List.getElem?_cons_zero]; rfl)
      · exact fun _ _ _ h => h
      · (refine Or.inl ⟨by rfl, ?_⟩; intro w hSw; (try dsimp only at hSw); go_simp <;> with_reducible rfl)
      try simp only [Act.put, List.setIfInBounds_toArray, List.set_cons_zero, List.set_cons_succ]
      refine wpAnyH_take (i := 9) (oi := ?_) (v := ?_) ?_ (by kernel_rfl) (by kernel_rfl) (by kernel_rfl) ?_ ?_ (by assumption) ?_
      rotate_left 2
      · (simp only [List.getElem?_toArray, List.getElem?_cons_succ, List.getElem?_cons_zero]; rfl)
      · exact fun _ _ _ h => h
      · (refine Or.inl ⟨by rfl, ?_⟩; intro w hSw; (try dsimp only at hSw); go_simp <;> with_reducible rfl)
      try simp only [Act.put, List.setIfInBounds_toArray, List.set_cons_zero, List.set_cons_succ]
      refine wpAnyH_take (i := 10) (oi := ?_) (v := ?_) ?_ (by kernel_rfl) (by kernel_rfl) (by kernel_rfl) ?_ ?_ (by assumption) ?_
      rotate_left 2
      · (simp only [List.getElem?_toArray, List.getElem?_cons_succ, List.getElem?_cons_zero]; rfl)
      · exact fun _ _ _ h => h
      · (refine Or.inl ⟨by rfl, ?_⟩; intro w hSw; (try dsimp only at hSw); go_simp <;> with_reducible rfl)
      try simp only [Act.put, List.setIfInBounds_toArray, List.set_cons_zero, List.set_cons_succ]
      refine wpAnyH_take (i := 11) (oi := ?_) (v := ?_) ?_ (by kernel_rfl) (by kernel_rfl) (by kernel_rfl) ?_ ?_ (by assumption) ?_
      rotate_left 2
      · (simp only [List.getElem?_toArray, List.getElem?_cons_succ, List.getElem?_cons_zero]; rfl)
      · exact fun _ _ _ h => h
      · (refine Or.inl ⟨by rfl, ?_⟩; intro w hSw; (try dsimp only at hSw); go_simp <;> with_reducible rfl)
      try simp only [Act.put, List.setIfInBounds_toArray, List.set_cons_zero, List.set_cons_succ]
      refine wpAnyH_take (i := 12) (oi := ?_) (v := ?_) ?_ (by kernel_rfl) (by kernel_rfl) (by kernel_rfl) ?_ ?_ (by assumption) ?_
      rotate_left 2
      · (simp only [List.getElem?_toArray, List.getElem?_cons_succ, List.getElem?_cons_zero]; rfl)
      · exact fun _ _ _ h => h
      · (refine Or.inl ⟨by rfl, ?_⟩; intro w hSw; (try dsimp only at hSw); go_simp <;> with_reducible rfl)
      try simp only [Act.put, List.setIfInBounds_toArray, List.set_cons_zero, List.set_cons_succ]
      refine wpAnyH_take (i := 14) (oi := ?_) (v := ?_) ?_ (by kernel_rfl) (by kernel_rfl) (by kernel_rfl) ?_ ?_ (by assumption) ?_
      rotate_left 2
      · (simp only [List.getElem?_toArray, List.getElem?_cons_succ, List.getElem?_cons_zero]; rfl)
      · exact fun _ _ _ h => h
      · (refine Or.inl ⟨by rfl, ?_⟩; intro w hSw; (try dsimp only at hSw); go_simp <;> with_reducible rfl)
      try simp only [Act.put, List.setIfInBounds_toArray, List.set_cons_zero, List.set_cons_succ]
      refine wpAnyH_take (i := 15) (oi := ?_) (v := ?_) ?_ (by kernel_rfl) (by kernel_rfl) (by kernel_rfl) ?_ ?_ (by assumption) ?_
      rotate_left 2
      · (simp only [List.getElem?_toArray, List.getElem?_cons_succ, List.getElem?_cons_zero]; rfl)
      · exact fun _ _ _ h => h
      · (refine Or.inl ⟨by rfl, ?_⟩; intro w hSw; (try dsimp only at hSw); go_simp <;> with_reducible rfl)
      try simp only [Act.put, List.setIfInBounds_toArray, List.set_cons_zero, List.set_cons_succ]
      refine wpAnyH_take (i := 16) (oi := ?_) (v := ?_) ?_ (by kernel_rfl) (by kernel_rfl) (by kernel_rfl) ?_ ?_ (by assumption) ?_
      rotate_left 2
      · (simp only [List.getElem?_toArray, List.getElem?_cons_succ, List.getElem?_cons_zero]; rfl)
      · exact fun _ _ _ h => h
      · (refine Or.inl ⟨by rfl, ?_⟩; intro w hSw; (try dsimp only at hSw); go_simp <;> with_reducible rfl)
      try simp only [Act.put, List.setIfInBounds_toArray, List.set_cons_zero, List.set_cons_succ]
      refine wpAnyH_take (i := 17) (oi := ?_) (v := ?_) ?_ (by kernel_rfl) (by kernel_rfl) (by kernel_rfl) ?_ ?_ (by assumption) ?_
      rotate_left 2
      · (simp only [List.getElem?_toArray, List.getElem?_cons_succ, List.getElem?_cons_zero]; rfl)
      · exact fun _ _ _ h => h
      · (refine Or.inl ⟨by rfl, ?_⟩; intro w hSw; (try dsimp only at hSw); go_simp <;> with_reducible rfl)
      try simp only [Act.put, List.setIfInBounds_toArray, List.set_cons_zero, List.set_cons_succ]
      refine wpAnyH_take (i := 18) (oi := ?_) (v := ?_) ?_ (by kernel_rfl) (by kernel_rfl) (by kernel_rfl) ?_ ?_ (by assumption) ?_
      rotate_left 2
      · (simp only [List.getElem?_toArray, List.getElem?_cons_succ, List.getElem?_cons_zero]; rfl)
      · exact fun _ _ _ h => h
      · (refine Or.inl ⟨by rfl, ?_⟩; intro w hSw; (try dsimp only at hSw); go_simp <;> with_reducible rfl)
      try simp only [Act.put, List.setIfInBounds_toArray, List.set_cons_zero, List.set_cons_succ]
      refine wpAnyH_ready (rs := [13, 19]) (by kernel_rfl) (by simp) ?_
      refine AllReadyH.cons (o := ?_) ?_ (fun K hK => ?_) ?_
      rotate_left 1
      · (simp only [List.getElem?_toArray, List.getElem?_cons_succ, List.getElem?_cons_zero]; rfl)
      · go_simp
        skip
        refine hK.out _ _ trivial (fun hHeld => ?_)
        clear hK K
        try simp only [Act.put, List.setIfInBounds_toArray, List.set_cons_zero, List.set_cons_succ]
        refine wpAnyH_ready (rs := [19]) (by kernel_rfl) (by simp) ?_
        refine AllReadyH.cons (o := ?_) ?_ (fun K hK => ?_) AllReadyH.nil
        rotate_left 1
        · (simp only [List.getElem?_toArray, List.getElem?_cons_succ, List.getElem?_cons_zero]; rfl)
        go_simp
        refine hK.out _ _ trivial (fun hHeld => ?_)
        clear hK K
        try simp only [Act.put, List.setIfInBounds_toArray, List.set_cons_zero, List.set_cons_succ]
        refine wpAnyH_take (i := 20) (oi := ?_) (v := ?_) ?_ (by kernel_rfl) (by kernel_rfl) (by kernel_rfl) ?_ ?_ (by assumption) ?_
        rotate_left 2
        · (simp only [List.getElem?_toArray, List.getElem?_cons_succ, List.getElem?_cons_zero]; rfl)
        · exact fun _ _ _ h => h
        · (refine Or.inl ⟨by rfl, ?_⟩; intro w hSw; (try dsimp only at hSw); go_simp <;> with_reducible rfl)
        try simp only [Act.put, List.setIfInBounds_toArray, List.set_cons_zero, List.set_cons_succ]
        refine wpAnyH_ready (rs := [21]) (by kernel_rfl) (by simp) ?_
        refine AllReadyH.cons (o := ?_) ?_ (fun K hK => ?_) AllReadyH.nil
        rotate_left 1
        · (simp only [List.getElem?_toArray, List.getElem?_cons_succ, List.getElem?_cons_zero]; rfl)
        go_simp
        refine hK.out _ _ trivial (fun hHeld => ?_)
        clear hK K
        try simp only [Act.put]
        refine wpAnyH_take (i := 22) (oi := ?_) (v := ?_) ?_ (by kernel_rfl) (by kernel_rfl) (by kernel_rfl) ?_ ?_ (by assumption) ?_
        rotate_left 2
        · (simp only [List.getElem?_toArray, List.getElem?_cons_succ, List.getElem?_cons_zero]; rfl)
        · exact fun _ _ _ h => h
        · (refine Or.inl ⟨by rfl, ?_⟩; intro w hSw; (try dsimp only at hSw); go_simp <;> with_reducible rfl)
        try simp only [Act.put, List.setIfInBounds_toArray, List.set_cons_zero, List.set_cons_succ]
        refine wpAnyH_ready (rs := [23]) (by kernel_rfl) (by simp) ?_
        refine AllReadyH.cons (o := ?_) ?_ (fun K hK => ?_) AllReadyH.nil
        rotate_left 1
        · (simp only [List.getElem?_toArray, List.getElem?_cons_succ, List.getElem?_cons_zero]; rfl)
        go_simp
        refine hK.out _ _ trivial (fun hHeld => ?_)
        clear hK K
        try simp only [Act.put]
        refine wpAnyH_done (by kernel_rfl) (NoPanic.normal ?_) _
        go_wp2_with fail
        go_roundg (m - (k + 1))
        case measure => omega
        case rel => exact ⟨k + 1, by omega, rfl, by go_num, OS.out, KS.out⟩
      refine AllReadyH.cons (o := ?_) ?_ (fun K hK => ?_) ?_
      rotate_left 1
      · (simp only [List.getElem?_toArray, List.getElem?_cons_succ, List.getElem?_cons_zero]; rfl)
      · go_simp
        skip
        refine hK.out _ _ trivial (fun hHeld => ?_)
        clear hK K
        try simp only [Act.put, List.setIfInBounds_toArray, List.set_cons_zero, List.set_cons_succ]
        refine wpAnyH_ready (rs := [13]) (by kernel_rfl) (by simp) ?_
        refine AllReadyH.cons (o := ?_) ?_ (fun K hK => ?_) AllReadyH.nil
        rotate_left 1
        · (simp only [List.getElem?_toArray, List.getElem?_cons_succ, List.getElem?_cons_zero]; rfl)
        go_simp
        refine hK.out _ _ trivial (fun hHeld => ?_)
        clear hK K
        try simp only [Act.put, List.setIfInBounds_toArray, List.set_cons_zero, List.set_cons_succ]
        refine wpAnyH_take (i := 20) (oi := ?_) (v := ?_) ?_ (by kernel_rfl) (by kernel_rfl) (by kernel_rfl) ?_ ?_ (by assumption) ?_
        rotate_left 2
        · (simp only [List.getElem?_toArray, List.getElem?_cons_succ, List.getElem?_cons_zero]; rfl)
        · exact fun _ _ _ h => h
        · (refine Or.inl ⟨by rfl, ?_⟩; intro w hSw; (try dsimp only at hSw); go_simp <;> with_reducible rfl)
        try simp only [Act.put, List.setIfInBounds_toArray, List.set_cons_zero, List.set_cons_succ]
        refine wpAnyH_ready (rs := [21]) (by kernel_rfl) (by simp) ?_
        refine AllReadyH.cons (o := ?_) ?_ (fun K hK => ?_) AllReadyH.nil
        rotate_left 1
        · (simp only [List.getElem?_toArray, List.getElem?_cons_succ, List.getElem?_cons_zero]; rfl)
        go_simp
        refine hK.out _ _ trivial (fun hHeld => ?_)
        clear hK K
        try simp only [Act.put]
        refine wpAnyH_take (i := 22) (oi := ?_) (v := ?_) ?_ (by kernel_rfl) (by kernel_rfl) (by kernel_rfl) ?_ ?_ (by assumption) ?_
        rotate_left 2
        · (simp only [List.getElem?_toArray, List.getElem?_cons_succ, List.getElem?_cons_zero]; rfl)
        · exact fun _ _ _ h => h
        · (refine Or.inl ⟨by rfl, ?_⟩; intro w hSw; (try dsimp only at hSw); go_simp <;> with_reducible rfl)
        try simp only [Act.put, List.setIfInBounds_toArray, List.set_cons_zero, List.set_cons_succ]
        refine wpAnyH_ready (rs := [23]) (by kernel_rfl) (by simp) ?_
        refine AllReadyH.cons (o := ?_) ?_ (fun K hK => ?_) AllReadyH.nil
        rotate_left 1
        · (simp only [List.getElem?_toArray, List.getElem?_cons_succ, List.getElem?_cons_zero]; rfl)
        go_simp
        refine hK.out _ _ trivial (fun hHeld => ?_)
        clear hK K
        try simp only [Act.put]
        refine wpAnyH_done (by kernel_rfl) (NoPanic.normal ?_) _
        go_wp2_with fail
        go_roundg (m - (k + 1))
        case measure => omega
        case rel => exact ⟨k + 1, by omega, rfl, by go_num, OS.out, KS.out⟩
      exact AllReadyH.nil
    · obtain rfl : k = m := by omega
      go_wp2_with fail
      refine bodyPost_end (v := .tuple #[]) (by simp [results, go_sem]) rfl ⟨rfl, ?_, HK.out⟩
      have := HOl.out
      rwa [List.take_of_length_le (by rw [HY.out]; exact Nat.le_refl _), List.drop_eq_nil_of_le (by rw [HX.out]; exact Nat.le_refl _), List.take_of_length_le (by rw [HX.out]; exact Nat.le_refl _), List.drop_eq_nil_of_le (by rw [HY.out]; exact Nat.le_refl _), List.nil_append, List.nil_append] at this
set_option maxHeartbeats 2000000 in
set_option maxRecDepth 10000 in
theorem sort_rotate {g n c base a m b : Nat} {cv : Value} {P U V S l : List UInt8} {w : World} (ho : OwnB w base (some ⟨g, 0, none⟩) n c l) (hn : n ≤ 100000) (hl : l = P ++ (U ++ (V ++ S))) (ha : P.length = a) (hU : a + U.length = m) (hV : m + V.length = b) (h1 : a < m) (h2 : m < b)
    {ai mi bi : Int} (hai : ai = (a : Int)) (hmi : mi = (m : Int)) (hbi : bi = (b : Int)) :
    Calls Try.prog 49 #[.slice (some ⟨g, 0, none⟩) n c, .int .i64 ai, .int .i64 mi, .int .i64 bi, cv] w fun e w' =>
      e = .returned (.tuple #[]) ∧ OwnB w' base (some ⟨g, 0, none⟩) n c (P ++ (V ++ (U ++ S))) ∧ Keeps (fun k => k = g) w w' := by
  subst hai hbi hmi
  have hlen := ho.len
  have hbn : b ≤ n := by rw [← hlen, hl]; simp only [List.length_append]; omega
  have HO : Hid (OwnB w base (some ⟨g, 0, none⟩) n c (P ++ (U ++ (V ++ S)))) := by show OwnB _ _ _ _ _ _; rw [← hl]; exact ho
  obtain ⟨T, hT⟩ : ∃ T, T = P ++ (V ++ (U ++ S)) := ⟨_, rfl⟩
  have HT := hide hT
  rw [← hT]
  have HP : Hid (P.length + U.length = m ∧ U.length = m - a ∧ V.length = b - m) := ⟨by omega, by omega, by omega⟩
  clear ho hl hT ha hU hV hlen
  go_enter Try.func49, Try.ntmps49
  go_upto_block 0 with fail
  obtain ⟨i0, hi0⟩ : ∃ i0 : Nat, i0 = m - a := ⟨_, rfl⟩
  obtain ⟨j0, hj0⟩ : ∃ j0 : Nat, j0 = b - m := ⟨_, rfl⟩
  rw [show ((m : Int) - (a : Int)) = (i0 : Int) from by omega, show ((b : Int) - (m : Int)) = (j0 : Int) from by omega]
  have ST : Hid (0 < i0 ∧ 0 < j0 ∧ P.length + i0 = m ∧ U.length = i0 ∧ V.length = j0) := ⟨by omega, by omega, by have := HP.out; omega, by have := HP.out; omega, by have := HP.out; omega⟩
  clear hi0 hj0 HP
  go_wp2_with fail
  go_loopg [10, 11] (i0 + j0) (fun gg s10 s11 wr => ∃ (i j : Nat) (P U V S : List UInt8), gg = i + j ∧ s10 = .int .i64 i ∧ s11 = .int .i64 j ∧ Hid (0 < i ∧ 0 < j ∧ P.length + i = m ∧ U.length = i ∧ V.length = j) ∧ Hid (OwnB wr base (some ⟨g, 0, none⟩) n c (P ++ (U ++ (V ++ S)))) ∧ Hid (P ++ (V ++ (U ++ S)) = T) ∧ Hid (Keeps (fun k => k = g) w wr))
  case atStart => exact ⟨i0, j0, P, U, V, S, rfl, rfl, rfl, ST, HO, HT.out.symm, Keeps.refl _ _⟩
  case round =>
    clear ST HO HT
    obtain ⟨i, j, P, U, V, S, rfl, rfl, rfl, HL, HOl, HT, HK⟩ := hrel
    have hpi : 0 < i := HL.out.1
    have hpj : 0 < j := HL.out.2.1
    have him : i ≤ m := by have := HL.out.2.2.1; omega
    have hmj : m + j ≤ n := by
      have h1 := HOl.out.len
      have h2 := HL.out
      simp only [List.length_append] at h1
      omega
    by_cases hij : i = j
    · subst hij
      have hX := HL.out
      go_wp2_with fail
      refine Calls.mono (sort_swapRange (a := m - i) (b := m) (m := i) (P := P) (X := U) (M := []) (Y := V) (S := S) HOl.out hn rfl (by have := HL.out; omega) HL.out.2.2.2.1 HL.out.2.2.2.2 (by simp; omega) (by omega) rfl rfl) ?_
      rintro e w2 ⟨rfl, ho2, hk2⟩
      have O2 := hide ho2
      have K2 := hide (HK.out.trans hk2 fun _ _ h => h)
      clear ho2 hk2 hX
      go_wp2_with fail
      refine bodyPost_end (v := .tuple #[]) (by simp [results, go_sem]) rfl ⟨rfl, ?_, K2.out⟩
      rw [← HT.out]
      exact O2.out
    · have d1 : ((i : Int) != (j : Int)) = true := by simp; omega
      by_cases hlt : j < i
      · have d2 : decide ((j : Int) < (i : Int)) = true := decide_eq_true (by omega)
        have hsp : U = U.take j ++ U.drop j := (List.take_append_drop j U).symm
        have htl : (U.take j).length = j := by rw [List.length_take]; have := HL.out; omega
        have hdl : (U.drop j).length = i - j := by rw [List.length_drop]; have := HL.out; omega
        obtain ⟨U1, hU1⟩ : ∃ x, x = U.take j := ⟨_, rfl⟩
        obtain ⟨U2, hU2⟩ : ∃ x, x = U.drop j := ⟨_, rfl⟩
        rw [← hU1] at hsp htl
        rw [← hU2] at hsp hdl
        have HSP := hide hsp
        have HTL := hide htl
        have HDL := hide hdl
        clear hsp htl hdl hU1 hU2
        go_wp2_with fail
        refine Calls.mono (sort_swapRange (a := m - i) (b := m) (m := j) (P := P) (X := U1) (M := U2) (Y := V) (S := S) HOl.out hn (by rw [HSP.out]; simp) (by have := HL.out; omega) HTL.out HL.out.2.2.2.2 (by rw [HDL.out]; omega) (by omega) rfl rfl) ?_
        rintro e w2 ⟨rfl, ho2, hk2⟩
        have O2 : Hid (OwnB w2 base (some ⟨g, 0, none⟩) n c ((P ++ V) ++ (U2 ++ (U1 ++ S)))) := by show OwnB _ _ _ _ _ _; simpa using ho2
        have K2 := hide (HK.out.trans hk2 fun _ _ h => h)
        have HT2 : Hid ((P ++ V) ++ (U1 ++ (U2 ++ S)) = T) := by show _ = _; rw [← HT.out, HSP.out]; simp
        have HL2 : Hid (0 < i - j ∧ 0 < j ∧ (P ++ V).length + (i - j) = m ∧ U2.length = i - j ∧ U1.length = j) := ⟨by omega, hpj, by have := HL.out; rw [List.length_append]; omega, HDL.out, HTL.out⟩
        have e1 : Hid ((i : Int) - (j : Int) = ((i - j : Nat) : Int)) := by show _ = _; omega
        clear ho2 hk2
        go_wp2_with fail
        go_roundg ((i - j) + j)
        case measure => omega
        case rel => exact ⟨i - j, j, _, _, _, _, rfl, by rw [e1.out], rfl, HL2, O2, HT2, K2⟩
      · have d2 : decide ((j : Int) < (i : Int)) = false := decide_eq_false (by omega)
        have hsp : V = V.take (j - i) ++ V.drop (j - i) := (List.take_append_drop (j - i) V).symm
        have htl : (V.take (j - i)).length = j - i := by rw [List.length_take]; have := HL.out; omega
        have hdl : (V.drop (j - i)).length = i := by rw [List.length_drop]; have := HL.out; omega
        obtain ⟨V1, hV1⟩ : ∃ x, x = V.take (j - i) := ⟨_, rfl⟩
        obtain ⟨V2, hV2⟩ : ∃ x, x = V.drop (j - i) := ⟨_, rfl⟩
        rw [← hV1] at hsp htl
        rw [← hV2] at hsp hdl
        have HSP := hide hsp
        have HTL := hide htl
        have HDL := hide hdl
        clear hsp htl hdl hV1 hV2
        go_wp2_with fail
        refine Calls.mono (sort_swapRange (a := m - i) (b := m + j - i) (m := i) (P := P) (X := U) (M := V1) (Y := V2) (S := S) HOl.out hn (by rw [HSP.out]; simp) (by have := HL.out; omega) HL.out.2.2.2.1 HDL.out (by rw [HTL.out]; omega) (by omega) (by omega) rfl) ?_
        rintro e w2 ⟨rfl, ho2, hk2⟩
        have O2 : Hid (OwnB w2 base (some ⟨g, 0, none⟩) n c (P ++ (V2 ++ (V1 ++ (U ++ S))))) := by show OwnB _ _ _ _ _ _; simpa using ho2
        have K2 := hide (HK.out.trans hk2 fun _ _ h => h)
        have HT2 : Hid (P ++ (V1 ++ (V2 ++ (U ++ S))) = T) := by show _ = _; rw [← HT.out, HSP.out]; simp
        have HL2 : Hid (0 < i ∧ 0 < j - i ∧ P.length + i = m ∧ V2.length = i ∧ V1.length = j - i) := ⟨hpi, by omega, HL.out.2.2.1, HDL.out, HTL.out⟩
        have e1 : Hid ((j : Int) - (i : Int) = ((j - i : Nat) : Int)) := by show _ = _; omega
        clear ho2 hk2
        go_wp2_with fail
        go_roundg (i + (j - i))
        case measure => omega
        case rel => exact ⟨i, j - i, _, _, _, _, rfl, rfl, by rw [e1.out], HL2, O2, HT2, K2⟩
end Go.Proofs.Ytciogjnchpeaaaa
