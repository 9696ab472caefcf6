/-
  queue.New.
-/
import Derived.Test.YtciogjnchpeaaaaQW
namespace Go.Proofs.Ytciogjnchpeaaaa
open Go.RowKit
set_option maxRecDepth 10000
set_option linter.unusedVariables false
theorem QAt.add {B : Nat} {w w2 w4 : World} {q c c' : Nat} {A A' : Option Addr} {xs : List (Nat × Option Nat)} {ls : List (List UInt8)} {p : Nat} {g : Option Nat} {l : List UInt8} {o : Obj} (h : QAt B w q A c xs ls) (hB : B ≤ w.heap.size)
    (hb : Below w.heap.size w w2) (hl : LineAt w2 p g l) (hp : w.heap.size ≤ p) (hg : ∀ k, some k = g → w.heap.size ≤ k) (hr : OwnV 50 w4 B A' (xs.length + 1) c' (xs.map lptr ++ [lptr (p, g)])) (hk : Keeps (Mine A xs.length c) (w2.alloc o) w4) :
    QAt B (w4.setCell ⟨q, 0, none⟩ (.slice A' (xs.length + 1) c')) q A' c' (xs ++ [(p, g)]) (ls ++ [l]) := by
  have h3 := (h.below hb).below (Below_new w2 o)
  have l3 := hl.below (Below_new w2 o)
  have head4 := h3.head.keeps hk (h3.row.ne_blk h3.head (by decide))
  have line4 : ∀ (i : Nat) (hi : i < xs.length), LineAt w4 xs[i].1 xs[i].2 (ls.getD i []) := fun i hi => (h3.line i hi).keeps hk fun k hk' => (h3.line i hi).ne_row hk' h3.row (by decide) (by decide)
  have l4 : LineAt w4 p g l := l3.keeps hk fun k hk' => l3.ne_row hk' h3.row (by decide) (by decide)
  have kc := Keeps.setCell w4 ⟨q, 0, none⟩ (.slice A' (xs.length + 1) c')
  have en : (xs ++ [(p, g)]).length = xs.length + 1 := by simp
  have key : ∀ (i : Nat) (hi : i < (xs ++ [(p, g)]).length), (i < xs.length ∧ ∃ h : i < xs.length, (xs ++ [(p, g)])[i] = xs[i]) ∨ (i = xs.length ∧ (xs ++ [(p, g)])[i] = (p, g)) := by
    intro i hi
    by_cases e : i < xs.length
    · exact .inl ⟨e, e, List.getElem_append_left e⟩
    · have : i = xs.length := by omega
      subst this
      exact .inr ⟨rfl, by simp⟩
  refine ⟨?_, h.base, ?_, by rw [List.length_append, h.len, en]; rfl, ?_, ?_, ?_⟩
  · rw [en]
    exact head4.set_ 0 _
  · rw [en, List.map_append]
    exact hr.keeps kc fun k e hs => by
      have hs : k = q := hs
      subst hs
      exact hr.ne_blk head4 (by decide) e
  · intro i hi
    rcases key i hi with ⟨e, e', e2⟩ | ⟨e, e2⟩
    · rw [e2]
      have : (ls ++ [l]).getD i [] = ls.getD i [] := by rw [List.getD_eq_getElem?_getD, List.getElem?_append_left (by rw [h.len]; exact e), ← List.getD_eq_getElem?_getD]
      rw [this]
      exact (line4 i e).keeps kc fun k hk' hs => (line4 i e).ne_blk hk' head4 (by decide) (by decide) hs
    · rw [e2]
      have : (ls ++ [l]).getD i [] = l := by rw [List.getD_eq_getElem?_getD, List.getElem?_append_right (by rw [h.len, e]; exact Nat.le_refl _), h.len, e, Nat.sub_self]; rfl
      rw [this]
      exact l4.keeps kc fun k hk' hs => l4.ne_blk hk' head4 (by decide) (by decide) hs
  · intro i hi
    rcases key i hi with ⟨e, e', e2⟩ | ⟨e, e2⟩
    · rw [e2]; exact h.lbase i e
    · rw [e2]; exact ⟨by show B ≤ p; omega, fun k hk' => by have := hg k hk'.symm; omega⟩
  · intro i j hi hj hij
    rcases key i hi with ⟨e, e', e2⟩ | ⟨e, e2⟩
    · rcases key j hj with ⟨f, f', f2⟩ | ⟨f, f2⟩
      · rw [e2, f2]; exact h.apart i j e f hij
      · rw [e2, f2]
        have hlt := (h.line i e).lt
        refine ⟨by show xs[i].1 ≠ p; omega, fun k h1 h2 => ?_⟩
        have := hlt.2 k h1.symm
        have := hg k (h2 : g = some k).symm
        omega
    · rcases key j hj with ⟨f, f', f2⟩ | ⟨f, f2⟩
      · rw [e2, f2]
        have hlt := (h.line j f).lt
        refine ⟨by show p ≠ xs[j].1; omega, fun k h1 h2 => ?_⟩
        have := hlt.2 k h2.symm
        have := hg k (h1 : g = some k).symm
        omega
      · omega
/-- append to a row of the call's own, inside a region that draws. -/
theorem step_appendV {t e : TypeId} {z : Value} {nb : Nat} (E : Elem t e z nb) {ops : Array Oper} {o : Oper} {a : Act} {w : World} {K : Act → World → Prop} {Q : Exit → Act → World → Prop} {F : Prop} (hg : o.guard = none) (s x : Operand)
    (ho : o.op = .call { callee := .builtin .append, args := #[s, x], argTypes := #[t, t] })
    (base : Nat) (A : Option Addr) (n c : Nat) (l : List Value) (hs : a.eval s = .slice A n c) (hown : OwnV e w base A n c l)
    (B : Nat) (A2 : Option Addr) (m c2 : Nat) (l2 : List Value) (hx : a.eval x = .slice A2 m c2) (hm : l2.length = m) (hr : Lies w B A2 l2) (h1 : ∀ u ∈ l2, u.oneCell' = true) (hpos : 0 < m) (k : Nat) (l3 : List Value) (hk : n + m = k) (hl3 : l ++ l2 = l3) (hsum : k ≤ 281474976710656) (hbytes : k * nb ≤ 140737488355328) (hbase : base ≤ w.heap.size)
    (h : ∀ A' c' w', OwnV e w' base A' k c' l3 → Keeps (Mine A n c) w w' →
      ((Value.slice A' k c').ownBlock = (Value.slice A n c).ownBlock ∨ (Value.slice A' k c').ownBlock = some w.heap.size) → K (a.put o.dst (.slice A' k c')) w') :
    if Region.wanted o (yielded ops a.tmps) = true then Oper.wp Try.prog o a w K Q else F := by
  have hw : Region.wanted o (yielded ops a.tmps) = true := by simp [Region.wanted, hg]
  rw [if_pos hw]
  subst hk hl3
  obtain ⟨A', c', w', hrun, h2, h3, h4⟩ := run_appendV E w base o.type A n c l hown B A2 m c2 l2 hm hr h1 hsum hbytes hbase hpos
  unfold Oper.wp execOp
  simp only [ho, resolve, invoke, builtin, Sem.run_bind, Sem.run_pure, Result.andThen_ok, List.map_toArray, List.map_cons, List.map_nil, hs, hx, hrun]
  exact h A' c' w' h2 (Keeps.grown h3) h4
theorem QAt.new (w : World) : QAt w.heap.size (w.alloc (.cells #[.slice none 0 0] 58)) w.heap.size none 0 [] [] :=
  ⟨Blk.new _ _ _, Nat.le_refl _, OwnV.nil _ _ _, rfl, fun i h => by simp at h, fun i h => by simp at h, fun i j h => by simp at h⟩
set_option maxHeartbeats 1000000 in
set_option maxRecDepth 10000 in
theorem queue_New (n delay : Int) (m d : Nat) (w : World) (hm : min (max n 2) 8 = (m : Int)) (hd : (min (max delay 0) 8).toNat = d) :
    Calls Try.prog 10 #[.int .i64 n, .int .i64 delay] w fun e w' =>
      ∃ q A c xs, e = .returned (.pointer (some ⟨q, 0, none⟩)) ∧ xs.length = m ∧ QAt w.heap.size w' q A c xs (List.replicate m (List.replicate d 0)) ∧ Below w.heap.size w w' := by
  have hm8 : m ≤ 8 := by omega
  have Hd := hide hd
  clear hd
  go_enter Try.func10, Try.ntmps10
  go_wp2
  go_loopg [11] m (fun gg i wr => ∃ (k : Nat) (A : Option Addr) (c : Nat) (xs : List (Nat × Option Nat)), k ≤ m ∧ gg = m - k ∧ i = .int .i64 k ∧ xs.length = k ∧ QAt w.heap.size wr w.heap.size A c xs (List.replicate k (List.replicate d 0)) ∧ Below w.heap.size w wr)
  case atStart => exact ⟨0, none, 0, [], by omega, rfl, rfl, rfl, QAt.new w, Below_new _ _⟩
  case round =>
    obtain ⟨k, A, c, xs, hk, rfl, rfl, hx, hq, hb⟩ := hrel
    have HQ := hide hq
    have HB := hide hb
    have HX := hide hx
    have hsz := hb.size
    have hc := hq.cell
    rw [hx] at hc
    clear hq hb hx
    by_cases hlt : k < m
    · go_wp2_with fail
      refine wp_region_noPanic ?_
      refine wp_region_held_drew (S := (fun _ => True)) (by kernel_rfl) trivial (fun hHeld => ?_)
      refine wpAnyH_take (i := 0) (oi := ?_) (v := ?_) ?_ (by kernel_rfl) (by kernel_rfl) (by kernel_rfl) ?_ ?_ (by assumption) ?_
      rotate_left 2
      · (simp only [List.getElem?_toArray, List.getElem?_cons_zero]; rfl)
      · exact fun _ _ _ h => h
      · (refine Or.inl ⟨by rfl, ?_⟩; intro w hSw; (try dsimp only at hSw); go_simp <;> with_reducible rfl)
      try simp only [Act.put, List.setIfInBounds_toArray, List.set_cons_zero, List.set_cons_succ]
      refine wpAnyH_take (i := 1) (oi := ?_) (v := ?_) ?_ (by kernel_rfl) (by kernel_rfl) (by kernel_rfl) ?_ ?_ (by assumption) ?_
      rotate_left 2
      · (simp only [List.getElem?_toArray, List.getElem?_cons_succ, List.getElem?_cons_zero]; rfl)
      · exact fun _ _ _ h => h
      · (refine Or.inl ⟨by rfl, ?_⟩; intro w hSw; (try dsimp only at hSw); go_simp <;> with_reducible rfl)
      try simp only [Act.put, List.setIfInBounds_toArray, List.set_cons_zero, List.set_cons_succ]
      refine wpAnyH_take (i := 2) (oi := ?_) (v := ?_) ?_ (by kernel_rfl) (by kernel_rfl) (by kernel_rfl) ?_ ?_ (by assumption) ?_
      rotate_left 2
      · (simp only [List.getElem?_toArray, List.getElem?_cons_succ, List.getElem?_cons_zero]; rfl)
      · exact fun _ _ _ h => h
      · (refine Or.inl ⟨by rfl, ?_⟩; intro w hSw; (try dsimp only at hSw); go_simp <;> with_reducible rfl)
      try simp only [Act.put, List.setIfInBounds_toArray, List.set_cons_zero, List.set_cons_succ]
      refine wpAnyH_take (i := 3) (oi := ?_) (v := ?_) ?_ (by kernel_rfl) (by kernel_rfl) (by kernel_rfl) ?_ ?_ (by assumption) ?_
      rotate_left 2
      · (simp only [List.getElem?_toArray, List.getElem?_cons_succ, List.getElem?_cons_zero]; rfl)
      · exact fun _ _ _ h => h
      · (refine Or.inl ⟨by rfl, ?_⟩; intro w hSw; (try dsimp only at hSw); go_simp <;> with_reducible rfl)
      try simp only [Act.put, List.setIfInBounds_toArray, List.set_cons_zero, List.set_cons_succ]
      refine wpAnyH_take (i := 5) (oi := ?_) (v := ?_) ?_ (by kernel_rfl) (by kernel_rfl) (by kernel_rfl) ?_ ?_ (by assumption) ?_
      rotate_left 2
      · (simp only [List.getElem?_toArray, List.getElem?_cons_succ, List.getElem?_cons_zero]; rfl)
      · exact fun _ _ _ h => h
      · (refine Or.inl ⟨by rfl, ?_⟩; intro w hSw; (try dsimp only at hSw); go_simp <;> with_reducible rfl)
      try simp only [Act.put, List.setIfInBounds_toArray, List.set_cons_zero, List.set_cons_succ]
      refine wpAnyH_ready (rs := [4, 6]) (by kernel_rfl) (by simp) ?_
      refine AllReadyH.cons (o := ?_) ?_ (fun K hK => ?_) ?_
      rotate_left 1
      · (simp only [List.getElem?_toArray, List.getElem?_cons_succ, List.getElem?_cons_zero]; rfl)
      · go_simp
        skip
        refine hK.out _ _ trivial (fun hHeld => ?_)
        clear hK K
        try simp only [Act.put, List.setIfInBounds_toArray, List.set_cons_zero, List.set_cons_succ]
        refine wpAnyH_ready (rs := [6]) (by kernel_rfl) (by simp) ?_
        refine AllReadyH.cons (o := ?_) ?_ (fun K hK => ?_) AllReadyH.nil
        rotate_left 1
        · (simp only [List.getElem?_toArray, List.getElem?_cons_succ, List.getElem?_cons_zero]; rfl)
        go_simp
        refine Calls.mono (input_New_v delay d _ Hd.out) ?_
        rintro e w4 ⟨p, g, rfl, h1, h2, h3, h4⟩
        have h2' : Below wr.heap.size wr w4 := Below_step ((Below.refl _ _).drew) h2
        have Q4 := HQ.out.below h2'
        have hc4 := Q4.cell
        rw [HX.out] at hc4
        refine hK.out _ _ trivial (fun hHeld => ?_)
        clear hK K
        try simp only [Act.put, List.setIfInBounds_toArray, List.set_cons_zero, List.set_cons_succ]
        have hc7 := (Q4.below (Below_new w4 (.cells #[.pointer (some ⟨p, 0, none⟩)] 50))).cell
        rw [HX.out] at hc7
        refine wpAnyH_ready (rs := [7]) (by kernel_rfl) (by simp) ?_
        refine AllReadyH.cons (o := ?_) ?_ (fun K hK => ?_) AllReadyH.nil
        rotate_left 1
        · (simp only [List.getElem?_toArray, List.getElem?_cons_succ, List.getElem?_cons_zero]; rfl)
        go_simp
        refine hK.out _ _ trivial (fun hHeld => ?_)
        clear hK K
        try simp only [Act.put, List.setIfInBounds_toArray, List.set_cons_zero, List.set_cons_succ]
        refine wpAnyH_ready (rs := [8]) (by kernel_rfl) (by simp) ?_
        refine AllReadyH.cons (o := ?_) ?_ (fun K hK => ?_) AllReadyH.nil
        rotate_left 1
        · (simp only [List.getElem?_toArray, List.getElem?_cons_succ, List.getElem?_cons_zero]; rfl)
        refine step_appendV elem_line rfl (.tmp 17) (.tmp 20) rfl w.heap.size A k c (xs.map lptr) rfl (by have q := Q4.row.below (Below_new w4 (.cells #[.pointer (some ⟨p, 0, none⟩)] 50)); rw [HX.out] at q; exact q) _ _ 1 1 [lptr (p, g)] rfl rfl (Lies.new _ _ _ _) (by simp [Value.oneCell', lptr]) (by omega) (k + 1) _ rfl rfl (by omega) (by omega) (by have := h2'.size; simp; omega) ?_
        intro A5 c5 w5 own5 k5 hk5
        have head5 := (Q4.below (Below_new w4 (.cells #[.pointer (some ⟨p, 0, none⟩)] 50)))
        have head5 := head5.head.keeps k5 (by have q := head5.row.ne_blk head5.head (by decide); rw [HX.out] at q; exact q)
        have hc5 := head5.cell 0
        have hf5 := head5.frozen 0
        simp only [List.getElem?_toArray, List.getElem?_cons_zero] at hc5
        rw [HX.out] at hc5
        refine hK.out _ _ trivial (fun hHeld => ?_)
        clear hK K
        try simp only [Act.put, List.setIfInBounds_toArray, List.set_cons_zero, List.set_cons_succ]
        refine wpAnyH_take (i := 9) (oi := ?_) (v := ?_) ?_ (by kernel_rfl) (by kernel_rfl) (by kernel_rfl) ?_ ?_ (by assumption) ?_
        rotate_left 2
        · (simp only [List.getElem?_toArray, List.getElem?_cons_succ, List.getElem?_cons_zero]; rfl)
        · exact fun _ _ _ h => h
        · (refine Or.inl ⟨by rfl, ?_⟩; intro w hSw; (try dsimp only at hSw); go_simp <;> with_reducible rfl)
        try simp only [Act.put, List.setIfInBounds_toArray, List.set_cons_zero, List.set_cons_succ]
        refine wpAnyH_take (i := 10) (oi := ?_) (v := ?_) ?_ (by kernel_rfl) (by kernel_rfl) (by kernel_rfl) ?_ ?_ (by assumption) ?_
        rotate_left 2
        · (simp only [List.getElem?_toArray, List.getElem?_cons_succ, List.getElem?_cons_zero]; rfl)
        · exact fun _ _ _ h => h
        · (refine Or.inl ⟨by rfl, ?_⟩; intro w hSw; (try dsimp only at hSw); go_simp <;> with_reducible rfl)
        try simp only [Act.put, List.setIfInBounds_toArray, List.set_cons_zero, List.set_cons_succ]
        refine wpAnyH_ready (rs := [11]) (by kernel_rfl) (by simp) ?_
        refine AllReadyH.cons (o := ?_) ?_ (fun K hK => ?_) AllReadyH.nil
        rotate_left 1
        · (simp only [List.getElem?_toArray, List.getElem?_cons_succ, List.getElem?_cons_zero]; rfl)
        go_simp
        refine hK.out _ _ trivial (fun hHeld => ?_)
        clear hK K
        try simp only [Act.put]
        refine wpAnyH_done (by kernel_rfl) (NoPanic.normal ?_) _
        have NQ := HQ.out.add hsz h2' h1 h3 h4 (by rw [HX.out]; exact own5) (by rw [HX.out]; exact k5)
        rw [HX.out] at NQ
        have hsz4 := h2'.size
        have NB := ((HB.out.trans (h2'.mono hsz)).trans (((Below_new w4 (.cells #[.pointer (some ⟨p, 0, none⟩)] 50)).mono (by omega)).trans (k5.belowV (e := 50) (l := xs.map lptr) (by have q := HQ.out.row; rw [HX.out] at q; exact q) (by simp; omega)))).setCell (p := ⟨w.heap.size, 0, none⟩) (Nat.le_refl _) (.slice A5 (k + 1) c5)
        have HNQ := hide NQ
        have HNB := hide NB
        clear NQ NB own5 k5 hk5 head5 Q4 h1 h2 h2' h3 h4 hc hc4 hc5 hf5
        go_wp2_with fail
        go_roundg (m - (k + 1))
        case measure => omega
        case rel => exact ⟨k + 1, A5, c5, xs ++ [(p, g)], by omega, rfl, by go_num, by simp; exact HX.out, by rw [List.replicate_succ']; exact HNQ.out, HNB.out⟩
      refine AllReadyH.cons (o := ?_) ?_ (fun K hK => ?_) ?_
      rotate_left 1
      · (simp only [List.getElem?_toArray, List.getElem?_cons_succ, List.getElem?_cons_zero]; rfl)
      · go_simp
        refine Calls.mono (input_New_v delay d _ Hd.out) ?_
        rintro e w4 ⟨p, g, rfl, h1, h2, h3, h4⟩
        have h2' : Below wr.heap.size wr w4 := Below_step ((Below.refl _ _).drew) h2
        have Q4 := HQ.out.below h2'
        have hc4 := Q4.cell
        rw [HX.out] at hc4
        refine hK.out _ _ trivial (fun hHeld => ?_)
        clear hK K
        try simp only [Act.put, List.setIfInBounds_toArray, List.set_cons_zero, List.set_cons_succ]
        have hc7 := (Q4.below (Below_new w4 (.cells #[.pointer (some ⟨p, 0, none⟩)] 50))).cell
        rw [HX.out] at hc7
        refine wpAnyH_ready (rs := [4, 7]) (by kernel_rfl) (by simp) ?_
        refine AllReadyH.cons (o := ?_) ?_ (fun K hK => ?_) ?_
        rotate_left 1
        · (simp only [List.getElem?_toArray, List.getElem?_cons_succ, List.getElem?_cons_zero]; rfl)
        · go_simp
          skip
          refine hK.out _ _ trivial (fun hHeld => ?_)
          clear hK K
          try simp only [Act.put, List.setIfInBounds_toArray, List.set_cons_zero, List.set_cons_succ]
          refine wpAnyH_ready (rs := [7]) (by kernel_rfl) (by simp) ?_
          refine AllReadyH.cons (o := ?_) ?_ (fun K hK => ?_) AllReadyH.nil
          rotate_left 1
          · (simp only [List.getElem?_toArray, List.getElem?_cons_succ, List.getElem?_cons_zero]; rfl)
          go_simp
          refine hK.out _ _ trivial (fun hHeld => ?_)
          clear hK K
          try simp only [Act.put, List.setIfInBounds_toArray, List.set_cons_zero, List.set_cons_succ]
          refine wpAnyH_ready (rs := [8]) (by kernel_rfl) (by simp) ?_
          refine AllReadyH.cons (o := ?_) ?_ (fun K hK => ?_) AllReadyH.nil
          rotate_left 1
          · (simp only [List.getElem?_toArray, List.getElem?_cons_succ, List.getElem?_cons_zero]; rfl)
          refine step_appendV elem_line rfl (.tmp 17) (.tmp 20) rfl w.heap.size A k c (xs.map lptr) rfl (by have q := Q4.row.below (Below_new w4 (.cells #[.pointer (some ⟨p, 0, none⟩)] 50)); rw [HX.out] at q; exact q) _ _ 1 1 [lptr (p, g)] rfl rfl (Lies.new _ _ _ _) (by simp [Value.oneCell', lptr]) (by omega) (k + 1) _ rfl rfl (by omega) (by omega) (by have := h2'.size; simp; omega) ?_
          intro A5 c5 w5 own5 k5 hk5
          have head5 := (Q4.below (Below_new w4 (.cells #[.pointer (some ⟨p, 0, none⟩)] 50)))
          have head5 := head5.head.keeps k5 (by have q := head5.row.ne_blk head5.head (by decide); rw [HX.out] at q; exact q)
          have hc5 := head5.cell 0
          have hf5 := head5.frozen 0
          simp only [List.getElem?_toArray, List.getElem?_cons_zero] at hc5
          rw [HX.out] at hc5
          refine hK.out _ _ trivial (fun hHeld => ?_)
          clear hK K
          try simp only [Act.put, List.setIfInBounds_toArray, List.set_cons_zero, List.set_cons_succ]
          refine wpAnyH_take (i := 9) (oi := ?_) (v := ?_) ?_ (by kernel_rfl) (by kernel_rfl) (by kernel_rfl) ?_ ?_ (by assumption) ?_
          rotate_left 2
          · (simp only [List.getElem?_toArray, List.getElem?_cons_succ, List.getElem?_cons_zero]; rfl)
          · exact fun _ _ _ h => h
          · (refine Or.inl ⟨by rfl, ?_⟩; intro w hSw; (try dsimp only at hSw); go_simp <;> with_reducible rfl)
          try simp only [Act.put, List.setIfInBounds_toArray, List.set_cons_zero, List.set_cons_succ]
          refine wpAnyH_take (i := 10) (oi := ?_) (v := ?_) ?_ (by kernel_rfl) (by kernel_rfl) (by kernel_rfl) ?_ ?_ (by assumption) ?_
          rotate_left 2
          · (simp only [List.getElem?_toArray, List.getElem?_cons_succ, List.getElem?_cons_zero]; rfl)
          · exact fun _ _ _ h => h
          · (refine Or.inl ⟨by rfl, ?_⟩; intro w hSw; (try dsimp only at hSw); go_simp <;> with_reducible rfl)
          try simp only [Act.put, List.setIfInBounds_toArray, List.set_cons_zero, List.set_cons_succ]
          refine wpAnyH_ready (rs := [11]) (by kernel_rfl) (by simp) ?_
          refine AllReadyH.cons (o := ?_) ?_ (fun K hK => ?_) AllReadyH.nil
          rotate_left 1
          · (simp only [List.getElem?_toArray, List.getElem?_cons_succ, List.getElem?_cons_zero]; rfl)
          go_simp
          refine hK.out _ _ trivial (fun hHeld => ?_)
          clear hK K
          try simp only [Act.put]
          refine wpAnyH_done (by kernel_rfl) (NoPanic.normal ?_) _
          have NQ := HQ.out.add hsz h2' h1 h3 h4 (by rw [HX.out]; exact own5) (by rw [HX.out]; exact k5)
          rw [HX.out] at NQ
          have hsz4 := h2'.size
          have NB := ((HB.out.trans (h2'.mono hsz)).trans (((Below_new w4 (.cells #[.pointer (some ⟨p, 0, none⟩)] 50)).mono (by omega)).trans (k5.belowV (e := 50) (l := xs.map lptr) (by have q := HQ.out.row; rw [HX.out] at q; exact q) (by simp; omega)))).setCell (p := ⟨w.heap.size, 0, none⟩) (Nat.le_refl _) (.slice A5 (k + 1) c5)
          have HNQ := hide NQ
          have HNB := hide NB
          clear NQ NB own5 k5 hk5 head5 Q4 h1 h2 h2' h3 h4 hc hc4 hc5 hf5
          go_wp2_with fail
          go_roundg (m - (k + 1))
          case measure => omega
          case rel => exact ⟨k + 1, A5, c5, xs ++ [(p, g)], by omega, rfl, by go_num, by simp; exact HX.out, by rw [List.replicate_succ']; exact HNQ.out, HNB.out⟩
        refine AllReadyH.cons (o := ?_) ?_ (fun K hK => ?_) ?_
        rotate_left 1
        · (simp only [List.getElem?_toArray, List.getElem?_cons_succ, List.getElem?_cons_zero]; rfl)
        · go_simp
          skip
          refine hK.out _ _ trivial (fun hHeld => ?_)
          clear hK K
          try simp only [Act.put, List.setIfInBounds_toArray, List.set_cons_zero, List.set_cons_succ]
          refine wpAnyH_ready (rs := [4]) (by kernel_rfl) (by simp) ?_
          refine AllReadyH.cons (o := ?_) ?_ (fun K hK => ?_) AllReadyH.nil
          rotate_left 1
          · (simp only [List.getElem?_toArray, List.getElem?_cons_succ, List.getElem?_cons_zero]; rfl)
          go_simp
          refine hK.out _ _ trivial (fun hHeld => ?_)
          clear hK K
          try simp only [Act.put, List.setIfInBounds_toArray, List.set_cons_zero, List.set_cons_succ]
          refine wpAnyH_ready (rs := [8]) (by kernel_rfl) (by simp) ?_
          refine AllReadyH.cons (o := ?_) ?_ (fun K hK => ?_) AllReadyH.nil
          rotate_left 1
          · (simp only [List.getElem?_toArray, List.getElem?_cons_succ, List.getElem?_cons_zero]; rfl)
          refine step_appendV elem_line rfl (.tmp 17) (.tmp 20) rfl w.heap.size A k c (xs.map lptr) rfl (by have q := Q4.row.below (Below_new w4 (.cells #[.pointer (some ⟨p, 0, none⟩)] 50)); rw [HX.out] at q; exact q) _ _ 1 1 [lptr (p, g)] rfl rfl (Lies.new _ _ _ _) (by simp [Value.oneCell', lptr]) (by omega) (k + 1) _ rfl rfl (by omega) (by omega) (by have := h2'.size; simp; omega) ?_
          intro A5 c5 w5 own5 k5 hk5
          have head5 := (Q4.below (Below_new w4 (.cells #[.pointer (some ⟨p, 0, none⟩)] 50)))
          have head5 := head5.head.keeps k5 (by have q := head5.row.ne_blk head5.head (by decide); rw [HX.out] at q; exact q)
          have hc5 := head5.cell 0
          have hf5 := head5.frozen 0
          simp only [List.getElem?_toArray, List.getElem?_cons_zero] at hc5
          rw [HX.out] at hc5
          refine hK.out _ _ trivial (fun hHeld => ?_)
          clear hK K
          try simp only [Act.put, List.setIfInBounds_toArray, List.set_cons_zero, List.set_cons_succ]
          refine wpAnyH_take (i := 9) (oi := ?_) (v := ?_) ?_ (by kernel_rfl) (by kernel_rfl) (by kernel_rfl) ?_ ?_ (by assumption) ?_
          rotate_left 2
          · (simp only [List.getElem?_toArray, List.getElem?_cons_succ, List.getElem?_cons_zero]; rfl)
          · exact fun _ _ _ h => h
          · (refine Or.inl ⟨by rfl, ?_⟩; intro w hSw; (try dsimp only at hSw); go_simp <;> with_reducible rfl)
          try simp only [Act.put, List.setIfInBounds_toArray, List.set_cons_zero, List.set_cons_succ]
          refine wpAnyH_take (i := 10) (oi := ?_) (v := ?_) ?_ (by kernel_rfl) (by kernel_rfl) (by kernel_rfl) ?_ ?_ (by assumption) ?_
          rotate_left 2
          · (simp only [List.getElem?_toArray, List.getElem?_cons_succ, List.getElem?_cons_zero]; rfl)
          · exact fun _ _ _ h => h
          · (refine Or.inl ⟨by rfl, ?_⟩; intro w hSw; (try dsimp only at hSw); go_simp <;> with_reducible rfl)
          try simp only [Act.put, List.setIfInBounds_toArray, List.set_cons_zero, List.set_cons_succ]
          refine wpAnyH_ready (rs := [11]) (by kernel_rfl) (by simp) ?_
          refine AllReadyH.cons (o := ?_) ?_ (fun K hK => ?_) AllReadyH.nil
          rotate_left 1
          · (simp only [List.getElem?_toArray, List.getElem?_cons_succ, List.getElem?_cons_zero]; rfl)
          go_simp
          refine hK.out _ _ trivial (fun hHeld => ?_)
          clear hK K
          try simp only [Act.put]
          refine wpAnyH_done (by kernel_rfl) (NoPanic.normal ?_) _
          have NQ := HQ.out.add hsz h2' h1 h3 h4 (by rw [HX.out]; exact own5) (by rw [HX.out]; exact k5)
          rw [HX.out] at NQ
          have hsz4 := h2'.size
          have NB := ((HB.out.trans (h2'.mono hsz)).trans (((Below_new w4 (.cells #[.pointer (some ⟨p, 0, none⟩)] 50)).mono (by omega)).trans (k5.belowV (e := 50) (l := xs.map lptr) (by have q := HQ.out.row; rw [HX.out] at q; exact q) (by simp; omega)))).setCell (p := ⟨w.heap.size, 0, none⟩) (Nat.le_refl _) (.slice A5 (k + 1) c5)
          have HNQ := hide NQ
          have HNB := hide NB
          clear NQ NB own5 k5 hk5 head5 Q4 h1 h2 h2' h3 h4 hc hc4 hc5 hf5
          go_wp2_with fail
          go_roundg (m - (k + 1))
          case measure => omega
          case rel => exact ⟨k + 1, A5, c5, xs ++ [(p, g)], by omega, rfl, by go_num, by simp; exact HX.out, by rw [List.replicate_succ']; exact HNQ.out, HNB.out⟩
        exact AllReadyH.nil
      exact AllReadyH.nil
    · obtain rfl : k = m := by omega
      go_wp2
      go_ret
      exact ⟨w.heap.size, A, c, xs, rfl, HX.out, HQ.out, HB.out⟩
end Go.Proofs.Ytciogjnchpeaaaa
