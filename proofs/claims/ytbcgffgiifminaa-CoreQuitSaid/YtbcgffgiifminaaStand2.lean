/-
  queue.New.
  Arrays: a block that holds one; read and written whole, and cell by cell; results.
  The walks of layer 13: At, From, All, New; bytes.Clone.
  quintainlaw13.begun: three frames.
  A player's core: plain, and in memory.
  Events: made, told, noted.
-/
import Derived.Test.YtbcgffgiifminaaStand1
import Derived.Laws.Tables
import Derived.Laws.CopyOwn
import Derived.Laws.NewBlocks
import Derived.StillTailTactics
import Derived.BigQuiet
import Derived.Deep.QuietTactic
namespace Go.Proofs.Ytbcgffgiifminaa
open Go.RowKit
set_option maxRecDepth 10000
set_option linter.unusedVariables false
theorem QAt.add {B : Nat} {w w2 w4 : World} {q c c' : Nat} {A A' : Option Addr} {xs : List (Nat × Option Nat)} {ls : List (List UInt8)} {p : Nat} {g : Option Nat} {l : List UInt8} {o : Obj} (h : QAt B w q A c xs ls) (hB : B ≤ w.heap.size)
    (hb : Below w.heap.size w w2) (hl : LineAt w2 p g l) (hp : w.heap.size ≤ p) (hg : ∀ k, some k = g → w.heap.size ≤ k) (hr : OwnV 50 w4 B A' (xs.length + 1) c' (xs.map lptr ++ [lptr (p, g)])) (hk : Keeps (Mine A xs.length c) (w2.alloc o) w4) :
    QAt B (w4.setCell ⟨q, 0, none⟩ (.slice A' (xs.length + 1) c')) q A' c' (xs ++ [(p, g)]) (ls ++ [l]) := by
  have h3 := (h.below hb).below (Below_new w2 o)
  have l3 := hl.below (Below_new w2 o)
  have head4 := h3.head.keeps hk (h3.row.ne_blk h3.head (by decide))
  have line4 : ∀ (i : Nat) (hi : i < xs.length), LineAt w4 xs[i].1 xs[i].2 (ls.getD i []) := fun i hi => (h3.line i hi).keeps hk fun k hk' => (h3.line i hi).ne_row hk' h3.row (by decide) (by decide)
  have l4 : LineAt w4 p g l := l3.keeps hk fun k hk' => l3.ne_row hk' h3.row (by decide) (by decide)
  have kc := Keeps.setCell w4 ⟨q, 0, none⟩ (.slice A' (xs.length + 1) c')
  have en : (xs ++ [(p, g)]).length = xs.length + 1 := by simp
  have key : ∀ (i : Nat) (hi : i < (xs ++ [(p, g)]).length), (i < xs.length ∧ ∃ h : i < xs.length, (xs ++ [(p, g)])[i] = xs[i]) ∨ (i = xs.length ∧ (xs ++ [(p, g)])[i] = (p, g)) := by
    intro i hi
    by_cases e : i < xs.length
    · exact .inl ⟨e, e, List.getElem_append_left e⟩
    · have : i = xs.length := by omega
      subst this
      exact .inr ⟨rfl, by simp⟩
  refine ⟨?_, h.base, ?_, by rw [List.length_append, h.len, en]; rfl, ?_, ?_, ?_⟩
  · rw [en]
    exact head4.set_ 0 _
  · rw [en, List.map_append]
    exact hr.keeps kc fun k e hs => by
      have hs : k = q := hs
      subst hs
      exact hr.ne_blk head4 (by decide) e
  · intro i hi
    rcases key i hi with ⟨e, e', e2⟩ | ⟨e, e2⟩
    · rw [e2]
      have : (ls ++ [l]).getD i [] = ls.getD i [] := by rw [List.getD_eq_getElem?_getD, List.getElem?_append_left (by rw [h.len]; exact e), ← List.getD_eq_getElem?_getD]
      rw [this]
      exact (line4 i e).keeps kc fun k hk' hs => (line4 i e).ne_blk hk' head4 (by decide) (by decide) hs
    · rw [e2]
      have : (ls ++ [l]).getD i [] = l := by rw [List.getD_eq_getElem?_getD, List.getElem?_append_right (by rw [h.len, e]; exact Nat.le_refl _), h.len, e, Nat.sub_self]; rfl
      rw [this]
      exact l4.keeps kc fun k hk' hs => l4.ne_blk hk' head4 (by decide) (by decide) hs
  · intro i hi
    rcases key i hi with ⟨e, e', e2⟩ | ⟨e, e2⟩
    · rw [e2]; exact h.lbase i e
    · rw [e2]; exact ⟨by show B ≤ p; omega, fun k hk' => by have := hg k hk'.symm; omega⟩
  · intro i j hi hj hij
    rcases key i hi with ⟨e, e', e2⟩ | ⟨e, e2⟩
    · rcases key j hj with ⟨f, f', f2⟩ | ⟨f, f2⟩
      · rw [e2, f2]; exact h.apart i j e f hij
      · rw [e2, f2]
        have hlt := (h.line i e).lt
        refine ⟨by show xs[i].1 ≠ p; omega, fun k h1 h2 => ?_⟩
        have := hlt.2 k h1.symm
        have := hg k (h2 : g = some k).symm
        omega
    · rcases key j hj with ⟨f, f', f2⟩ | ⟨f, f2⟩
      · rw [e2, f2]
        have hlt := (h.line j f).lt
        refine ⟨by show p ≠ xs[j].1; omega, fun k h1 h2 => ?_⟩
        have := hlt.2 k h2.symm
        have := hg k (h1 : g = some k).symm
        omega
      · omega
/-- append to a row of the call's own, inside a region that draws. -/
theorem step_appendV {t e : TypeId} {z : Value} {nb : Nat} (E : Elem t e z nb) {ops : Array Oper} {o : Oper} {a : Act} {w : World} {K : Act → World → Prop} {Q : Exit → Act → World → Prop} {F : Prop} (hg : o.guard = none) (s x : Operand)
    (ho : o.op = .call { callee := .builtin .append, args := #[s, x], argTypes := #[t, t] })
    (base : Nat) (A : Option Addr) (n c : Nat) (l : List Value) (hs : a.eval s = .slice A n c) (hown : OwnV e w base A n c l)
    (B : Nat) (A2 : Option Addr) (m c2 : Nat) (l2 : List Value) (hx : a.eval x = .slice A2 m c2) (hm : l2.length = m) (hr : Lies w B A2 l2) (h1 : ∀ u ∈ l2, u.oneCell' = true) (hpos : 0 < m) (k : Nat) (l3 : List Value) (hk : n + m = k) (hl3 : l ++ l2 = l3) (hsum : k ≤ 281474976710656) (hbytes : k * nb ≤ 140737488355328) (hbase : base ≤ w.heap.size)
    (h : ∀ A' c' w', OwnV e w' base A' k c' l3 → Keeps (Mine A n c) w w' →
      ((Value.slice A' k c').ownBlock = (Value.slice A n c).ownBlock ∨ (Value.slice A' k c').ownBlock = some w.heap.size) → K (a.put o.dst (.slice A' k c')) w') :
    if Region.wanted o (yielded ops a.tmps) = true then Oper.wp Try.prog o a w K Q else F := by
  have hw : Region.wanted o (yielded ops a.tmps) = true := by simp [Region.wanted, hg]
  rw [if_pos hw]
  subst hk hl3
  obtain ⟨A', c', w', hrun, h2, h3, h4⟩ := run_appendV E w base o.type A n c l hown B A2 m c2 l2 hm hr h1 hsum hbytes hbase hpos
  unfold Oper.wp execOp
  simp only [ho, resolve, invoke, builtin, Sem.run_bind, Sem.run_pure, Result.andThen_ok, List.map_toArray, List.map_cons, List.map_nil, hs, hx, hrun]
  exact h A' c' w' h2 (Keeps.grown h3) h4
theorem QAt.new (w : World) : QAt w.heap.size (w.alloc (.cells #[.slice none 0 0] 90)) w.heap.size none 0 [] [] :=
  ⟨Blk.new _ _ _, Nat.le_refl _, OwnV.nil _ _ _, rfl, fun i h => by simp at h, fun i h => by simp at h, fun i j h => by simp at h⟩
set_option maxHeartbeats 1000000 in
set_option maxRecDepth 10000 in
theorem queue_New (n delay : Int) (m d : Nat) (w : World) (hm : min (max n 2) 8 = (m : Int)) (hd : (min (max delay 0) 8).toNat = d) :
    Calls Try.prog 47 #[.int .i64 n, .int .i64 delay] w fun e w' =>
      ∃ q A c xs, e = .returned (.pointer (some ⟨q, 0, none⟩)) ∧ xs.length = m ∧ QAt w.heap.size w' q A c xs (List.replicate m (List.replicate d 0)) ∧ Below w.heap.size w w' := by
  have hm8 : m ≤ 8 := by omega
  have Hd := hide hd
  clear hd
  go_enter Try.func47, Try.ntmps47
  go_wp2
  go_loopg [11] m (fun gg i wr => ∃ (k : Nat) (A : Option Addr) (c : Nat) (xs : List (Nat × Option Nat)), k ≤ m ∧ gg = m - k ∧ i = .int .i64 k ∧ xs.length = k ∧ QAt w.heap.size wr w.heap.size A c xs (List.replicate k (List.replicate d 0)) ∧ Below w.heap.size w wr)
  case atStart => exact ⟨0, none, 0, [], by omega, rfl, rfl, rfl, QAt.new w, Below_new _ _⟩
  case round =>
    obtain ⟨k, A, c, xs, hk, rfl, rfl, hx, hq, hb⟩ := hrel
    have HQ := hide hq
    have HB := hide hb
    have HX := hide hx
    have hsz := hb.size
    have hc := hq.cell
    rw [hx] at hc
    clear hq hb hx
    by_cases hlt : k < m
    · go_wp2_with fail
      refine wp_region_noPanic ?_
      refine wp_region_held_drew (S := (fun _ => True)) (by kernel_rfl) trivial (fun hHeld => ?_)
      refine wpAnyH_take (i := 0) (oi := ?_) (v := ?_) ?_ (by kernel_rfl) (by kernel_rfl) (by kernel_rfl) ?_ ?_ (by assumption) ?_
      rotate_left 2
      · (simp only [List.getElem?_toArray, List.getElem?_cons_zero]; rfl)
      · exact fun _ _ _ h => h
      · (refine Or.inl ⟨by rfl, ?_⟩; intro w hSw; (try dsimp only at hSw); go_simp <;> with_reducible rfl)
      try simp only [Act.put, List.setIfInBounds_toArray, List.set_cons_zero, List.set_cons_succ]
      refine wpAnyH_take (i := 1) (oi := ?_) (v := ?_) ?_ (by kernel_rfl) (by kernel_rfl) (by kernel_rfl) ?_ ?_ (by assumption) ?_
      rotate_left 2
      · (simp only [List.getElem?_toArray, List.getElem?_cons_succ, List.getElem?_cons_zero]; rfl)
      · exact fun _ _ _ h => h
      · (refine Or.inl ⟨by rfl, ?_⟩; intro w hSw; (try dsimp only at hSw); go_simp <;> with_reducible rfl)
      try simp only [Act.put, List.setIfInBounds_toArray, List.set_cons_zero, List.set_cons_succ]
      refine wpAnyH_take (i := 2) (oi := ?_) (v := ?_) ?_ (by kernel_rfl) (by kernel_rfl) (by kernel_rfl) ?_ ?_ (by assumption) ?_
      rotate_left 2
      · (simp only [List.getElem?_toArray, List.getElem?_cons_succ, List.getElem?_cons_zero]; rfl)
      · exact fun _ _ _ h => h
      · (refine Or.inl ⟨by rfl, ?_⟩; intro w hSw; (try dsimp only at hSw); go_simp <;> with_reducible rfl)
      try simp only [Act.put, List.setIfInBounds_toArray, List.set_cons_zero, List.set_cons_succ]
      refine wpAnyH_take (i := 3) (oi := ?_) (v := ?_) ?_ (by kernel_rfl) (by kernel_rfl) (by kernel_rfl) ?_ ?_ (by assumption) ?_
      rotate_left 2
      · (simp only [List.getElem?_toArray, List.getElem?_cons_succ, List.getElem?_cons_zero]; rfl)
      · exact fun _ _ _ h => h
      · (refine Or.inl ⟨by rfl, ?_⟩; intro w hSw; (try dsimp only at hSw); go_simp <;> with_reducible rfl)
      try simp only [Act.put, List.setIfInBounds_toArray, List.set_cons_zero, List.set_cons_succ]
      refine wpAnyH_take (i := 5) (oi := ?_) (v := ?_) ?_ (by kernel_rfl) (by kernel_rfl) (by kernel_rfl) ?_ ?_ (by assumption) ?_
      rotate_left 2
      · (simp only [List.getElem?_toArray, List.getElem?_cons_succ, List.getElem?_cons_zero]; rfl)
      · exact fun _ _ _ h => h
      · (refine Or.inl ⟨by rfl, ?_⟩; intro w hSw; (try dsimp only at hSw); go_simp <;> with_reducible rfl)
      try simp only [Act.put, List.setIfInBounds_toArray, List.set_cons_zero, List.set_cons_succ]
      refine wpAnyH_ready (rs := [4, 6]) (by kernel_rfl) (by simp) ?_
      refine AllReadyH.cons (o := ?_) ?_ (fun K hK => ?_) ?_
      rotate_left 1
      · (simp only [List.getElem?_toArray, List.getElem?_cons_succ, List.getElem?_cons_zero]; rfl)
      · go_simp
        skip
        refine hK.out _ _ trivial (fun hHeld => ?_)
        clear hK K
        try simp only [Act.put, List.setIfInBounds_toArray, List.set_cons_zero, List.set_cons_succ]
        refine wpAnyH_ready (rs := [6]) (by kernel_rfl) (by simp) ?_
        refine AllReadyH.cons (o := ?_) ?_ (fun K hK => ?_) AllReadyH.nil
        rotate_left 1
        · (simp only [List.getElem?_toArray, List.getElem?_cons_succ, List.getElem?_cons_zero]; rfl)
        go_simp
        refine Calls.mono (input_New_v delay d _ Hd.out) ?_
        rintro e w4 ⟨p, g, rfl, h1, h2, h3, h4⟩
        have h2' : Below wr.heap.size wr w4 := Below_step ((Below.refl _ _).drew) h2
        have Q4 := HQ.out.below h2'
        have hc4 := Q4.cell
        rw [HX.out] at hc4
        refine hK.out _ _ trivial (fun hHeld => ?_)
        clear hK K
        try simp only [Act.put, List.setIfInBounds_toArray, List.set_cons_zero, List.set_cons_succ]
        have hc7 := (Q4.below (Below_new w4 (.cells #[.pointer (some ⟨p, 0, none⟩)] 50))).cell
        rw [HX.out] at hc7
        refine wpAnyH_ready (rs := [7]) (by kernel_rfl) (by simp) ?_
        refine AllReadyH.cons (o := ?_) ?_ (fun K hK => ?_) AllReadyH.nil
        rotate_left 1
        · (simp only [List.getElem?_toArray, List.getElem?_cons_succ, List.getElem?_cons_zero]; rfl)
        go_simp
        refine hK.out _ _ trivial (fun hHeld => ?_)
        clear hK K
        try simp only [Act.put, List.setIfInBounds_toArray, List.set_cons_zero, List.set_cons_succ]
        refine wpAnyH_ready (rs := [8]) (by kernel_rfl) (by simp) ?_
        refine AllReadyH.cons (o := ?_) ?_ (fun K hK => ?_) AllReadyH.nil
        rotate_left 1
        · (simp only [List.getElem?_toArray, List.getElem?_cons_succ, List.getElem?_cons_zero]; rfl)
        refine step_appendV elem_line rfl (.tmp 17) (.tmp 20) rfl w.heap.size A k c (xs.map lptr) rfl (by have q := Q4.row.below (Below_new w4 (.cells #[.pointer (some ⟨p, 0, none⟩)] 50)); rw [HX.out] at q; exact q) _ _ 1 1 [lptr (p, g)] rfl rfl (Lies.new _ _ _ _) (by simp [Value.oneCell', lptr]) (by omega) (k + 1) _ rfl rfl (by omega) (by omega) (by have := h2'.size; simp; omega) ?_
        intro A5 c5 w5 own5 k5 hk5
        have head5 := (Q4.below (Below_new w4 (.cells #[.pointer (some ⟨p, 0, none⟩)] 50)))
        have head5 := head5.head.keeps k5 (by have q := head5.row.ne_blk head5.head (by decide); rw [HX.out] at q; exact q)
        have hc5 := head5.cell 0
        have hf5 := head5.frozen 0
        simp only [List.getElem?_toArray, List.getElem?_cons_zero] at hc5
        rw [HX.out] at hc5
        refine hK.out _ _ trivial (fun hHeld => ?_)
        clear hK K
        try simp only [Act.put, List.setIfInBounds_toArray, List.set_cons_zero, List.set_cons_succ]
        refine wpAnyH_take (i := 9) (oi := ?_) (v := ?_) ?_ (by kernel_rfl) (by kernel_rfl) (by kernel_rfl) ?_ ?_ (by assumption) ?_
        rotate_left 2
        · (simp only [List.getElem?_toArray, List.getElem?_cons_succ, List.getElem?_cons_zero]; rfl)
        · exact fun _ _ _ h => h
        · (refine Or.inl ⟨by rfl, ?_⟩; intro w hSw; (try dsimp only at hSw); go_simp <;> with_reducible rfl)
        try simp only [Act.put, List.setIfInBounds_toArray, List.set_cons_zero, List.set_cons_succ]
        refine wpAnyH_take (i := 10) (oi := ?_) (v := ?_) ?_ (by kernel_rfl) (by kernel_rfl) (by kernel_rfl) ?_ ?_ (by assumption) ?_
        rotate_left 2
        · (simp only [List.getElem?_toArray, List.getElem?_cons_succ, List.getElem?_cons_zero]; rfl)
        · exact fun _ _ _ h => h
        · (refine Or.inl ⟨by rfl, ?_⟩; intro w hSw; (try dsimp only at hSw); go_simp <;> with_reducible rfl)
        try simp only [Act.put, List.setIfInBounds_toArray, List.set_cons_zero, List.set_cons_succ]
        refine wpAnyH_ready (rs := [11]) (by kernel_rfl) (by simp) ?_
        refine AllReadyH.cons (o := ?_) ?_ (fun K hK => ?_) AllReadyH.nil
        rotate_left 1
        · (simp only [List.getElem?_toArray, List.getElem?_cons_succ, List.getElem?_cons_zero]; rfl)
        go_simp
        refine hK.out _ _ trivial (fun hHeld => ?_)
        clear hK K
        try simp only [Act.put]
        refine wpAnyH_done (by kernel_rfl) (NoPanic.normal ?_) _
        have NQ := HQ.out.add hsz h2' h1 h3 h4 (by rw [HX.out]; exact own5) (by rw [HX.out]; exact k5)
        rw [HX.out] at NQ
        have hsz4 := h2'.size
        have NB := ((HB.out.trans (h2'.mono hsz)).trans (((Below_new w4 (.cells #[.pointer (some ⟨p, 0, none⟩)] 50)).mono (by omega)).trans (k5.belowV (e := 50) (l := xs.map lptr) (by have q := HQ.out.row; rw [HX.out] at q; exact q) (by simp; omega)))).setCell (p := ⟨w.heap.size, 0, none⟩) (Nat.le_refl _) (.slice A5 (k + 1) c5)
        have HNQ := hide NQ
        have HNB := hide NB
        clear NQ NB own5 k5 hk5 head5 Q4 h1 h2 h2' h3 h4 hc hc4 hc5 hf5
        go_wp2_with fail
        go_roundg (m - (k + 1))
        case measure => omega
        case rel => exact ⟨k + 1, A5, c5, xs ++ [(p, g)], by omega, rfl, by go_num, by simp; exact HX.out, by rw [List.replicate_succ']; exact HNQ.out, HNB.out⟩
      refine AllReadyH.cons (o := ?_) ?_ (fun K hK => ?_) ?_
      rotate_left 1
      · (simp only [List.getElem?_toArray, List.getElem?_cons_succ, List.getElem?_cons_zero]; rfl)
      · go_simp
        refine Calls.mono (input_New_v delay d _ Hd.out) ?_
        rintro e w4 ⟨p, g, rfl, h1, h2, h3, h4⟩
        have h2' : Below wr.heap.size wr w4 := Below_step ((Below.refl _ _).drew) h2
        have Q4 := HQ.out.below h2'
        have hc4 := Q4.cell
        rw [HX.out] at hc4
        refine hK.out _ _ trivial (fun hHeld => ?_)
        clear hK K
        try simp only [Act.put, List.setIfInBounds_toArray, List.set_cons_zero, List.set_cons_succ]
        have hc7 := (Q4.below (Below_new w4 (.cells #[.pointer (some ⟨p, 0, none⟩)] 50))).cell
        rw [HX.out] at hc7
        refine wpAnyH_ready (rs := [4, 7]) (by kernel_rfl) (by simp) ?_
        refine AllReadyH.cons (o := ?_) ?_ (fun K hK => ?_) ?_
        rotate_left 1
        · (simp only [List.getElem?_toArray, List.getElem?_cons_succ, List.getElem?_cons_zero]; rfl)
        · go_simp
          skip
          refine hK.out _ _ trivial (fun hHeld => ?_)
          clear hK K
          try simp only [Act.put, List.setIfInBounds_toArray, List.set_cons_zero, List.set_cons_succ]
          refine wpAnyH_ready (rs := [7]) (by kernel_rfl) (by simp) ?_
          refine AllReadyH.cons (o := ?_) ?_ (fun K hK => ?_) AllReadyH.nil
          rotate_left 1
          · (simp only [List.getElem?_toArray, List.getElem?_cons_succ, List.getElem?_cons_zero]; rfl)
          go_simp
          refine hK.out _ _ trivial (fun hHeld => ?_)
          clear hK K
          try simp only [Act.put, List.setIfInBounds_toArray, List.set_cons_zero, List.set_cons_succ]
          refine wpAnyH_ready (rs := [8]) (by kernel_rfl) (by simp) ?_
          refine AllReadyH.cons (o := ?_) ?_ (fun K hK => ?_) AllReadyH.nil
          rotate_left 1
          · (simp only [List.getElem?_toArray, List.getElem?_cons_succ, List.getElem?_cons_zero]; rfl)
          refine step_appendV elem_line rfl (.tmp 17) (.tmp 20) rfl w.heap.size A k c (xs.map lptr) rfl (by have q := Q4.row.below (Below_new w4 (.cells #[.pointer (some ⟨p, 0, none⟩)] 50)); rw [HX.out] at q; exact q) _ _ 1 1 [lptr (p, g)] rfl rfl (Lies.new _ _ _ _) (by simp [Value.oneCell', lptr]) (by omega) (k + 1) _ rfl rfl (by omega) (by omega) (by have := h2'.size; simp; omega) ?_
          intro A5 c5 w5 own5 k5 hk5
          have head5 := (Q4.below (Below_new w4 (.cells #[.pointer (some ⟨p, 0, none⟩)] 50)))
          have head5 := head5.head.keeps k5 (by have q := head5.row.ne_blk head5.head (by decide); rw [HX.out] at q; exact q)
          have hc5 := head5.cell 0
          have hf5 := head5.frozen 0
          simp only [List.getElem?_toArray, List.getElem?_cons_zero] at hc5
          rw [HX.out] at hc5
          refine hK.out _ _ trivial (fun hHeld => ?_)
          clear hK K
          try simp only [Act.put, List.setIfInBounds_toArray, List.set_cons_zero, List.set_cons_succ]
          refine wpAnyH_take (i := 9) (oi := ?_) (v := ?_) ?_ (by kernel_rfl) (by kernel_rfl) (by kernel_rfl) ?_ ?_ (by assumption) ?_
          rotate_left 2
          · (simp only [List.getElem?_toArray, List.getElem?_cons_succ, List.getElem?_cons_zero]; rfl)
          · exact fun _ _ _ h => h
          · (refine Or.inl ⟨by rfl, ?_⟩; intro w hSw; (try dsimp only at hSw); go_simp <;> with_reducible rfl)
          try simp only [Act.put, List.setIfInBounds_toArray, List.set_cons_zero, List.set_cons_succ]
          refine wpAnyH_take (i := 10) (oi := ?_) (v := ?_) ?_ (by kernel_rfl) (by kernel_rfl) (by kernel_rfl) ?_ ?_ (by assumption) ?_
          rotate_left 2
          · (simp only [List.getElem?_toArray, List.getElem?_cons_succ, List.getElem?_cons_zero]; rfl)
          · exact fun _ _ _ h => h
          · (refine Or.inl ⟨by rfl, ?_⟩; intro w hSw; (try dsimp only at hSw); go_simp <;> with_reducible rfl)
          try simp only [Act.put, List.setIfInBounds_toArray, List.set_cons_zero, List.set_cons_succ]
          refine wpAnyH_ready (rs := [11]) (by kernel_rfl) (by simp) ?_
          refine AllReadyH.cons (o := ?_) ?_ (fun K hK => ?_) AllReadyH.nil
          rotate_left 1
          · (simp only [List.getElem?_toArray, List.getElem?_cons_succ, List.getElem?_cons_zero]; rfl)
          go_simp
          refine hK.out _ _ trivial (fun hHeld => ?_)
          clear hK K
          try simp only [Act.put]
          refine wpAnyH_done (by kernel_rfl) (NoPanic.normal ?_) _
          have NQ := HQ.out.add hsz h2' h1 h3 h4 (by rw [HX.out]; exact own5) (by rw [HX.out]; exact k5)
          rw [HX.out] at NQ
          have hsz4 := h2'.size
          have NB := ((HB.out.trans (h2'.mono hsz)).trans (((Below_new w4 (.cells #[.pointer (some ⟨p, 0, none⟩)] 50)).mono (by omega)).trans (k5.belowV (e := 50) (l := xs.map lptr) (by have q := HQ.out.row; rw [HX.out] at q; exact q) (by simp; omega)))).setCell (p := ⟨w.heap.size, 0, none⟩) (Nat.le_refl _) (.slice A5 (k + 1) c5)
          have HNQ := hide NQ
          have HNB := hide NB
          clear NQ NB own5 k5 hk5 head5 Q4 h1 h2 h2' h3 h4 hc hc4 hc5 hf5
          go_wp2_with fail
          go_roundg (m - (k + 1))
          case measure => omega
          case rel => exact ⟨k + 1, A5, c5, xs ++ [(p, g)], by omega, rfl, by go_num, by simp; exact HX.out, by rw [List.replicate_succ']; exact HNQ.out, HNB.out⟩
        refine AllReadyH.cons (o := ?_) ?_ (fun K hK => ?_) ?_
        rotate_left 1
        · (simp only [List.getElem?_toArray, List.getElem?_cons_succ, List.getElem?_cons_zero]; rfl)
        · go_simp
          skip
          refine hK.out _ _ trivial (fun hHeld => ?_)
          clear hK K
          try simp only [Act.put, List.setIfInBounds_toArray, List.set_cons_zero, List.set_cons_succ]
          refine wpAnyH_ready (rs := [4]) (by kernel_rfl) (by simp) ?_
          refine AllReadyH.cons (o := ?_) ?_ (fun K hK => ?_) AllReadyH.nil
          rotate_left 1
          · (simp only [List.getElem?_toArray, List.getElem?_cons_succ, List.getElem?_cons_zero]; rfl)
          go_simp
          refine hK.out _ _ trivial (fun hHeld => ?_)
          clear hK K
          try simp only [Act.put, List.setIfInBounds_toArray, List.set_cons_zero, List.set_cons_succ]
          refine wpAnyH_ready (rs := [8]) (by kernel_rfl) (by simp) ?_
          refine AllReadyH.cons (o := ?_) ?_ (fun K hK => ?_) AllReadyH.nil
          rotate_left 1
          · (simp only [List.getElem?_toArray, List.getElem?_cons_succ, List.getElem?_cons_zero]; rfl)
          refine step_appendV elem_line rfl (.tmp 17) (.tmp 20) rfl w.heap.size A k c (xs.map lptr) rfl (by have q := Q4.row.below (Below_new w4 (.cells #[.pointer (some ⟨p, 0, none⟩)] 50)); rw [HX.out] at q; exact q) _ _ 1 1 [lptr (p, g)] rfl rfl (Lies.new _ _ _ _) (by simp [Value.oneCell', lptr]) (by omega) (k + 1) _ rfl rfl (by omega) (by omega) (by have := h2'.size; simp; omega) ?_
          intro A5 c5 w5 own5 k5 hk5
          have head5 := (Q4.below (Below_new w4 (.cells #[.pointer (some ⟨p, 0, none⟩)] 50)))
          have head5 := head5.head.keeps k5 (by have q := head5.row.ne_blk head5.head (by decide); rw [HX.out] at q; exact q)
          have hc5 := head5.cell 0
          have hf5 := head5.frozen 0
          simp only [List.getElem?_toArray, List.getElem?_cons_zero] at hc5
          rw [HX.out] at hc5
          refine hK.out _ _ trivial (fun hHeld => ?_)
          clear hK K
          try simp only [Act.put, List.setIfInBounds_toArray, List.set_cons_zero, List.set_cons_succ]
          refine wpAnyH_take (i := 9) (oi := ?_) (v := ?_) ?_ (by kernel_rfl) (by kernel_rfl) (by kernel_rfl) ?_ ?_ (by assumption) ?_
          rotate_left 2
          · (simp only [List.getElem?_toArray, List.getElem?_cons_succ, List.getElem?_cons_zero]; rfl)
          · exact fun _ _ _ h => h
          · (refine Or.inl ⟨by rfl, ?_⟩; intro w hSw; (try dsimp only at hSw); go_simp <;> with_reducible rfl)
          try simp only [Act.put, List.setIfInBounds_toArray, List.set_cons_zero, List.set_cons_succ]
          refine wpAnyH_take (i := 10) (oi := ?_) (v := ?_) ?_ (by kernel_rfl) (by kernel_rfl) (by kernel_rfl) ?_ ?_ (by assumption) ?_
          rotate_left 2
          · (simp only [List.getElem?_toArray, List.getElem?_cons_succ, List.getElem?_cons_zero]; rfl)
          · exact fun _ _ _ h => h
          · (refine Or.inl ⟨by rfl, ?_⟩; intro w hSw; (try dsimp only at hSw); go_simp <;> with_reducible rfl)
          try simp only [Act.put, List.setIfInBounds_toArray, List.set_cons_zero, List.set_cons_succ]
          refine wpAnyH_ready (rs := [11]) (by kernel_rfl) (by simp) ?_
          refine AllReadyH.cons (o := ?_) ?_ (fun K hK => ?_) AllReadyH.nil
          rotate_left 1
          · (simp only [List.getElem?_toArray, List.getElem?_cons_succ, List.getElem?_cons_zero]; rfl)
          go_simp
          refine hK.out _ _ trivial (fun hHeld => ?_)
          clear hK K
          try simp only [Act.put]
          refine wpAnyH_done (by kernel_rfl) (NoPanic.normal ?_) _
          have NQ := HQ.out.add hsz h2' h1 h3 h4 (by rw [HX.out]; exact own5) (by rw [HX.out]; exact k5)
          rw [HX.out] at NQ
          have hsz4 := h2'.size
          have NB := ((HB.out.trans (h2'.mono hsz)).trans (((Below_new w4 (.cells #[.pointer (some ⟨p, 0, none⟩)] 50)).mono (by omega)).trans (k5.belowV (e := 50) (l := xs.map lptr) (by have q := HQ.out.row; rw [HX.out] at q; exact q) (by simp; omega)))).setCell (p := ⟨w.heap.size, 0, none⟩) (Nat.le_refl _) (.slice A5 (k + 1) c5)
          have HNQ := hide NQ
          have HNB := hide NB
          clear NQ NB own5 k5 hk5 head5 Q4 h1 h2 h2' h3 h4 hc hc4 hc5 hf5
          go_wp2_with fail
          go_roundg (m - (k + 1))
          case measure => omega
          case rel => exact ⟨k + 1, A5, c5, xs ++ [(p, g)], by omega, rfl, by go_num, by simp; exact HX.out, by rw [List.replicate_succ']; exact HNQ.out, HNB.out⟩
        exact AllReadyH.nil
      exact AllReadyH.nil
    · obtain rfl : k = m := by omega
      go_wp2
      go_ret
      exact ⟨w.heap.size, A, c, xs, rfl, HX.out, HQ.out, HB.out⟩
end Go.Proofs.Ytbcgffgiifminaa
namespace Go.Proofs.Ytbcgffgiifminaa
open Go.RowKit
set_option maxRecDepth 10000

/-- A type that is an array or a struct? -/
def rowDesc : TypeDesc → Bool
  | .struct _ | .array _ _ => true
  | _ => false
/-- Block g holds just the values l, as a variable of type T. -/
def Arr (T : TypeId) (w : World) (g : Nat) (l : List Value) : Prop := Blk w g T l.toArray
section
variable {T : TypeId} {w w' : World} {g : Nat} {l : List Value}
theorem Arr.blk (h : Arr T w g l) : w.heap[g]? = some (.cells l.toArray T (0, 0)) := h
theorem Arr.lt (h : Arr T w g l) : g < w.heap.size := Blk.lt h
theorem Arr.new (T : TypeId) (w : World) (cs : Array Value) (l : List Value) (h : cs.toList = l) : Arr T (w.alloc (.cells cs T)) w.heap.size l := by
  subst h
  exact heap_alloc_new w _
theorem Arr.below {B : Nat} (h : Arr T w g l) (hb : Below B w w') (hg : g < B) : Arr T w' g l := by
  unfold Arr Blk
  rw [hb.block g hg]
  exact h
theorem Arr.belowN (h : Arr T w g l) (hb : Below w.heap.size w w') : Arr T w' g l := h.below hb h.lt
theorem Arr.keeps {S : Nat → Prop} (h : Arr T w g l) (hk : Keeps S w w') (hn : ¬ S g) : Arr T w' g l := by
  unfold Arr Blk
  rw [hk.block g h.lt hn]
  exact h
theorem Arr.drew (h : Arr T w g l) : Arr T w.drew g l := h
theorem Arr.drewN (h : Arr T w g l) (k : Nat) : Arr T (w.drewN k) g l := h
theorem Arr.cell (h : Arr T w g l) {j : Nat} (hj : j < l.length) : w.cell? ⟨g, j, none⟩ = some l[j] := by
  rw [cell_of_row w g j _ T _ h]
  simp [List.getElem?_eq_getElem hj]
theorem Arr.frozen (h : Arr T w g l) (j : Nat) : w.frozen? ⟨g, j, none⟩ = false := frozen_of_row w g j _ T h
theorem Arr.set (h : Arr T w g l) (j : Nat) (x : Value) : Arr T (w.setCell ⟨g, j, none⟩ x) g (l.set j x) := by
  unfold Arr Blk
  rw [heap_setCell_same w g j _ T x h]
  simp
theorem Arr.lies (h : Arr T w g l) : Lies w w.heap.size (some ⟨g, 0, none⟩) l := fun _ =>
  ⟨g, 0, rfl, h.lt, fun j u hu => by
    rw [Nat.zero_add, cell_of_row w g j _ T _ h]
    simpa using hu⟩
end

/-- The whole array is read. -/
theorem wpA_load {ops : Array Oper} {rest : List Oper} {o : Oper} {a : Act} {w : World} {Q : Exit → Act → World → Prop} (hgd : o.guard = none) (ty : TypeId) (x : Operand) (ho : o.op = .load ty x)
    (g : Nat) (hx : a.eval x = .pointer (some ⟨g, 0, none⟩)) (T : TypeId) (l : List Value) (hg : Arr T w g l) (n : Nat) (e : TypeId) (hu : Try.prog.underlying ty = some (.array n e))
    (hi : (Try.prog.info? ty).map (·.size) = some n) (hn : l.length = n) (h : wpList Try.prog ops Q rest (a.put o.dst (.agg l.toArray)) w) : wpList Try.prog ops Q (o :: rest) a w :=
  wpList_load_row hgd ty x ho g hx T l.toArray (0, 0) _ hg hu rfl (by rw [hi]; simp [hn]) h
/-- The whole array is written. -/
theorem wpA_store {ops : Array Oper} {rest : List Oper} {o : Oper} {a : Act} {w : World} {Q : Exit → Act → World → Prop} (hgd : o.guard = none) (ty : TypeId) (x y : Operand) (ho : o.op = .store ty x y)
    (g : Nat) (l' : List Value) (hx : a.eval x = .pointer (some ⟨g, 0, none⟩)) (hy : a.eval y = .agg l'.toArray) (T : TypeId) (l : List Value) (hg : Arr T w g l) (n : Nat)
    (hi : (Try.prog.info? ty).map (·.size) = some n) (hn : l.length = n) (hn' : l'.length = n) (h1 : ∀ u ∈ l', u.oneCell' = true)
    (h : ∀ w', Arr T w' g l' → Keeps (fun k => k = g) w w' → w'.heap.size = w.heap.size → wpList Try.prog ops Q rest (a.put o.dst undef) w') : wpList Try.prog ops Q (o :: rest) a w :=
  wpList_store_row hgd ty x y ho g l'.toArray hx hy T l.toArray hg (by rw [hi]; simp [hn']) (by simp [hn, hn']) (Array.all_eq_true_iff_forall_mem.2 fun v hv => h1 v (by simpa using hv))
    (h _ (setRow_heap w g _ _ T _ hg) ⟨rfl, rfl, rfl, by simp, fun k _ hk => setRow_other w g k _ hk⟩ (by simp))
/-- A variable that was just made is given its first value. -/
theorem wpA_init {ops : Array Oper} {rest : List Oper} {o : Oper} {a : Act} {w : World} {cs : Array Value} {T : TypeId} {Q : Exit → Act → World → Prop} (hgd : o.guard = none) (ty : TypeId) (x y : Operand) (ho : o.op = .store ty x y)
    (l' : List Value) (hx : a.eval x = .pointer (some ⟨w.heap.size, 0, none⟩)) (hy : a.eval y = .agg l'.toArray) (n : Nat)
    (hi : (Try.prog.info? ty).map (·.size) = some n) (hn : cs.size = n) (hn' : l'.length = n) (h1 : ∀ u ∈ l', u.oneCell' = true)
    (h : ∀ w', Arr T w' w.heap.size l' → Below w.heap.size w w' → w'.heap.size = w.heap.size + 1 → wpList Try.prog ops Q rest (a.put o.dst undef) w') : wpList Try.prog ops Q (o :: rest) a (w.alloc (.cells cs T)) :=
  wpA_store hgd ty x y ho w.heap.size l' hx hy T cs.toList (Arr.new T w cs _ rfl) n hi (by simpa using hn) hn' h1 fun w' h2 h3 h4 =>
    h w' h2 ((Below_new w _).trans (h3.below (by simp) fun k hk => by omega)) (by rw [h4, World.size_alloc])
/-- 'x[i]' of an array's value. -/
theorem run_indexA {ty e : TypeId} {n : Nat} (hu : Try.prog.underlying ty = some (.array n e)) (hi : (Try.prog.info? e).map (·.size) = some 1) (d : TypeDesc) (hd : Try.prog.underlying e = some d) (hnd : rowDesc d = false) (l : List Value) (k : IntKind) (i : Nat) (hn : l.length = n) (hlt : i < l.length) (w : World) :
    (Instr.index ty (.agg l.toArray) (.int k (i : Int))).run Try.prog w = .ok l[i] w := by
  cases hq : Try.prog.info? e with
  | none => simp [hq] at hi
  | some t =>
    have hs : t.size = 1 := by simpa [hq] using hi
    have hagg : (isAgg e).run Try.prog w = .ok false w := by
      unfold isAgg
      rw [Sem.run_bind, run_underlying hd w]
      cases d <;> simp_all [rowDesc]
    simp only [Instr.index, asIntOf, Sem.run_bind, Sem.run_pure, Result.andThen_ok, run_underlying hu]
    rw [if_pos ⟨by omega, by omega⟩]
    simp [part, Sem.run_bind, hagg, sizeOf, typeInfo, hq, hs, List.getElem?_eq_getElem hlt]
section
variable {fn : Func} {p q : Tmp} {ty T : TypeId} {w : World} {g n : Nat} {e : TypeId} {l : List Value} {tmps : Array Value}
theorem results_arr (h : fn.results = #[.cell p ty]) (hp : tmps.getD p undef = .pointer (some ⟨g, 0, none⟩)) (hg : Arr T w g l) (hu : Try.prog.underlying ty = some (.array n e))
    (hi : (Try.prog.info? ty).map (·.size) = some n) (hn : l.length = n) : (results fn tmps).run Try.prog w = .ok (.agg l.toArray) w :=
  results_cell_row h tmps w g T l.toArray (0, 0) _ hp hg hu rfl (by rw [hi]; simp [hn])
theorem results_arr2 (h : fn.results = #[.cell p ty, .tmp q]) (hp : tmps.getD p undef = .pointer (some ⟨g, 0, none⟩)) (v : Value) (hv : tmps.getD q undef = v) (hg : Arr T w g l) (hu : Try.prog.underlying ty = some (.array n e))
    (hi : (Try.prog.info? ty).map (·.size) = some n) (hn : l.length = n) : (results fn tmps).run Try.prog w = .ok (.tuple #[.agg l.toArray, v]) w := by
  have hp' : tmps[p]?.getD undef = .pointer (some ⟨g, 0, none⟩) := by simpa using hp
  have hv' : tmps[q]?.getD undef = v := by simpa using hv
  have hl := run_loadVar_row (P := Try.prog) w g T ty l.toArray (0, 0) _ hg hu rfl (by rw [hi]; simp [hn])
  simp [results, h, hp', hv', asAddr, hl]
end
/-- copy into an array's block, inside a region that draws. -/
theorem step_copyA {ops : Array Oper} {o : Oper} {a : Act} {w : World} {K : Act → World → Prop} {Q : Exit → Act → World → Prop} {E : Prop} (hgd : o.guard = none) (d s : Operand) (dT sT : TypeId)
    (ho : o.op = .call { callee := .builtin .copy, args := #[d, s], argTypes := #[dT, sT] }) (elem : TypeId) (hu : Try.prog.underlying dT = some (.slice elem)) (hsz : (Try.prog.info? elem).map (·.size) = some 1)
    (g off dLen dCap g' off' sLen sCap : Nat) (hd : a.eval d = .slice (some ⟨g, off, none⟩) dLen dCap) (hs : a.eval s = .slice (some ⟨g', off', none⟩) sLen sCap)
    (T : TypeId) (l : List Value) (hg : Arr T w g l) (T' : TypeId) (l' : List Value) (hg' : Arr T' w g' l') (m : Nat) (hm : m = Nat.min sLen dLen) (hfit' : off' + m ≤ l'.length) (hfit : off + m ≤ l.length) (h1 : ∀ v ∈ l', v.oneCell' = true)
    (h : ∀ w', Arr T w' g (l.take off ++ (l'.drop off').take m ++ l.drop (off + m)) → Keeps (fun k => k = g) w w' → w'.heap.size = w.heap.size → K (a.put o.dst (goInt m)) w') :
    if Region.wanted o (yielded ops a.tmps) = true then Oper.wp Try.prog o a w K Q else E := by
  have hw : Region.wanted o (yielded ops a.tmps) = true := by simp [Region.wanted, hgd]
  rw [if_pos hw]
  have hlen : ((l'.drop off').take m).length = m := by rw [List.length_take, List.length_drop]; omega
  have hadd : ∀ j, (⟨g', off', none⟩ : Addr).add j = ⟨g', off' + j, none⟩ := fun j => by unfold Addr.add; split <;> simp_all
  have hrun := run_copy_row (P := Try.prog) w dT sT o.type elem g off dLen dCap ⟨g', off', none⟩ sLen sCap l.toArray T ((l'.drop off').take m) hu hsz hg (by rw [hlen]; exact hm)
    (fun j v hv => by
      rw [hadd, cell_of_row w g' (off' + j) _ T' _ hg']
      rw [List.getElem?_take] at hv
      split at hv
      · rw [List.getElem?_drop] at hv; simpa using hv
      · cases hv) (by rw [hlen]; simpa using hfit) (fun v hv => h1 v (List.mem_of_mem_drop (List.mem_of_mem_take hv)))
  rw [hlen] at hrun
  unfold Oper.wp
  simp [execOp, ho, resolve, invoke, builtin, hd, hs, hrun, Result.andThen]
  refine h _ ?_ ⟨rfl, rfl, rfl, by simp, fun k _ hk => setRow_other w g k _ hk⟩ (by simp)
  have := setRow_heap w g _ ((l.toArray.toList.take off ++ (l'.drop off').take m ++ l.toArray.toList.drop (off + m)).toArray) T _ hg
  simpa [Arr, Blk] using this
end Go.Proofs.Ytbcgffgiifminaa
namespace Go.Proofs.Ytbcgffgiifminaa
open Go.RowKit
set_option maxRecDepth 10000

set_option maxHeartbeats 400000 in
set_option maxRecDepth 10000 in
theorem bytes_Clone (A : Option Addr) (n c : Nat) (l : List UInt8) (w : World) (h : LiesB w w.heap.size A n l) (hn : n ≤ 140737488355328) :
    Calls Try.prog 92 #[.slice A n c] w fun e w' => ∃ A' c', e = .returned (.slice A' n c') ∧ OwnB w' w.heap.size A' n c' l ∧ Below w.heap.size w w' := by
  rcases A with _ | ad
  · have hl : l = [] := by
      rcases l with _ | ⟨x, l⟩
      · rfl
      · obtain ⟨b, off, e, _⟩ := h.2 (by simp); cases e
    subst hl
    have h0 : n = 0 := by have := h.len; simpa using this.symm
    subst h0
    clear h
    have k1 := fun (w : World) (a : Option Addr) (n c : Nat) => Lib.run_eql_slice_nil (P := Try.prog) w 34 5 a n c 0 0 Try.underlying34
    go_enter Try.func92, Try.ntmps92
    go_wp2
    go_ret
    exact ⟨none, 0, rfl, OwnB.nil _ _, Below.refl _ _⟩
  · have H := hide (h.below (Below_new w (.cells #[] 5)))
    clear h
    have k1 := fun (w : World) (a : Option Addr) (n c : Nat) => Lib.run_eql_slice_nil (P := Try.prog) w 34 5 a n c 0 0 Try.underlying34
    go_enter Try.func92, Try.ntmps92
    have Ho := hide (OwnB.new w #[] 0 [] rfl (by simp [maxLen]) rfl)
    go_wp2_with (at_builtin; refine wpB_append rfl (.tmp 5) (.tmp 6) rfl w.heap.size _ 0 0 [] rfl Ho.out _ (some ad) n c l rfl H.out n _ (by omega) (List.nil_append _) (by omega) (by simp) ?_; intro A' c' w' own1 hb1 hg1)
    go_ret
    exact ⟨A', c', rfl, own1, (Below_new w _).trans hb1⟩
/-- What From tells. -/
def fromLine (l : List UInt8) (f n : Int) : List UInt8 := if f < 0 ∨ (l.length : Int) ≤ f ∨ n < 1 then [] else (l.drop f.toNat).take (min n.toNat 1000)
theorem fromLine_none {l : List UInt8} {f n : Int} (h : f < 0 ∨ (l.length : Int) ≤ f ∨ n < 1) : fromLine l f n = [] := by rw [fromLine, if_pos h]
theorem fromLine_some {l : List UInt8} {f : Nat} {n : Int} (h : f < l.length) (h1 : 1 ≤ n) : fromLine l f n = (l.drop f).take (min n.toNat 1000) := by
  rw [fromLine, if_neg (by omega)]; rfl
theorem fromLine_all {l : List UInt8} (h : l.length ≤ 1000) : fromLine l 0 1000 = l := by
  by_cases h0 : l = []
  · subst h0; rfl
  · have : 0 < l.length := List.length_pos_iff.2 h0
    rw [show (0 : Int) = ((0 : Nat) : Int) from rfl, fromLine_some this (by omega)]
    simp [List.take_of_length_le h]

set_option maxHeartbeats 1000000 in
set_option maxRecDepth 10000 in
theorem line_From (p : Nat) (g : Option Nat) (l : List UInt8) (f n : Int) (w : World) (h : LineAt w p g l) (h1 : -9223372036854775808 ≤ f) (h2 : f ≤ 9223372036854775807) (h3 : -9223372036854775808 ≤ n) (h4 : n ≤ 9223372036854775807) :
    Calls Try.prog 84 #[.pointer (some ⟨p, 0, none⟩), .int .i64 f, .int .i64 n] w fun e w' =>
      ∃ A c, e = .returned (.slice A (fromLine l f n).length c) ∧ OwnB w' w.heap.size A (fromLine l f n).length c (fromLine l f n) ∧ Below w.heap.size w w' := by
  by_cases hn : f < 0 ∨ (l.length : Int) ≤ f ∨ n < 1
  · rw [fromLine_none hn]
    have H := hide h
    clear h
    by_cases c1 : f < 0
    · go_enter Try.func84, Try.ntmps84
      go_wp2
      go_ret
      exact ⟨none, 0, rfl, OwnB.nil _ _, Below.refl _ _⟩
    · obtain ⟨m, hm⟩ : ∃ m, m = l.length := ⟨_, rfl⟩
      rw [← hm] at hn
      have Hm := hide hm
      clear hm
      by_cases c2 : (m : Int) ≤ f
      · go_enter Try.func84, Try.ntmps84
        go_wp2_with (go_at_call 25; (with_reducible refine Calls.mono (line_Len _ _ _ _ H.out) ?_); rintro e w1 ⟨rfl, rfl⟩; rw [← Hm.out])
        go_ret
        exact ⟨none, 0, rfl, OwnB.nil _ _, Below.refl _ _⟩
      · go_enter Try.func84, Try.ntmps84
        go_wp2_with (go_at_call 25; (with_reducible refine Calls.mono (line_Len _ _ _ _ H.out) ?_); rintro e w1 ⟨rfl, rfl⟩; rw [← Hm.out])
        go_ret
        exact ⟨none, 0, rfl, OwnB.nil _ _, Below.refl _ _⟩
  · obtain ⟨k, rfl⟩ : ∃ k : Nat, f = (k : Int) := ⟨f.toNat, by omega⟩
    rw [fromLine_some (by omega) (by omega)]
    have HL := hide h
    obtain ⟨hl0, A, c, hb, ho, hg⟩ := h
    have hc := hb.cell 0
    simp at hc
    have hmc : l.length ≤ c := by
      rcases ho.2 with ⟨hv, h0⟩ | ⟨g', cap, cur, hv, _, _, hnc, _⟩
      · omega
      · injection hv with _ _ h3; omega
    obtain ⟨m, hm⟩ : ∃ m, m = l.length := ⟨_, rfl⟩
    have hlies := (ho.lies.take (k + min n.toNat 1000)).cut (k := k) (cap := c) (by omega)
    rw [← hm] at hc ho hl0 hn hmc hlies
    have Hm := hide hm
    obtain ⟨r, hr⟩ : ∃ r, r = (l.drop k).take (min n.toNat 1000) := ⟨_, rfl⟩
    obtain ⟨N, hN⟩ : ∃ N : Nat, min n 1000 = (N : Int) := ⟨min n.toNat 1000, by omega⟩
    have hN2 : min n.toNat 1000 = N := by omega
    obtain ⟨E, hE⟩ : ∃ E : Nat, min (m : Int) ((k : Int) + (N : Int)) = (E : Int) := ⟨min m (k + N), by omega⟩
    have hE2 : min (k + N) m = E := by omega
    have hrl : r.length = E - k := by rw [hr, List.length_take, List.length_drop, ← hm]; omega
    have hr2 : (l.take (k + N)).drop k = r := by rw [hr, hN2, List.drop_take]; congr 1; omega
    rw [hN2] at hlies
    rw [hr2, hE2] at hlies
    rw [← hr, hrl]
    have hwr : IntKind.i64.wrap ((k : Int) + (N : Int)) = (k : Int) + (N : Int) := IntWalk.i64_in _ ⟨by omega, by omega⟩
    have hkE : k ≤ E := by omega
    have hEc : E ≤ c := by omega
    have hEm : E ≤ m := by omega
    have Hlies := hide hlies
    have HN2 := hide hN2
    have HE2 := hide hE2
    clear hm hlies hN2 hE2 hrl hr2 hr hb ho hg
    have hd1 : ¬ ((k : Int) < 0) := by omega
    go_enter Try.func84, Try.ntmps84
    go_wp2_with (go_at_call 25; (with_reducible refine Calls.mono (line_Len _ _ _ _ HL.out) ?_); rintro e w1 ⟨rfl, rfl⟩; rw [← Hm.out])
    go_still_tail 16, (by kernel_rfl)
    change wpList _ _ _ _ _ w.drew
    have HliesD : Hid (LiesB w.drew w.drew.heap.size (cutA A c k 1) (E - k) r) := Hlies.out.drew
    have HB0 : Hid (Below w.heap.size w w.drew ∧ w.drew.heap.size = w.heap.size) := ⟨(Below.refl _ _).drew, rfl⟩
    generalize w.drew = w2 at HliesD HB0 ⊢
    go_wp2_with (go_at_call 92; refine Calls.mono (bytes_Clone _ _ _ _ _ HliesD.out (by omega)) ?_; rintro e w1 ⟨A', c', rfl, own1, hb1⟩)
    go_ret
    obtain ⟨hb0, hs⟩ := HB0.out
    rw [hs] at own1
    exact ⟨A', c', rfl, own1, Below_step hb0 hb1⟩
set_option maxHeartbeats 400000 in
theorem line_From_nil (f n : Int) (w : World) : Calls Try.prog 84 #[.pointer none, .int .i64 f, .int .i64 n] w fun e w' => e = .returned (.slice none 0 0) ∧ w = w' := by
  by_cases c1 : f < 0
  · go_enter Try.func84, Try.ntmps84
    go_wp2
    go_ret
    exact ⟨rfl, rfl⟩
  · go_enter Try.func84, Try.ntmps84
    go_wp2_with (go_at_call 25; (with_reducible refine Calls.mono (line_Len_nil _) ?_); rintro e w1 ⟨rfl, rfl⟩)
    go_ret
    exact ⟨rfl, rfl⟩
set_option maxHeartbeats 400000 in
theorem line_All (p : Nat) (g : Option Nat) (l : List UInt8) (w : World) (h : LineAt w p g l) :
    Calls Try.prog 75 #[.pointer (some ⟨p, 0, none⟩)] w fun e w' =>
      ∃ A c, e = .returned (.slice A l.length c) ∧ OwnB w' w.heap.size A l.length c l ∧ Below w.heap.size w w' := by
  have H := hide h
  have HE := hide (fromLine_all h.1)
  clear h
  go_enter Try.func75, Try.ntmps75
  go_wp2_with fail
  refine Calls.mono (line_From p g l 0 1000 _ H.out (by omega) (by omega) (by omega) (by omega)) ?_
  rintro e w1 ⟨A, c, rfl, own1, hb1⟩
  rw [HE.out] at own1
  rw [HE.out]
  go_wp2_with fail
  go_ret
  exact ⟨A, c, rfl, own1, hb1⟩
set_option maxHeartbeats 400000 in
theorem line_All_nil (w : World) : Calls Try.prog 75 #[.pointer none] w fun e w' => e = .returned (.slice none 0 0) ∧ w = w' := by
  go_enter Try.func75, Try.ntmps75
  go_wp2_with fail
  refine Calls.mono (line_From_nil 0 1000 _) ?_
  rintro e w1 ⟨rfl, rfl⟩
  go_wp2_with fail
  go_ret
  exact ⟨rfl, rfl⟩
end Go.Proofs.Ytbcgffgiifminaa
namespace Go.Proofs.Ytbcgffgiifminaa
open Go.RowKit
set_option maxRecDepth 10000
set_option linter.unusedVariables false

theorem line_From_v (p : Nat) (g : Option Nat) (l r : List UInt8) (f n : Int) (m : Nat) (w : World) (h : LineAt w p g l) (h1 : -9223372036854775808 ≤ f) (h2 : f ≤ 9223372036854775807) (h3 : -9223372036854775808 ≤ n) (h4 : n ≤ 9223372036854775807)
    (hr : fromLine l f n = r) (hm : r.length = m) :
    Calls Try.prog 84 #[.pointer (some ⟨p, 0, none⟩), .int .i64 f, .int .i64 n] w fun e w' =>
      ∃ A c, e = .returned (.slice A m c) ∧ OwnB w' w.heap.size A m c r ∧ Below w.heap.size w w' := by
  subst hr hm
  exact line_From p g l f n w h h1 h2 h3 h4
theorem line_All_v (p : Nat) (g : Option Nat) (l : List UInt8) (m : Nat) (w : World) (h : LineAt w p g l) (hm : l.length = m) :
    Calls Try.prog 75 #[.pointer (some ⟨p, 0, none⟩)] w fun e w' =>
      ∃ A c, e = .returned (.slice A m c) ∧ OwnB w' w.heap.size A m c l ∧ Below w.heap.size w w' := by
  subst hm
  exact line_All p g l w h
end Go.Proofs.Ytbcgffgiifminaa
namespace Go.Proofs.Ytbcgffgiifminaa
open Go.RowKit
set_option maxRecDepth 10000
set_option linter.unusedVariables false
/-- How a player plays. -/
structure Cfg where
  n : Int
  me : Int
  id : Int
  delay : Int
  window : Int
  guess : Int
  order : Int
  branches : Int
  workers : Int
  room : Int
def Cfg.row (c : Cfg) : List Value := [.int .i64 c.n, .int .i64 c.me, .int .i64 c.id, .int .i64 c.delay, .int .i64 c.window, .int .i64 c.guess, .int .i64 c.order, .int .i64 c.branches, .int .i64 c.workers, .int .i64 c.room]
@[reducible] def Cfg.val (c : Cfg) : Value := .agg #[.int .i64 c.n, .int .i64 c.me, .int .i64 c.id, .int .i64 c.delay, .int .i64 c.window, .int .i64 c.guess, .int .i64 c.order, .int .i64 c.branches, .int .i64 c.workers, .int .i64 c.room]
structure Cfg.Fine (c : Cfg) : Prop where
  n : 2 ≤ c.n ∧ c.n ≤ 8
  me : 0 ≤ c.me ∧ c.me ≤ c.n - 1
  id : 0 ≤ c.id ∧ c.id ≤ 1099511627776
  delay : 0 ≤ c.delay ∧ c.delay ≤ 8
  window : 1 ≤ c.window ∧ c.window ≤ 16
  guess : 1 ≤ c.guess ∧ c.guess ≤ 3
  order : 0 ≤ c.order ∧ c.order ≤ 3
  kind : c.order = 0 ∨ c.guess = 2
  branches : 0 ≤ c.branches ∧ c.branches ≤ 8
  workers : 0 ≤ c.workers ∧ c.workers ≤ 4
  room : 3 ≤ c.room ∧ c.room ≤ 50
/-- What is known of a player. -/
structure Peer where
  has : Int
  heard : Int
  frame : Int
  sum : Int
  apart : Bool
def Peer.row (p : Peer) : List Value := [.int .i64 p.has, .int .i64 p.heard, .int .i64 p.frame, .int .u32 p.sum, .bool p.apart]
/-- What happened: to whom, and when. -/
inductive Ev where
  | quit (p : Int)
  | late (p : Int)
  | apart (p f : Int)
def Ev.val : Ev → Value
  | .quit p => .iface 143 (.agg #[.int .i64 p])
  | .late p => .iface 144 (.agg #[.int .i64 p])
  | .apart p f => .iface 146 (.agg #[.int .i64 p, .int .i64 f])
/-- What a player knows. -/
structure Co where
  cfg : Cfg
  ls : List (List UInt8)
  peers : List Peer
  marks : List Int
  events : List Ev
  now : Int
  closed : Bool
/-- Where it lies. -/
structure CP where
  q : Nat
  qA : Option Addr
  qc : Nat
  xs : List (Nat × Option Nat)
  g : Nat
  pc : Nat
  mA : Option Addr
  mn : Nat
  mc : Nat
  eA : Option Addr
  en : Nat
  ec : Nat
def mv (x : Int) : Value := .int .u32 x
def coRow (s : Co) (p : CP) : List Value := s.cfg.row ++ [.pointer (some ⟨p.q, 0, none⟩), .slice (some ⟨p.g, 0, none⟩) s.peers.length p.pc, .slice p.mA p.mn p.mc, .slice p.eA p.en p.ec, .int .i64 s.now, .bool s.closed]
theorem elem_marks : Elem 62 39 (.int .u32 0) 4 := ⟨Try.underlying62, by kernel_rfl, rfl⟩
theorem elem_events : Elem 52 114 (.agg #[.nilIface]) 16 := ⟨Try.underlying52, by kernel_rfl, rfl⟩
/-- The plain facts that hold of each core. -/
structure Co.Ok (s : Co) : Prop where
  cfg : s.cfg.Fine
  np : (s.peers.length : Int) = s.cfg.n
  nl : (s.ls.length : Int) = s.cfg.n
  short : ∀ i, (s.ls.getD i []).length ≤ 1000
  head : s.cfg.delay ≤ ((s.ls.getD s.cfg.me.toNat []).length : Int)
  has : ∀ p ∈ s.peers, 0 ≤ p.has ∧ p.has ≤ ((s.ls.getD s.cfg.me.toNat []).length : Int)
  heard : ∀ p ∈ s.peers, 0 ≤ p.heard ∧ p.heard ≤ s.now
  frame : ∀ p ∈ s.peers, 0 ≤ p.frame ∧ p.frame ≤ 1000
  sum : ∀ p ∈ s.peers, 0 ≤ p.sum ∧ p.sum < 4294967296
  marks : s.marks.length ≤ 1000
  mark : ∀ m ∈ s.marks, 0 ≤ m ∧ m < 4294967296
  now : 0 ≤ s.now ∧ s.now ≤ 1000000000
  events : s.events.length ≤ 1000000000
/-- A core in memory, all its blocks from B on. -/
structure CAt (B : Nat) (w : World) (x : Nat) (p : CP) (s : Co) : Prop where
  head : Arr 84 w x (coRow s p)
  base : B ≤ x
  q : QAt B w p.q p.qA p.qc p.xs s.ls
  nx : p.xs.length = s.peers.length
  peers : w.ownsRow B 86 5 (.slice (some ⟨p.g, 0, none⟩) s.peers.length p.pc) s.peers.length (s.peers.flatMap Peer.row)
  marks : OwnV 39 w B p.mA p.mn p.mc (s.marks.map mv)
  events : OwnV 114 w B p.eA p.en p.ec (s.events.map Ev.val)
  ok : s.Ok
/-- The blocks that are a core's. -/
def cBlocks (x : Nat) (p : CP) (k : Nat) : Prop := k = x ∨ k = p.q ∨ Mine p.qA p.xs.length p.qc k ∨ (∃ (i : Nat) (h : i < p.xs.length), lineBlocks p.xs[i].1 p.xs[i].2 k) ∨ k = p.g ∨ Mine p.mA p.mn p.mc k ∨ Mine p.eA p.en p.ec k
section
variable {B B' : Nat} {w w' : World} {x : Nat} {p : CP} {s : Co}
theorem ownsRow_below {e : TypeId} {z : Nat} {v : Value} {n : Nat} {l : List Value} (h : w.ownsRow B e z v n l) (hb : Below w.heap.size w w') : w'.ownsRow B e z v n l := h.kept (grownBy_of_below hb) (by cases v.ownBlock <;> simp)
theorem CAt.below (h : CAt B w x p s) (hb : Below w.heap.size w w') : CAt B w' x p s :=
  ⟨h.head.belowN hb, h.base, h.q.below hb, h.nx, ownsRow_below h.peers hb, h.marks.below hb, h.events.below hb, h.ok⟩
theorem CAt.drew (h : CAt B w x p s) : CAt B w.drew x p s := h.below ⟨rfl, rfl, rfl, Nat.le_refl _, fun _ _ => rfl⟩
theorem CAt.drewN (h : CAt B w x p s) (k : Nat) : CAt B (w.drewN k) x p s := h.below ⟨rfl, rfl, rfl, Nat.le_refl _, fun _ _ => rfl⟩
theorem CAt.mn (h : CAt B w x p s) : s.marks.length = p.mn := by have := h.marks.len; rwa [List.length_map] at this
theorem CAt.en (h : CAt B w x p s) : s.events.length = p.en := by have := h.events.len; rwa [List.length_map] at this
/-- A cell of the head. -/
theorem CAt.cell (h : CAt B w x p s) {j : Nat} {v : Value} (hv : (coRow s p)[j]? = some v) : w.cell? ⟨x, j, none⟩ = some v := by
  obtain ⟨hj, e⟩ := List.getElem?_eq_some_iff.1 hv
  rw [h.head.cell hj, e]
end
/-- Block k is of type T. -/
def TB (w : World) (k : Nat) (T : TypeId) : Prop := ∃ cs fz, w.heap[k]? = some (.cells cs T fz)
section
variable {S : Nat → Prop} {w w' : World} {T T' : TypeId} {k : Nat} {Ts : List TypeId}
theorem TB.one (h : TB w k T) (h' : TB w k T') : T = T' := by
  obtain ⟨cs, fz, h⟩ := h
  obtain ⟨cs', fz', h'⟩ := h'
  rw [h] at h'
  injection h' with h'
  injection h' with _ h'
theorem Arr.tb {g : Nat} {l : List Value} (h : Arr T w g l) : TB w g T := ⟨_, _, h⟩
theorem Blk.tb {g : Nat} {cs : Array Value} (h : Blk w g T cs) : TB w g T := ⟨_, _, h⟩
theorem owns_tb {B z n : Nat} {e : TypeId} {v : Value} {l : List Value} (h : w.ownsRow B e z v n l) : ∀ k, some k = v.ownBlock → TB w k e := by
  intro k hk
  rcases h.2 with ⟨hv, _⟩ | ⟨g, cap, cur, hv, _, hh, _⟩
  · rw [hv] at hk; simp [Value.ownBlock] at hk
  · rw [hv] at hk
    have e1 : k = g := by simpa [Value.ownBlock] using hk
    subst e1
    exact ⟨_, _, hh⟩
theorem LineAt.tb {p : Nat} {g : Option Nat} {l : List UInt8} (h : LineAt w p g l) : ∀ k, lineBlocks p g k → TB w k 109 ∨ TB w k 5 := by
  obtain ⟨_, A, c, hp, ho, hg⟩ := h
  intro k hk
  rcases hk with rfl | hk
  · exact .inl ⟨_, _, hp⟩
  · exact .inr (owns_tb ho k (by rw [hk, hg]))
/-- Nothing of these types is among the blocks S. -/
def Off (S : Nat → Prop) (w : World) (Ts : List TypeId) : Prop := ∀ k, S k → ∀ T ∈ Ts, ¬ TB w k T
theorem Off.of (h : ∀ k, S k → TB w k T) (hn : T ∉ Ts) : Off S w Ts := fun k hk T' hT' h' => by
  rw [(h k hk).one h'] at hn
  exact hn hT'
theorem Off.of2 (h : ∀ k, S k → TB w k T ∨ TB w k T') (hn : T ∉ Ts) (hn' : T' ∉ Ts) : Off S w Ts := fun k hk T2 hT2 h2 => by
  rcases h k hk with h | h
  · rw [h.one h2] at hn; exact hn hT2
  · rw [h.one h2] at hn'; exact hn' hT2
theorem Arr.off {g : Nat} {l : List Value} (h : Arr T w g l) (hk : Keeps S w w') (ho : Off S w Ts) (hT : T ∈ Ts) : Arr T w' g l := h.keeps hk fun hs => ho g hs T hT h.tb
theorem owns_off {B z n : Nat} {e : TypeId} {v : Value} {l : List Value} (h : w.ownsRow B e z v n l) (hk : Keeps S w w') (ho : Off S w Ts) (hT : e ∈ Ts) : w'.ownsRow B e z v n l := by
  refine ⟨h.1, ?_⟩
  rcases h.2 with h2 | ⟨g, cap, cur, hv, hb, hh, r⟩
  · exact .inl h2
  · refine .inr ⟨g, cap, cur, hv, hb, ?_, r⟩
    rw [hk.block g (Array.getElem?_eq_some_iff.1 hh).1 (fun hs => ho g hs e hT ⟨_, _, hh⟩)]
    exact hh
/-- The types of a queue's blocks. -/
def tQ : List TypeId := [90, 50, 109, 5]
theorem LineAt.off {p : Nat} {g : Option Nat} {l : List UInt8} (h : LineAt w p g l) (hk : Keeps S w w') (ho : Off S w Ts) (hT : ∀ T ∈ tQ, T ∈ Ts) : LineAt w' p g l := h.keeps hk fun k hkb hs => by
  rcases h.tb k hkb with h1 | h1
  · exact ho k hs _ (hT _ (by simp [tQ])) h1
  · exact ho k hs _ (hT _ (by simp [tQ])) h1
theorem QAt.off {B : Nat} {q c : Nat} {A : Option Addr} {xs : List (Nat × Option Nat)} {ls : List (List UInt8)} (h : QAt B w q A c xs ls) (hk : Keeps S w w') (ho : Off S w Ts) (hT : ∀ T ∈ tQ, T ∈ Ts) : QAt B w' q A c xs ls :=
  ⟨h.head.keeps hk (fun hs => ho q hs _ (hT _ (by simp [tQ])) h.head.tb), h.base, owns_off h.row hk ho (hT _ (by simp [tQ])), h.len, fun i hi => (h.line i hi).off hk ho hT, h.lbase, h.apart⟩
end
/-- One step of a core: what it may change, where its new blocks lie. -/
structure Stp (w w' : World) (x : Nat) (p p' : CP) : Prop where
  keeps : Keeps (cBlocks x p) w w'
  new : ∀ k, cBlocks x p' k → cBlocks x p k ∨ w.heap.size ≤ k
section
variable {B : Nat} {w w' w1 w2 : World} {x : Nat} {p p1 p2 : CP} {s : Co}
theorem Stp.refl (w : World) (x : Nat) (p : CP) : Stp w w x p p := ⟨Keeps.refl _ _, fun k h => .inl h⟩
theorem Stp.of_below (h : Below w.heap.size w w') : Stp w w' x p p := ⟨Keeps.of_below h, fun k h => .inl h⟩
theorem Stp.trans (h : Stp w w1 x p p1) (h2 : Stp w1 w2 x p1 p2) : Stp w w2 x p p2 := by
  refine ⟨h.keeps.trans h2.keeps fun k hk hb => ?_, fun k hk => ?_⟩
  · rcases h.new k hb with h' | h'
    · exact h'
    · omega
  · rcases h2.new k hk with h' | h'
    · exact h.new k h'
    · exact .inr (Nat.le_trans h.keeps.size h')
theorem CAt.blocks (h : CAt B w x p s) : ∀ k, cBlocks x p k → B ≤ k ∧ k < w.heap.size := by
  intro k hk
  rcases hk with rfl | rfl | hk | ⟨i, hi, hk⟩ | rfl | hk | hk
  · exact ⟨h.base, h.head.lt⟩
  · exact ⟨h.q.base, h.q.head.lt⟩
  · exact h.q.row.blk k hk
  · have hb := h.q.lbase i hi
    have hl := (h.q.line i hi).lt
    rcases hk with rfl | hk
    · exact ⟨hb.1, hl.1⟩
    · exact ⟨hb.2 k hk.symm, hl.2 k hk⟩
  · exact World.ownsRow.lt h.peers _ rfl
  · exact h.marks.blk k hk
  · exact h.events.blk k hk
theorem Stp.below (h : Stp w w' x p p1) (hc : CAt B w x p s) (hB : B ≤ w.heap.size) : Below B w w' := h.keeps.below hB fun k hk hb => by have := (hc.blocks k hb).1; omega
end
/-- Rows of one length, laid behind one another. -/
theorem flat_get {α : Type} {f : α → List Value} {m : Nat} (hf : ∀ a, (f a).length = m) : ∀ (l : List α) (i j : Nat) (hi : i < l.length), j < m → (l.flatMap f)[i * m + j]? = (f l[i])[j]?
  | a :: l, 0, j, _, hj => by
    rw [List.flatMap_cons, Nat.zero_mul, Nat.zero_add, List.getElem?_append_left (by rw [hf]; exact hj)]; rfl
  | a :: l, i + 1, j, hi, hj => by
    have := flat_get hf l i j (by simpa using hi) hj
    rw [List.flatMap_cons, List.getElem?_append_right (by rw [hf, Nat.succ_mul]; omega), hf, show (i + 1) * m + j - m = i * m + j by rw [Nat.succ_mul]; omega, this]
    rfl
theorem flat_set {α : Type} {f : α → List Value} {m : Nat} (hf : ∀ a, (f a).length = m) : ∀ (l : List α) (i j : Nat) (v : Value) (b : α) (hi : i < l.length), j < m → f b = (f l[i]).set j v → (l.flatMap f).set (i * m + j) v = (l.set i b).flatMap f
  | a :: l, 0, j, v, b, _, hj, hb => by
    rw [List.flatMap_cons, Nat.zero_mul, Nat.zero_add, List.set_append_left _ _ (by rw [hf]; exact hj), List.set_cons_zero, List.flatMap_cons, hb]; rfl
  | a :: l, i + 1, j, v, b, hi, hj, hb => by
    have := flat_set hf l i j v b (by simpa using hi) hj (by simpa using hb)
    rw [List.flatMap_cons, List.set_append_right _ _ (by rw [hf, Nat.succ_mul]; omega), hf, show (i + 1) * m + j - m = i * m + j by rw [Nat.succ_mul]; omega, this, List.set_cons_succ, List.flatMap_cons]
theorem flat_len {α : Type} {f : α → List Value} {m : Nat} (hf : ∀ a, (f a).length = m) (l : List α) : (l.flatMap f).length = l.length * m := by
  induction l with
  | nil => simp
  | cons a l ih => rw [List.flatMap_cons, List.length_append, ih, hf, List.length_cons, Nat.succ_mul]; omega
theorem Peer.row_len (p : Peer) : p.row.length = 5 := rfl
section
variable {B : Nat} {w : World} {x : Nat} {p : CP} {s : Co}
theorem CAt.pcell (h : CAt B w x p s) {i j : Nat} (hi : i < s.peers.length) (hj : j < 5) {v : Value} (hv : s.peers[i].row[j]? = some v) : w.cell? ⟨p.g, i * 5 + j, none⟩ = some v := by
  have hlt : i * 5 + j < s.peers.length * 5 := by omega
  rw [World.ownsRow.cellAt h.peers (i * 5 + j) hlt, flat_get Peer.row_len _ i j hi hj, hv]
theorem CAt.pfrozen (h : CAt B w x p s) (j : Nat) : w.frozen? ⟨p.g, j, none⟩ = false := World.ownsRow.frozenAt h.peers j
theorem CAt.hfrozen (h : CAt B w x p s) (j : Nat) : w.frozen? ⟨x, j, none⟩ = false := h.head.frozen j
end
theorem below_cell {w w' : World} {a : Addr} {u : Value} (h : Below w.heap.size w w') (hc : w.cell? a = some u) : w'.cell? a = some u := (h.cell (World.block_lt_of_cell? w _ hc)).trans hc
theorem keeps_cell' {S : Nat → Prop} {w w' : World} {a : Addr} {u : Value} (h : Keeps S w w') (hc : w.cell? a = some u) (hn : ¬ S a.block) : w'.cell? a = some u := (World.cell?_of_block (h.block a.block (World.block_lt_of_cell? w _ hc) hn)).trans hc
theorem mine_next {A A' : Option Addr} {n c n' c' N k : Nat} (h : (Value.slice A' n' c').ownBlock = (Value.slice A n c).ownBlock ∨ (Value.slice A' n' c').ownBlock = some N) (hk : Mine A' n' c' k) : Mine A n c k ∨ N ≤ k := by
  have hk' : some k = (Value.slice A' n' c').ownBlock := hk
  rcases h with h | h
  · rw [h] at hk'; exact .inl hk'
  · rw [h] at hk'; injection hk' with hk'; exact .inr (by omega)
section
variable {B : Nat} {w w' : World} {x : Nat} {p : CP} {s : Co}
/-- The head alone is written. -/
theorem CAt.setHead (h : CAt B w x p s) (j : Nat) (v : Value) (s' : Co) (hr : coRow s' p = (coRow s p).set j v) (h1 : s'.ls = s.ls) (h2 : s'.peers = s.peers) (h3 : s'.marks = s.marks) (h4 : s'.events = s.events) (hok : s'.Ok) :
    CAt B (w.setCell ⟨x, j, none⟩ v) x p s' ∧ Stp w (w.setCell ⟨x, j, none⟩ v) x p p := by
  have ks := Keeps.setCell w ⟨x, j, none⟩ v
  have off : Off (fun k => k = (⟨x, j, none⟩ : Addr).block) w (tQ ++ [86, 39, 114]) := Off.of (T := 84) (fun k hk => by rw [hk]; exact h.head.tb) (by decide)
  refine ⟨⟨?_, h.base, ?_, by rw [h2]; exact h.nx, ?_, ?_, ?_, hok⟩, ⟨ks.mono fun k _ hk => .inl hk, fun k hk => .inl hk⟩⟩
  · rw [hr]; exact h.head.set j v
  · rw [h1]; exact h.q.off ks off (by decide)
  · rw [h2]; exact owns_off h.peers ks off (by decide)
  · rw [h3]; exact owns_off h.marks ks off (by decide)
  · rw [h4]; exact owns_off h.events ks off (by decide)
/-- The row of events has grown. -/
theorem CAt.setEvents (h : CAt B w x p s) {A5 : Option Addr} {c5 : Nat} {e : Ev} (k5 : Keeps (Mine p.eA p.en p.ec) w w') (own5 : OwnV 114 w' B A5 (p.en + 1) c5 (s.events.map Ev.val ++ [e.val]))
    (hk5 : (Value.slice A5 (p.en + 1) c5).ownBlock = (Value.slice p.eA p.en p.ec).ownBlock ∨ (Value.slice A5 (p.en + 1) c5).ownBlock = some w.heap.size) (hok : ({ s with events := s.events ++ [e] } : Co).Ok) :
    Arr 84 w' x (coRow s p) ∧ CAt B (w'.setCell ⟨x, 13, none⟩ (.slice A5 (p.en + 1) c5)) x { p with eA := A5, en := p.en + 1, ec := c5 } { s with events := s.events ++ [e] } ∧ Stp w (w'.setCell ⟨x, 13, none⟩ (.slice A5 (p.en + 1) c5)) x p { p with eA := A5, en := p.en + 1, ec := c5 } := by
  have off : Off (Mine p.eA p.en p.ec) w (tQ ++ [84, 86, 39]) := Off.of (T := 114) (owns_tb h.events) (by decide)
  have hh := h.head.off k5 off (by decide)
  have ks := Keeps.setCell w' ⟨x, 13, none⟩ (.slice A5 (p.en + 1) c5)
  have off2 : Off (fun k => k = (⟨x, 13, none⟩ : Addr).block) w' (tQ ++ [86, 39, 114]) := Off.of (T := 84) (fun k hk => by rw [hk]; exact hh.tb) (by decide)
  refine ⟨hh, ⟨?_, h.base, (h.q.off k5 off (by decide)).off ks off2 (by decide), h.nx, owns_off (owns_off h.peers k5 off (by decide)) ks off2 (by decide), owns_off (owns_off h.marks k5 off (by decide)) ks off2 (by decide), ?_, hok⟩, ⟨?_, ?_⟩⟩
  · exact hh.set 13 _
  · show OwnV _ _ _ _ _ _ _
    rw [List.map_append]
    exact owns_off own5 ks off2 (by decide)
  · refine (k5.mono fun k _ hk => .inr (.inr (.inr (.inr (.inr (.inr hk)))))).trans ks fun k _ hk => .inl hk
  · intro k hk
    rcases hk with hk | hk | hk | hk | hk | hk | hk
    · exact .inl (.inl hk)
    · exact .inl (.inr (.inl hk))
    · exact .inl (.inr (.inr (.inl hk)))
    · exact .inl (.inr (.inr (.inr (.inl hk))))
    · exact .inl (.inr (.inr (.inr (.inr (.inl hk)))))
    · exact .inl (.inr (.inr (.inr (.inr (.inr (.inl hk))))))
    · rcases mine_next hk5 hk with h' | h'
      · exact .inl (.inr (.inr (.inr (.inr (.inr (.inr h'))))))
      · exact .inr h'
/-- The row of marks has grown. -/
theorem CAt.setMarks (h : CAt B w x p s) {A5 : Option Addr} {c5 : Nat} {m : Int} (k5 : Keeps (Mine p.mA p.mn p.mc) w w') (own5 : OwnV 39 w' B A5 (p.mn + 1) c5 (s.marks.map mv ++ [mv m]))
    (hk5 : (Value.slice A5 (p.mn + 1) c5).ownBlock = (Value.slice p.mA p.mn p.mc).ownBlock ∨ (Value.slice A5 (p.mn + 1) c5).ownBlock = some w.heap.size) (hok : ({ s with marks := s.marks ++ [m] } : Co).Ok) :
    Arr 84 w' x (coRow s p) ∧ CAt B (w'.setCell ⟨x, 12, none⟩ (.slice A5 (p.mn + 1) c5)) x { p with mA := A5, mn := p.mn + 1, mc := c5 } { s with marks := s.marks ++ [m] } ∧ Stp w (w'.setCell ⟨x, 12, none⟩ (.slice A5 (p.mn + 1) c5)) x p { p with mA := A5, mn := p.mn + 1, mc := c5 } := by
  have off : Off (Mine p.mA p.mn p.mc) w (tQ ++ [84, 86, 114]) := Off.of (T := 39) (owns_tb h.marks) (by decide)
  have hh := h.head.off k5 off (by decide)
  have ks := Keeps.setCell w' ⟨x, 12, none⟩ (.slice A5 (p.mn + 1) c5)
  have off2 : Off (fun k => k = (⟨x, 12, none⟩ : Addr).block) w' (tQ ++ [86, 39, 114]) := Off.of (T := 84) (fun k hk => by rw [hk]; exact hh.tb) (by decide)
  refine ⟨hh, ⟨?_, h.base, (h.q.off k5 off (by decide)).off ks off2 (by decide), h.nx, owns_off (owns_off h.peers k5 off (by decide)) ks off2 (by decide), ?_, owns_off (owns_off h.events k5 off (by decide)) ks off2 (by decide), hok⟩, ⟨?_, ?_⟩⟩
  · exact hh.set 12 _
  · show OwnV _ _ _ _ _ _ _
    rw [List.map_append]
    exact owns_off own5 ks off2 (by decide)
  · refine (k5.mono fun k _ hk => .inr (.inr (.inr (.inr (.inr (.inl hk)))))).trans ks fun k _ hk => .inl hk
  · intro k hk
    rcases hk with hk | hk | hk | hk | hk | hk | hk
    · exact .inl (.inl hk)
    · exact .inl (.inr (.inl hk))
    · exact .inl (.inr (.inr (.inl hk)))
    · exact .inl (.inr (.inr (.inr (.inl hk))))
    · exact .inl (.inr (.inr (.inr (.inr (.inl hk)))))
    · rcases mine_next hk5 hk with h' | h'
      · exact .inl (.inr (.inr (.inr (.inr (.inr (.inl h'))))))
      · exact .inr h'
    · exact .inl (.inr (.inr (.inr (.inr (.inr (.inr hk))))))
/-- One cell of a peer is written. -/
theorem CAt.setPeer (h : CAt B w x p s) (i j : Nat) (v : Value) (b : Peer) (hi : i < s.peers.length) (hj : j < 5) (hb : b.row = (s.peers[i].row).set j v) (hok : ({ s with peers := s.peers.set i b } : Co).Ok) :
    CAt B (w.setCell ⟨p.g, i * 5 + j, none⟩ v) x p { s with peers := s.peers.set i b } ∧ Stp w (w.setCell ⟨p.g, i * 5 + j, none⟩ v) x p p := by
  have ks := Keeps.setCell w ⟨p.g, i * 5 + j, none⟩ v
  have off : Off (fun k => k = (⟨p.g, i * 5 + j, none⟩ : Addr).block) w (tQ ++ [84, 39, 114]) := Off.of (T := 86) (fun k hk => by rw [hk]; exact owns_tb h.peers _ rfl) (by decide)
  refine ⟨⟨?_, h.base, h.q.off ks off (by decide), ?_, ?_, owns_off h.marks ks off (by decide), owns_off h.events ks off (by decide), hok⟩, ⟨ks.mono fun k _ hk => .inr (.inr (.inr (.inr (.inl hk)))), fun k hk => .inl hk⟩⟩
  · have := h.head.off ks off (by decide)
    have e : coRow { s with peers := s.peers.set i b } p = coRow s p := by unfold coRow; rw [List.length_set]
    rw [e]; exact this
  · rw [List.length_set]; exact h.nx
  · have h1 := (World.ownsRow.stored h.peers (i * 5 + j) v).1
    rw [flat_set Peer.row_len s.peers i j v b hi hj hb] at h1
    rw [List.length_set]; exact h1
end
end Go.Proofs.Ytbcgffgiifminaa
namespace Go.Proofs.Ytbcgffgiifminaa
open Go.RowKit
set_option maxRecDepth 10000
set_option linter.unusedVariables false
theorem info_ev : (Try.prog.info? 114).map (·.size) = some 1 := by kernel_rfl
theorem info_raw : (Try.prog.info? 59).map (·.size) = some 3 := by kernel_rfl
/-- An event as it is. -/
def Ev.kind : Ev → Int
  | .quit _ => 1
  | .late _ => 2
  | .apart _ _ => 3
def Ev.player : Ev → Int
  | .quit p => p
  | .late p => p
  | .apart p _ => p
def Ev.frame : Ev → Int
  | .quit _ => 0
  | .late _ => 0
  | .apart _ f => f
def Ev.row (e : Ev) : List Value := [.int .i64 e.kind, .int .i64 e.player, .int .i64 e.frame]
structure Ev.Fine (e : Ev) : Prop where
  player : 0 ≤ e.player ∧ e.player < 8
  frame : 0 ≤ e.frame ∧ e.frame ≤ 1000
theorem results_Ev2 {fn : Func} {p q : Tmp} (h : fn.results = #[.cell p 114, .tmp q]) (tmps : Array Value) (w : World) (g : Nat) (hp : tmps.getD p undef = .pointer (some ⟨g, 0, none⟩)) (u : Value) (hv : tmps.getD q undef = u) (v : Value) (hg : Arr 114 w g [v]) :
    (results fn tmps).run Try.prog w = .ok (.tuple #[.agg #[v], u]) w := by
  have hp' : tmps[p]?.getD undef = .pointer (some ⟨g, 0, none⟩) := by simpa using hp
  have hv' : tmps[q]?.getD undef = u := by simpa using hv
  have hl := run_loadVar_row (P := Try.prog) w g 114 114 #[v] (0, 0) _ hg Try.underlying114 rfl info_ev
  simp [results, h, hp', hv', asAddr, hl]
theorem results_Raw {fn : Func} {p : Tmp} (h : fn.results = #[.cell p 59]) (tmps : Array Value) (w : World) (g : Nat) (hp : tmps.getD p undef = .pointer (some ⟨g, 0, none⟩)) (l : List Value) (hl : l.length = 3) (hg : Arr 59 w g l) :
    (results fn tmps).run Try.prog w = .ok (.agg l.toArray) w :=
  results_cell_row h tmps w g 59 l.toArray (0, 0) _ hp hg Try.underlying59 rfl (by rw [info_raw]; simp [hl])
set_option maxHeartbeats 2000000 in
theorem event_Of (e : Ev) (he : e.Fine) (w : World) : Calls Try.prog 82 #[.agg e.row.toArray] w fun r w' => r = .returned (.tuple #[.agg #[e.val], .bool true]) ∧ Below w.heap.size w w' := by
  obtain ⟨⟨p1, p2⟩, ⟨f1, f2⟩⟩ := he
  cases e with
  | quit p =>
    simp only [Ev.player, Ev.frame] at p1 p2 f1 f2
    show Calls _ _ #[.agg #[.int .i64 1, .int .i64 p, .int .i64 0]] _ _
    have d1 : decide (p < 0) = false := decide_eq_false (by omega)
    have d2 : decide (p ≥ 8) = false := decide_eq_false (by omega)
    go_enter Try.func82, Try.ntmps82
    go_wp2_with fail
    have a2 := Arr.new 114 (World.alloc w (.cells #[.int .i64 1, .int .i64 p, .int .i64 0] 59)) #[Ev.val (.quit p)] _ rfl
    rw [World.size_alloc] at a2
    exact bodyPost_ret (results_Ev2 (fn := Try.f82) rfl _ _ _ rfl _ rfl _ a2) rfl ⟨rfl, Below_step (Below_new _ _) (Below_new _ _)⟩
  | late p =>
    simp only [Ev.player, Ev.frame] at p1 p2 f1 f2
    show Calls _ _ #[.agg #[.int .i64 2, .int .i64 p, .int .i64 0]] _ _
    have d1 : decide (p < 0) = false := decide_eq_false (by omega)
    have d2 : decide (p ≥ 8) = false := decide_eq_false (by omega)
    go_enter Try.func82, Try.ntmps82
    go_wp2_with fail
    have a2 := Arr.new 114 (World.alloc w (.cells #[.int .i64 2, .int .i64 p, .int .i64 0] 59)) #[Ev.val (.late p)] _ rfl
    rw [World.size_alloc] at a2
    exact bodyPost_ret (results_Ev2 (fn := Try.f82) rfl _ _ _ rfl _ rfl _ a2) rfl ⟨rfl, Below_step (Below_new _ _) (Below_new _ _)⟩
  | apart p f =>
    simp only [Ev.player, Ev.frame] at p1 p2 f1 f2
    show Calls _ _ #[.agg #[.int .i64 3, .int .i64 p, .int .i64 f]] _ _
    have d1 : decide (p < 0) = false := decide_eq_false (by omega)
    have d2 : decide (p ≥ 8) = false := decide_eq_false (by omega)
    have d3 : decide (f < 0) = false := decide_eq_false (by omega)
    have d4 : decide (f > 1000) = false := decide_eq_false (by omega)
    by_cases hf : f > 0
    · have d5 : decide (f > 0) = true := decide_eq_true hf
      clear hf
      go_enter Try.func82, Try.ntmps82
      go_wp2_with fail
      have a2 := Arr.new 114 (World.alloc w (.cells #[.int .i64 3, .int .i64 p, .int .i64 f] 59)) #[Ev.val (.apart p f)] _ rfl
      rw [World.size_alloc] at a2
      exact bodyPost_ret (results_Ev2 (fn := Try.f82) rfl _ _ _ rfl _ rfl _ a2) rfl ⟨rfl, Below_step (Below_new _ _) (Below_new _ _)⟩
    · have d5 : decide (f > 0) = false := decide_eq_false hf
      clear hf
      go_enter Try.func82, Try.ntmps82
      go_wp2_with fail
      have a2 := Arr.new 114 (World.alloc w (.cells #[.int .i64 3, .int .i64 p, .int .i64 f] 59)) #[Ev.val (.apart p f)] _ rfl
      rw [World.size_alloc] at a2
      exact bodyPost_ret (results_Ev2 (fn := Try.f82) rfl _ _ _ rfl _ rfl _ a2) rfl ⟨rfl, Below_step (Below_new _ _) (Below_new _ _)⟩
theorem run_assert_same {t xT : TypeId} {v : Value} {fs : Array Field} (hu : Try.prog.underlying t = some (.struct fs)) (w : World) : (Instr.typeAssert (.iface t v) xT t true).run Try.prog w = .ok (.tuple #[v, .bool true]) w := by
  simp [Instr.typeAssert, Sem.run_bind, run_underlying hu]
theorem run_assert_other {t t' xT : TypeId} {v z : Value} {fs : Array Field} (hu : Try.prog.underlying t' = some (.struct fs)) (hne : t ≠ t') (hz : (Try.prog.info? t').map (·.zero) = some (some z)) (w : World) : (Instr.typeAssert (.iface t v) xT t' true).run Try.prog w = .ok (.tuple #[z, .bool false]) w := by
  cases hq : Try.prog.info? t' with
  | none => simp [hq] at hz
  | some i =>
    have hs : i.zero = some z := by simpa [hq] using hz
    simp [Instr.typeAssert, Sem.run_bind, run_underlying hu, hne, zeroValue, typeInfo, hq, hs]
set_option maxHeartbeats 2000000 in
theorem event_Raw (e : Ev) (w : World) : Calls Try.prog 64 #[.agg #[e.val]] w fun r w' => r = .returned (.agg e.row.toArray) ∧ Below w.heap.size w w' := by
  cases e with
  | quit p =>
    show Calls _ _ #[.agg #[.iface 143 (.agg #[.int .i64 p])]] _ _
    go_enter Try.func64, Try.ntmps64
    go_wp2_with fail
    rw [run_assert_same Try.underlying143]
    go_wp2_with fail
    have a2 := Arr.new 59 (World.alloc w (.cells #[.iface 143 (.agg #[.int .i64 p])] 114)) #[.int .i64 1, .int .i64 p, .int .i64 0] _ rfl
    rw [World.size_alloc] at a2
    have b3 := Below_new (World.alloc (World.alloc w (.cells #[.iface 143 (.agg #[.int .i64 p])] 114)) (.cells #[.int .i64 1, .int .i64 p, .int .i64 0] 59)) (.cells #[.int .i64 p] 143)
    exact bodyPost_ret (results_Raw (fn := Try.f64) rfl _ _ _ rfl _ rfl (a2.belowN b3)) rfl ⟨rfl, Below_step (Below_step (Below_new _ _) (Below_new _ _)) b3⟩
  | late p =>
    show Calls _ _ #[.agg #[.iface 144 (.agg #[.int .i64 p])]] _ _
    go_enter Try.func64, Try.ntmps64
    go_wp2_with fail
    rw [run_assert_other (z := .agg #[.int .i64 0]) Try.underlying143 (by decide) (by kernel_rfl)]
    go_wp2_with fail
    rw [run_assert_same Try.underlying144]
    go_wp2_with fail
    have a2 := Arr.new 59 (World.alloc w (.cells #[.iface 144 (.agg #[.int .i64 p])] 114)) #[.int .i64 2, .int .i64 p, .int .i64 0] _ rfl
    rw [World.size_alloc] at a2
    have b3 := Below_new (World.alloc (World.alloc w (.cells #[.iface 144 (.agg #[.int .i64 p])] 114)) (.cells #[.int .i64 2, .int .i64 p, .int .i64 0] 59)) (.cells #[.int .i64 p] 144)
    exact bodyPost_ret (results_Raw (fn := Try.f64) rfl _ _ _ rfl _ rfl (a2.belowN b3)) rfl ⟨rfl, Below_step (Below_step (Below_new _ _) (Below_new _ _)) b3⟩
  | apart p f =>
    show Calls _ _ #[.agg #[.iface 146 (.agg #[.int .i64 p, .int .i64 f])]] _ _
    go_enter Try.func64, Try.ntmps64
    go_wp2_with fail
    rw [run_assert_other (z := .agg #[.int .i64 0]) Try.underlying143 (by decide) (by kernel_rfl)]
    go_wp2_with fail
    rw [run_assert_other (z := .agg #[.int .i64 0]) Try.underlying144 (by decide) (by kernel_rfl)]
    go_wp2_with fail
    rw [run_assert_same Try.underlying146]
    go_wp2_with fail
    have a2 := Arr.new 59 (World.alloc w (.cells #[.iface 146 (.agg #[.int .i64 p, .int .i64 f])] 114)) #[.int .i64 3, .int .i64 p, .int .i64 f] _ rfl
    rw [World.size_alloc] at a2
    have b3 := Below_new (World.alloc (World.alloc w (.cells #[.iface 146 (.agg #[.int .i64 p, .int .i64 f])] 114)) (.cells #[.int .i64 3, .int .i64 p, .int .i64 f] 59)) (.cells #[.int .i64 p, .int .i64 f] 146)
    exact bodyPost_ret (results_Raw (fn := Try.f64) rfl _ _ _ rfl _ rfl (a2.belowN b3)) rfl ⟨rfl, Below_step (Below_step (Below_new _ _) (Below_new _ _)) b3⟩
theorem coRow_ev (s : Co) (p : CP) : (coRow s p)[13]? = some (.slice p.eA p.en p.ec) := rfl
set_option maxHeartbeats 2000000 in
theorem core_note {B : Nat} {w : World} {x : Nat} {p : CP} {s : Co} (h : CAt B w x p s) (hB : B ≤ w.heap.size) (e : Ev) (he : e.Fine) (hen : p.en < 1000000000) :
    Calls Try.prog 52 #[.pointer (some ⟨x, 0, none⟩), .agg e.row.toArray] w fun r w' => r = .returned (.tuple #[]) ∧ ∃ p', CAt B w' x p' { s with events := s.events ++ [e] } ∧ Stp w w' x p p' := by
  have H := hide h
  have HE := hide he
  have HOK : Hid (({ s with events := s.events ++ [e] } : Co).Ok) := ⟨h.ok.cfg, h.ok.np, h.ok.nl, h.ok.short, h.ok.head, h.ok.has, h.ok.heard, h.ok.frame, h.ok.sum, h.ok.marks, h.ok.mark, h.ok.now, by show (s.events ++ [e]).length ≤ _; rw [List.length_append, h.en]; simp; omega⟩
  rw [show Value.agg e.row.toArray = .agg #[.int .i64 e.kind, .int .i64 e.player, .int .i64 e.frame] from rfl]
  obtain ⟨k0, hk0⟩ : ∃ k, k = e.kind := ⟨_, rfl⟩
  obtain ⟨k1, hk1⟩ : ∃ k, k = e.player := ⟨_, rfl⟩
  obtain ⟨k2, hk2⟩ : ∃ k, k = e.frame := ⟨_, rfl⟩
  have HEV : Hid (Value.agg #[.int .i64 k0, .int .i64 k1, .int .i64 k2] = .agg e.row.toArray) := by show _ = _; rw [hk0, hk1, hk2]; rfl
  rw [← hk0, ← hk1, ← hk2]
  clear h he hk0 hk1 hk2
  go_enter Try.func52, Try.ntmps52
  have HB := hide hB
  go_wp2_with fail
  rw [HEV.out]
  refine Calls.mono (event_Of e HE.out _) ?_
  rintro r w2 ⟨rfl, hb2⟩
  obtain ⟨v, hv⟩ : ∃ v, v = e.val := ⟨_, rfl⟩
  have hv1 : v.oneCell' = true := by rw [hv]; cases e <;> rfl
  have HV := hide hv
  rw [← hv]
  have H2 := hide (H.out.below (Below_step (Below_new _ _) hb2))
  have HB2 := hide (Below_step (Below_new w (.cells #[.int .i64 k0, .int .i64 k1, .int .i64 k2] 59)) hb2)
  clear hv hb2 H hB
  go_upto_region 3 with (refine wpA_init rfl 114 (.tmp 4) (.tmp 9) rfl [v] rfl rfl 1 info_ev rfl rfl (by simpa using hv1) ?_; intro w3 ha3 hb3 hs3)
  obtain ⟨g4, hg4⟩ : ∃ g, g = w2.heap.size := ⟨_, rfl⟩
  have HGN : Hid (¬ Mine p.eA p.en p.ec g4) := fun hm => by have := (H2.out.events.blk g4 hm).2; omega
  have HGX : Hid (¬ g4 = (⟨x, 13, none⟩ : Addr).block) := fun hm => by have := H2.out.head.lt; simp only at hm; omega
  rw [← hg4] at ha3 ⊢
  have HA3 := hide ha3
  have H3 := hide (H2.out.below hb3)
  have HB3 := hide (Below_step HB2.out hb3)
  have hsw3 := HB3.out.size
  have hB3 : B ≤ w3.heap.size := Nat.le_trans HB.out hsw3
  have cE := H3.out.cell (coRow_ev s p)
  have cV : w3.cell? ⟨g4, 0, none⟩ = some v := HA3.out.cell (j := 0) (by simp)
  have bn := Below_new w3.drew (.cells #[v] 114)
  have H4 := hide (H3.out.drew.below bn)
  have HB4 := hide (Below_step HB3.out.drew bn)
  have cE4 := H4.out.cell (coRow_ev s p)
  have cE4 : (World.alloc w3 (.cells #[v] 114)).cell? ⟨x, 13, none⟩ = some (.slice p.eA p.en p.ec) := cE4
  have cV4 := below_cell bn cV
  have HL4 := hide (Lies.new w3.drew #[v] 114 (0, 0))
  have hB4 : B ≤ (World.alloc w3.drew (.cells #[v] 114)).heap.size := by simp; omega
  clear bn ha3 hb3 hs3 hg4 H2 HB2
  refine wp_region_noPanic ?_
  refine wp_region_held_drew (S := (fun w' => w'.cell? ⟨g4, 0, none⟩ = some v)) (by kernel_rfl) cV (fun hHeld => ?_)
  refine wpAnyH_take (i := 0) (oi := ?_) (v := ?_) ?_ (by kernel_rfl) (by kernel_rfl) (by kernel_rfl) ?_ ?_ (by assumption) ?_
  rotate_left 2
  · (simp only [List.getElem?_toArray, List.getElem?_cons_zero]; rfl)
  · exact fun _ _ _ h => h
  · (refine Or.inl ⟨by rfl, ?_⟩; intro w hSw; (try dsimp only at hSw); go_simp <;> with_reducible rfl)
  try simp only [Act.put, List.setIfInBounds_toArray, List.set_cons_zero, List.set_cons_succ]
  refine wpAnyH_take (i := 1) (oi := ?_) (v := ?_) ?_ (by kernel_rfl) (by kernel_rfl) (by kernel_rfl) ?_ ?_ (by assumption) ?_
  rotate_left 2
  · (simp only [List.getElem?_toArray, List.getElem?_cons_succ, List.getElem?_cons_zero]; rfl)
  · exact fun _ _ _ h => h
  · (refine Or.inl ⟨by rfl, ?_⟩; intro w hSw; (try dsimp only at hSw); go_simp <;> with_reducible rfl)
  try simp only [Act.put, List.setIfInBounds_toArray, List.set_cons_zero, List.set_cons_succ]
  refine wpAnyH_take (i := 2) (oi := ?_) (v := ?_) ?_ (by kernel_rfl) (by kernel_rfl) (by kernel_rfl) ?_ ?_ (by assumption) ?_
  rotate_left 2
  · (simp only [List.getElem?_toArray, List.getElem?_cons_succ, List.getElem?_cons_zero]; rfl)
  · exact fun _ _ _ h => h
  · (refine Or.inl ⟨by rfl, ?_⟩; intro w hSw; (try dsimp only at hSw); go_simp <;> with_reducible rfl)
  try simp only [Act.put, List.setIfInBounds_toArray, List.set_cons_zero, List.set_cons_succ]
  refine wpAnyH_take (i := 3) (oi := ?_) (v := ?_) ?_ (by kernel_rfl) (by kernel_rfl) (by kernel_rfl) ?_ ?_ (by assumption) ?_
  rotate_left 2
  · (simp only [List.getElem?_toArray, List.getElem?_cons_succ, List.getElem?_cons_zero]; rfl)
  · exact fun _ _ _ h => h
  · (refine Or.inl ⟨by rfl, ?_⟩; intro w hSw; (try dsimp only at hSw); go_simp <;> with_reducible rfl)
  try simp only [Act.put, List.setIfInBounds_toArray, List.set_cons_zero, List.set_cons_succ]
  refine wpAnyH_take (i := 5) (oi := ?_) (v := ?_) ?_ (by kernel_rfl) (by kernel_rfl) (by kernel_rfl) ?_ ?_ (by assumption) ?_
  rotate_left 2
  · (simp only [List.getElem?_toArray, List.getElem?_cons_succ, List.getElem?_cons_zero]; rfl)
  · exact fun _ _ _ h => h
  · (refine Or.inl ⟨by rfl, ?_⟩; intro w hSw; (try dsimp only at hSw); go_simp <;> with_reducible rfl)
  try simp only [Act.put, List.setIfInBounds_toArray, List.set_cons_zero, List.set_cons_succ]
  refine wpAnyH_ready (rs := [4, 6]) (by kernel_rfl) (by simp) ?_
  refine AllReadyH.cons (o := ?_) ?_ (fun K hK => ?_) ?_
  rotate_left 1
  · (simp only [List.getElem?_toArray, List.getElem?_cons_succ, List.getElem?_cons_zero]; rfl)
  · go_simp
    skip
    refine hK.out _ _ cV (fun hHeld => ?_)
    clear hK K
    try simp only [Act.put, List.setIfInBounds_toArray, List.set_cons_zero, List.set_cons_succ]
    refine wpAnyH_ready (rs := [6]) (by kernel_rfl) (by simp) ?_
    refine AllReadyH.cons (o := ?_) ?_ (fun K hK => ?_) AllReadyH.nil
    rotate_left 1
    · (simp only [List.getElem?_toArray, List.getElem?_cons_succ, List.getElem?_cons_zero]; rfl)
    go_simp
    refine hK.out _ _ cV4 (fun hHeld => ?_)
    clear hK K
    try simp only [Act.put, List.setIfInBounds_toArray, List.set_cons_zero, List.set_cons_succ]
    refine wpAnyH_ready (rs := [7]) (by kernel_rfl) (by simp) ?_
    refine AllReadyH.cons (o := ?_) ?_ (fun K hK => ?_) AllReadyH.nil
    rotate_left 1
    · (simp only [List.getElem?_toArray, List.getElem?_cons_succ, List.getElem?_cons_zero]; rfl)
    (refine step_appendV elem_events rfl (.tmp 16) (.tmp 18) rfl B p.eA p.en p.ec _ rfl H4.out.events _ _ 1 1 [v] rfl rfl HL4.out (by simpa using hv1) (by omega) (p.en + 1) _ rfl rfl (by omega) (by omega) hB4 ?_; intro A5 c5 w5 own5 k5 hk5)
    rw [HV.out] at own5
    have HC5 := hide (CAt.setEvents H4.out k5 own5 hk5 HOK.out)
    have cV5 := keeps_cell' k5 cV4 HGN.out
    have f5 := HC5.out.1.frozen 13
    have c5' := HC5.out.1.cell (j := 13) (by simp [coRow, Cfg.row])
    refine hK.out _ _ cV5 (fun hHeld => ?_)
    clear hK K
    try simp only [Act.put, List.setIfInBounds_toArray, List.set_cons_zero, List.set_cons_succ]
    refine wpAnyH_take (i := 8) (oi := ?_) (v := ?_) ?_ (by kernel_rfl) (by kernel_rfl) (by kernel_rfl) ?_ ?_ (by assumption) ?_
    rotate_left 2
    · (simp only [List.getElem?_toArray, List.getElem?_cons_succ, List.getElem?_cons_zero]; rfl)
    · exact fun _ _ _ h => h
    · (refine Or.inl ⟨by rfl, ?_⟩; intro w hSw; (try dsimp only at hSw); go_simp <;> with_reducible rfl)
    try simp only [Act.put, List.setIfInBounds_toArray, List.set_cons_zero, List.set_cons_succ]
    refine wpAnyH_take (i := 9) (oi := ?_) (v := ?_) ?_ (by kernel_rfl) (by kernel_rfl) (by kernel_rfl) ?_ ?_ (by assumption) ?_
    rotate_left 2
    · (simp only [List.getElem?_toArray, List.getElem?_cons_succ, List.getElem?_cons_zero]; rfl)
    · exact fun _ _ _ h => h
    · (refine Or.inl ⟨by rfl, ?_⟩; intro w hSw; (try dsimp only at hSw); go_simp <;> with_reducible rfl)
    try simp only [Act.put, List.setIfInBounds_toArray, List.set_cons_zero, List.set_cons_succ]
    refine wpAnyH_ready (rs := [10]) (by kernel_rfl) (by simp) ?_
    refine AllReadyH.cons (o := ?_) ?_ (fun K hK => ?_) AllReadyH.nil
    rotate_left 1
    · (simp only [List.getElem?_toArray, List.getElem?_cons_succ, List.getElem?_cons_zero]; rfl)
    go_simp
    refine hK.out _ _ (keeps_cell' (Keeps.setCell w5 ⟨x, 13, none⟩ _) cV5 HGX.out) (fun hHeld => ?_)
    clear hK K
    try simp only [Act.put]
    refine wpAnyH_done (by kernel_rfl) (NoPanic.normal ?_) _
    go_wp2_with fail
    exact bodyPost_end (v := .tuple #[]) (by simp [results, go_sem]) rfl ⟨rfl, _, HC5.out.2.1, (Stp.of_below HB4.out).trans HC5.out.2.2⟩
  refine AllReadyH.cons (o := ?_) ?_ (fun K hK => ?_) ?_
  rotate_left 1
  · (simp only [List.getElem?_toArray, List.getElem?_cons_succ, List.getElem?_cons_zero]; rfl)
  · go_simp
    skip
    refine hK.out _ _ cV4 (fun hHeld => ?_)
    clear hK K
    try simp only [Act.put, List.setIfInBounds_toArray, List.set_cons_zero, List.set_cons_succ]
    refine wpAnyH_ready (rs := [4]) (by kernel_rfl) (by simp) ?_
    refine AllReadyH.cons (o := ?_) ?_ (fun K hK => ?_) AllReadyH.nil
    rotate_left 1
    · (simp only [List.getElem?_toArray, List.getElem?_cons_succ, List.getElem?_cons_zero]; rfl)
    go_simp
    refine hK.out _ _ cV4 (fun hHeld => ?_)
    clear hK K
    try simp only [Act.put, List.setIfInBounds_toArray, List.set_cons_zero, List.set_cons_succ]
    refine wpAnyH_ready (rs := [7]) (by kernel_rfl) (by simp) ?_
    refine AllReadyH.cons (o := ?_) ?_ (fun K hK => ?_) AllReadyH.nil
    rotate_left 1
    · (simp only [List.getElem?_toArray, List.getElem?_cons_succ, List.getElem?_cons_zero]; rfl)
    (refine step_appendV elem_events rfl (.tmp 16) (.tmp 18) rfl B p.eA p.en p.ec _ rfl H4.out.events _ _ 1 1 [v] rfl rfl HL4.out (by simpa using hv1) (by omega) (p.en + 1) _ rfl rfl (by omega) (by omega) hB4 ?_; intro A5 c5 w5 own5 k5 hk5)
    rw [HV.out] at own5
    have HC5 := hide (CAt.setEvents H4.out k5 own5 hk5 HOK.out)
    have cV5 := keeps_cell' k5 cV4 HGN.out
    have f5 := HC5.out.1.frozen 13
    have c5' := HC5.out.1.cell (j := 13) (by simp [coRow, Cfg.row])
    refine hK.out _ _ cV5 (fun hHeld => ?_)
    clear hK K
    try simp only [Act.put, List.setIfInBounds_toArray, List.set_cons_zero, List.set_cons_succ]
    refine wpAnyH_take (i := 8) (oi := ?_) (v := ?_) ?_ (by kernel_rfl) (by kernel_rfl) (by kernel_rfl) ?_ ?_ (by assumption) ?_
    rotate_left 2
    · (simp only [List.getElem?_toArray, List.getElem?_cons_succ, List.getElem?_cons_zero]; rfl)
    · exact fun _ _ _ h => h
    · (refine Or.inl ⟨by rfl, ?_⟩; intro w hSw; (try dsimp only at hSw); go_simp <;> with_reducible rfl)
    try simp only [Act.put, List.setIfInBounds_toArray, List.set_cons_zero, List.set_cons_succ]
    refine wpAnyH_take (i := 9) (oi := ?_) (v := ?_) ?_ (by kernel_rfl) (by kernel_rfl) (by kernel_rfl) ?_ ?_ (by assumption) ?_
    rotate_left 2
    · (simp only [List.getElem?_toArray, List.getElem?_cons_succ, List.getElem?_cons_zero]; rfl)
    · exact fun _ _ _ h => h
    · (refine Or.inl ⟨by rfl, ?_⟩; intro w hSw; (try dsimp only at hSw); go_simp <;> with_reducible rfl)
    try simp only [Act.put, List.setIfInBounds_toArray, List.set_cons_zero, List.set_cons_succ]
    refine wpAnyH_ready (rs := [10]) (by kernel_rfl) (by simp) ?_
    refine AllReadyH.cons (o := ?_) ?_ (fun K hK => ?_) AllReadyH.nil
    rotate_left 1
    · (simp only [List.getElem?_toArray, List.getElem?_cons_succ, List.getElem?_cons_zero]; rfl)
    go_simp
    refine hK.out _ _ (keeps_cell' (Keeps.setCell w5 ⟨x, 13, none⟩ _) cV5 HGX.out) (fun hHeld => ?_)
    clear hK K
    try simp only [Act.put]
    refine wpAnyH_done (by kernel_rfl) (NoPanic.normal ?_) _
    go_wp2_with fail
    exact bodyPost_end (v := .tuple #[]) (by simp [results, go_sem]) rfl ⟨rfl, _, HC5.out.2.1, (Stp.of_below HB4.out).trans HC5.out.2.2⟩
  exact AllReadyH.nil
end Go.Proofs.Ytbcgffgiifminaa
