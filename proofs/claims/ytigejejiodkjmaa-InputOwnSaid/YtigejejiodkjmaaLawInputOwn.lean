/-
  InputOwn: the walk.
-/
import Derived.Test.YtigejejiodkjmaaLaw13
import Derived.Test.YtigejejiodkjmaaShort
namespace Go.Proofs.Ytigejejiodkjmaa
open Go.RowKit
set_option linter.unusedVariables false
theorem u8_succ (c : UInt8) : ((c.toNat : Int) + 1) % 256 = ((c + 1).toNat : Int) := by
  rw [UInt8.toNat_add]; simp
theorem u8_pred (c : UInt8) : ((c.toNat : Int) - 1) % 256 = ((c - 1).toNat : Int) := by
  have := c.toNat_lt
  rw [UInt8.toNat_sub]; simp; omega
set_option maxHeartbeats 2000000 in
set_option maxRecDepth 10000 in
theorem law_InputOwn (A : Option Addr) (n c : Nat) (b : List UInt8) (w : World) (hA : LiesB w w.heap.size A n b) (hc : n ≤ c) (_ : c ≤ maxLen) :
    Calls Try.prog 4 #[.slice A n c] w fun e w' => e = .returned (.bool true) ∧ Below w.heap.size w w' := by
  obtain ⟨m, hm⟩ : ∃ m, m = min 40 n := ⟨_, rfl⟩
  obtain ⟨b', hb'⟩ : ∃ l, l = b.take 40 := ⟨_, rfl⟩
  have hl1 : m ≤ 40 := by omega
  have hb0 := hA.take 40
  rw [← hm, ← hb'] at hb0
  have Hm := hide hm
  clear hA hb' hm
  go_enter Try.func4, Try.ntmps4
  go_wp2_with fail
  refine Calls.mono (begun13 _) ?_
  rintro e w1 ⟨rfl, hb1⟩
  have Hb0 := hide hb0
  have Hl := hide hb0.len
  have L1 := hb0.below hb1
  clear hb0
  go_wp2_with fail
  refine Calls.mono (law_Short _ _ _ _ 40 _ hc (by omega) (by omega)) ?_
  rintro e w2 ⟨rfl, rfl⟩
  rw [← Hm.out]
  go_wp2_with (at_builtin; refine wpB_append rfl (.const (.slice none 0 0)) (.tmp 15) rfl w.heap.size none 0 0 [] rfl (OwnB.nil _ _) w.heap.size A m c _ rfl L1 m _ (by omega) (List.nil_append _) (by omega) hb1.size ?_; intro A2 c2 w2 own2 hb2 hg2)
  rw [run_stringB own2.lies]
  have HB2 := hide (hb1.trans hb2)
  have Own2 := hide own2
  clear own2 hb2 hb1 hg2 L1
  go_wp2_with fail
  refine Calls.mono (input_New_v _ 0 _ rfl) ?_
  rintro e w3 ⟨p, g, rfl, k1, k2, k3, k4⟩
  have M1 := hide (MyLine.new (Below.refl w2.heap.size w2) k1 k2 k3 k4)
  clear k1 k2 k3 k4
  have L2 := hide (Own2.out.lies.below M1.out.2.1)
  go_wp2_with fail
  refine Calls.mono (line_Put_v p g [] 0 A2 m c2 b' b' m 0 _ M1.out.1 (L2.out.more M1.out.2.1.size) (M1.out.dis L2.out) (by omega) (by omega) (by omega) (putAdd_zero (by rw [Hl.out]; omega)) (by rw [Hl.out]) (putErr_zero (by rw [Hl.out]; omega))) ?_
  rintro e w4 ⟨rfl, g4, k1, k2, k3⟩
  rw [List.nil_append] at k1
  have M2 := hide (M1.out.step k1 k2 k3)
  clear k1 k2 k3
  have Own4 := hide (Own2.out.below M2.out.2.1)
  go_wp2_with fail
  go_loopw [6] (fun i wr => ∃ k : Nat, k ≤ m ∧ i = .int .i64 k ∧ (∃ l', OwnB wr w.heap.size A2 m c2 l') ∧ LineAt wr p g4 b' ∧ Below w.heap.size w wr ∧ w2.heap.size ≤ wr.heap.size) (fun i _ => m - (intOf i).toNat)
  case atStart => exact ⟨0, Nat.zero_le _, rfl, ⟨_, Own4.out⟩, M2.out.1, Below_step HB2.out M2.out.2.1, M2.out.2.1.size⟩
  case round =>
    obtain ⟨k, hk, rfl, ⟨l', hown⟩, hline, hbw, hsz⟩ := hrel
    have HL := hide hline
    clear hline
    by_cases hlt : k < m
    · obtain ⟨gb, rfl, hg1, hg2⟩ := hown.form (by omega)
      obtain ⟨hl4, hc4⟩ := hown.cell hlt
      have hf4 := hown.frozen k
      have Hst := hide (hown.store k (l'[k] + 1))
      have hgb : gb < w2.heap.size := (World.ownsRow.lt Own2.out gb rfl).2
      have Hn : Hid (∀ i, lineBlocks p g4 i → ¬ i = gb) := by
        intro i hi e
        subst e
        rcases hi with hi | hi
        · have := M2.out.2.2.1; omega
        · have := M2.out.2.2.2 _ hi; omega
      clear hown
      go_wp2
      refine ⟨⟨k + 1, by omega, by go_num, ?_⟩, by simp [intOf]; omega⟩
      rw [u8_succ]
      exact ⟨⟨_, Hst.out⟩, HL.out.keeps (Keeps.setCell _ ⟨gb, k, none⟩ _) Hn.out, hbw.setCell (p := ⟨gb, k, none⟩) hg1 _, by simpa using hsz⟩
    · clear hown
      have hp2 := M2.out.2.2.1
      go_wp2_with fail
      refine Calls.mono (line_All_v p g4 b' m _ HL.out Hl.out) ?_
      rintro e w6 ⟨A6, c6, rfl, own6, hb6⟩
      have HL6 := hide (HL.out.below hb6)
      have HB6 := hide (Below_step hbw hb6)
      have Own6 := hide own6
      have Lt6 := hide (fun g0 h => (World.ownsRow.lt own6 g0 h))
      have Sz6 := hide hb6.size
      clear own6 hb6 hbw
      go_wp2_with fail
      refine Calls.mono (line_From p g4 b' 0 50 _ HL6.out (by omega) (by omega) (by omega) (by omega)) ?_
      rintro e w7 ⟨A7, c7, rfl, own7, hb7⟩
      obtain ⟨y, hy⟩ : ∃ y, y = fromLine b' 0 50 := ⟨_, rfl⟩
      obtain ⟨my, hmy⟩ : ∃ k, k = y.length := ⟨_, rfl⟩
      rw [← hy, ← hmy] at own7
      rw [← hy, ← hmy]
      have hmy2 : my ≤ 1000 := by
        rw [hmy, hy, fromLine]
        split
        · simp
        · rw [List.length_take]; omega
      clear hy hmy
      have HL7 := hide (HL6.out.below hb7)
      have HB7 := hide (Below_step HB6.out hb7)
      have Own6 := hide (Own6.out.below hb7)
      have Own7 := hide own7
      have Sz7 := hide hb7.size
      clear own7 hb7
      have HG := hide HL.out.lt
      go_wp2_with fail
      go_loopw [9] (fun i wq => ∃ j : Nat, j ≤ m ∧ i = .int .i64 j ∧ (∃ l', OwnB wq wr.heap.size A6 m c6 l') ∧ (∃ l', OwnB wq w6.heap.size A7 my c7 l') ∧ LineAt wq p g4 b' ∧ Below w.heap.size w wq) (fun i _ => m - (intOf i).toNat)
      case atStart => exact ⟨0, Nat.zero_le _, rfl, ⟨_, Own6.out⟩, ⟨_, Own7.out⟩, HL7.out, HB7.out⟩
      case round =>
        obtain ⟨j, hj, rfl, ⟨l6, ho6⟩, ⟨l7, ho7⟩, hline, hbq⟩ := hrel
        have HLq := hide hline
        have Ho7 := hide ho7
        clear hline ho7
        by_cases hlt2 : j < m
        · obtain ⟨gb, rfl, hg1, hg2⟩ := ho6.form (by omega)
          obtain ⟨hl4, hc4⟩ := ho6.cell hlt2
          have hf4 := ho6.frozen j
          have Hst := hide (ho6.store j (l6[j] + 1))
          have hgb := (Lt6.out gb rfl).2
          have hwg : w.heap.size ≤ gb := by have := hbq.size; have := HB2.out.size; have := hp2; have := HG.out.1; omega
          have Hn : Hid (∀ i, lineBlocks p g4 i → ¬ i = gb) := by
            intro i hi e
            subst e
            rcases hi with hi | hi
            · have := HG.out.1; omega
            · have := HG.out.2 _ hi; omega
          have Hn7 : Hid (∀ k, some k = (Value.slice A7 my c7).ownBlock → ¬ k = gb) := by
            intro k hk e
            have := (World.ownsRow.lt Ho7.out k hk.symm).1
            omega
          clear ho6
          go_wp2
          refine ⟨⟨j + 1, by omega, by go_num, ?_⟩, by simp [intOf]; omega⟩
          rw [u8_succ]
          exact ⟨⟨_, Hst.out⟩, ⟨_, Ho7.out.keeps (Keeps.setCell _ ⟨gb, j, none⟩ _) Hn7.out⟩, HLq.out.keeps (Keeps.setCell _ ⟨gb, j, none⟩ _) Hn.out, hbq.setCell (p := ⟨gb, j, none⟩) hwg _⟩
        · clear ho6
          go_wp2_with fail
          go_loopw [10] (fun i wz => ∃ t : Nat, t ≤ my ∧ i = .int .i64 t ∧ (∃ l', OwnB wz w6.heap.size A7 my c7 l') ∧ LineAt wz p g4 b' ∧ Below w.heap.size w wz) (fun i _ => my - (intOf i).toNat)
          case atStart => exact ⟨0, Nat.zero_le _, rfl, ⟨_, Ho7.out⟩, HLq.out, hbq⟩
          case round =>
            obtain ⟨t, ht, rfl, ⟨l8, ho8⟩, hline, hbz⟩ := hrel
            have HLz := hide hline
            clear hline
            by_cases hlt3 : t < my
            · obtain ⟨gb, rfl, hg1, hg2⟩ := ho8.form (by omega)
              obtain ⟨hl4, hc4⟩ := ho8.cell hlt3
              have hf4 := ho8.frozen t
              have Hst := hide (ho8.store t (l8[t] - 1))
              have hwg : w.heap.size ≤ gb := by have := HB6.out.size; omega
              have Hn : Hid (∀ i, lineBlocks p g4 i → ¬ i = gb) := by
                intro i hi e
                subst e
                rcases hi with hi | hi
                · have := HG.out.1; have := Sz6.out; omega
                · have := HG.out.2 _ hi; have := Sz6.out; omega
              clear ho8
              go_wp2
              refine ⟨⟨t + 1, by omega, by go_num, ?_⟩, by simp [intOf]; omega⟩
              rw [u8_pred]
              exact ⟨⟨_, Hst.out⟩, HLz.out.keeps (Keeps.setCell _ ⟨gb, t, none⟩ _) Hn.out, hbz.setCell (p := ⟨gb, t, none⟩) hwg _⟩
            · clear ho8
              go_wp2_with fail
              refine Calls.mono (line_All_v p g4 b' m _ HLz.out Hl.out) ?_
              rintro e w9 ⟨A9, c9, rfl, own9, hb9⟩
              go_wp2_with fail
              rw [run_stringB own9.lies]
              go_wp2_with fail
              go_ret
              exact ⟨by simp, Below_step hbz hb9⟩
end Go.Proofs.Ytigejejiodkjmaa
