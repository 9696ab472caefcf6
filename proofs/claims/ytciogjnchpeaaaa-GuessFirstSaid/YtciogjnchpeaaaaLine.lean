/-
  The walks of layer 13, input: a line and what it holds.
-/
import Derived.Test.YtciogjnchpeaaaaKeep
namespace Go.Proofs.Ytciogjnchpeaaaa
open Go.RowKit
set_option maxRecDepth 10000

/-- Block p is a line that holds the presses l; its row is block g (none: no row). -/
def LineAt (w : World) (p : Nat) (g : Option Nat) (l : List UInt8) : Prop :=
  l.length ≤ 1000 ∧ ∃ A c, Blk w p 65 #[.slice A l.length c] ∧ OwnB w 0 A l.length c l ∧ (Value.slice A l.length c).ownBlock = g
/-- The blocks of a line. -/
def lineBlocks (p : Nat) (g : Option Nat) (k : Nat) : Prop := k = p ∨ some k = g

section
variable {S : Nat → Prop} {w w' : World} {p : Nat} {g : Option Nat} {l : List UInt8}
theorem LineAt.keeps (h : LineAt w p g l) (hk : Keeps S w w') (hn : ∀ k, lineBlocks p g k → ¬ S k) : LineAt w' p g l := by
  obtain ⟨hl, A, c, hb, ho, hg⟩ := h
  exact ⟨hl, A, c, hb.keeps hk (hn p (.inl rfl)), ho.keeps hk fun k e => hn k (.inr (by rw [e, hg])), hg⟩
theorem LineAt.below (h : LineAt w p g l) (hb : Below w.heap.size w w') : LineAt w' p g l := h.keeps (S := fun _ => False) (Keeps.of_below hb) fun _ _ h => h
theorem LineAt.lt (h : LineAt w p g l) : p < w.heap.size ∧ ∀ k, some k = g → k < w.heap.size := by
  obtain ⟨hl, A, c, hb, ho, hg⟩ := h
  exact ⟨hb.lt, fun k e => (World.ownsRow.lt ho k (by rw [hg, e])).2⟩
end

set_option maxHeartbeats 400000 in
theorem line_Len (p : Nat) (g : Option Nat) (l : List UInt8) (w : World) (h : LineAt w p g l) :
    Calls Try.prog 32 #[.pointer (some ⟨p, 0, none⟩)] w fun e w' => e = .returned (.int .i64 (l.length : Int)) ∧ w = w' := by
  obtain ⟨hl, A, c, hb, ho, hg⟩ := h
  have hc := hb.cell 0
  obtain ⟨n, hn⟩ : ∃ n, n = l.length := ⟨_, rfl⟩
  rw [← hn] at hc
  rw [← hn]
  clear hn hb ho hg
  simp at hc
  go_enter Try.func32, Try.ntmps32
  go_wp2
  go_ret
  exact ⟨rfl, rfl⟩
set_option maxHeartbeats 400000 in
theorem line_Len_nil (w : World) : Calls Try.prog 32 #[.pointer none] w fun e w' => e = .returned (.int .i64 0) ∧ w = w' := by
  go_enter Try.func32, Try.ntmps32
  go_wp2
  go_ret
  exact ⟨rfl, rfl⟩

set_option maxHeartbeats 400000 in
set_option maxRecDepth 10000 in
theorem line_Add (p : Nat) (g : Option Nat) (l : List UInt8) (b : UInt8) (w : World) (h : LineAt w p g l) (hl : l.length < 1000) :
    Calls Try.prog 33 #[.pointer (some ⟨p, 0, none⟩), .int .u8 (b.toNat : Int)] w fun e w' =>
      e = .returned (.int .i64 0) ∧ ∃ g', LineAt w' p g' (l ++ [b]) ∧ Keeps (lineBlocks p g) w w' ∧ (g' = g ∨ ∃ k, g' = some k ∧ w.heap.size ≤ k) := by
  obtain ⟨hl0, A, c, hb, ho, hg⟩ := h
  have hc := hb.cell 0
  simp at hc
  have hp := ho.ne_blk hb (by decide)
  obtain ⟨n, hn⟩ : ∃ n, n = l.length := ⟨_, rfl⟩
  rw [← hn] at hc ho hb hl hg hp
  have Hn := hide hn
  clear hn hl0
  have ho2 := ho.below (Below_new w (.cells #[.int .u8 (b.toNat : Int)] 5))
  have hl2 := LiesB.new w #[.int .u8 (b.toNat : Int)] 5 (0, 0) [b] 1 rfl rfl
  have HB := hide hb
  have HG := hide hg
  have HP := hide hp
  have Ho2 := hide ho2
  have Hl2 := hide hl2
  clear hb hg hp ho2 hl2 ho
  go_enter Try.func33, Try.ntmps33
  go_wp2_with (at_builtin; refine wpB_append2 rfl (.tmp 19) (.tmp 21) rfl A n c l rfl Ho2.out _ _ _ _ [b] rfl Hl2.out (n + 1) _ rfl rfl (by omega) ?_; intro A' c' w1 own1 hk1 hat1; have Hat := hide hat1; clear hat1; have hb1 : Blk w1 p 65 #[.slice A n c] := (HB.out.below (Below_new w _) HB.out.lt).keeps hk1 HP.out; have hc1 := hb1.cell 0; have hf1 := hb1.frozen 0; simp at hc1; have HB1 := hide hb1; clear hb1)
  go_ret
  refine ⟨rfl, (Value.slice A' (n + 1) c').ownBlock, ⟨by rw [List.length_append, ← Hn.out]; simp; omega, A', c', ?_, ?_, ?_⟩, ?_, ?_⟩
  · rw [List.length_append, ← Hn.out]
    exact HB1.out.set_ 0 _
  · rw [List.length_append, ← Hn.out]
    exact own1.keeps (Keeps.setCell w1 ⟨p, 0, none⟩ _) fun k hk e => by subst e; exact own1.ne_blk HB1.out (by decide) hk
  · rw [List.length_append, ← Hn.out]; rfl
  · refine ((Keeps.of_below (Below_new w _)).trans hk1 ?_).trans (Keeps.setCell w1 ⟨p, 0, none⟩ _) ?_
    · intro k _ hk; exact .inr (by rw [hk, HG.out])
    · intro k _ hk; exact .inl hk
  · rcases Hat.out with e | e
    · exact .inl (by rw [e, HG.out])
    · exact .inr ⟨_, e, by simp⟩
set_option maxHeartbeats 400000 in
set_option maxRecDepth 10000 in
theorem line_Add_full (p : Nat) (g : Option Nat) (l : List UInt8) (b : UInt8) (w : World) (h : LineAt w p g l) (hl : 1000 ≤ l.length) :
    Calls Try.prog 33 #[.pointer (some ⟨p, 0, none⟩), .int .u8 (b.toNat : Int)] w fun e w' => e = .returned (.int .i64 4) ∧ w = w' := by
  obtain ⟨hl0, A, c, hb, ho, hg⟩ := h
  have hc := hb.cell 0
  obtain ⟨n, hn⟩ : ∃ n, n = l.length := ⟨_, rfl⟩
  rw [← hn] at hc hl
  clear hn hb ho hg hl0
  simp at hc
  go_enter Try.func33, Try.ntmps33
  go_wp2
  go_ret
  exact ⟨rfl, rfl⟩
set_option maxHeartbeats 400000 in
theorem line_Add_nil (b : Int) (w : World) : Calls Try.prog 33 #[.pointer none, .int .u8 b] w fun e w' => e = .returned (.int .i64 7) ∧ w = w' := by
  go_enter Try.func33, Try.ntmps33
  go_wp2
  go_ret
  exact ⟨rfl, rfl⟩

/-- What Put adds, how many presses, which error. -/
def putAdd (l : List UInt8) (first : Int) (b : List UInt8) : List UInt8 :=
  if first < 0 ∨ (l.length : Int) < first then [] else (b.drop (l.length - first.toNat)).take (1000 - l.length)
def putErr (l : List UInt8) (first : Int) (b : List UInt8) : Int :=
  if first < 0 then 1 else if (l.length : Int) < first then 2 else if 1000 < first.toNat + b.length then 4 else 0
theorem putAdd_form {l b : List UInt8} {f : Nat} (h : f ≤ l.length) : putAdd l f b = (b.drop (l.length - f)).take (1000 - l.length) := by
  rw [putAdd, if_neg (by omega)]; simp
theorem putErr_form {l b : List UInt8} {f : Nat} (h : f ≤ l.length) : putErr l f b = if 1000 < f + b.length then 4 else 0 := by
  rw [putErr, if_neg (by omega), if_neg (by omega)]; simp

set_option maxHeartbeats 1000000 in
set_option maxRecDepth 10000 in
theorem line_Put (p : Nat) (g : Option Nat) (l : List UInt8) (first : Int) (A2 : Option Addr) (n2 c2 : Nat) (b : List UInt8) (w : World) (h : LineAt w p g l)
    (hA : LiesB w w.heap.size A2 n2 b) (hdis : ∀ bk off, A2 = some ⟨bk, off, none⟩ → b ≠ [] → ¬ lineBlocks p g bk) (h1 : -9223372036854775808 ≤ first) (h2 : first ≤ 9223372036854775807) (hn2 : n2 ≤ 9223372036854775807) :
    Calls Try.prog 21 #[.pointer (some ⟨p, 0, none⟩), .int .i64 first, .slice A2 n2 c2] w fun e w' =>
      e = .returned (.tuple #[.int .i64 ((putAdd l first b).length : Int), .int .i64 (putErr l first b)]) ∧
      ∃ g', LineAt w' p g' (l ++ putAdd l first b) ∧ Keeps (lineBlocks p g) w w' ∧ (g' = g ∨ ∃ k, g' = some k ∧ w.heap.size ≤ k) := by
  obtain ⟨hl0, A, c, hb, ho, hg⟩ := id h
  have hc := hb.cell 0
  obtain ⟨n, hn⟩ : ∃ n, n = l.length := ⟨_, rfl⟩
  rw [← hn] at hc hl0
  simp at hc
  by_cases hf0 : first < 0
  · have e1 : putAdd l first b = [] := by simp [putAdd, hf0]
    have e2 : putErr l first b = 1 := by simp [putErr, hf0]
    rw [e1, e2]
    have HH := hide h
    rw [List.append_nil]
    clear hn hb ho hg h hA hdis e1 e2
    go_enter Try.func21, Try.ntmps21
    go_wp2
    go_ret2
    exact ⟨rfl, g, HH.out, Keeps.refl _ _, .inl rfl⟩
  by_cases hf1 : (n : Int) < first
  · have e1 : putAdd l first b = [] := by rw [putAdd, if_pos (.inr (by rw [← hn]; exact hf1))]
    have e2 : putErr l first b = 2 := by rw [putErr, if_neg hf0, if_pos (by rw [← hn]; exact hf1)]
    rw [e1, e2]
    have HH := hide h
    rw [List.append_nil]
    clear hn hb ho hg h hA hdis e1 e2
    go_enter Try.func21, Try.ntmps21
    go_wp2
    go_ret2
    exact ⟨rfl, g, HH.out, Keeps.refl _ _, .inl rfl⟩
  obtain ⟨f, rfl⟩ : ∃ f : Nat, first = (f : Int) := ⟨first.toNat, by omega⟩
  have hfn : f ≤ n := by omega
  rw [putAdd_form (by omega), putErr_form (by omega), ← hn]
  obtain ⟨add, hadd⟩ : ∃ a, a = (b.drop (n - f)).take (1000 - n) := ⟨_, rfl⟩
  obtain ⟨E, hE⟩ : ∃ e : Int, e = if 1000 < f + b.length then 4 else 0 := ⟨_, rfl⟩
  rw [← hadd, ← hE]
  have HH := hide h
  have HA := hide hA
  have HD := hide hdis
  have Hn := hide hn
  clear hn hb ho hg h hA hdis
  go_enter Try.func21, Try.ntmps21
  obtain ⟨s, hs⟩ : ∃ s, s = n - f := ⟨_, rfl⟩
  rw [← hs] at hadd
  have hlenA : add.length = min (1000 - n) (n2 - s) := by rw [hadd, List.length_take, List.length_drop, HA.out.len]
  rw [hlenA]
  have Hadd := hide hadd
  have HE := hide hE
  have Hs := hide hs
  obtain ⟨N, hN⟩ : ∃ N, N = min (1000 - n) (n2 - s) := ⟨_, rfl⟩
  rw [← hN]
  have HN := hide hN
  clear hs hadd hE hlenA hN
  go_wp2
  rw [show ((n : Int) - (f : Int)) = (s : Int) from by have := Hs.out; omega]
  go_loopw [8, 9] (fun t i wr => ∃ j : Nat, s + j ≤ max n2 s ∧ n + j ≤ 1000 ∧ t = .int .i64 j ∧ i = .int .i64 ((s + j : Nat) : Int) ∧ ∃ g', LineAt wr p g' (l ++ (b.drop s).take j) ∧ Keeps (lineBlocks p g) w wr ∧ (g' = g ∨ ∃ k, g' = some k ∧ w.heap.size ≤ k))
    (fun t _ _ => 1000 - (intOf t).toNat)
  case atStart => exact ⟨0, by omega, hl0, rfl, rfl, g, by simpa using HH.out, Keeps.refl _ _, .inl rfl⟩
  case round =>
    obtain ⟨j, hj, hj2, rfl, rfl, g', hline, hkeep, hg'⟩ := hrel
    have HA2 := hide (HA.out.keeps hkeep HD.out)
    have Hline := hide hline
    have Hg' := hide hg'
    clear hline hg'
    have hlen : (l ++ (b.drop s).take j).length = n + j := by
      have := HA.out.len
      rw [List.length_append, List.length_take, List.length_drop, ← Hn.out]; omega
    have Hlen := hide hlen
    clear hlen
    by_cases hlt : s + j < n2
    · obtain ⟨b1, o1, hl1, rfl, -, hc1⟩ := HA2.out.at_ hlt
      by_cases hful : n + j < 1000
      · go_wp2_with (go_at_call 33; refine Calls.mono (line_Add p g' _ (b[s + j]) _ Hline.out (by rw [Hlen.out]; exact hful)) ?_; rintro e w2 ⟨rfl, g2, hline2, hkeep2, hg2⟩; have Hline2 := hide hline2; have Hkeep2 := hide hkeep2; have Hg2 := hide hg2; clear hline2 hkeep2 hg2)
        refine ⟨⟨j + 1, by omega, by omega, by go_num, by go_num, g2, ?_, hkeep.trans Hkeep2.out ?_, ?_⟩, by simp [intOf]; omega⟩
        · have e : (b.drop s).take (j + 1) = (b.drop s).take j ++ [b[s + j]] := by
            rw [List.take_succ_eq_append_getElem (by rw [List.length_drop]; omega), List.getElem_drop]
          rw [e, ← List.append_assoc]
          exact Hline2.out
        · intro k hk hs
          rcases hs with hs | hs
          · exact .inl hs
          · rcases Hg'.out with e | ⟨k2, e, h2⟩
            · exact .inr (by rw [hs, e])
            · rw [e] at hs; injection hs with hs; omega
        · rcases Hg2.out with e | ⟨k2, e, h2⟩
          · rw [e]; exact Hg'.out
          · exact .inr ⟨k2, e, Nat.le_trans hkeep.size h2⟩
      · go_wp2_with (go_at_call 33; refine Calls.mono (line_Add_full p g' _ (b[s + j]) _ Hline.out (by rw [Hlen.out]; omega)) ?_; rintro e w2 ⟨rfl, rfl⟩)
        go_ret2
        have hjN : j = N := by have := HN.out; have := Hs.out; omega
        have hE : E = 4 := by rw [HE.out, if_pos]; have := Hs.out; rw [HA.out.len]; omega
        refine ⟨by rw [hE, ← hjN]; rfl, g', ?_, hkeep, Hg'.out⟩
        have e : add = (b.drop s).take j := by
          rw [Hadd.out]; congr 1; omega
        rw [e]; exact Hline.out
    · go_wp2
      go_ret2
      have hjN : j = N := by have := HN.out; have := Hs.out; omega
      have hE : E = 0 := by rw [HE.out, if_neg]; have := Hs.out; rw [HA.out.len]; omega
      refine ⟨by rw [hE, ← hjN]; rfl, g', ?_, hkeep, Hg'.out⟩
      have e : add = (b.drop s).take j := by
        rw [Hadd.out, List.take_of_length_le (by rw [List.length_drop, HA.out.len]; omega), List.take_of_length_le (by rw [List.length_drop, HA.out.len]; omega)]
      rw [e]; exact Hline.out
end Go.Proofs.Ytciogjnchpeaaaa
