/-
  Sorting: the blocks and their merging; SortStableFunc.
-/
import Derived.Test.YtciogjnchpeaaaaSortM
namespace Go.Proofs.Ytciogjnchpeaaaa
open Go.RowKit
set_option maxRecDepth 10000
set_option linter.unusedVariables false
namespace Srt
/-- A stretch that is put in order. -/
def Good (K : UInt8 → Nat) (l0 l : List UInt8) (i j : Nat) : Prop := (seg l i j).Perm (seg l0 i j) ∧ Sorted K (seg l i j)
/-- The blocks of size B from lo on and below hi are in order. -/
def Blocks (K : UInt8 → Nat) (n : Nat) (l0 l : List UInt8) (B lo hi : Nat) : Prop := ∀ i, B ∣ i → lo ≤ i → i < hi → Good K l0 l i (min (i + B) n)
theorem step_le {B i a : Nat} (hi : B ∣ i) (ha : B ∣ a) (h : i < a) : i + B ≤ a := by
  obtain ⟨k, rfl⟩ := hi
  obtain ⟨q, rfl⟩ := ha
  have h1 : k < q := Nat.lt_of_mul_lt_mul_left h
  have h2 : B * (k + 1) ≤ B * q := Nat.mul_le_mul_left B h1
  rwa [Nat.mul_add, Nat.mul_one] at h2
section
variable {K : UInt8 → Nat} {n : Nat} {l0 l l' : List UInt8} {B a b m : Nat}
theorem Blocks.insert (h : Blocks K n l0 l B 0 a) (hB : B ∣ a) (hl : l.length = n) (han : a ≤ n) (hb : b = min (a + B) n) (hm : Made K l a b l') (hs : seg l a b = seg l0 a b) : Blocks K n l0 l' B 0 b := by
  intro i hi _ hib
  have hab : a ≤ b := by omega
  have hbn : b ≤ n := by omega
  have M := hm.seg hab (by omega)
  rcases Nat.lt_trichotomy i a with h1 | h1 | h1
  · have := step_le hi hB h1
    have e := M.2.2.2 i (min (i + B) n) (by omega) (.inl (by omega))
    unfold Good; rw [e]
    exact h i hi (by omega) h1
  · subst h1
    unfold Good; rw [← hb, ← hs]
    exact ⟨M.1, M.2.1⟩
  · have := step_le hB hi h1
    omega
theorem Blocks.merge (h : Blocks K n l0 l (2 * B) 0 a) (h2 : Blocks K n l0 l B a n) (hB : 2 * B ∣ a) (hl : l.length = n) (hl0 : l0.length = n) (hm : m = a + B) (hmn : m < n) (hB0 : 0 < B) (hb : b = min (a + 2 * B) n) (hM : Made K l a b l') : Blocks K n l0 l' (2 * B) 0 b ∧ Blocks K n l0 l' B b n := by
  have hab : a ≤ m := by omega
  have hmb : m < b := by omega
  have hbn : b ≤ n := by omega
  have hBa : B ∣ a := Nat.dvd_trans (Nat.dvd_mul_left B 2) hB
  have hBm : B ∣ m := by rw [hm]; exact Nat.dvd_add hBa (Nat.dvd_refl B)
  have M := hM.seg (by omega) (by omega)
  have g1 := h2 a hBa (Nat.le_refl _) (by omega)
  have g2 := h2 m hBm hab hmn
  rw [show min (a + B) n = m by omega] at g1
  rw [show min (m + B) n = b by omega] at g2
  refine ⟨?_, ?_⟩
  · intro i hi _ hib
    rcases Nat.lt_trichotomy i a with h1 | h1 | h1
    · have := step_le hi hB h1
      have e := M.2.2.2 i (min (i + 2 * B) n) (by omega) (.inl (by omega))
      unfold Good; rw [e]
      exact h i hi (by omega) h1
    · subst h1
      unfold Good; rw [← hb]
      refine ⟨M.1.trans ?_, M.2.1⟩
      rw [seg_seg (l := l) hab (Nat.le_of_lt hmb), seg_seg (l := l0) hab (Nat.le_of_lt hmb)]
      exact List.Perm.append g1.1 g2.1
    · have := step_le hB hi h1
      omega
  · intro i hi h1 hin
    have e := M.2.2.2 i (min (i + B) n) (by omega) (.inr h1)
    unfold Good; rw [e]
    exact h2 i hi (by omega) hin
theorem Blocks.rest (h : Blocks K n l0 l (2 * B) 0 a) (h2 : Blocks K n l0 l B a n) (hB : 2 * B ∣ a) (hm : n ≤ a + B) : Blocks K n l0 l (2 * B) 0 n := by
  intro i hi _ hin
  rcases Nat.lt_trichotomy i a with h1 | h1 | h1
  · exact h i hi (by omega) h1
  · subst h1
    have := h2 i (Nat.dvd_trans (Nat.dvd_mul_left B 2) hB) (Nat.le_refl _) hin
    rw [show min (i + 2 * B) n = min (i + B) n by omega]
    exact this
  · have := step_le hB hi h1
    omega
theorem Blocks.all (h : Blocks K n l0 l B 0 n) (hn : 0 < n) (hB : n ≤ B) (hl : l.length = n) (hl0 : l0.length = n) : l.Perm l0 ∧ Sorted K l := by
  have := h 0 (Nat.dvd_zero B) (Nat.le_refl _) hn
  rw [show min (0 + B) n = n by omega] at this
  unfold Good seg at this
  rw [Nat.sub_zero, List.drop_zero, List.drop_zero, List.take_of_length_le (by omega), List.take_of_length_le (by omega)] at this
  exact this
/-- What lies in the left one of two blocks is below what lies in the right one. -/
theorem Good.cross (hasc : l0.Pairwise (· < ·)) (h1 : Good K l0 l a m) (h2 : Good K l0 l m b) (hl0 : l0.length = n) (hbn : b ≤ n) : ∀ y ∈ seg l a m, ∀ x ∈ seg l m b, y < x := by
  intro y hy x hx
  obtain ⟨i, i1, i2, i3, rfl⟩ := mem_seg (h1.1.mem_iff.1 hy)
  obtain ⟨j, j1, j2, j3, rfl⟩ := mem_seg (h2.1.mem_iff.1 hx)
  have := (List.pairwise_iff_getElem.1 hasc) i j i3 j3 (by omega)
  rw [List.getD_eq_getElem?_getD, List.getD_eq_getElem?_getD, List.getElem?_eq_getElem i3, List.getElem?_eq_getElem j3]
  exact this
theorem seg_asc (hasc : l0.Pairwise (· < ·)) (a b : Nat) : (seg l0 a b).Pairwise (· < ·) := by
  unfold seg
  exact (hasc.sublist (List.drop_sublist _ _)).sublist (List.take_sublist _ _)
theorem Made.drop (h : Made K l a b l') (hab : a ≤ b) (hb : b ≤ l.length) : l'.drop b = l.drop b := by
  obtain ⟨M, rfl, hp, hs⟩ := h.ex
  have hM : M.length = b - a := by rw [hp.length_eq, seg_len hab hb]
  rw [← List.append_assoc, List.drop_left' (by rw [List.length_append, List.length_take]; omega)]
theorem drop_more (h : l.drop a = l0.drop a) (hab : a ≤ b) : l.drop b = l0.drop b := by
  have := congrArg (List.drop (b - a)) h
  rwa [List.drop_drop, List.drop_drop, show a + (b - a) = b by omega] at this
theorem seg_of_drop (h : l.drop a = l0.drop a) : seg l a b = seg l0 a b := by unfold seg; rw [h]
end
end Srt
theorem sort_merge_made {K : UInt8 → Nat} (hK : ∀ x y, K x = K y → x = y) {g n c base a m b : Nat} {p0 p1 p2 p3 : Value} {l0 l : List UInt8} {w : World} (hn : n ≤ 100000) (ho : OwnB w base (some ⟨g, 0, none⟩) n c l) (ham : a < m) (hmb : m < b) (hbn : b ≤ n)
    (hasc : l0.Pairwise (· < ·)) (hl0 : l0.length = n) (h1 : Srt.Good K l0 l a m) (h2 : Srt.Good K l0 l m b) (hc : CmpOK K g p0 p1 p2 p3 w) {ai mi bi : Int} (hai : ai = (a : Int)) (hmi : mi = (m : Int)) (hbi : bi = (b : Int)) :
    Calls Try.prog 48 #[.slice (some ⟨g, 0, none⟩) n c, .int .i64 ai, .int .i64 mi, .int .i64 bi, cmpV p0 p1 p2 p3] w fun e w' =>
      e = .returned (.tuple #[]) ∧ ∃ l', OwnB w' base (some ⟨g, 0, none⟩) n c l' ∧ Srt.Made K l a b l' ∧ Keeps (fun k => k = g) w w' := by
  have hl := ho.len
  have hsp : l = l.take a ++ (Srt.seg l a m ++ (Srt.seg l m b ++ l.drop b)) := by
    rw [← List.append_assoc (Srt.seg l a m), ← Srt.seg_seg (by omega) (by omega)]
    exact Srt.split3 (by omega)
  refine Calls.mono (sort_merge hK hn (b - a) (l.take a) (Srt.seg l a m) (Srt.seg l m b) (l.drop b) a m b w (Nat.le_refl _) (by rw [← hsp]; exact ho) (by rw [List.length_take]; omega) (by rw [Srt.seg_len (by omega) (by omega)]; omega) (by rw [Srt.seg_len (by omega) (by omega)]; omega) ham hmb h1.2 h2.2
    (Srt.Good.cross hasc h1 h2 hl0 hbn) hc ai mi bi hai hmi hbi) ?_
  rintro e w' ⟨rfl, M, o, hp, hs, k⟩
  refine ⟨rfl, _, o, ⟨M, rfl, ?_, hs⟩, k⟩
  rw [Srt.seg_seg (j := m) (by omega) (by omega)]
  exact hp
set_option maxHeartbeats 8000000 in
set_option maxRecDepth 10000 in
theorem sort_stable {K : UInt8 → Nat} (hK : ∀ x y, K x = K y → x = y) {g n c base : Nat} {p0 p1 p2 p3 : Value} {l0 : List UInt8} {w : World} (hn : n ≤ 100000) (hn0 : 20 < n) (ho : OwnB w base (some ⟨g, 0, none⟩) n c l0)
    (hasc : l0.Pairwise (· < ·)) (hc : CmpOK K g p0 p1 p2 p3 w) {ni : Int} (hni : ni = (n : Int)) :
    Calls Try.prog 44 #[.slice (some ⟨g, 0, none⟩) n c, .int .i64 ni, cmpV p0 p1 p2 p3] w fun e w' =>
      e = .returned (.tuple #[]) ∧ ∃ l', OwnB w' base (some ⟨g, 0, none⟩) n c l' ∧ l'.Perm l0 ∧ Srt.Sorted K l' ∧ Keeps (fun k => k = g) w w' := by
  subst hni
  have hl0 := hide ho.len
  have HO := hide ho
  have HC := hide hc
  have HA := hide hasc
  clear ho hc hasc
  go_enter Try.func44, Try.ntmps44
  go_upto_block 0 with fail
  go_cut [7, 8] from 10 to 22 (fun s7 s8 wx => ∃ (a : Nat) (l : List UInt8), s7 = .int .i64 (a : Int) ∧ a ≤ n ∧ n < a + 20 ∧ Hid (OwnB wx base (some ⟨g, 0, none⟩) n c l) ∧ Hid (Keeps (fun k => k = g) w wx) ∧ Hid (20 ∣ a ∧ Srt.Blocks K n l0 l 20 0 a ∧ l.drop a = l0.drop a))
  case first =>
    go_wp2_with fail
    go_loopg [7, 8] (n + 20) (fun gg s7 s8 wr => ∃ (a : Nat) (l : List UInt8), s7 = .int .i64 (a : Int) ∧ s8 = .int .i64 ((a + 20 : Nat) : Int) ∧ a ≤ n ∧ gg = n + 20 - a ∧ Hid (OwnB wr base (some ⟨g, 0, none⟩) n c l) ∧ Hid (Keeps (fun k => k = g) w wr) ∧ Hid (20 ∣ a ∧ Srt.Blocks K n l0 l 20 0 a ∧ l.drop a = l0.drop a))
    case atStart => exact ⟨0, l0, rfl, rfl, by omega, by omega, HO, Keeps.refl _ _, Nat.dvd_zero 20, fun i _ _ h => absurd h (Nat.not_lt_zero i), rfl⟩
    case round =>
      obtain ⟨W1, hW1⟩ : ∃ W1, W1 = wr := ⟨_, rfl⟩
      subst hW1
      obtain ⟨a, l, rfl, rfl, han, rfl, HOl, HK1, HI⟩ := hrel
      obtain ⟨b, hb⟩ : ∃ b, b = a + 20 := ⟨_, rfl⟩
      rw [← hb]
      by_cases hlt : b ≤ n
      · have hab : a ≤ b := by omega
        have HBB := hide hb
        have hmeas : n + 20 - b < n + 20 - a := by omega
        clear hb
        go_wp2_with fail
        refine Calls.mono (sort_insertion hK (a := a) (b := b) HOl.out hn hab hlt (by rw [Srt.seg_of_drop HI.out.2.2]; exact Srt.seg_asc HA.out a b) (HC.out.step HK1.out) rfl rfl) ?_
        rintro e w2 ⟨rfl, l', ho2, hm2, hk2⟩
        have O2 := hide ho2
        have K2 := hide (HK1.out.trans hk2 fun _ _ h => h)
        have I2 : Hid (20 ∣ b ∧ Srt.Blocks K n l0 l' 20 0 b ∧ l'.drop b = l0.drop b) := by
          refine ⟨?_, HI.out.2.1.insert HI.out.1 HOl.out.len han (by have := HBB.out; omega) hm2 (Srt.seg_of_drop HI.out.2.2), ?_⟩
          · rw [HBB.out]; exact Nat.dvd_add HI.out.1 (Nat.dvd_refl 20)
          · rw [hm2.drop hab (by rw [HOl.out.len]; exact hlt)]
            exact Srt.drop_more HI.out.2.2 hab
        clear ho2 hk2 hm2
        go_wp2_with fail
        go_roundg (n + 20 - b)
        case measure => exact hmeas
        case rel => exact ⟨b, l', rfl, by go_num, hlt, rfl, O2, K2, I2⟩
      · have db : decide ((b : Int) ≤ (n : Int)) = false := decide_eq_false (by omega)
        have hb2 : n < a + 20 := by omega
        clear hb
        go_wp2_with fail
        go_meet
        exact ⟨a, l, rfl, han, hb2, HOl, HK1, HI⟩
  case rest =>
  obtain ⟨a, l, rfl, han, hna, HOl, HK1, HI⟩ := hcut
  obtain ⟨W1, hW1⟩ : ∃ W1, W1 = wc := ⟨_, rfl⟩
  subst hW1
  clear HO
  go_wp2_with fail
  refine Calls.mono (sort_insertion hK (a := a) (b := n) HOl.out hn han (Nat.le_refl _) (by rw [Srt.seg_of_drop HI.out.2.2]; exact Srt.seg_asc HA.out a n) (HC.out.step HK1.out) rfl rfl) ?_
  rintro e w2 ⟨rfl, l1, ho2, hm2, hk2⟩
  have O2 := hide ho2
  have K2 := hide (HK1.out.trans hk2 fun _ _ h => h)
  have I2 : Hid (Srt.Blocks K n l0 l1 20 0 n) := HI.out.2.1.insert HI.out.1 HOl.out.len han (by omega) hm2 (Srt.seg_of_drop HI.out.2.2)
  clear ho2 hk2 hm2 HOl HK1 HI
  go_wp2_with fail
  go_loopg [6, 7, 8, 9] (n - 20) (fun gg s6 s7 s8 s9 wr => ∃ (B : Nat) (l : List UInt8), s6 = .int .i64 (B : Int) ∧ 0 < B ∧ B ≤ 200000 ∧ gg = n - B ∧ Hid (OwnB wr base (some ⟨g, 0, none⟩) n c l) ∧ Hid (Keeps (fun k => k = g) w wr) ∧ Hid (Srt.Blocks K n l0 l B 0 n))
  case atStart => exact ⟨20, l1, rfl, by omega, by omega, rfl, O2, K2, I2⟩
  case round =>
    obtain ⟨W1, hW1⟩ : ∃ W1, W1 = wr := ⟨_, rfl⟩
    subst hW1
    obtain ⟨B, l2, rfl, hB0, hB1, rfl, HOl, HK1, HI⟩ := hrel
    clear O2 K2 I2
    by_cases hlt : B < n
    · obtain ⟨D, hD⟩ : ∃ D, D = 2 * B := ⟨_, rfl⟩
      have HD := hide hD
      have hD1 : D ≤ 200000 := by omega
      have hBD : B < D := by omega
      have w1 : IntKind.i64.wrap ((2 : Int) * (B : Int)) = (D : Int) := by rw [IntKind.wrap_i64]; omega
      have w2 : IntKind.i64.wrap ((B : Int) * (2 : Int)) = (D : Int) := by rw [IntKind.wrap_i64]; omega
      have w3 : (2 : Int) * (B : Int) = (D : Int) := by omega
      have w4 : (B : Int) * (2 : Int) = (D : Int) := by omega
      clear hD
      go_upto_block 4 with fail
      go_cut [7, 8] from 31 to 62 (fun s7 s8 wx => ∃ (a : Nat) (l : List UInt8), s7 = .int .i64 (a : Int) ∧ a ≤ n ∧ n < a + D ∧ Hid (OwnB wx base (some ⟨g, 0, none⟩) n c l) ∧ Hid (Keeps (fun k => k = g) w wx) ∧ Hid (D ∣ a ∧ Srt.Blocks K n l0 l D 0 a ∧ Srt.Blocks K n l0 l B a n))
      case first =>
        go_wp2_with fail
        go_loopg [7, 8] (n + D) (fun gg s7 s8 wr => ∃ (a b : Nat) (l : List UInt8), s7 = .int .i64 (a : Int) ∧ s8 = .int .i64 (b : Int) ∧ b = a + D ∧ a ≤ n ∧ gg = n + D - a ∧ Hid (OwnB wr base (some ⟨g, 0, none⟩) n c l) ∧ Hid (Keeps (fun k => k = g) w wr) ∧ Hid (D ∣ a ∧ Srt.Blocks K n l0 l D 0 a ∧ Srt.Blocks K n l0 l B a n))
        case atStart => exact ⟨0, D, l2, rfl, by congr 1, by omega, by omega, by omega, HOl, HK1, Nat.dvd_zero D, fun i _ _ h => absurd h (Nat.not_lt_zero i), HI.out⟩
        case round =>
          clear HOl HK1 HI
          obtain ⟨W2, hW2⟩ : ∃ W2, W2 = wr := ⟨_, rfl⟩
          subst hW2
          obtain ⟨a, b, l, rfl, rfl, hbD, han, rfl, HOl, HK1, HI⟩ := hrel
          by_cases hlt2 : b ≤ n
          · obtain ⟨m, hm⟩ : ∃ m, m = a + B := ⟨_, rfl⟩
            have ham : a < m := by omega
            have hmb : m < b := by omega
            have HBB := hide (And.intro hbD hm)
            have hmeas : n + D - b < n + D - a := by omega
            have w5 : IntKind.i64.wrap ((a : Int) + (B : Int)) = (m : Int) := by rw [IntKind.wrap_i64]; omega
            have w6 : IntKind.i64.wrap ((b : Int) + (D : Int)) = ((b + D : Nat) : Int) := by rw [IntKind.wrap_i64]; omega
            have w7 : (a : Int) + (B : Int) = (m : Int) := by omega
            have hdv : B ∣ a := Nat.dvd_trans (by rw [HD.out]; exact Nat.dvd_mul_left B 2) HI.out.1
            have g1 : Srt.Good K l0 l a m := by
              have := HI.out.2.2 a hdv (Nat.le_refl _) (by omega)
              rwa [show min (a + B) n = m by omega] at this
            have g2 : Srt.Good K l0 l m b := by
              have := HI.out.2.2 m (by rw [hm]; exact Nat.dvd_add hdv (Nat.dvd_refl B)) (by omega) (by omega)
              rwa [show min (m + B) n = b by have := HD.out; omega] at this
            have G1 := hide g1
            have G2 := hide g2
            clear hbD hm hdv g1 g2
            go_wp2_with fail
            refine Calls.mono (sort_merge_made hK (a := a) (m := m) (b := b) hn HOl.out ham hmb hlt2 HA.out hl0.out G1.out G2.out (HC.out.step HK1.out) rfl (by first | rfl | omega) rfl) ?_
            rintro e w2 ⟨rfl, l', ho2, hm2, hk2⟩
            have O2 := hide ho2
            have K2 := hide (HK1.out.trans hk2 fun _ _ h => h)
            have I2 : Hid (D ∣ b ∧ Srt.Blocks K n l0 l' D 0 b ∧ Srt.Blocks K n l0 l' B b n) := by
              have hbb := HBB.out
              have hI := HI.out
              have hd := HD.out
              subst hd
              refine ⟨by rw [hbb.1]; exact Nat.dvd_add hI.1 (Nat.dvd_refl _), ?_⟩
              exact Srt.Blocks.merge hI.2.1 hI.2.2 hI.1 HOl.out.len hl0.out hbb.2 (by omega) hB0 (by omega) hm2
            clear ho2 hk2 hm2
            go_wp2_with fail
            go_roundg (n + D - b)
            case measure => exact hmeas
            case rel => exact ⟨b, b + D, l', rfl, by congr 1, rfl, hlt2, rfl, O2, K2, I2⟩
          · have db : decide ((b : Int) ≤ (n : Int)) = false := decide_eq_false (by omega)
            have hb2 : n < a + D := by omega
            clear hbD
            go_wp2_with fail
            go_meet
            exact ⟨a, l, rfl, han, hb2, HOl, HK1, HI⟩
      case rest =>
      clear HOl HK1 HI
      obtain ⟨a, l, rfl, han, hna, HOl, HK1, HI⟩ := hcut
      obtain ⟨W2, hW2⟩ : ∃ W2, W2 = wc := ⟨_, rfl⟩
      subst hW2
      obtain ⟨m, hm⟩ : ∃ m, m = a + B := ⟨_, rfl⟩
      have w5 : IntKind.i64.wrap ((a : Int) + (B : Int)) = (m : Int) := by rw [IntKind.wrap_i64]; omega
      have w7 : (a : Int) + (B : Int) = (m : Int) := by omega
      have ham : a < m := by omega
      have HMM := hide hm
      have hmeas : n - D < n - B := by omega
      by_cases hmn : m < n
      · have g1 : Srt.Good K l0 l a m := by
          have := HI.out.2.2 a (Nat.dvd_trans (by rw [HD.out]; exact Nat.dvd_mul_left B 2) HI.out.1) (Nat.le_refl _) (by omega)
          rwa [show min (a + B) n = m by omega] at this
        have g2 : Srt.Good K l0 l m n := by
          have := HI.out.2.2 m (by rw [hm]; exact Nat.dvd_add (Nat.dvd_trans (by rw [HD.out]; exact Nat.dvd_mul_left B 2) HI.out.1) (Nat.dvd_refl B)) (by omega) hmn
          rwa [show min (m + B) n = n by have := HD.out; omega] at this
        have G1 := hide g1
        have G2 := hide g2
        clear hm g1 g2
        go_wp2_with fail
        refine Calls.mono (sort_merge_made hK (a := a) (m := m) (b := n) hn HOl.out ham hmn (Nat.le_refl _) HA.out hl0.out G1.out G2.out (HC.out.step HK1.out) rfl (by first | rfl | omega) rfl) ?_
        rintro e w2 ⟨rfl, l', ho2, hm2, hk2⟩
        have O2 := hide ho2
        have K2 := hide (HK1.out.trans hk2 fun _ _ h => h)
        have I2 : Hid (Srt.Blocks K n l0 l' D 0 n) := by
          have hI := HI.out
          have hd := HD.out
          subst hd
          exact (Srt.Blocks.merge hI.2.1 hI.2.2 hI.1 HOl.out.len hl0.out HMM.out hmn hB0 (by omega) hm2).1
        clear ho2 hk2 hm2
        go_wp2_with fail
        go_roundg (n - D)
        case measure => exact hmeas
        case rel => exact ⟨D, l', by first | rfl | congr 1, by omega, hD1, rfl, O2, K2, I2⟩
      · have I2 : Hid (Srt.Blocks K n l0 l D 0 n) := by
          have hI := HI.out
          have hd := HD.out
          have hmm := HMM.out
          subst hd
          exact Srt.Blocks.rest hI.2.1 hI.2.2 hI.1 (by omega)
        have dm : decide ((m : Int) < (n : Int)) = false := decide_eq_false (by omega)
        clear hm
        go_wp2_with fail
        go_roundg (n - D)
        case measure => exact hmeas
        case rel => exact ⟨D, l, by first | rfl | congr 1, by omega, hD1, rfl, HOl, HK1, I2⟩
    · have hall := hide (HI.out.all (by omega) (by omega) HOl.out.len hl0.out)
      have db : decide ((B : Int) < (n : Int)) = false := decide_eq_false (by omega)
      go_wp2_with fail
      exact bodyPost_end (v := .tuple #[]) (by simp [results, go_sem]) rfl ⟨rfl, l2, HOl.out, hall.out.1, hall.out.2, HK1.out⟩
theorem sort_stableFunc {K : UInt8 → Nat} (hK : ∀ x y, K x = K y → x = y) {g n c base : Nat} {p0 p1 p2 p3 : Value} {l0 : List UInt8} {w : World} (hn : n ≤ 100000) (hn0 : 20 < n) (ho : OwnB w base (some ⟨g, 0, none⟩) n c l0)
    (hasc : l0.Pairwise (· < ·)) (hc : CmpOK K g p0 p1 p2 p3 w) :
    Calls Try.prog 37 #[.slice (some ⟨g, 0, none⟩) n c, cmpV p0 p1 p2 p3] w fun e w' =>
      e = .returned (.tuple #[]) ∧ ∃ l', OwnB w' base (some ⟨g, 0, none⟩) n c l' ∧ l'.Perm l0 ∧ Srt.Sorted K l' ∧ Keeps (fun k => k = g) w w' := by
  have HO := hide ho
  have HC := hide hc
  have HA := hide hasc
  clear ho hc hasc
  go_enter Try.func37, Try.ntmps37
  go_wp2_with fail
  refine Calls.mono (sort_stable hK hn hn0 HO.out HA.out HC.out rfl) ?_
  rintro e w2 ⟨rfl, hx⟩
  have HX := hide hx
  clear hx
  go_wp2_with fail
  exact bodyPost_end (v := .tuple #[]) (by simp [results, go_sem]) rfl ⟨rfl, HX.out⟩
end Go.Proofs.Ytciogjnchpeaaaa
