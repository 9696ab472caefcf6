/-
  quintainref1.Bytes, state.Decode, quintainlaw8.Of, the sums.
-/
import Derived.Test.YtmikaidfdcamfaaState
import Derived.Test.YtmikaidfdcamfaaCrc
import Derived.Test.YtmikaidfdcamfaaOpen
namespace Go.Proofs.Ytmikaidfdcamfaa
open Go.RowKit
set_option linter.unusedVariables false
set_option maxHeartbeats 400000 in
set_option maxRecDepth 10000 in
theorem ref_Bytes (l : List Int) (hl : l.length = 32) (h32 : I32 l) (w : World) :
    Calls Try.prog 14 #[.agg (ivs l).toArray] w fun e w' => ∃ A c, e = .returned (.slice A 128 c) ∧ OwnB w' w.heap.size A 128 c (bytes32 l) ∧ Below w.heap.size w w' := by
  obtain ⟨L, hL⟩ : ∃ L, L = ivs l := ⟨_, rfl⟩
  rw [← hL]
  have HL := hide hL
  have HL32 : Hid (L.length = 32) := by rw [hL]; show (ivs l).length = 32; rw [ivs_len, hl]
  have Hl := hide hl
  have H32 := hide h32
  clear hL hl h32
  have HB0 := hide (Below_new w (.cells L.toArray 37))
  have HG := hide (Arr.new 37 w L.toArray L (by simp))
  have Hbig := hide (World.size_alloc w (.cells L.toArray 37))
  go_enter Try.func14, Try.ntmps14
  go_wp2_with fail
  go_loopg [3, 4] 32 (fun g s i wr => ∃ (k : Nat) (A : Option Addr) (n c : Nat), k ≤ 32 ∧ g = 32 - k ∧ n = 4 * k ∧ i = .int .i64 k ∧ s = .slice A n c ∧ OwnB wr (w.heap.size + 1) A n c (bytes32 (l.take k)) ∧ Below (w.heap.size + 1) (w.alloc (.cells L.toArray 37)) wr)
  case atStart => exact ⟨0, none, 0, 0, by omega, rfl, by omega, rfl, rfl, OwnB.nil _ _, Below.refl _ _⟩
  case round =>
    obtain ⟨k, A, n, c, hk, rfl, hn, rfl, rfl, hown, hbel⟩ := hrel
    have HO := hide hown
    have HB := hide hbel
    have HN := hide hn
    have hsz := hbel.size
    rw [Hbig.out] at hsz
    have hn2 : n ≤ 128 := by omega
    clear hown hbel hn
    by_cases hlt : k < 32
    · have hkl : k < l.length := by have := Hl.out; omega
      have hkL : k < L.length := by have := HL32.out; omega
      have hx : L[k] = .int .i32 l[k] := by simp only [HL.out]; exact ivs_at l k _
      have hc := (HG.out.below HB.out (by omega)).cell hkL
      rw [hx] at hc
      obtain ⟨x, hx2⟩ : ∃ x, x = l[k] := ⟨_, rfl⟩
      have hxb := H32.out l[k] (List.getElem_mem _)
      rw [← hx2] at hc hxb
      obtain ⟨hx3, hx4⟩ := hxb
      have hsn := bytes32_snoc l k hkl
      rw [← hx2] at hsn
      have HS := hide hsn
      clear hx hx2 hsn
      go_wp2_with fail
      refine Calls.mono (ref_Four (x % 4294967296) _ (by omega) (by omega)) ?_
      rintro e w2 ⟨A2, c2, rfl, own2, hb2⟩
      rw [be32_mod] at own2
      have HO2 := hide (HO.out.below hb2)
      have HB2 := hide (HB.out.trans (hb2.mono hsz))
      have hsz2 := HB2.out.size
      rw [Hbig.out] at hsz2
      have OW := hide own2
      clear own2 hb2
      go_wp2_with (at_builtin; refine wpB_append3 rfl (.tmp 9) (.tmp 14) rfl (w.heap.size + 1) A n c _ rfl HO2.out _ A2 4 c2 _ rfl OW.out.lies (n + 4) _ rfl rfl (by omega) hsz2 ?_; intro A3 c3 w3 own3 k3 hk3)
      go_roundg (32 - (k + 1))
      case measure => omega
      case rel => exact ⟨k + 1, A3, n + 4, c3, by omega, rfl, by have := HN.out; omega, by go_num, rfl, by rw [HS.out]; exact own3, HB2.out.trans (k3.belowOwn HO2.out hsz2)⟩
    · obtain rfl : k = 32 := by omega
      have hn128 : n = 128 := HN.out
      subst hn128
      go_wp2
      go_ret
      refine ⟨A, c, rfl, ?_, HB0.out.trans (HB.out.mono (by omega))⟩
      have := HO.out
      rw [List.take_of_length_le (by have := Hl.out; omega)] at this
      exact this.base_le (by omega)

/-- What Decode gives. -/
def decS (b : List UInt8) : List Int := if b.length = 128 then (List.range 32).map fun i => get32 (b.drop (4 * i)) else List.replicate 32 0
def decT (b : List UInt8) (k : Nat) : List Int := (List.range 32).map fun i => if i < k then get32 (b.drop (4 * i)) else 0
theorem decT_len (b : List UInt8) (k : Nat) : (decT b k).length = 32 := by simp [decT]
theorem decT_zero (b : List UInt8) : decT b 0 = List.replicate 32 0 := by
  apply List.ext_getElem
  · simp [decT]
  · intro i h1 h2
    simp only [decT, List.getElem_map, List.getElem_range, List.getElem_replicate]
    rw [if_neg (by omega)]
theorem decT_set (b : List UInt8) (k : Nat) : (decT b k).set k (get32 (b.drop (4 * k))) = decT b (k + 1) := by
  apply List.ext_getElem
  · simp [decT]
  · intro i h1 h2
    rw [List.getElem_set]
    split
    · subst_vars; simp [decT]
    · simp only [decT, List.getElem_map, List.getElem_range]
      by_cases h : i < k
      · rw [if_pos h, if_pos (by omega)]
      · rw [if_neg h, if_neg (by omega)]
theorem decT_all {b : List UInt8} (h : b.length = 128) : decT b 32 = decS b := by
  rw [decS, if_pos h]
  refine List.map_congr_left fun i hi => ?_
  rw [if_pos (List.mem_range.1 hi)]
theorem zeros_ivs : (List.replicate 32 (Value.int .i32 0)) = ivs (List.replicate 32 0) := by simp [ivs]
set_option maxHeartbeats 400000 in
set_option maxRecDepth 10000 in
theorem state_Decode (A : Option Addr) (n c B : Nat) (b : List UInt8) (w : World) (hA : LiesB w B A n b) (hB : B ≤ w.heap.size) (hnc : n ≤ c) (hn : n ≤ 9223372036854775807) :
    Calls Try.prog 9 #[.slice A n c] w fun e w' => e = .returned (.tuple #[.agg (ivs (decS b)).toArray, .int .i64 (if n = 128 then 0 else 1)]) ∧ Below w.heap.size w w' := by
  have HA := hide hA
  have Hlen := hide hA.len
  obtain ⟨R, hR⟩ : ∃ R, R = ivs (decS b) := ⟨_, rfl⟩
  obtain ⟨er, her⟩ : ∃ er : Int, er = (if n = 128 then 0 else 1) := ⟨_, rfl⟩
  rw [← hR, ← her]
  have HR := hide hR
  have HER := hide her
  clear hA hR her
  go_enter Try.func9, Try.ntmps9
  go_upto_region 1 with fail
  go_cut [2, 4] (fun s2 s4 wx => ∃ g2 g4, s2 = .pointer (some ⟨g2, 0, none⟩) ∧ s4 = .pointer (some ⟨g4, 0, none⟩) ∧ Arr 26 wx g2 (ivs (List.replicate 32 0)) ∧ Arr 26 wx g4 (ivs (List.replicate 32 0)) ∧ w.heap.size ≤ g2 ∧ g2 < g4 ∧ Below w.heap.size w wx)
  case first =>
    go_wp2
    go_meet
    refine ⟨w.heap.size, w.heap.size + 1, rfl, rfl, ?_, ?_, by omega, by omega, ?_⟩
    · exact (Arr.new 26 w _ _ rfl).belowN (Below_new _ _)
    · have := Arr.new 26 (w.alloc (.cells (ivs (List.replicate 32 0)).toArray 26)) _ _ (show (ivs (List.replicate 32 0)).toArray.toList = ivs (List.replicate 32 0) by simp)
      rw [World.size_alloc] at this
      exact this
    · exact Below_step (Below_new _ _) (Below_new _ _)
  case rest =>
    obtain ⟨g2, g4, rfl, rfl, ha2, ha4, hg2, hg4, hb⟩ := hcut
    have H2 := hide ha2
    have H4 := hide ha4
    have HB := hide hb
    have hsz := hb.size
    have hlt4 := ha4.lt
    have HAc := hide (HA.out.below (hb.mono hB))
    clear ha2 ha4 hb
    obtain ⟨zs, hzs⟩ : ∃ zs, zs = ivs (List.replicate 32 0) := ⟨_, rfl⟩
    have HZ := hide hzs
    have HZ32 : Hid (zs.length = 32) := by rw [hzs]; rfl
    have HZ1 : Hid (∀ u ∈ zs, u.oneCell' = true) := by rw [hzs]; exact ivs_one _
    rw [← hzs] at H2 H4
    clear hzs
    by_cases h128 : n = 128
    · have e0 : er = 0 := by rw [HER.out, if_pos h128]
      subst e0
      have HD : Hid (decT b 32 = decS b) := decT_all (by rw [Hlen.out]; exact h128)
      subst h128
      have HR1 := hide (fun k => decT_len b k)
      go_wp2_with fail
      go_loopg [10] 32 (fun g i wr => ∃ k : Nat, k ≤ 32 ∧ g = 32 - k ∧ i = .int .i64 k ∧ Arr 26 wr g2 zs ∧ Arr 26 wr g4 (ivs (decT b k)) ∧ Below w.heap.size w wr)
      case atStart => exact ⟨0, by omega, rfl, rfl, H2.out, by rw [decT_zero, ← HZ.out]; exact H4.out, HB.out⟩
      case round =>
        obtain ⟨k, hk, rfl, rfl, ha2, ha4, hb⟩ := hrel
        have K2 := hide ha2
        have K4 := hide ha4
        have KB := hide hb
        have hszr := hb.size
        obtain ⟨L4, hL4⟩ : ∃ L4, L4 = ivs (decT b k) := ⟨_, rfl⟩
        have HL4 := hide hL4
        have HL32 : Hid (L4.length = 32) := by rw [hL4]; show (ivs (decT b k)).length = 32; rw [ivs_len, decT_len]
        rw [← hL4] at K4 ha4
        clear ha2 hb hL4
        by_cases hlt : k < 32
        · obtain ⟨m, hm⟩ : ∃ m, m = 4 * k := ⟨_, rfl⟩
          have hmi : (4 : Int) * (k : Int) = (m : Int) := by omega
          have hm2 : m ≤ 124 := by omega
          have hcut := hide ((HA.out.below (KB.out.mono hB)).cut (k := m) hnc)
          have HM := hide hm
          have hc := ha4.cell (j := k) (by have := HL32.out; omega)
          have hf := ha4.frozen k
          obtain ⟨v, hv⟩ : ∃ v, v = L4[k]'(by have := HL32.out; omega) := ⟨_, rfl⟩
          rw [← hv] at hc
          clear hm ha4 hv
          go_wp2_with fail
          refine Calls.mono (word_Get _ _ _ B _ _ hcut.out (by omega)) ?_
          rintro e w2 ⟨rfl, nd, rfl⟩
          have hc' : (wr.drewN nd).cell? ⟨g4, k, none⟩ = some v := hc
          have hf' : (wr.drewN nd).frozen? ⟨g4, k, none⟩ = false := hf
          obtain ⟨x, hx⟩ : ∃ x, x = get32 (b.drop m) := ⟨_, rfl⟩
          rw [← hx]
          have HX := hide hx
          have K2 := hide (K2.out.drewN nd)
          have K4 := hide (K4.out.drewN nd)
          have KB : Hid (Below w.heap.size w (wr.drewN nd)) := Below_drewN KB.out nd
          clear hx hc hf
          generalize wr.drewN nd = W2 at K2 K4 KB hc' hf' ⊢
          go_wp2
          go_roundg (32 - (k + 1))
          case measure => omega
          case rel =>
            refine ⟨k + 1, by omega, rfl, by go_num, K2.out.keeps (Keeps.setCell _ ⟨g4, k, none⟩ _) (by simp; omega), ?_, KB.out.setCell (p := ⟨g4, k, none⟩) (by simp; omega) _⟩
            have h := K4.out.set k (.int .i32 x)
            have e : L4.set k (.int .i32 x) = ivs (decT b (k + 1)) := by rw [HL4.out, ivs_set, HX.out, HM.out, decT_set]
            rw [e] at h
            exact h
        · obtain rfl : k = 32 := by omega
          rw [HD.out] at HL4
          have HE4 : Hid (L4 = R) := HL4.out.trans HR.out.symm
          clear ha4
          go_wp2_with (first
            | (refine wpA_load rfl 26 (.tmp 4) rfl g4 rfl 26 L4 K4.out 32 21 Try.underlying26 info_state HL32.out ?_)
            | (refine wpA_store rfl 26 (.tmp 2) (.tmp 21) rfl g2 L4 rfl rfl 26 zs K2.out 32 info_state HZ32.out HL32.out (by rw [HL4.out]; exact ivs_one _) ?_; intro w2 ha2 hk2 hs2))
          refine bodyPost_ret (results_arr2 (fn := Try.f9) rfl rfl _ rfl ha2 Try.underlying26 info_state HL32.out) rfl ?_
          rw [HE4.out]
          exact ⟨rfl, KB.out.trans (hk2.below hszr (fun k hk => by omega))⟩
    · have d1 : ((n : Int) != 128) = true := by simp; omega
      have d2 : ((n : Int) == 128) = false := by simp; omega
      have e0 : er = 1 := by rw [HER.out, if_neg h128]
      subst e0
      have e1 : R = zs := by rw [HR.out, HZ.out, decS, if_neg (by rw [Hlen.out]; exact h128)]
      subst e1
      clear h128
      go_wp2_with (first
        | (refine wpA_load rfl 26 (.tmp 4) rfl g4 rfl 26 R H4.out 32 21 Try.underlying26 info_state HZ32.out ?_)
        | (refine wpA_store rfl 26 (.tmp 2) (.tmp 9) rfl g2 R rfl rfl 26 R H2.out 32 info_state HZ32.out HZ32.out HZ1.out ?_; intro w2 ha2 hk2 hs2))
      exact bodyPost_ret (results_arr2 (fn := Try.f9) rfl rfl _ rfl ha2 Try.underlying26 info_state HZ32.out) rfl ⟨rfl, HB.out.trans (hk2.below hsz (fun k hk => by omega))⟩
/-- A list of numbers, as a game. -/
def ofL (l : List Int) : List Int := l.take 32 ++ List.replicate (32 - l.length) 0
def ofT (l : List Int) (k : Nat) : List Int := l.take k ++ List.replicate (32 - k) 0
theorem ofL_len (l : List Int) : (ofL l).length = 32 := by simp [ofL]; omega
theorem ofT_len (l : List Int) (k : Nat) (h : k ≤ l.length) (h2 : k ≤ 32) : (ofT l k).length = 32 := by simp [ofT]; omega
theorem ofT_set (l : List Int) (k : Nat) (h : k < l.length) (h2 : k < 32) : (ofT l k).set k l[k] = ofT l (k + 1) := by
  unfold ofT
  have e : (l.take k).length = k := by rw [List.length_take]; omega
  rw [List.set_append_right _ _ (by omega), e, Nat.sub_self, show 32 - k = (32 - (k + 1)) + 1 by omega, List.replicate_succ, List.set_cons_zero, List.take_succ_eq_append_getElem h, List.append_assoc]
  rfl
theorem ofT_end (l : List Int) (k : Nat) (h : k = min l.length 32) : ofT l k = ofL l := by
  unfold ofT ofL
  subst h
  rcases Nat.le_total l.length 32 with q | q
  · rw [Nat.min_eq_left q, List.take_of_length_le (Nat.le_refl _), List.take_of_length_le q]
  · rw [Nat.min_eq_right q, show 32 - 32 = 32 - l.length by omega]
theorem ofL_I32 {l : List Int} (h : ∀ x ∈ l, (Lit.int .i32 x).wf = true) : I32 (ofL l) := by
  intro x hx
  rcases List.mem_append.1 hx with hx | hx
  · have := Go.bounds_i32 (h x (List.mem_of_mem_take hx)); omega
  · have := List.eq_of_mem_replicate hx; omega
set_option maxHeartbeats 400000 in
set_option maxRecDepth 10000 in
theorem law8_Of (A : Option Addr) (n c B : Nat) (l : List Int) (w : World) (hA : LiesI .i32 w B A n l) (hB : B ≤ w.heap.size) (hn : n ≤ 9223372036854775807) :
    Calls Try.prog 11 #[.slice A n c] w fun e w' => e = .returned (.agg (ivs (ofL l)).toArray) ∧ Below w.heap.size w w' := by
  have HA := hide hA
  have Hlen := hide hA.1
  obtain ⟨R, hR⟩ : ∃ R, R = ivs (ofL l) := ⟨_, rfl⟩
  rw [← hR]
  have HR := hide hR
  clear hA hR
  go_enter Try.func11, Try.ntmps11
  go_upto_region 1 with fail
  go_cut [2, 3] (fun s2 s4 wx => ∃ g2 g4, s2 = .pointer (some ⟨g2, 0, none⟩) ∧ s4 = .pointer (some ⟨g4, 0, none⟩) ∧ Arr 26 wx g2 (ivs (List.replicate 32 0)) ∧ Arr 26 wx g4 (ivs (List.replicate 32 0)) ∧ w.heap.size ≤ g2 ∧ g2 < g4 ∧ Below w.heap.size w wx)
  case first =>
    go_wp2
    go_meet
    refine ⟨w.heap.size, w.heap.size + 1, rfl, rfl, ?_, ?_, by omega, by omega, ?_⟩
    · exact (Arr.new 26 w _ _ rfl).belowN (Below_new _ _)
    · have := Arr.new 26 (w.alloc (.cells (ivs (List.replicate 32 0)).toArray 26)) _ _ (show (ivs (List.replicate 32 0)).toArray.toList = ivs (List.replicate 32 0) by simp)
      rw [World.size_alloc] at this
      exact this
    · exact Below_step (Below_new _ _) (Below_new _ _)
  case rest =>
    obtain ⟨g2, g4, rfl, rfl, ha2, ha4, hg2, hg4, hb⟩ := hcut
    have H2 := hide ha2
    have H4 := hide ha4
    have HB := hide hb
    have hsz := hb.size
    have hlt4 := ha4.lt
    clear ha2 ha4 hb
    obtain ⟨zs, hzs⟩ : ∃ zs, zs = ivs (List.replicate 32 0) := ⟨_, rfl⟩
    have HZ := hide hzs
    have HZ32 : Hid (zs.length = 32) := by rw [hzs]; rfl
    rw [← hzs] at H2
    clear hzs
    go_wp2_with fail
    go_loopg [4] 32 (fun g i wr => ∃ k : Nat, k ≤ 32 ∧ k ≤ n ∧ g = 32 - k ∧ i = .int .i64 k ∧ Arr 26 wr g2 zs ∧ Arr 26 wr g4 (ivs (ofT l k)) ∧ Below w.heap.size w wr)
    case atStart => exact ⟨0, by omega, by omega, rfl, rfl, H2.out, by simpa [ofT] using H4.out, HB.out⟩
    case round =>
      obtain ⟨W1, hW1⟩ : ∃ W1, W1 = wr := ⟨_, rfl⟩
      subst hW1
      obtain ⟨k, hk, hkn, rfl, rfl, ha2, ha4, hb⟩ := hrel
      have K2 := hide ha2
      have KB := hide hb
      have hszr := hb.size
      obtain ⟨L4, hL4⟩ : ∃ L4, L4 = ivs (ofT l k) := ⟨_, rfl⟩
      have HL4 := hide hL4
      have HL32 : Hid (L4.length = 32) := by rw [hL4]; show (ivs (ofT l k)).length = 32; rw [ivs_len, ofT_len _ _ (by have := Hlen.out; omega) hk]
      rw [← hL4] at ha4
      have K4 := hide ha4
      clear ha2 hb hL4
      by_cases hlt : k < 32 ∧ k < n
      · obtain ⟨h1, h2⟩ := hlt
        have d1 : decide ((k : Int) < 32) = true := by simp; omega
        obtain ⟨b1, o1, hl1, rfl, hb1, hc1⟩ := (HA.out.below (KB.out.mono hB)).at_ h2
        have hc := ha4.cell (j := k) (by have := HL32.out; omega)
        have hf := ha4.frozen k
        obtain ⟨v, hv⟩ : ∃ v, v = L4[k]'(by have := HL32.out; omega) := ⟨_, rfl⟩
        rw [← hv] at hc
        obtain ⟨x, hx⟩ : ∃ x, x = l[k] := ⟨_, rfl⟩
        rw [← hx] at hc1
        have HX := hide hx
        clear hv ha4 hx
        go_wp2
        go_roundg (32 - (k + 1))
        case measure => omega
        case rel =>
          refine ⟨k + 1, by omega, by omega, rfl, by go_num, K2.out.keeps (Keeps.setCell _ ⟨g4, k, none⟩ _) (by simp; omega), ?_, KB.out.setCell (p := ⟨g4, k, none⟩) (by simp; omega) _⟩
          have h := K4.out.set k (.int .i32 x)
          have e : L4.set k (.int .i32 x) = ivs (ofT l (k + 1)) := by rw [HL4.out, ivs_set, HX.out, ofT_set _ _ hl1 h1]
          rw [e] at h
          exact h
      · have HE4 : Hid (L4 = R) := by
          show L4 = R
          rw [HL4.out, HR.out, ofT_end l k (by have := Hlen.out; omega)]
        clear ha4
        by_cases h2 : k < n
        · have d1 : decide ((k : Int) < 32) = false := by simp; omega
          clear hlt
          go_wp2_with (first
            | (refine wpA_load rfl 26 (.tmp 3) rfl g4 rfl 26 L4 K4.out 32 21 Try.underlying26 info_state HL32.out ?_)
            | (refine wpA_store rfl 26 (.tmp 2) (.tmp 21) rfl g2 L4 rfl rfl 26 zs K2.out 32 info_state HZ32.out HL32.out (by rw [HL4.out]; exact ivs_one _) ?_; intro w2 ha2 hk2 hs2))
          refine bodyPost_ret (results_arr (fn := Try.f11) rfl rfl ha2 Try.underlying26 info_state HL32.out) rfl ?_
          rw [HE4.out]
          exact ⟨rfl, KB.out.trans (hk2.below hszr (fun k hk => by omega))⟩
        · clear hlt
          go_wp2_with (first
            | (refine wpA_load rfl 26 (.tmp 3) rfl g4 rfl 26 L4 K4.out 32 21 Try.underlying26 info_state HL32.out ?_)
            | (refine wpA_store rfl 26 (.tmp 2) (.tmp 21) rfl g2 L4 rfl rfl 26 zs K2.out 32 info_state HZ32.out HL32.out (by rw [HL4.out]; exact ivs_one _) ?_; intro w2 ha2 hk2 hs2))
          refine bodyPost_ret (results_arr (fn := Try.f11) rfl rfl ha2 Try.underlying26 info_state HL32.out) rfl ?_
          rw [HE4.out]
          exact ⟨rfl, KB.out.trans (hk2.below hszr (fun k hk => by omega))⟩
end Go.Proofs.Ytmikaidfdcamfaa
