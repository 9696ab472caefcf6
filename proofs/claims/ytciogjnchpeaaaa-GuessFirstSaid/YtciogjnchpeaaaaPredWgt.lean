/-
  Weights.
-/
import Derived.Test.YtciogjnchpeaaaaPredMay
import Derived.Test.YtciogjnchpeaaaaStr
namespace Go.Proofs.Ytciogjnchpeaaaa
open Go.RowKit
set_option maxRecDepth 10000
set_option linter.unusedVariables false
set_option maxHeartbeats 400000 in
theorem bytes_Equal {A A' : Option Addr} {n n' c c' B B' : Nat} {l l' : List UInt8} {w : World} {r : Bool} (h : LiesB w B A n l) (h' : LiesB w B' A' n' l') (hr : (l == l') = r) :
    Calls Try.prog 43 #[.slice A n c, .slice A' n' c'] w fun e w' => e = .returned (.bool r) ∧ w = w' := by
  have H := hide h
  have H' := hide h'
  subst hr
  clear h h'
  go_enter Try.func43, Try.ntmps43
  go_wp2_with fail
  rw [run_stringB H.out]
  go_wp2_with fail
  rw [run_stringB H'.out]
  go_wp2_with fail
  go_ret
  exact ⟨rfl, rfl⟩
/-- A weight for each value. -/
def wl (f : UInt8 → Nat) : List Value := (List.range 256).map fun v => .int .i64 ((f (UInt8.ofNat v) : Nat) : Int)
theorem wl_len (f : UInt8 → Nat) : (wl f).length = 256 := by simp [wl]
theorem wl_one (f : UInt8 → Nat) : ∀ u ∈ wl f, u.oneCell' = true := by
  intro u hu
  unfold wl at hu
  obtain ⟨v, -, rfl⟩ := List.mem_map.1 hu
  rfl
theorem wl_get? (f : UInt8 → Nat) (x : UInt8) : (wl f)[x.toNat]? = some (.int .i64 ((f x : Nat) : Int)) := by
  unfold wl
  rw [List.getElem?_map, List.getElem?_range x.toNat_lt]
  simp
theorem wl_set (f : UInt8 → Nat) (x : UInt8) : (wl f).set x.toNat (.int .i64 ((f x + 1 : Nat) : Int)) = wl (fun y => if y = x then f y + 1 else f y) := by
  apply List.ext_getElem?
  intro i
  rw [List.getElem?_set]
  unfold wl
  rw [List.getElem?_map, List.getElem?_map, List.length_map, List.length_range]
  by_cases hi : i < 256
  · rw [List.getElem?_range hi]
    by_cases he : x.toNat = i
    · subst he
      rw [if_pos rfl, if_pos hi]
      simp
    · rw [if_neg he]
      have : ¬ UInt8.ofNat i = x := by
        intro e
        apply he
        rw [← e, UInt8.toNat_ofNat_of_lt' hi]
      simp [this]
  · rw [List.getElem?_eq_none (by simpa using hi)]
    have := x.toNat_lt
    rw [if_neg (by omega)]
    rfl
theorem Arr.wcell {w : World} {g : Nat} {f : UInt8 → Nat} (h : Arr 67 w g (wl f)) (x : UInt8) : w.cell? ⟨g, x.toNat, none⟩ = some (.int .i64 ((f x : Nat) : Int)) := by
  have hl : x.toNat < (wl f).length := by rw [wl_len]; exact x.toNat_lt
  rw [h.cell hl]
  have := wl_get? f x
  rw [List.getElem?_eq_getElem hl] at this
  exact this
theorem zero_w (w : World) : Sem.run Try.prog (zeroValue 67) w = .ok (.agg (wl fun _ => 0).toArray) w := by
  have h : (Try.prog.info? 67).map (·.zero) = some (some (.agg (wl fun _ => 0).toArray)) := by kernel_rfl
  cases hq : Try.prog.info? 67 with
  | none => simp [hq] at h
  | some t =>
    have hs : t.zero = some (.agg (wl fun _ => 0).toArray) := by simpa [hq] using h
    unfold zeroValue
    simp [typeInfo, Sem.run_bind, hq, hs]
theorem info_w : (Try.prog.info? 67).map (·.size) = some 256 := by kernel_rfl
open Prd in
set_option maxHeartbeats 2000000 in
set_option maxRecDepth 10000 in
theorem pred_weights (b : By) (A0 : Option Addr) (n0 c0 : Nat) (A : Option Addr) (n c B : Nat) (past : List UInt8) (w : World) (hA : LiesB w B A n past) (hB : B ≤ w.heap.size) (hnc : n ≤ c) (hn : n ≤ 1000000) (hb : b.kind = 2 → 0 ≤ b.order ∧ b.order ≤ 1000000) :
    Calls Try.prog 34 #[b.val (.slice A0 n0 c0), .slice A n c] w fun e w' => e = .returned (.agg (wl (b.wgt past)).toArray) ∧ Below w.heap.size w w' := by
  have HA := hide hA
  obtain ⟨R, hR⟩ : ∃ R, R = wl (b.wgt past) := ⟨_, rfl⟩
  rw [← hR]
  have HR := hide hR
  clear hA hR
  rw [show b.val (.slice A0 n0 c0) = .agg #[.int .i64 b.kind, .int .i64 b.order, .slice A0 n0 c0] from rfl]
  obtain ⟨kd, hkd⟩ : ∃ k, k = b.kind := ⟨_, rfl⟩
  obtain ⟨od, hod⟩ : ∃ k, k = b.order := ⟨_, rfl⟩
  rw [← hkd, ← hod]
  rw [← hkd, ← hod] at hb
  have HKD := hide (And.intro hkd hod)
  clear hkd hod
  go_enter Try.func34, Try.ntmps34
  go_upto_region 2 with fail
  rw [zero_w]
  go_upto_region 2 with fail
  rw [zero_w]
  go_upto_region 2 with fail
  generalize hw2 : World.alloc (World.alloc (World.alloc w _) _) _ = w2
  obtain ⟨g4, hg4⟩ : ∃ g, g = w.heap.size + 1 := ⟨_, rfl⟩
  obtain ⟨g5, hg5⟩ : ∃ g, g = w.heap.size + 2 := ⟨_, rfl⟩
  have HT : Hid (Arr 39 w2 w.heap.size [.int .i64 kd, .int .i64 od, .slice A0 n0 c0] ∧ Arr 67 w2 g4 (wl fun _ => 0) ∧ Arr 67 w2 g5 (wl fun _ => 0) ∧ Below w.heap.size w w2) := by
    show _ ∧ _
    rw [← hw2, hg4, hg5]
    have a1 := Arr.new 39 w #[.int .i64 kd, .int .i64 od, .slice A0 n0 c0] _ rfl
    have b1 := Below_new w (.cells #[.int .i64 kd, .int .i64 od, .slice A0 n0 c0] 39)
    have s1 := World.size_alloc w (.cells #[.int .i64 kd, .int .i64 od, .slice A0 n0 c0] 39)
    generalize World.alloc w _ = wa at *
    have a2 := Arr.new 67 wa (wl fun _ => 0).toArray _ rfl
    have b2 := Below_new wa (.cells (wl fun _ => 0).toArray 67)
    have s2 := World.size_alloc wa (.cells (wl fun _ => 0).toArray 67)
    generalize World.alloc wa _ = wb at *
    have a3 := Arr.new 67 wb (wl fun _ => 0).toArray _ rfl
    have b3 := Below_new wb (.cells (wl fun _ => 0).toArray 67)
    rw [s1] at a2
    rw [s2, s1] at a3
    exact ⟨(a1.belowN b2).belowN b3, a2.belowN b3, a3, Below_step (Below_step b1 b2) b3⟩
  rw [← hg5, ← hg4]
  have HG : Hid (w.heap.size < g4 ∧ g4 < g5 ∧ g5 < w2.heap.size) := ⟨by omega, by omega, HT.out.2.2.1.lt⟩
  obtain ⟨zs, hzs⟩ : ∃ zs, zs = wl fun _ => 0 := ⟨_, rfl⟩
  have HZ := hide hzs
  have HZ32 : Hid (zs.length = 256) := by show _ = _; rw [hzs]; exact wl_len _
  have HZ1 : Hid (∀ u ∈ zs, u.oneCell' = true) := by rw [hzs]; exact wl_one _
  rw [← hzs] at HT
  have hB2 : w.heap.size ≤ w2.heap.size := HT.out.2.2.2.size
  have q0 := HT.out.1.cell (j := 0) (by simp)
  have q1 := HT.out.1.cell (j := 1) (by simp)
  simp only [List.getElem_cons_zero, List.getElem_cons_succ] at q0 q1
  clear hw2 hg4 hg5 hzs
  by_cases hk : kd = 2
  · subst hk
    obtain ⟨o, ho⟩ : ∃ o : Nat, od = (o : Int) := ⟨od.toNat, by have := hb rfl; omega⟩
    subst ho
    have hob : o ≤ 1000000 := by have := hb rfl; omega
    by_cases hon : n < o
    · have d2 : decide ((n : Int) < (o : Int)) = true := decide_eq_true (by omega)
      have e1 : Hid (R = zs) := by
        show _ = _
        rw [HR.out, HZ.out]
        congr 1
        funext x
        unfold By.wgt
        rw [if_neg]
        rw [← HKD.out.2, HA.out.len, Int.toNat_natCast]
        omega
      go_wp2_with (first
        | (refine wpA_load rfl 67 (.tmp 5) rfl g5 rfl 67 zs HT.out.2.2.1 256 3 Try.underlying67 info_w HZ32.out ?_)
        | (refine wpA_store rfl 67 (.tmp 4) (.tmp 18) rfl g4 zs rfl rfl 67 zs HT.out.2.1 256 info_w HZ32.out HZ32.out HZ1.out ?_; intro w3 ha3 hk3 hs3))
      rw [e1.out]
      exact bodyPost_ret (results_arr (fn := Try.f34) rfl rfl ha3 Try.underlying67 info_w HZ32.out) rfl ⟨rfl, HT.out.2.2.2.trans (hk3.below hB2 (fun k hk => by have := HG.out; omega))⟩
    · have d2 : decide ((n : Int) < (o : Int)) = false := decide_eq_false (by omega)
      obtain ⟨e, he⟩ : ∃ e, e + o = n := ⟨n - o, by omega⟩
      have e1 : (n : Int) - (o : Int) = (e : Int) := by omega
      have e2 : e ≤ n := by omega
      have HCE : Hid (LiesB w2 B (cutA A c e 1) o (past.drop e)) := by
        have := (HA.out.below (HT.out.2.2.2.mono hB)).cut (k := e) hnc
        rwa [show n - e = o by omega] at this
      have HEO := hide he
      clear he hb
      go_upto_region 4 with fail
      go_cut [6] from 8 to 25 (fun s wx => s = .slice (cutA A c e 1) o (c - e) ∧ w2 = wx)
      case first =>
        go_wp2_with fail
        go_meet
        refine ⟨?_, rfl⟩
        rw [show n - e = o by have := HEO.out; omega]
      case rest =>
      obtain ⟨rfl, rfl⟩ := hcut
      go_wp2_with fail
      go_loopg [7] (n - o) (fun gg s wr => ∃ (i : Nat), o ≤ i ∧ i ≤ n ∧ gg = n - i ∧ s = .int .i64 (i : Int) ∧ Hid (Arr 67 wr g5 (wl (cnt o past i)) ∧ Arr 67 wr g4 zs ∧ Arr 39 wr w.heap.size [.int .i64 2, .int .i64 (o : Int), .slice A0 n0 c0] ∧ Below w.heap.size w wr))
      case atStart =>
        refine ⟨o, by omega, by omega, rfl, rfl, ?_⟩
        refine ⟨?_, HT.out.2.1, HT.out.1, HT.out.2.2.2⟩
        have e : cnt o past o = fun _ => 0 := funext fun x => cnt_early o past o x (Nat.le_refl _)
        rw [e, ← HZ.out]
        exact HT.out.2.2.1
      case round =>
        obtain ⟨W1, hW1⟩ : ∃ W1, W1 = wr := ⟨_, rfl⟩
        subst hW1
        obtain ⟨i, hi, hin, rfl, rfl, HI⟩ := hrel
        have hB1 : w.heap.size ≤ W1.heap.size := HI.out.2.2.2.size
        have q0' := HI.out.2.2.1.cell (j := 0) (by simp)
        have q1' := HI.out.2.2.1.cell (j := 1) (by simp)
        simp only [List.getElem_cons_zero, List.getElem_cons_succ] at q0' q1'
        by_cases hlt : i < n
        · obtain ⟨j, hj⟩ : ∃ j, j + o = i := ⟨i - o, by omega⟩
          have j1 : (i : Int) - (o : Int) = (j : Int) := by omega
          have HJ := hide hj
          clear hj
          go_upto_region 8 with fail
          go_cut [42] from 28 to 50 (fun v wx => v = .bool (hit o past i) ∧ W1 = wx)
          case first =>
            go_wp2_with fail
            have s1 : LiesB W1 B (cutA A c j 1) (i - j) ((past.drop j).take o) := by
              have h := ((HA.out.below (HI.out.2.2.2.mono hB)).take i).cut (k := j) (cap := c) (by omega)
              rw [show min i n - j = i - j by omega, List.drop_take, show i - j = o by have := HJ.out; omega] at h
              rw [show i - j = o by have := HJ.out; omega]
              exact h
            have s2 : LiesB W1 B (cutA A c e 1) o (past.drop e) := by
              have h := (HA.out.below (HI.out.2.2.2.mono hB)).cut (k := e) hnc
              rwa [show n - e = o by have := HEO.out; omega] at h
            refine Calls.mono (bytes_Equal s1 s2 (r := hit o past i) (by
              unfold hit
              rw [HA.out.len, show i - o = j by have := HJ.out; omega, show n - o = e by have := HEO.out; omega])) ?_
            rintro e w3 ⟨rfl, rfl⟩
            go_wp2_with fail
            go_meet
            exact ⟨rfl, rfl⟩
          case rest =>
          obtain ⟨rfl, rfl⟩ := hcut
          obtain ⟨bl, off, hlp, rfl, hblB, hcp⟩ := (HA.out.below (HI.out.2.2.2.mono hB)).at_ hlt
          obtain ⟨x, hx⟩ : ∃ x, x = past[i] := ⟨_, rfl⟩
          rw [← hx] at hcp
          have hx2 : Hid (past.getD i 0 = x) := by show _ = _; rw [List.getD_eq_getElem?_getD, List.getElem?_eq_getElem hlp, hx]; rfl
          have hcx := HI.out.1.wcell x
          have hfx := HI.out.1.frozen x.toNat
          have hx256 : x.toNat < 256 := x.toNat_lt
          have hxi : (x.toNat : Int) < 256 := by omega
          obtain ⟨k, hk⟩ : ∃ k, k = cnt o past i x := ⟨_, rfl⟩
          rw [← hk] at hcx
          have hk2 : k ≤ 1000000 := by have := cnt_le o past i x; omega
          have HKK := hide hk
          clear hx hk
          cases hh : hit o past i
          · have HN : Hid (cnt o past (i + 1) = cnt o past i) := by
              show _ = _
              funext y
              rw [cnt_succ, if_neg (by rw [hh]; simp)]; rfl
            go_wp2_with fail
            go_roundg (n - (i + 1))
            case measure => omega
            case rel => exact ⟨i + 1, by omega, by omega, rfl, by go_num, by rw [HN.out]; exact HI.out.1, HI.out.2⟩
          · have HN : Hid (cnt o past (i + 1) = fun y => if y = x then cnt o past i y + 1 else cnt o past i y) := by
              show _ = _
              funext y
              rw [cnt_succ, hx2.out]
              by_cases hy : y = x
              · rw [if_pos hy, if_pos ⟨hi, hh, hy.symm⟩]
              · rw [if_neg hy, if_neg (by rintro ⟨_, _, h⟩; exact hy h.symm)]; rfl
            have HI2 : Hid (Arr 67 (W1.setCell ⟨g5, x.toNat, none⟩ (.int .i64 ((k : Int) + 1))) g5 (wl (cnt o past (i + 1)))) := by
              show Arr _ _ _ _
              have := HI.out.1.set x.toNat (.int .i64 ((k : Int) + 1))
              rw [show ((k : Int) + 1) = ((cnt o past i x + 1 : Nat) : Int) by rw [← HKK.out]; omega, wl_set] at this
              rw [HN.out]
              rw [show ((k : Int) + 1) = ((cnt o past i x + 1 : Nat) : Int) by rw [← HKK.out]; omega]
              exact this
            have KS : Keeps (fun k => k = g5) W1 (W1.setCell ⟨g5, x.toNat, none⟩ (.int .i64 ((k : Int) + 1))) := Keeps.setCell W1 ⟨g5, x.toNat, none⟩ _
            have HI3 : Hid (Arr 67 (W1.setCell ⟨g5, x.toNat, none⟩ (.int .i64 ((k : Int) + 1))) g4 zs ∧ Arr 39 (W1.setCell ⟨g5, x.toNat, none⟩ (.int .i64 ((k : Int) + 1))) w.heap.size [.int .i64 2, .int .i64 (o : Int), .slice A0 n0 c0] ∧ Below w.heap.size w (W1.setCell ⟨g5, x.toNat, none⟩ (.int .i64 ((k : Int) + 1)))) := by
              have hg := HG.out
              exact ⟨HI.out.2.1.keeps KS (by omega), HI.out.2.2.1.keeps KS (by omega), HI.out.2.2.2.trans (KS.below hB1 (fun k hk => by omega))⟩
            clear KS
            go_wp2_with fail
            go_roundg (n - (i + 1))
            case measure => omega
            case rel => exact ⟨i + 1, by omega, by omega, rfl, by go_num, HI2.out, HI3.out⟩
        · obtain rfl : i = n := by omega
          have HE : Hid (wl (cnt o past i) = R) := by
            show _ = _
            rw [HR.out]
            congr 1
            funext x
            unfold By.wgt
            rw [if_pos ⟨HKD.out.1.symm, by rw [← HKD.out.2, HA.out.len, Int.toNat_natCast]; omega⟩, ← HKD.out.2, HA.out.len, Int.toNat_natCast]
          have HR32 : Hid (R.length = 256) := by show _ = _; rw [← HE.out]; exact wl_len _
          have HA5 := hide HI.out.1
          rw [HE.out] at HA5
          go_wp2_with (first
            | (refine wpA_load rfl 67 (.tmp 5) rfl g5 rfl 67 R HA5.out 256 3 Try.underlying67 info_w HR32.out ?_)
            | (refine wpA_store rfl 67 (.tmp 4) (.tmp 51) rfl g4 R rfl rfl 67 zs HI.out.2.1 256 info_w HZ32.out HR32.out (by rw [← HE.out]; exact wl_one _) ?_; intro w3 ha3 hk3 hs3))
          exact bodyPost_ret (results_arr (fn := Try.f34) rfl rfl ha3 Try.underlying67 info_w HR32.out) rfl ⟨rfl, HI.out.2.2.2.trans (hk3.below hB1 (fun k hk => by have := HG.out; omega))⟩
  · have d1 : (kd != 2) = true := by simpa using hk
    have e1 : Hid (R = zs) := by
      show _ = _
      rw [HR.out, HZ.out]
      congr 1
      funext x
      unfold By.wgt
      rw [if_neg]
      rw [← HKD.out.1]
      exact fun h => hk h.1
    clear hb hk
    go_wp2_with (first
      | (refine wpA_load rfl 67 (.tmp 5) rfl g5 rfl 67 zs HT.out.2.2.1 256 3 Try.underlying67 info_w HZ32.out ?_)
      | (refine wpA_store rfl 67 (.tmp 4) (.tmp 18) rfl g4 zs rfl rfl 67 zs HT.out.2.1 256 info_w HZ32.out HZ32.out HZ1.out ?_; intro w3 ha3 hk3 hs3))
    rw [e1.out]
    exact bodyPost_ret (results_arr (fn := Try.f34) rfl rfl ha3 Try.underlying67 info_w HZ32.out) rfl ⟨rfl, HT.out.2.2.2.trans (hk3.below hB2 (fun k hk => by have := HG.out; omega))⟩
open Prd in
set_option maxHeartbeats 2000000 in
set_option maxRecDepth 10000 in
theorem ref_weights (b : By) (A0 : Option Addr) (n0 c0 : Nat) (A : Option Addr) (n c B : Nat) (past : List UInt8) (w : World) (hA : LiesB w B A n past) (hB : B ≤ w.heap.size) (hnc : n ≤ c) (hn : n ≤ 1000000) (hb : b.kind = 2 → 0 ≤ b.order ∧ b.order ≤ 1000000) :
    Calls Try.prog 41 #[b.val (.slice A0 n0 c0), .slice A n c] w fun e w' => e = .returned (.agg (wl (b.wgt past)).toArray) ∧ Below w.heap.size w w' := by
  have HA := hide hA
  obtain ⟨R, hR⟩ : ∃ R, R = wl (b.wgt past) := ⟨_, rfl⟩
  rw [← hR]
  have HR := hide hR
  clear hA hR
  rw [show b.val (.slice A0 n0 c0) = .agg #[.int .i64 b.kind, .int .i64 b.order, .slice A0 n0 c0] from rfl]
  obtain ⟨kd, hkd⟩ : ∃ k, k = b.kind := ⟨_, rfl⟩
  obtain ⟨od, hod⟩ : ∃ k, k = b.order := ⟨_, rfl⟩
  rw [← hkd, ← hod]
  rw [← hkd, ← hod] at hb
  have HKD := hide (And.intro hkd hod)
  clear hkd hod
  go_enter Try.func41, Try.ntmps41
  go_upto_region 2 with fail
  rw [zero_w]
  go_upto_region 2 with fail
  rw [zero_w]
  go_upto_region 2 with fail
  generalize hw2 : World.alloc (World.alloc (World.alloc w _) _) _ = w2
  obtain ⟨g4, hg4⟩ : ∃ g, g = w.heap.size + 1 := ⟨_, rfl⟩
  obtain ⟨g5, hg5⟩ : ∃ g, g = w.heap.size + 2 := ⟨_, rfl⟩
  have HT : Hid (Arr 25 w2 w.heap.size [.int .i64 kd, .int .i64 od, .slice A0 n0 c0] ∧ Arr 67 w2 g4 (wl fun _ => 0) ∧ Arr 67 w2 g5 (wl fun _ => 0) ∧ Below w.heap.size w w2) := by
    show _ ∧ _
    rw [← hw2, hg4, hg5]
    have a1 := Arr.new 25 w #[.int .i64 kd, .int .i64 od, .slice A0 n0 c0] _ rfl
    have b1 := Below_new w (.cells #[.int .i64 kd, .int .i64 od, .slice A0 n0 c0] 25)
    have s1 := World.size_alloc w (.cells #[.int .i64 kd, .int .i64 od, .slice A0 n0 c0] 25)
    generalize World.alloc w _ = wa at *
    have a2 := Arr.new 67 wa (wl fun _ => 0).toArray _ rfl
    have b2 := Below_new wa (.cells (wl fun _ => 0).toArray 67)
    have s2 := World.size_alloc wa (.cells (wl fun _ => 0).toArray 67)
    generalize World.alloc wa _ = wb at *
    have a3 := Arr.new 67 wb (wl fun _ => 0).toArray _ rfl
    have b3 := Below_new wb (.cells (wl fun _ => 0).toArray 67)
    rw [s1] at a2
    rw [s2, s1] at a3
    exact ⟨(a1.belowN b2).belowN b3, a2.belowN b3, a3, Below_step (Below_step b1 b2) b3⟩
  rw [← hg5, ← hg4]
  have HG : Hid (w.heap.size < g4 ∧ g4 < g5 ∧ g5 < w2.heap.size) := ⟨by omega, by omega, HT.out.2.2.1.lt⟩
  obtain ⟨zs, hzs⟩ : ∃ zs, zs = wl fun _ => 0 := ⟨_, rfl⟩
  have HZ := hide hzs
  have HZ32 : Hid (zs.length = 256) := by show _ = _; rw [hzs]; exact wl_len _
  have HZ1 : Hid (∀ u ∈ zs, u.oneCell' = true) := by rw [hzs]; exact wl_one _
  rw [← hzs] at HT
  have hB2 : w.heap.size ≤ w2.heap.size := HT.out.2.2.2.size
  have q0 := HT.out.1.cell (j := 0) (by simp)
  have q1 := HT.out.1.cell (j := 1) (by simp)
  simp only [List.getElem_cons_zero, List.getElem_cons_succ] at q0 q1
  clear hw2 hg4 hg5 hzs
  by_cases hk : kd = 2
  · subst hk
    obtain ⟨o, ho⟩ : ∃ o : Nat, od = (o : Int) := ⟨od.toNat, by have := hb rfl; omega⟩
    subst ho
    have hob : o ≤ 1000000 := by have := hb rfl; omega
    by_cases hon : n < o
    · have d2 : decide ((n : Int) < (o : Int)) = true := decide_eq_true (by omega)
      have e1 : Hid (R = zs) := by
        show _ = _
        rw [HR.out, HZ.out]
        congr 1
        funext x
        unfold By.wgt
        rw [if_neg]
        rw [← HKD.out.2, HA.out.len, Int.toNat_natCast]
        omega
      go_wp2_with (first
        | (refine wpA_load rfl 67 (.tmp 5) rfl g5 rfl 67 zs HT.out.2.2.1 256 3 Try.underlying67 info_w HZ32.out ?_)
        | (refine wpA_store rfl 67 (.tmp 4) (.tmp 18) rfl g4 zs rfl rfl 67 zs HT.out.2.1 256 info_w HZ32.out HZ32.out HZ1.out ?_; intro w3 ha3 hk3 hs3))
      rw [e1.out]
      exact bodyPost_ret (results_arr (fn := Try.f41) rfl rfl ha3 Try.underlying67 info_w HZ32.out) rfl ⟨rfl, HT.out.2.2.2.trans (hk3.below hB2 (fun k hk => by have := HG.out; omega))⟩
    · have d2 : decide ((n : Int) < (o : Int)) = false := decide_eq_false (by omega)
      obtain ⟨e, he⟩ : ∃ e, e + o = n := ⟨n - o, by omega⟩
      have e1 : (n : Int) - (o : Int) = (e : Int) := by omega
      have e2 : e ≤ n := by omega
      have HCE : Hid (LiesB w2 B (cutA A c e 1) o (past.drop e)) := by
        have := (HA.out.below (HT.out.2.2.2.mono hB)).cut (k := e) hnc
        rwa [show n - e = o by omega] at this
      have HEO := hide he
      clear he hb
      go_upto_region 4 with fail
      go_cut [6] from 8 to 26 (fun s wx => s = .string (strOf (past.drop e)) ∧ w2 = wx)
      case first =>
        go_wp2_with fail
        rw [show n - e = o by have := HEO.out; omega]
        rw [run_stringB HCE.out]
        go_wp2_with fail
        go_meet
        exact ⟨rfl, rfl⟩
      case rest =>
      obtain ⟨rfl, rfl⟩ := hcut
      go_wp2_with fail
      go_loopg [7] (n - o) (fun gg s wr => ∃ (i : Nat), o ≤ i ∧ i ≤ n ∧ gg = n - i ∧ s = .int .i64 (i : Int) ∧ Hid (Arr 67 wr g5 (wl (cnt o past i)) ∧ Arr 67 wr g4 zs ∧ Arr 25 wr w.heap.size [.int .i64 2, .int .i64 (o : Int), .slice A0 n0 c0] ∧ Below w.heap.size w wr))
      case atStart =>
        refine ⟨o, by omega, by omega, rfl, rfl, ?_⟩
        refine ⟨?_, HT.out.2.1, HT.out.1, HT.out.2.2.2⟩
        have e : cnt o past o = fun _ => 0 := funext fun x => cnt_early o past o x (Nat.le_refl _)
        rw [e, ← HZ.out]
        exact HT.out.2.2.1
      case round =>
        obtain ⟨W1, hW1⟩ : ∃ W1, W1 = wr := ⟨_, rfl⟩
        subst hW1
        obtain ⟨i, hi, hin, rfl, rfl, HI⟩ := hrel
        have hB1 : w.heap.size ≤ W1.heap.size := HI.out.2.2.2.size
        have q0' := HI.out.2.2.1.cell (j := 0) (by simp)
        have q1' := HI.out.2.2.1.cell (j := 1) (by simp)
        simp only [List.getElem_cons_zero, List.getElem_cons_succ] at q0' q1'
        by_cases hlt : i < n
        · obtain ⟨j, hj⟩ : ∃ j, j + o = i := ⟨i - o, by omega⟩
          have j1 : (i : Int) - (o : Int) = (j : Int) := by omega
          have HJ := hide hj
          clear hj
          go_upto_region 8 with fail
          go_cut [44] from 29 to 52 (fun v wx => v = .bool (hit o past i) ∧ W1 = wx)
          case first =>
            go_wp2_with fail
            have s1 : LiesB W1 B (cutA A c j 1) (i - j) ((past.drop j).take o) := by
              have h := ((HA.out.below (HI.out.2.2.2.mono hB)).take i).cut (k := j) (cap := c) (by omega)
              rw [show min i n - j = i - j by omega, List.drop_take, show i - j = o by have := HJ.out; omega] at h
              rw [show i - j = o by have := HJ.out; omega]
              exact h
            have s2 : LiesB W1 B (cutA A c e 1) o (past.drop e) := by
              have h := (HA.out.below (HI.out.2.2.2.mono hB)).cut (k := e) hnc
              rwa [show n - e = o by have := HEO.out; omega] at h
            rw [run_stringB s1]
            go_wp2_with fail
            go_meet
            refine ⟨?_, rfl⟩
            congr 1
            unfold hit
            rw [HA.out.len, show i - o = j by have := HJ.out; omega, show n - o = e by have := HEO.out; omega]
          case rest =>
          obtain ⟨rfl, rfl⟩ := hcut
          obtain ⟨bl, off, hlp, rfl, hblB, hcp⟩ := (HA.out.below (HI.out.2.2.2.mono hB)).at_ hlt
          obtain ⟨x, hx⟩ : ∃ x, x = past[i] := ⟨_, rfl⟩
          rw [← hx] at hcp
          have hx2 : Hid (past.getD i 0 = x) := by show _ = _; rw [List.getD_eq_getElem?_getD, List.getElem?_eq_getElem hlp, hx]; rfl
          have hcx := HI.out.1.wcell x
          have hfx := HI.out.1.frozen x.toNat
          have hx256 : x.toNat < 256 := x.toNat_lt
          have hxi : (x.toNat : Int) < 256 := by omega
          obtain ⟨k, hk⟩ : ∃ k, k = cnt o past i x := ⟨_, rfl⟩
          rw [← hk] at hcx
          have hk2 : k ≤ 1000000 := by have := cnt_le o past i x; omega
          have HKK := hide hk
          clear hx hk
          cases hh : hit o past i
          · have HN : Hid (cnt o past (i + 1) = cnt o past i) := by
              show _ = _
              funext y
              rw [cnt_succ, if_neg (by rw [hh]; simp)]; rfl
            go_wp2_with fail
            go_roundg (n - (i + 1))
            case measure => omega
            case rel => exact ⟨i + 1, by omega, by omega, rfl, by go_num, by rw [HN.out]; exact HI.out.1, HI.out.2⟩
          · have HN : Hid (cnt o past (i + 1) = fun y => if y = x then cnt o past i y + 1 else cnt o past i y) := by
              show _ = _
              funext y
              rw [cnt_succ, hx2.out]
              by_cases hy : y = x
              · rw [if_pos hy, if_pos ⟨hi, hh, hy.symm⟩]
              · rw [if_neg hy, if_neg (by rintro ⟨_, _, h⟩; exact hy h.symm)]; rfl
            have HI2 : Hid (Arr 67 (W1.setCell ⟨g5, x.toNat, none⟩ (.int .i64 ((k : Int) + 1))) g5 (wl (cnt o past (i + 1)))) := by
              show Arr _ _ _ _
              have := HI.out.1.set x.toNat (.int .i64 ((k : Int) + 1))
              rw [show ((k : Int) + 1) = ((cnt o past i x + 1 : Nat) : Int) by rw [← HKK.out]; omega, wl_set] at this
              rw [HN.out]
              rw [show ((k : Int) + 1) = ((cnt o past i x + 1 : Nat) : Int) by rw [← HKK.out]; omega]
              exact this
            have KS : Keeps (fun k => k = g5) W1 (W1.setCell ⟨g5, x.toNat, none⟩ (.int .i64 ((k : Int) + 1))) := Keeps.setCell W1 ⟨g5, x.toNat, none⟩ _
            have HI3 : Hid (Arr 67 (W1.setCell ⟨g5, x.toNat, none⟩ (.int .i64 ((k : Int) + 1))) g4 zs ∧ Arr 25 (W1.setCell ⟨g5, x.toNat, none⟩ (.int .i64 ((k : Int) + 1))) w.heap.size [.int .i64 2, .int .i64 (o : Int), .slice A0 n0 c0] ∧ Below w.heap.size w (W1.setCell ⟨g5, x.toNat, none⟩ (.int .i64 ((k : Int) + 1)))) := by
              have hg := HG.out
              exact ⟨HI.out.2.1.keeps KS (by omega), HI.out.2.2.1.keeps KS (by omega), HI.out.2.2.2.trans (KS.below hB1 (fun k hk => by omega))⟩
            clear KS
            go_wp2_with fail
            go_roundg (n - (i + 1))
            case measure => omega
            case rel => exact ⟨i + 1, by omega, by omega, rfl, by go_num, HI2.out, HI3.out⟩
        · obtain rfl : i = n := by omega
          have HE : Hid (wl (cnt o past i) = R) := by
            show _ = _
            rw [HR.out]
            congr 1
            funext x
            unfold By.wgt
            rw [if_pos ⟨HKD.out.1.symm, by rw [← HKD.out.2, HA.out.len, Int.toNat_natCast]; omega⟩, ← HKD.out.2, HA.out.len, Int.toNat_natCast]
          have HR32 : Hid (R.length = 256) := by show _ = _; rw [← HE.out]; exact wl_len _
          have HA5 := hide HI.out.1
          rw [HE.out] at HA5
          go_wp2_with (first
            | (refine wpA_load rfl 67 (.tmp 5) rfl g5 rfl 67 R HA5.out 256 3 Try.underlying67 info_w HR32.out ?_)
            | (refine wpA_store rfl 67 (.tmp 4) (.tmp 53) rfl g4 R rfl rfl 67 zs HI.out.2.1 256 info_w HZ32.out HR32.out (by rw [← HE.out]; exact wl_one _) ?_; intro w3 ha3 hk3 hs3))
          exact bodyPost_ret (results_arr (fn := Try.f41) rfl rfl ha3 Try.underlying67 info_w HR32.out) rfl ⟨rfl, HI.out.2.2.2.trans (hk3.below hB1 (fun k hk => by have := HG.out; omega))⟩
  · have d1 : (kd != 2) = true := by simpa using hk
    have e1 : Hid (R = zs) := by
      show _ = _
      rw [HR.out, HZ.out]
      congr 1
      funext x
      unfold By.wgt
      rw [if_neg]
      rw [← HKD.out.1]
      exact fun h => hk h.1
    clear hb hk
    go_wp2_with (first
      | (refine wpA_load rfl 67 (.tmp 5) rfl g5 rfl 67 zs HT.out.2.2.1 256 3 Try.underlying67 info_w HZ32.out ?_)
      | (refine wpA_store rfl 67 (.tmp 4) (.tmp 18) rfl g4 zs rfl rfl 67 zs HT.out.2.1 256 info_w HZ32.out HZ32.out HZ1.out ?_; intro w3 ha3 hk3 hs3))
    rw [e1.out]
    exact bodyPost_ret (results_arr (fn := Try.f41) rfl rfl ha3 Try.underlying67 info_w HZ32.out) rfl ⟨rfl, HT.out.2.2.2.trans (hk3.below hB2 (fun k hk => by have := HG.out; omega))⟩
end Go.Proofs.Ytciogjnchpeaaaa
