/-
  runs.Decode.
  runs.Decode, its answer handed over.
  The walk of packet.Decode.
  quintainlaw1.Short cuts a slice of bytes.
  quintainlaw15.Cut; a packet's variable made and given its first value.
  Unpacket, plain: what is read of a packet's bytes, number by number.
  quintainref1.Get.
  quintainref12.Unruns.
-/
import Derived.Test.YtbcgffgiifminaaStand6
import Derived.Deep.LoopGhost
import Derived.Deep.CutRange
import Derived.Lib.BufferMore
namespace Go.Proofs.Ytbcgffgiifminaa
open Go.RowKit
set_option maxRecDepth 10000
set_option linter.unusedVariables false
namespace Runs
theorem dec_len (N : Nat) : ∀ (most : Nat) (first : Bool) (a : UInt8) (out l : List UInt8), l.length ≤ N → (dec most first a out l).2 = 0 → out.length ≤ (dec most first a out l).1.length := by
  induction N with
  | zero => intro most first a out l h h2; have : l = [] := List.eq_nil_of_length_eq_zero (by omega); subst this; rw [dec_nil]; exact Nat.le_refl _
  | succ N ih =>
    intro most first a out l h h2
    by_cases hl : l = []
    · subst hl; rw [dec_nil]; exact Nat.le_refl _
    · obtain ⟨v, k, e, hg⟩ : ∃ v k e, Var.get 0 0 l = (v, k, e) := ⟨_, _, _, rfl⟩
      by_cases h3 : e ≠ 0 ∨ v < 1 ∨ l.length ≤ k ∨ (l.getD k 0 = 0 ∧ first = false)
      · rw [dec_bad hg hl h3] at h2; simp at h2
      · by_cases h4 : (most : Int) - out.length < v
        · rw [dec_full hg hl h3 h4] at h2; simp at h2
        · rw [dec_on hg hl h3 h4] at h2 ⊢
          have hne : l.length ≠ 0 := fun h' => hl (List.eq_nil_of_length_eq_zero h')
          have := ih _ _ _ _ _ (by rw [List.length_drop]; omega) h2
          rw [List.length_append] at this
          omega
end Runs

/-- The fault of the next run, as the code asks it. -/
def badB (k n q : Nat) (v er : Int) (l : List UInt8) : Bool := decide (er ≠ 0 ∨ v < 1 ∨ n ≤ k + q ∨ (l.getD (k + q) 0 = 0 ∧ 0 < k))
theorem badB_t {k n q : Nat} {v er : Int} {l : List UInt8} (h : er ≠ 0 ∨ v < 1 ∨ n ≤ k + q ∨ (l.getD (k + q) 0 = 0 ∧ 0 < k)) : badB k n q v er l = true := by unfold badB; exact decide_eq_true h
theorem badB_f {k n q : Nat} {v er : Int} {l : List UInt8} (h : ¬ (er ≠ 0 ∨ v < 1 ∨ n ≤ k + q ∨ (l.getD (k + q) 0 = 0 ∧ 0 < k))) : badB k n q v er l = false := by unfold badB; exact decide_eq_false h
theorem badB_out {k n q : Nat} {v er : Int} {l : List UInt8} {b : Bool} (h : badB k n q v er l = b) : (er ≠ 0 ∨ v < 1 ∨ n ≤ k + q ∨ (l.getD (k + q) 0 = 0 ∧ 0 < k)) ↔ b = true := by subst h; unfold badB; simp

set_option maxRecDepth 10000 in
set_option maxHeartbeats 10000000 in
theorem runs_Decode (A : Option Addr) (n c B : Nat) (l : List UInt8) (most : Int) (M : Nat) (w : World) (hA : LiesB w B A n l) (hnc : n ≤ c) (hB : B ≤ w.heap.size) (hn : n ≤ 1000000)
    (lo : -9223372036854775808 ≤ most) (hi : most ≤ 9223372036854775807) (hM : max most 0 = (M : Int)) (R : List UInt8 × Int) (hR : Runs.dec M true 0 [] l = R) (room : M ≤ 1000000 ∨ (R.2 = 0 ∧ R.1.length ≤ 1000000)) :
    Calls Try.prog 79 #[.slice A n c, .int .i64 most] w fun e w' => ∃ A' n' c', e = .returned (.tuple #[.slice A' n' c', .int .i64 R.2]) ∧ OwnB w' w.heap.size A' n' c' R.1 ∧ Below w.heap.size w w' := by
  have HR := hide hR
  have HA := hide hA
  have HM := hide room
  clear hR hA room
  go_enter Try.func79, Try.ntmps79
  go_wp2
  go_loopg [6, 7, 8] n (fun g s x i wr => ∃ (k : Nat) (A' : Option Addr) (n' c' : Nat) (l' : List UInt8) (ah : UInt8), k ≤ n ∧ n' ≤ M ∧ g = n - k ∧ i = .int .i64 k ∧ x = .int .u8 (ah.toNat : Int) ∧ s = .slice A' n' c' ∧ OwnB wr w.heap.size A' n' c' l' ∧ Runs.dec M (decide (k = 0)) ah l' (l.drop k) = R ∧ Below w.heap.size w wr)
  case atStart => exact ⟨0, _, _, _, [], 0, by omega, by omega, rfl, rfl, rfl, rfl, OwnB.nil _ _, by simpa using HR.out, Below.refl _ _⟩
  case round =>
    obtain ⟨W1, hW1⟩ : ∃ W1, W1 = wr := ⟨_, rfl⟩
    subst hW1
    obtain ⟨k, A', n', c', l', ah, hk, hnM, rfl, rfl, rfl, rfl, hown, heq, hbel⟩ := hrel
    have HL := hide (HA.out.below (hbel.mono hB))
    have HO := hide hown
    have HB := hide hbel
    have HE := hide heq
    have hsz : w.heap.size ≤ W1.heap.size := hbel.size
    have hl' := hide hown.len
    clear hown hbel heq
    by_cases hlt : k < n
    · have hcut := HL.out.cut (k := k) hnc
      have HC := hide hcut
      obtain ⟨v, q, er, hg⟩ : ∃ v q er, Var.get 0 0 (l.drop k) = (v, q, er) := ⟨_, _, _, rfl⟩
      have hf := Var.get_facts _ 0 0 v q er (by omega) (by simp) hg
      rw [hcut.len] at hf
      have HG := hide hg
      have hne : l.drop k ≠ [] := fun h => by have := congrArg List.length h; rw [hcut.len] at this; simp at this; omega
      have HNE := hide hne
      obtain ⟨f1, f2, f3, f4, f5⟩ := hf
      have F4 := hide f4
      have F5 := hide f5
      clear hcut hg hne f4 f5
      obtain ⟨bad, hbad⟩ : ∃ bad, badB k n q v er l = bad := ⟨_, rfl⟩
      have HBAD := hide (badB_out hbad)
      clear hbad
      go_upto_region 6 with (go_at_call 86; refine Calls.mono (num_Get _ _ _ B _ _ HC.out (by omega) v q er HG.out) ?_; rintro e w' ⟨rfl, rfl⟩)
      go_cut [50] from 12 to 77 (fun s50 wx => s50 = .bool bad ∧ wx = W1)
      case first =>
        by_cases b1 : er ≠ 0
        · have hd : (er == 0) = false := by simpa using b1
          have hd2 : (er != 0) = true := by simpa using b1
          have hb : bad = true := HBAD.out.1 (.inl b1)
          have HB1 := hide hb
          clear hb b1
          go_wp2
          go_meet
          rw [HB1.out]
          exact ⟨rfl, rfl⟩
        · obtain rfl : er = 0 := by omega
          have f5 := F5.out rfl
          clear b1
          by_cases b2 : v < 1
          · have HB1 := hide (HBAD.out.1 (.inr (.inl b2)))
            have d1 : decide (v < 1) = true := decide_eq_true b2
            clear b2
            go_wp2
            go_meet
            rw [HB1.out]
            exact ⟨rfl, rfl⟩
          · by_cases b3 : n ≤ k + q
            · have HB1 := hide (HBAD.out.1 (.inr (.inr (.inl b3))))
              have d1 : decide (v < 1) = false := decide_eq_false b2
              have d2 : decide ((n : Int) ≤ (k : Int) + (q : Int)) = true := decide_eq_true (by omega)
              go_wp2
              go_meet
              rw [HB1.out]
              exact ⟨rfl, rfl⟩
            · have d1 : decide (v < 1) = false := decide_eq_false b2
              obtain ⟨m, hmm⟩ : ∃ m, m = k + q := ⟨_, rfl⟩
              have hmi : (k : Int) + (q : Int) = (m : Int) := by omega
              rw [← hmm] at HBAD b3
              obtain ⟨b, off, hlm, rfl, hbB, hcc⟩ := HL.out.at_ (k := m) (by omega)
              have hget : l.getD m 0 = l[m] := by rw [List.getD_eq_getElem?_getD, List.getElem?_eq_getElem hlm]; rfl
              obtain ⟨z, hz⟩ : ∃ z, z = l[m] := ⟨_, rfl⟩
              rw [← hz] at hcc hget
              rw [hget] at HBAD
              have hzt := z.toNat_lt
              clear hz hget hmm
              by_cases hz0 : z = 0
              · subst hz0
                have hcc : W1.cell? ⟨b, off + m, none⟩ = some (.int .u8 0) := hcc
                by_cases hk0 : 0 < k
                · have HB1 := hide (HBAD.out.1 (.inr (.inr (.inr ⟨rfl, hk0⟩))))
                  go_wp2
                  go_meet
                  rw [HB1.out]
                  exact ⟨rfl, rfl⟩
                · have HB1 : Hid (bad = false) := by
                    rw [← Bool.not_eq_true, ← HBAD.out]; exact fun h => by rcases h with h | h | h | h <;> first | exact h rfl | omega
                  go_wp2
                  go_meet
                  rw [HB1.out]
                  exact ⟨rfl, rfl⟩
              · have hz1 : ((z.toNat : Int) == 0) = false := by
                  have h2 : z.toNat ≠ 0 := fun h => hz0 (UInt8.toNat_inj.1 (by rw [h]; rfl))
                  simp; omega
                have HB1 : Hid (bad = false) := by
                  rw [← Bool.not_eq_true, ← HBAD.out]; exact fun h => by rcases h with h | h | h | h <;> first | exact h rfl | omega | exact hz0 h.1
                clear hz0
                go_wp2
                go_meet
                rw [HB1.out]
                exact ⟨rfl, rfl⟩
      case rest =>
        obtain ⟨rfl, rfl⟩ := hcut
        cases bad with
        | true =>
          have hr : R = ([], 1) := by
            rw [← HE.out]
            refine Runs.dec_bad HG.out HNE.out ?_
            rw [HC.out.len]
            rcases HBAD.out.2 rfl with h | h | h | h
            · exact .inl h
            · exact .inr (.inl h)
            · exact .inr (.inr (.inl (by omega)))
            · exact .inr (.inr (.inr ⟨by rw [List.getD_eq_getElem?_getD, List.getElem?_drop, ← List.getD_eq_getElem?_getD]; exact h.1, by simp; omega⟩))
          subst hr
          go_wp2
          go_ret2
          exact ⟨none, 0, 0, rfl, OwnB.nil _ _, HB.out⟩
        | false =>
          have hnb := fun h => Bool.false_ne_true (HBAD.out.1 h)
          have er0 : er = 0 := by
            rcases Decidable.em (er = 0) with h | h
            · exact h
            · exact absurd (.inl h) hnb
          have HNB := hide hnb
          clear hnb
          subst er0
          have f5 := F5.out rfl
          have b2 : 1 ≤ v := by
            rcases Decidable.em (v < 1) with h | h
            · exact absurd (.inr (.inl h)) HNB.out
            · omega
          have b3 : k + q < n := by
            rcases Decidable.em (n ≤ k + q) with h | h
            · exact absurd (.inr (.inr (.inl h))) HNB.out
            · omega
          obtain ⟨m, hmm⟩ : ∃ m, m = k + q := ⟨_, rfl⟩
          have hmi : (k : Int) + (q : Int) = (m : Int) := by omega
          rw [← hmm] at b3 HNB
          obtain ⟨b, off, hlm, rfl, hbB, hcc⟩ := HL.out.at_ (k := m) (by omega)
          have hget0 : l.getD m 0 = l[m] := by rw [List.getD_eq_getElem?_getD, List.getElem?_eq_getElem hlm]; rfl
          have hget : (l.drop k).getD q 0 = l[m] := by
            rw [List.getD_eq_getElem?_getD, List.getElem?_drop, ← hmm, List.getElem?_eq_getElem hlm]; rfl
          obtain ⟨z, hz⟩ : ∃ z, z = l[m] := ⟨_, rfl⟩
          rw [← hz] at hcc hget hget0
          rw [hget0] at HNB
          have hzt := z.toNat_lt
          have HGT := hide hget
          have HMM := hide hmm
          clear hz hget hmm hget0
          have HOK : Hid (¬ ((0 : Int) ≠ 0 ∨ v < 1 ∨ (l.drop k).length ≤ q ∨ ((l.drop k).getD q 0 = 0 ∧ decide (k = 0) = false))) := by
            rw [HGT.out]
            have := HMM.out
            have h3 : (l.drop k).length = n - k := HC.out.len
            have h4 := HNB.out
            rintro (h | h | h | h)
            · exact h rfl
            · omega
            · omega
            · exact h4 (.inr (.inr (.inr ⟨h.1, by have := h.2; simp at this; omega⟩)))
          have hMl : (M : Int) ≤ 9223372036854775807 := by omega
          by_cases b5 : (M : Int) - n' < v
          · have hr : R = ([], 4) := HE.out.symm.trans (Runs.dec_full (most := M) (first := decide (k = 0)) (a := ah) (out := l') HG.out HNE.out HOK.out (by rw [hl'.out]; exact b5))
            subst hr
            go_wp2
            go_ret2
            exact ⟨none, 0, 0, rfl, OwnB.nil _ _, HB.out⟩
          · have hon := Runs.dec_on (most := M) (first := decide (k = 0)) (a := ah) (out := l') HG.out HNE.out HOK.out (by rw [hl'.out]; exact b5)
            obtain ⟨vn, rfl⟩ : ∃ vn : Nat, v = (vn : Int) := ⟨v.toNat, by omega⟩
            rw [HE.out, HGT.out, List.drop_drop] at hon
            obtain ⟨z2, hz2⟩ : ∃ z2, z2 = ah ^^^ z := ⟨_, rfl⟩
            have hxor := bits_xor8 ah z
            rw [← hz2] at hon hxor
            have hroom : n' + vn ≤ 1000000 := by
              have h3 := hl'.out
              rcases HM.out with h | ⟨h1, h2⟩
              · omega
              · rw [hon] at h1 h2
                have := Runs.dec_len _ _ _ _ _ _ (Nat.le_refl _) h1
                rw [List.length_append, List.length_replicate] at this
                have e2 : ((vn : Int)).toNat = vn := by omega
                rw [e2] at *
                omega
            have HON := hide (show Runs.dec M (decide (m + 1 = 0)) z2 (l' ++ List.replicate vn z2) (l.drop (m + 1)) = R from by
              have := HMM.out
              rw [hon, show decide (m + 1 = 0) = false by simp, show k + (q + 1) = m + 1 by omega]; rfl)
            clear hon hz2
            go_wp2
            go_loopg [6, 67] vn (fun g s j wx => ∃ (t : Nat) (A2 : Option Addr) (n2 c2 : Nat), t ≤ vn ∧ g = vn - t ∧ n2 = n' + t ∧ j = .int .i64 t ∧ s = .slice A2 n2 c2 ∧ OwnB wx w.heap.size A2 n2 c2 (l' ++ List.replicate t z2) ∧ Below w.heap.size w wx)
            case atStart => exact ⟨0, A', n', c', by omega, rfl, rfl, rfl, rfl, by simpa using HO.out, HB.out⟩
            case round =>
              obtain ⟨t, A2, n2, c2, ht, rfl, rfl, rfl, rfl, hown2, hbel2⟩ := hrel
              have HO2 := hide hown2
              have HB2 := hide hbel2
              have hs2 : w.heap.size ≤ wr.heap.size := hbel2.size
              clear hown2 hbel2
              by_cases htv : t < vn
              · go_wp2_with (at_builtin; refine wpB_append rfl (.tmp 69) (.tmp 71) rfl w.heap.size A2 (n' + t) c2 _ rfl (HO2.out.below (Below_new _ _)) _ _ 1 1 [z2] rfl (LiesB.new _ _ _ _ _ _ rfl rfl) (n' + t + 1) _ rfl rfl (by omega) (by simp; omega) ?_; intro A3 c3 w3 own3 hb3 hg3)
                go_roundg (vn - (t + 1))
                case measure => omega
                case rel => exact ⟨t + 1, A3, n' + t + 1, c3, by omega, rfl, by omega, by go_num, rfl, by rw [List.append_assoc, ← List.replicate_succ'] at own3; exact own3, HB2.out.trans (((Below_new _ _).mono hs2).trans hb3)⟩
              · obtain rfl : t = vn := by omega
                go_wp2
                go_roundg (n - (m + 1))
                case measure => have := HMM.out; omega
                case rel => exact ⟨m + 1, A2, n' + t, c2, _, z2, by omega, by omega, rfl, by go_num, rfl, rfl, HO2.out, HON.out, HB2.out⟩
    · obtain rfl : k = n := by omega
      have hr : R = (l', 0) := by
        rw [← HE.out, List.drop_eq_nil_of_le (by rw [HL.out.len]; omega), Runs.dec_nil]
      subst hr
      go_wp2
      go_ret2
      exact ⟨A', n', c', rfl, HO.out, HB.out⟩
end Go.Proofs.Ytbcgffgiifminaa
namespace Go.Proofs.Ytbcgffgiifminaa
open Go.RowKit
set_option maxRecDepth 10000
set_option linter.unusedVariables false
/-- Decode, its answer handed over. -/
theorem runs_Decode_v {A : Option Addr} {n c B : Nat} {l x : List UInt8} {most e : Int} (M : Nat) {w : World} (hA : LiesB w B A n l) (hnc : n ≤ c) (hB : B ≤ w.heap.size) (hn : n ≤ 1000000)
    (lo : -9223372036854775808 ≤ most) (hi : most ≤ 9223372036854775807) (hM : max most 0 = (M : Int)) (hR : Runs.dec M true 0 [] l = (x, e)) (room : M ≤ 1000000 ∨ (e = 0 ∧ x.length ≤ 1000000)) :
    Calls Try.prog 79 #[.slice A n c, .int .i64 most] w fun en w' => ∃ A' n' c', en = .returned (.tuple #[.slice A' n' c', .int .i64 e]) ∧ OwnB w' w.heap.size A' n' c' x ∧ Below w.heap.size w w' := 
  runs_Decode A n c B l most M w hA hnc hB hn lo hi hM (x, e) hR room

end Go.Proofs.Ytbcgffgiifminaa
namespace Go.Proofs.Ytbcgffgiifminaa
open Go.RowKit
set_option maxRecDepth 10000
set_option linter.unusedVariables false
def Pkt.zero : Pkt := ⟨0, 0, 0, 0, 0, [], 0, 0, 0⟩
/-- What Decode answers. -/
inductive Pkt.Said (N : Nat) (b : List UInt8) (w' : World) : Ending → Prop
  | yes (p : Pkt) (A : Option Addr) (n c : Nat) (h : Pkt.Is b p) (hl : LiesB w' w'.heap.size A n p.press) (hc : n ≤ c) (hn : n ≤ 32) (hf : ∀ bk off, A = some ⟨bk, off, none⟩ → p.press ≠ [] → N ≤ bk) : Pkt.Said N b w' (.returned (.tuple #[p.val (.slice A n c), .int .i64 0]))
  | no (h : ∀ p, ¬ Pkt.Is b p) : Pkt.Said N b w' (.returned (.tuple #[Pkt.zero.val (.slice none 0 0), .int .i64 1]))
theorem Pkt.row_one (p : Pkt) (A : Option Addr) (n c : Nat) : ∀ u ∈ p.row (.slice A n c), u.oneCell' = true := by
  intro u hu
  simp only [Pkt.row, List.mem_cons, List.not_mem_nil, or_false] at hu
  rcases hu with rfl | rfl | rfl | rfl | rfl | rfl | rfl | rfl | rfl <;> rfl
/-- The whole packet is written. -/
theorem wpP_store {ops : Array Oper} {rest : List Oper} {o : Oper} {a : Act} {w : World} {Q : Exit → Act → World → Prop} (hgd : o.guard = none) (x y : Operand) (ho : o.op = .store 41 x y)
    (g : Nat) (hx : a.eval x = .pointer (some ⟨g, 0, none⟩)) (p q : Pkt) (A A' : Option Addr) (n n' c c' : Nat) (hy : a.eval y = p.val (.slice A n c)) (hg : Arr 41 w g (q.row (.slice A' n' c')))
    (h : ∀ w', Arr 41 w' g (p.row (.slice A n c)) → Keeps (fun k => k = g) w w' → w'.heap.size = w.heap.size → wpList Try.prog ops Q rest (a.put o.dst undef) w') : wpList Try.prog ops Q (o :: rest) a w :=
  wpA_store hgd 41 x y ho g (p.row (.slice A n c)) hx hy 41 _ hg 9 info_packet rfl rfl (p.row_one A n c) h
/-- The same inside a region that draws. -/
theorem step_storeP {ops : Array Oper} {o : Oper} {a : Act} {w : World} {K : Act → World → Prop} {Q : Exit → Act → World → Prop} {E : Prop} (hgd : o.guard = none) (x y : Operand) (ho : o.op = .store 41 x y)
    (g : Nat) (hx : a.eval x = .pointer (some ⟨g, 0, none⟩)) (p q : Pkt) (A A' : Option Addr) (n n' c c' : Nat) (hy : a.eval y = p.val (.slice A n c)) (hg : Arr 41 w g (q.row (.slice A' n' c')))
    (h : ∀ w', Arr 41 w' g (p.row (.slice A n c)) → Keeps (fun k => k = g) w w' → w'.heap.size = w.heap.size → K (a.put o.dst undef) w') :
    if Region.wanted o (yielded ops a.tmps) = true then Oper.wp Try.prog o a w K Q else E := by
  have hw : Region.wanted o (yielded ops a.tmps) = true := by simp [Region.wanted, hgd]
  rw [if_pos hw]
  exact wp_store_row 41 x y ho g (p.row (.slice A n c)).toArray hx hy 41 (q.row (.slice A' n' c')).toArray hg (by rw [info_packet]; rfl) rfl (Array.all_eq_true_iff_forall_mem.2 fun v hv => p.row_one A n c v (by simpa using hv))
    (h _ (setRow_heap w g _ _ 41 _ hg) ⟨rfl, rfl, rfl, by simp, fun k _ hk => setRow_other w g k _ hk⟩ (by simp))
/-- Decode at work: its result's block, the packet's, the reader. -/
structure DS (w wx : World) (B r : Nat) (R : List Value) (bad : Bool) (A : Option Addr) (n c : Nat) (l : List UInt8) : Prop where
  res : Arr 41 wx w.heap.size (Pkt.zero.row (.slice none 0 0))
  p : Arr 41 wx (w.heap.size + 1) R
  rd : Rd wx B r bad A n c l
  bel : Below w.heap.size w wx
  at2 : r = w.heap.size + 2
section
variable {w wx w' : World} {B r n c n' c' : Nat} {R : List Value} {bad bad' : Bool} {A A' : Option Addr} {l l' : List UInt8}
theorem DS.num (h : DS w wx B r R bad A n c l) (h' : Rd w' B r bad' A' n' c' l') (hk : Keeps (fun k => k = r) wx w') : DS w w' B r R bad' A' n' c' l' :=
  ⟨h.res.keeps hk (by have := h.at2; omega), h.p.keeps hk (by have := h.at2; omega), h', h.bel.trans (hk.below h.bel.size (fun k hk => by have := h.at2; omega)), h.at2⟩
theorem DS.below (h : DS w wx B r R bad A n c l) (hb : Below wx.heap.size wx w') (hB : B ≤ wx.heap.size) : DS w w' B r R bad A n c l :=
  ⟨h.res.belowN hb, h.p.belowN hb, ⟨h.rd.arr.belowN hb, h.rd.lies.below (hb.mono hB), h.rd.ge, h.rd.cap⟩, Below_step h.bel hb, h.at2⟩
theorem DS.set (h : DS w wx B r R bad A n c l) (hB : B ≤ w.heap.size) (j : Nat) (v : Value) : DS w (wx.setCell ⟨w.heap.size + 1, j, none⟩ v) B r (R.set j v) bad A n c l :=
  ⟨h.res.keeps (Keeps.setCell wx ⟨w.heap.size + 1, j, none⟩ v) (by show ¬ _ = w.heap.size + 1; omega), h.p.set j v,
   ⟨h.rd.arr.keeps (Keeps.setCell wx ⟨w.heap.size + 1, j, none⟩ v) (by show ¬ r = w.heap.size + 1; have := h.at2; omega), h.rd.lies.set (by omega) j v, h.rd.ge, h.rd.cap⟩,
   h.bel.trans ((Keeps.setCell wx ⟨w.heap.size + 1, j, none⟩ v).below h.bel.size (fun k hk => by show ¬ k = w.heap.size + 1; omega)), h.at2⟩
end
set_option maxHeartbeats 4000000 in
set_option maxRecDepth 10000 in
theorem packet_Decode {A : Option Addr} {n c B : Nat} {b : List UInt8} {w : World} (hA : LiesB w B A n b) (hB : B ≤ w.heap.size) (hnc : n ≤ c) (hn : n ≤ 1000000) :
    Calls Try.prog 51 #[.slice A n c] w fun e w' => Pkt.Said w.heap.size b w' e ∧ Below w.heap.size w w' := by
  have LA := hide hA
  have hl := hA.len
  have HBB := hide hB
  have HP : Hid (Arr 41 (w.alloc (.cells (Pkt.zero.row (.slice none 0 0)).toArray 41)) w.heap.size (Pkt.zero.row (.slice none 0 0))) := Arr.new 41 w _ _ rfl
  have HB : Hid (Below w.heap.size w (w.alloc (.cells (Pkt.zero.row (.slice none 0 0)).toArray 41))) := Below_new _ _
  have hsz : (w.alloc (.cells (Pkt.zero.row (.slice none 0 0)).toArray 41)).heap.size = w.heap.size + 1 := by simp
  simp only [Pkt.row, Pkt.zero] at HP HB hsz
  clear hA hB
  by_cases h7 : n < 7
  · have d1 : decide ((n : Int) < 7) = true := decide_eq_true (by omega)
    have HN : Hid (∀ p, ¬ Pkt.Is b p) := fun p hp => by have := (Pkt.is_head hp).1; omega
    clear h7 hsz
    go_enter Try.func51, Try.ntmps51
    go_upto_region 1 with fail
    generalize World.alloc w _ = wx at HP HB ⊢
    go_wp2_with (refine wpP_store rfl (.tmp 2) (.tmp 13) rfl w.heap.size rfl Pkt.zero Pkt.zero none none 0 0 0 0 rfl HP.out ?_; intro w1 ha1 hk1 hs1)
    refine bodyPost_ret (results_P2 (fn := Try.f51) rfl _ _ w.heap.size rfl _ rfl Pkt.zero (.slice none 0 0) ha1) rfl ?_
    exact ⟨.no HN.out, HB.out.trans (hk1.below HB.out.size (fun k hk => by omega))⟩
  · obtain ⟨m, rfl⟩ : ∃ m, n = m + 4 := ⟨n - 4, by omega⟩
    have hm3 : 3 ≤ m := by omega
    have d1 : decide (((m + 4 : Nat) : Int) < 7) = false := decide_eq_false (by omega)
    obtain ⟨ab, ao, hl0, rfl, hab, -⟩ := LA.out.at_ (k := 0) (by omega)
    obtain ⟨kb, sb, db, tb, hbt⟩ : ∃ k s d t, b = k :: s :: d :: t := by
      match b, hl with
      | k :: s :: d :: t, _ => exact ⟨k, s, d, t, rfl⟩
      | [], h => simp at h
      | [_], h => simp at h
      | [_, _], h => simp at h
    have CC : Hid (∀ w', Below w.heap.size w w' → w'.cell? ⟨ab, ao, none⟩ = some (.int .u8 (kb.toNat : Int)) ∧ w'.cell? ⟨ab, ao + 1, none⟩ = some (.int .u8 (sb.toNat : Int)) ∧ w'.cell? ⟨ab, ao + 2, none⟩ = some (.int .u8 (db.toNat : Int))) := by
      intro w' hb
      have L := LA.out.below (hb.mono HBB.out)
      obtain ⟨_, _, _, e0, -, q0⟩ := L.at_ (k := 0) (by omega)
      obtain ⟨_, _, _, e1, -, q1⟩ := L.at_ (k := 1) (by omega)
      obtain ⟨_, _, _, e2, -, q2⟩ := L.at_ (k := 2) (by omega)
      injection e0 with e0; injection e0 with e00 e01; subst e00 e01
      injection e1 with e1; injection e1 with e10 e11; subst e10 e11
      injection e2 with e2; injection e2 with e20 e21; subst e20 e21
      simp only [hbt, List.getElem_cons_zero, List.getElem_cons_succ] at q0 q1 q2
      exact ⟨q0, q1, q2⟩
    have HBT := hide hbt
    clear h7 hbt
    go_enter Try.func51, Try.ntmps51
    go_upto_region 1 with fail
    generalize World.alloc w _ = wx at HP HB hsz ⊢
    have HSZ := hide hsz
    clear hsz
    go_upto_region 3 with fail
    go_cut [4] (fun s4 wy => s4 = .pointer (some ⟨w.heap.size + 1, 0, none⟩) ∧ Hid (Arr 41 wy (w.heap.size + 1) (Pkt.row ⟨kb.toNat, sb.toNat, db.toNat, 0, 0, [], 0, 0, 0⟩ (.slice none 0 0))) ∧ Hid (Arr 41 wy w.heap.size (Pkt.zero.row (.slice none 0 0))) ∧ Hid (Below w.heap.size w wy) ∧ Hid (wy.heap.size = w.heap.size + 2))
    case first =>
      have cc := CC.out wx HB.out
      obtain ⟨hc0, hc1, hc2⟩ := cc
      have HP1 : Arr 41 (wx.alloc (.cells (Pkt.zero.row (.slice none 0 0)).toArray 41)) (w.heap.size + 1) (Pkt.zero.row (.slice none 0 0)) := by rw [← HSZ.out]; exact Arr.new 41 wx _ _ rfl
      have HP2 : Arr 41 (wx.alloc (.cells (Pkt.zero.row (.slice none 0 0)).toArray 41)) w.heap.size (Pkt.zero.row (.slice none 0 0)) := Arr.belowN HP.out (Below_new _ _)
      have HB2 := Below_step HB.out (Below_new wx (.cells (Pkt.zero.row (.slice none 0 0)).toArray 41))
      have i0 : (0 : Int) < (m : Int) + 4 := by omega
      have i1 : (1 : Int) < (m : Int) + 4 := by omega
      have i2 : (2 : Int) < (m : Int) + 4 := by omega
      have wk : IntKind.i64.wrap (kb.toNat : Int) = kb.toNat := by rw [IntKind.wrap_i64]; have := kb.toNat_lt; omega
      have ws : IntKind.i64.wrap (sb.toNat : Int) = sb.toNat := by rw [IntKind.wrap_i64]; have := sb.toNat_lt; omega
      have wd : IntKind.i64.wrap (db.toNat : Int) = db.toNat := by rw [IntKind.wrap_i64]; have := db.toNat_lt; omega
      refine wp_region_noPanic ?_
      refine wp_region_held_drew (S := (fun w' => w'.cell? ⟨ab, ao, none⟩ = some (.int .u8 (kb.toNat : Int)) ∧ w'.cell? ⟨ab, ao + 1, none⟩ = some (.int .u8 (sb.toNat : Int)) ∧ w'.cell? ⟨ab, ao + 2, none⟩ = some (.int .u8 (db.toNat : Int)))) (by kernel_rfl) ⟨hc0, hc1, hc2⟩ (fun hHeld => ?_)
      refine wpAnyH_take (i := 0) (oi := ?_) (v := ?_) ?_ (by kernel_rfl) (by kernel_rfl) (by kernel_rfl) ?_ ?_ (by assumption) ?_
      rotate_left 2
      · (simp only [List.getElem?_toArray, List.getElem?_cons_zero]; rfl)
      · exact fun _ _ _ h => h
      · (refine Or.inl ⟨by rfl, ?_⟩; intro w hSw; (try dsimp only at hSw); go_simp <;> with_reducible rfl)
      try simp only [Act.put, List.setIfInBounds_toArray, List.set_cons_zero, List.set_cons_succ]
      refine wpAnyH_take (i := 1) (oi := ?_) (v := ?_) ?_ (by kernel_rfl) (by kernel_rfl) (by kernel_rfl) ?_ ?_ (by assumption) ?_
      rotate_left 2
      · (simp only [List.getElem?_toArray, List.getElem?_cons_succ, List.getElem?_cons_zero]; rfl)
      · exact fun _ _ _ h => h
      · (refine Or.inl ⟨by rfl, ?_⟩; intro w hSw; (try dsimp only at hSw); go_simp <;> with_reducible rfl)
      try simp only [Act.put, List.setIfInBounds_toArray, List.set_cons_zero, List.set_cons_succ]
      refine wpAnyH_take (i := 2) (oi := ?_) (v := ?_) ?_ (by kernel_rfl) (by kernel_rfl) (by kernel_rfl) ?_ ?_ (by assumption) ?_
      rotate_left 2
      · (simp only [List.getElem?_toArray, List.getElem?_cons_succ, List.getElem?_cons_zero]; rfl)
      · exact fun _ _ _ h => h
      · (refine Or.inl ⟨by rfl, ?_⟩; intro w hSw; (try dsimp only at hSw); go_simp <;> with_reducible rfl)
      try simp only [Act.put, List.setIfInBounds_toArray, List.set_cons_zero, List.set_cons_succ]
      refine wpAnyH_take (i := 3) (oi := ?_) (v := ?_) ?_ (by kernel_rfl) (by kernel_rfl) (by kernel_rfl) ?_ ?_ (by assumption) ?_
      rotate_left 2
      · (simp only [List.getElem?_toArray, List.getElem?_cons_succ, List.getElem?_cons_zero]; rfl)
      · exact fun _ _ _ h => h
      · (refine Or.inl ⟨by rfl, ?_⟩; intro w hSw; (try dsimp only at hSw); go_simp <;> with_reducible rfl)
      try simp only [Act.put, List.setIfInBounds_toArray, List.set_cons_zero, List.set_cons_succ]
      refine wpAnyH_take (i := 4) (oi := ?_) (v := ?_) ?_ (by kernel_rfl) (by kernel_rfl) (by kernel_rfl) ?_ ?_ (by assumption) ?_
      rotate_left 2
      · (simp only [List.getElem?_toArray, List.getElem?_cons_succ, List.getElem?_cons_zero]; rfl)
      · exact fun _ _ _ h => h
      · (refine Or.inl ⟨by rfl, ?_⟩; intro w hSw; (try dsimp only at hSw); go_simp <;> with_reducible rfl)
      try simp only [Act.put, List.setIfInBounds_toArray, List.set_cons_zero, List.set_cons_succ]
      refine wpAnyH_take (i := 5) (oi := ?_) (v := ?_) ?_ (by kernel_rfl) (by kernel_rfl) (by kernel_rfl) ?_ ?_ (by assumption) ?_
      rotate_left 2
      · (simp only [List.getElem?_toArray, List.getElem?_cons_succ, List.getElem?_cons_zero]; rfl)
      · exact fun _ _ _ h => h
      · (refine Or.inl ⟨by rfl, ?_⟩; intro w hSw; (try dsimp only at hSw); go_simp <;> with_reducible rfl)
      try simp only [Act.put, List.setIfInBounds_toArray, List.set_cons_zero, List.set_cons_succ]
      refine wpAnyH_take (i := 6) (oi := ?_) (v := ?_) ?_ (by kernel_rfl) (by kernel_rfl) (by kernel_rfl) ?_ ?_ (by assumption) ?_
      rotate_left 2
      · (simp only [List.getElem?_toArray, List.getElem?_cons_succ, List.getElem?_cons_zero]; rfl)
      · exact fun _ _ _ h => h
      · (refine Or.inl ⟨by rfl, ?_⟩; intro w hSw; (try dsimp only at hSw); go_simp <;> with_reducible rfl)
      try simp only [Act.put, List.setIfInBounds_toArray, List.set_cons_zero, List.set_cons_succ]
      refine wpAnyH_take (i := 7) (oi := ?_) (v := ?_) ?_ (by kernel_rfl) (by kernel_rfl) (by kernel_rfl) ?_ ?_ (by assumption) ?_
      rotate_left 2
      · (simp only [List.getElem?_toArray, List.getElem?_cons_succ, List.getElem?_cons_zero]; rfl)
      · exact fun _ _ _ h => h
      · (refine Or.inl ⟨by rfl, ?_⟩; intro w hSw; (try dsimp only at hSw); go_simp <;> with_reducible rfl)
      try simp only [Act.put, List.setIfInBounds_toArray, List.set_cons_zero, List.set_cons_succ]
      refine wpAnyH_take (i := 8) (oi := ?_) (v := ?_) ?_ (by kernel_rfl) (by kernel_rfl) (by kernel_rfl) ?_ ?_ (by assumption) ?_
      rotate_left 2
      · (simp only [List.getElem?_toArray, List.getElem?_cons_succ, List.getElem?_cons_zero]; rfl)
      · exact fun _ _ _ h => h
      · (refine Or.inl ⟨by rfl, ?_⟩; intro w hSw; (try dsimp only at hSw); go_simp <;> with_reducible rfl)
      try simp only [Act.put, List.setIfInBounds_toArray, List.set_cons_zero, List.set_cons_succ]
      refine wpAnyH_take (i := 9) (oi := ?_) (v := ?_) ?_ (by kernel_rfl) (by kernel_rfl) (by kernel_rfl) ?_ ?_ (by assumption) ?_
      rotate_left 2
      · (simp only [List.getElem?_toArray, List.getElem?_cons_succ, List.getElem?_cons_zero]; rfl)
      · exact fun _ _ _ h => h
      · (refine Or.inl ⟨by rfl, ?_⟩; intro w hSw; (try dsimp only at hSw); go_simp <;> with_reducible rfl)
      try simp only [Act.put, List.setIfInBounds_toArray, List.set_cons_zero, List.set_cons_succ]
      refine wpAnyH_take (i := 10) (oi := ?_) (v := ?_) ?_ (by kernel_rfl) (by kernel_rfl) (by kernel_rfl) ?_ ?_ (by assumption) ?_
      rotate_left 2
      · (simp only [List.getElem?_toArray, List.getElem?_cons_succ, List.getElem?_cons_zero]; rfl)
      · exact fun _ _ _ h => h
      · (refine Or.inl ⟨by rfl, ?_⟩; intro w hSw; (try dsimp only at hSw); go_simp <;> with_reducible rfl)
      try simp only [Act.put, List.setIfInBounds_toArray, List.set_cons_zero, List.set_cons_succ]
      refine wpAnyH_take (i := 11) (oi := ?_) (v := ?_) ?_ (by kernel_rfl) (by kernel_rfl) (by kernel_rfl) ?_ ?_ (by assumption) ?_
      rotate_left 2
      · (simp only [List.getElem?_toArray, List.getElem?_cons_succ, List.getElem?_cons_zero]; rfl)
      · exact fun _ _ _ h => h
      · (refine Or.inl ⟨by rfl, ?_⟩; intro w hSw; (try dsimp only at hSw); go_simp <;> with_reducible rfl)
      try simp only [Act.put, List.setIfInBounds_toArray, List.set_cons_zero, List.set_cons_succ]
      refine wpAnyH_take (i := 12) (oi := ?_) (v := ?_) ?_ (by kernel_rfl) (by kernel_rfl) (by kernel_rfl) ?_ ?_ (by assumption) ?_
      rotate_left 2
      · (simp only [List.getElem?_toArray, List.getElem?_cons_succ, List.getElem?_cons_zero]; rfl)
      · exact fun _ _ _ h => h
      · (refine Or.inl ⟨by rfl, ?_⟩; intro w hSw; (try dsimp only at hSw); go_simp <;> with_reducible rfl)
      try simp only [Act.put, List.setIfInBounds_toArray, List.set_cons_zero, List.set_cons_succ]
      refine wpAnyH_ready (rs := [13]) (by kernel_rfl) (by simp) ?_
      refine AllReadyH.cons (o := ?_) ?_ (fun K hK => ?_) AllReadyH.nil
      rotate_left 1
      · (simp only [List.getElem?_toArray, List.getElem?_cons_succ, List.getElem?_cons_zero]; rfl)
      go_simp
      refine hK.out _ _ (CC.out _ HB2.drew) (fun hHeld => ?_)
      clear hK K
      try simp only [Act.put, List.setIfInBounds_toArray, List.set_cons_zero, List.set_cons_succ]
      refine wpAnyH_ready (rs := [14]) (by kernel_rfl) (by simp) ?_
      refine AllReadyH.cons (o := ?_) ?_ (fun K hK => ?_) AllReadyH.nil
      rotate_left 1
      · (simp only [List.getElem?_toArray, List.getElem?_cons_succ, List.getElem?_cons_zero]; rfl)
      (refine step_storeP rfl (.tmp 4) (.tmp 26) rfl wx.heap.size rfl ⟨kb.toNat, sb.toNat, db.toNat, 0, 0, [], 0, 0, 0⟩ Pkt.zero none none 0 0 0 0 rfl (by rw [HSZ.out]; exact HP1.drew) ?_; intro w3 ha3 hk3 hs3)
      refine hK.out _ _ (CC.out _ (HB2.drew.trans (hk3.below (by show w.heap.size ≤ _; exact HB2.size) (fun k hk => by have := HSZ.out; omega)))) (fun hHeld => ?_)
      clear hK K
      try simp only [Act.put]
      refine wpAnyH_done (by kernel_rfl) (NoPanic.normal ?_) _
      go_wp2_with fail
      go_meet
      rw [HSZ.out] at ha3 hk3
      exact ⟨by rw [HSZ.out], ha3, HP2.drew.keeps hk3 (by omega), HB2.drew.trans (hk3.below (by show w.heap.size ≤ _; exact HB2.size) (fun k hk => by omega)), by rw [hs3]; show (World.alloc wx _).heap.size = _; simp; exact HSZ.out⟩
    case rest =>
      obtain ⟨rfl, HP1, HP0, HB1, HZ⟩ := hcut
      clear HP HB HSZ
      go_upto_region 5 with fail
      obtain ⟨l0, hl0⟩ : ∃ l, l = (b.take m).drop 3 := ⟨_, rfl⟩
      have HL0 := hide hl0
      have D0 : Hid (DS w (wc.alloc (.cells #[.slice (cutA (some ⟨ab, ao, none⟩) c 3 1) (m - 3) (c - 3), .bool false] 133)) B wc.heap.size (Pkt.row ⟨kb.toNat, sb.toNat, db.toNat, 0, 0, [], 0, 0, 0⟩ (.slice none 0 0)) false (cutA (some ⟨ab, ao, none⟩) c 3 1) (m - 3) (c - 3) l0) := by
        have L : LiesB wc B (some ⟨ab, ao, none⟩) m (b.take m) := by
          have := (LA.out.below (HB1.out.mono HBB.out)).take m
          rwa [Nat.min_eq_left (by omega)] at this
        refine ⟨Arr.belowN HP0.out (Below_new _ _), Arr.belowN HP1.out (Below_new _ _), ⟨Arr.new 133 wc _ _ rfl, ?_, ?_, by omega⟩, Below_step HB1.out (Below_new _ _), HZ.out⟩
        · rw [hl0]
          exact (L.cut (k := 3) (cap := c) (by omega)).below ((Below_new _ _).mono (Nat.le_trans HBB.out HB1.out.size))
        · exact Nat.le_trans HBB.out HB1.out.size
      have hln : l0.length = m - 3 := D0.out.rd.lies.len
      clear hl0 HP1 HP0
      obtain ⟨⟨x1, e1, l1⟩, hn1⟩ : ∃ y, Pkt.num false l0 = y := ⟨_, rfl⟩
      have HN1 := hide hn1
      clear hn1
      go_wp2_with fail
      refine Calls.mono (reader_num D0.out.rd (by omega) HN1.out) ?_
      rintro e w1 ⟨A1, n1, c1, rfl, rd1, hb1, hk1, hz1⟩
      have D1 := hide (D0.out.num rd1 hk1)
      have f3 := D1.out.p.frozen 3
      have c3 := D1.out.p.cell (j := 3) (by simp)
      simp only [List.getElem_cons_zero, List.getElem_cons_succ] at c3
      clear rd1 hk1 hz1
      go_upto_region 6 with fail
      have D2 := hide (D1.out.set HBB.out 3 (.int .i64 x1))
      generalize World.setCell w1 _ _ = w2 at D2 ⊢
      clear c3 f3 D1 D0
      have c0 := D2.out.p.cell (j := 0) (by simp)
      simp only [List.set_cons_succ, List.set_cons_zero, List.getElem_cons_zero] at c0
      by_cases hk1 : (kb.toNat : Int) = 1
      · have d2 : ((kb.toNat : Int) == 1) = true := by simp [hk1]
        obtain ⟨⟨y3, e3, l3⟩, hn3⟩ : ∃ y, Pkt.num e1 l1 = y := ⟨_, rfl⟩
        have HN3 := hide hn3
        clear hn3
        go_upto_region 7 with fail
        go_wp2_with fail
        refine Calls.mono (reader_num D2.out.rd (by omega) HN3.out) ?_
        rintro e v3 ⟨A3, n3, c3', rfl, rd1, hb3, hk1', hz1⟩
        have E3 := hide (D2.out.num rd1 hk1')
        have ff := E3.out.p.frozen 4
        have cc := E3.out.p.cell (j := 4) (by simp)
        simp only [List.set_cons_succ, List.set_cons_zero, List.getElem_cons_zero, List.getElem_cons_succ] at cc
        clear rd1 hk1' hz1
        go_upto_region 8 with fail
        have D3 := hide (E3.out.set HBB.out 4 (.int .i64 y3))
        generalize World.setCell v3 _ _ = z3 at D3 ⊢
        clear cc ff E3 D2
        obtain ⟨⟨y4, e4, l4⟩, hn4⟩ : ∃ y, Pkt.num e3 l3 = y := ⟨_, rfl⟩
        have HN4 := hide hn4
        clear hn4
        go_upto_region 8 with fail
        go_wp2_with fail
        refine Calls.mono (reader_num D3.out.rd (by omega) HN4.out) ?_
        rintro e v4 ⟨A4, n4, c4', rfl, rd1, hb4, hk1', hz1⟩
        have E4 := hide (D3.out.num rd1 hk1')
        have ff := E4.out.p.frozen 6
        have cc := E4.out.p.cell (j := 6) (by simp)
        simp only [List.set_cons_succ, List.set_cons_zero, List.getElem_cons_zero, List.getElem_cons_succ] at cc
        clear rd1 hk1' hz1
        go_upto_region 9 with fail
        have D4 := hide (E4.out.set HBB.out 6 (.int .i64 y4))
        generalize World.setCell v4 _ _ = z4 at D4 ⊢
        clear cc ff E4 D3
        obtain ⟨⟨y5, e5, l5⟩, hn5⟩ : ∃ y, Pkt.num e4 l4 = y := ⟨_, rfl⟩
        have HN5 := hide hn5
        clear hn5
        go_upto_region 9 with fail
        go_wp2_with fail
        refine Calls.mono (reader_num D4.out.rd (by omega) HN5.out) ?_
        rintro e v5 ⟨A5, n5, c5', rfl, rd1, hb5, hk1', hz1⟩
        have E5 := hide (D4.out.num rd1 hk1')
        have ff := E5.out.p.frozen 7
        have cc := E5.out.p.cell (j := 7) (by simp)
        simp only [List.set_cons_succ, List.set_cons_zero, List.getElem_cons_zero, List.getElem_cons_succ] at cc
        clear rd1 hk1' hz1
        go_upto_region 10 with fail
        have D5 := hide (E5.out.set HBB.out 7 (.int .i64 y5))
        generalize World.setCell v5 _ _ = z5 at D5 ⊢
        clear cc ff E5 D4
        obtain ⟨⟨y6, e6, l6⟩, hn6⟩ : ∃ y, Pkt.four e5 l5 = y := ⟨_, rfl⟩
        have HN6 := hide hn6
        clear hn6
        go_upto_region 10 with fail
        go_wp2_with fail
        refine Calls.mono (reader_four D5.out.rd (by omega) HN6.out) ?_
        rintro e v6 ⟨A6, n6, c6', rfl, rd1, hb6, hk1', hz1⟩
        have E6 := hide (D5.out.num rd1 hk1')
        have ff := E6.out.p.frozen 8
        have cc := E6.out.p.cell (j := 8) (by simp)
        simp only [List.set_cons_succ, List.set_cons_zero, List.getElem_cons_zero, List.getElem_cons_succ] at cc
        clear rd1 hk1' hz1
        go_upto_region 11 with fail
        have D6 := hide (E6.out.set HBB.out 8 (.int .u32 y6))
        generalize World.setCell v6 _ _ = z6 at D6 ⊢
        clear cc ff E6 D5
        obtain ⟨⟨y7, e7, l7⟩, hn7⟩ : ∃ y, Pkt.num e6 l6 = y := ⟨_, rfl⟩
        have HN7 := hide hn7
        clear hn7
        go_wp2_with fail
        refine Calls.mono (reader_num D6.out.rd (by omega) HN7.out) ?_
        rintro e v7 ⟨A7, n7, c7', rfl, rd1, hb7, hk1', hz1⟩
        have D7 := hide (D6.out.num rd1 hk1')
        have cc := D7.out.rd.arr.cell (j := 0) (by simp)
        simp only [List.getElem_cons_zero] at cc
        clear rd1 hk1' hz1 D6
        obtain ⟨⟨y, ey⟩, hR⟩ : ∃ R, Runs.dec 32 true 0 [] l7 = R := ⟨_, rfl⟩
        have HR := hide hR
        clear hR
        go_wp2_with fail
        refine Calls.mono (runs_Decode_v 32 D7.out.rd.lies D7.out.rd.cap (Nat.le_trans HBB.out D7.out.bel.size) (by omega) (by omega) (by omega) (by omega) HR.out (.inl (by omega))) ?_
        rintro e v8 ⟨A8, n8, c8', rfl, own8, hb8⟩
        have D8 := hide (D7.out.below hb8 (Nat.le_trans HBB.out D7.out.bel.size))
        have hl8 := own8.len
        have hcap8 := own8.cap
        have hbl8 := own8.blk
        have O8 := hide own8
        have hs7 := D7.out.bel.size
        clear own8 hb8 cc
        have HQ0 : Hid (∀ p, Pkt.Is b p → p = ⟨kb.toNat, sb.toNat, db.toNat, x1, y3, y, y4, y5, y6⟩ ∧ e7 = false ∧ ey = 0 ∧ y7 = (y.length : Int)) := by
          intro p hp
          obtain ⟨-, k, s, d, t, hb, k1, s1, d1, e⟩ := Pkt.is_head hp
          have hbt := HBT.out
          rw [hb] at hbt
          simp only [List.cons.injEq] at hbt
          obtain ⟨rfl, rfl, rfl, -⟩ := hbt
          have f := Pkt.may_iff.1 hp.1
          have hw := hp.2.1
          rw [hl, show m + 4 - 4 = m by omega, ← HL0.out] at e
          rcases f.kind with ⟨h, a1, a2, a3, a4⟩ | ⟨h, -⟩
          · rw [Pkt.is_one hp h] at e
            have q1 := HN1.out
            rw [e, Pkt.num_put (by have := f.id; omega) (by have := f.id; omega)] at q1
            simp only [Prod.mk.injEq] at q1
            obtain ⟨i1, i2, i3⟩ := q1
            have q3 := HN3.out
            rw [← i2, ← i3, Pkt.num_put (by omega) (by omega)] at q3
            simp only [Prod.mk.injEq] at q3
            obtain ⟨j1, j2, j3⟩ := q3
            have q4 := HN4.out
            rw [← j2, ← j3, Pkt.num_put (by omega) (by omega)] at q4
            simp only [Prod.mk.injEq] at q4
            obtain ⟨o1, o2, o3⟩ := q4
            have q5 := HN5.out
            rw [← o2, ← o3, Pkt.num_put (by omega) (by omega)] at q5
            simp only [Prod.mk.injEq] at q5
            obtain ⟨r1, r2, r3⟩ := q5
            have q6 := HN6.out
            rw [← r2, ← r3, Pkt.four_be32 hw.1 hw.2] at q6
            simp only [Prod.mk.injEq] at q6
            obtain ⟨s1', s2, s3⟩ := q6
            have q7 := HN7.out
            rw [← s2, ← s3, Pkt.num_put (by omega) (by omega)] at q7
            simp only [Prod.mk.injEq] at q7
            obtain ⟨t1, t2, t3⟩ := q7
            have q8 := HR.out
            rw [← t3, Runs.dec_enc0 32 _ (by omega), if_pos a4] at q8
            simp only [Prod.mk.injEq] at q8
            obtain ⟨u1, u2⟩ := q8
            refine ⟨?_, t2.symm, u2.symm, by rw [← t1, ← u1]⟩
            cases p
            simp only [Pkt.mk.injEq] at *
            exact ⟨k1.symm, s1.symm, d1.symm, i1, j1, u1, o1, r1, s1'⟩
          · omega
        have hlt7 := D7.out.p.lt
        clear D7
        by_cases he : ey = 0
        · subst he
          have hy32 := (Runs.dec_back0 HR.out rfl).2
          by_cases h7n : y7 = (n8 : Int)
          · have d3 : (y7 != (n8 : Int)) = false := by simp [h7n]
            have f5 := D8.out.p.frozen 5
            have c5 := D8.out.p.cell (j := 5) (by simp)
            simp only [List.set_cons_succ, List.set_cons_zero, List.getElem_cons_zero, List.getElem_cons_succ] at c5
            go_upto_region 16 with fail
            have D9 := hide (D8.out.set HBB.out 5 (.slice A8 n8 c8'))
            have O9 := hide ((O8.out.keeps (Keeps.setCell v8 ⟨w.heap.size + 1, 5, none⟩ (.slice A8 n8 c8')) (fun k hk => by have := (O8.out.blk k hk).1; show ¬ k = w.heap.size + 1; omega)).lies)
            have HA8 : Hid (∀ b off, A8 = some ⟨b, off, none⟩ → y ≠ [] → w.heap.size < b) := by
              intro b' off' hb' hy
              have h0 : 0 < n8 := by rcases Nat.eq_zero_or_pos n8 with h | h; · rw [h] at hl8; exact absurd (List.eq_nil_of_length_eq_zero hl8) hy
                                     · exact h
              obtain ⟨g, hg, hg2, -⟩ := O8.out.form h0
              rw [hb'] at hg
              injection hg with hg
              injection hg with hg
              omega
            generalize World.setCell v8 _ _ = w2' at D9 O9 ⊢
            obtain ⟨q, hq⟩ : ∃ q : Pkt, q = ⟨kb.toNat, sb.toNat, db.toNat, x1, y3, y, y4, y5, y6⟩ := ⟨_, rfl⟩
            have D : Hid (DS w w2' B wc.heap.size (q.row (.slice A8 n8 c8')) e7 A7 n7 c7' l7) := by subst hq; exact D9.out
            have LQ : Hid (LiesB w2' w2'.heap.size A8 n8 q.press) := by subst hq; exact O9.out
            have HW : Hid q.WF := by
              subst hq
              show 0 ≤ y6 ∧ y6 < 4294967296
              have h6 := HN6.out
              have hr := Pkt.get4_range l5
              unfold Pkt.four at h6
              split at h6
              · simp only [Prod.mk.injEq] at h6; omega
              · simp only [Prod.mk.injEq] at h6; omega
            have HQ : Hid (∀ p, Pkt.Is b p → p = q ∧ e7 = false) := fun p hp => by rw [hq]; exact ⟨(HQ0.out p hp).1, (HQ0.out p hp).2.1⟩
            have HC : Hid (n8 ≤ c8' ∧ n8 ≤ 32) := ⟨hcap8, by omega⟩
            have HA9 : Hid (∀ b off, A8 = some ⟨b, off, none⟩ → q.press ≠ [] → w.heap.size < b) := by subst hq; exact HA8.out
            clear D8 D9 O8 O9 c5 f5 hq hbl8
            go_wp2_with (refine wpP_load rfl (.tmp 4) rfl (w.heap.size + 1) rfl q (.slice A8 n8 c8') D.out.p ?_)
            refine Calls.mono (packet_Encode q LQ.out (Nat.le_refl _) (by omega) HW.out) ?_
            rintro e w9 ⟨A9, n9, c9, rfl, own9, hb9, hnil⟩
            have D9 := hide (D.out.below hb9 (Nat.le_trans HBB.out D.out.bel.size))
            have O9 := hide own9
            have LB9 := hide (LA.out.below (D9.out.bel.mono HBB.out))
            have cb := D9.out.rd.arr.cell (j := 1) (by simp)
            simp only [List.getElem_cons_zero, List.getElem_cons_succ] at cb
            cases e7
            case true =>
              have NO : Hid (∀ p, ¬ Pkt.Is b p) := fun p hp => by have := (HQ.out p hp).2; cases this
              have heq : (q.enc == b) = (q.enc == b) := rfl
              go_wp2_with (first | rw [Lib.run_eql_slice_nil_nil _ _ _ Try.underlying34] | rw [Lib.run_eql_slice_some_nil _ _ _ _ Try.underlying34] | (go_at_call 81; (refine Calls.mono (bytes_Equal O9.out.lies LB9.out heq) ?_); rintro e w10 ⟨rfl, rfl⟩) | (refine wpP_store rfl (.tmp 2) (.tmp 89) rfl w.heap.size rfl Pkt.zero Pkt.zero none none 0 0 0 0 rfl D9.out.res ?_; intro w12 ha12 hk12 hs12))
              refine bodyPost_ret (results_P2 (fn := Try.f51) rfl _ _ w.heap.size rfl _ rfl Pkt.zero (.slice none 0 0) ha12) rfl ?_
              exact ⟨.no NO.out, D9.out.bel.trans (hk12.below D9.out.bel.size (fun k hk => by omega))⟩
            case false =>
              cases hm : q.may
              case false =>
                have NO : Hid (∀ p, ¬ Pkt.Is b p) := fun p hp => by have := (HQ.out p hp).1; subst this; rw [hp.1] at hm; cases hm
                obtain ⟨rfl, rfl, rfl⟩ := hnil hm
                have heq : (q.enc == b) = (q.enc == b) := rfl
                clear hnil own9
                go_wp2_with (first | rw [Lib.run_eql_slice_nil_nil _ _ _ Try.underlying34] | rw [Lib.run_eql_slice_some_nil _ _ _ _ Try.underlying34] | (go_at_call 81; (refine Calls.mono (bytes_Equal O9.out.lies LB9.out heq) ?_); rintro e w10 ⟨rfl, rfl⟩) | (refine wpP_store rfl (.tmp 2) (.tmp 89) rfl w.heap.size rfl Pkt.zero Pkt.zero none none 0 0 0 0 rfl D9.out.res ?_; intro w12 ha12 hk12 hs12))
                refine bodyPost_ret (results_P2 (fn := Try.f51) rfl _ _ w.heap.size rfl _ rfl Pkt.zero (.slice none 0 0) ha12) rfl ?_
                exact ⟨.no NO.out, D9.out.bel.trans (hk12.below D9.out.bel.size (fun k hk => by omega))⟩
              case true =>
                have hne : 0 < n9 := by have := own9.len; rcases Nat.eq_zero_or_pos n9 with h | h; · rw [h] at this; have := Pkt.enc_nil_iff.1 (List.eq_nil_of_length_eq_zero this); rw [hm] at this; cases this
                                        · exact h
                obtain ⟨g9, rfl, -, -⟩ := own9.form hne
                clear hnil own9
                cases heq : (q.enc == b)
                case false =>
                  have NO : Hid (∀ p, ¬ Pkt.Is b p) := fun p hp => by have := (HQ.out p hp).1; subst this; rw [← Pkt.is_enc hp] at heq; simp at heq
                  go_wp2_with (first | rw [Lib.run_eql_slice_nil_nil _ _ _ Try.underlying34] | rw [Lib.run_eql_slice_some_nil _ _ _ _ Try.underlying34] | (go_at_call 81; (refine Calls.mono (bytes_Equal O9.out.lies LB9.out heq) ?_); rintro e w10 ⟨rfl, rfl⟩) | (refine wpP_store rfl (.tmp 2) (.tmp 89) rfl w.heap.size rfl Pkt.zero Pkt.zero none none 0 0 0 0 rfl D9.out.res ?_; intro w12 ha12 hk12 hs12))
                  refine bodyPost_ret (results_P2 (fn := Try.f51) rfl _ _ w.heap.size rfl _ rfl Pkt.zero (.slice none 0 0) ha12) rfl ?_
                  exact ⟨.no NO.out, D9.out.bel.trans (hk12.below D9.out.bel.size (fun k hk => by omega))⟩
                case true =>
                  have YES : Hid (Pkt.Is b q) := by show Pkt.Is b q; have := Pkt.enc_is hm HW.out; rwa [eq_of_beq heq] at this
                  have LQ9 := hide ((LQ.out.below hb9).more hb9.size)
                  go_wp2_with (first | rw [Lib.run_eql_slice_nil_nil _ _ _ Try.underlying34] | rw [Lib.run_eql_slice_some_nil _ _ _ _ Try.underlying34] | (go_at_call 81; (refine Calls.mono (bytes_Equal O9.out.lies LB9.out heq) ?_); rintro e w10 ⟨rfl, rfl⟩) | (refine wpP_load rfl (.tmp 4) rfl (w.heap.size + 1) rfl q (.slice A8 n8 c8') D9.out.p ?_) | (refine wpP_store rfl (.tmp 2) (.tmp 90) rfl w.heap.size rfl q Pkt.zero A8 none n8 0 c8' 0 rfl D9.out.res ?_; intro w12 ha12 hk12 hs12))
                  refine bodyPost_ret (results_P2 (fn := Try.f51) rfl _ _ w.heap.size rfl _ rfl q (.slice A8 n8 c8') ha12) rfl ?_
                  have LY := LQ9.out.keeps hk12 (fun b off h1 h2 hm => by have := HA9.out b off h1 h2; omega)
                  rw [← hs12] at LY
                  exact ⟨.yes q _ _ _ YES.out LY HC.out.1 HC.out.2 (fun b off h1 h2 => Nat.le_of_lt (HA9.out b off h1 h2)), D9.out.bel.trans (hk12.below D9.out.bel.size (fun k hk => by omega))⟩
          · have d3 : (y7 != (n8 : Int)) = true := by simp [h7n]
            have NO : Hid (∀ p, ¬ Pkt.Is b p) := fun p hp => by have := (HQ0.out p hp).2.2.2; omega
            clear h7n
            go_wp2_with (refine wpP_store rfl (.tmp 2) (.tmp 70) rfl w.heap.size rfl Pkt.zero Pkt.zero none none 0 0 0 0 rfl D8.out.res ?_; intro w12 ha12 hk12 hs12)
            refine bodyPost_ret (results_P2 (fn := Try.f51) rfl _ _ w.heap.size rfl _ rfl Pkt.zero (.slice none 0 0) ha12) rfl ?_
            exact ⟨.no NO.out, D8.out.bel.trans (hk12.below D8.out.bel.size (fun k hk => by omega))⟩
        · have d3 : (ey != 0) = true := by simp [he]
          have NO : Hid (∀ p, ¬ Pkt.Is b p) := fun p hp => he (HQ0.out p hp).2.2.1
          clear he
          go_wp2_with (refine wpP_store rfl (.tmp 2) (.tmp 70) rfl w.heap.size rfl Pkt.zero Pkt.zero none none 0 0 0 0 rfl D8.out.res ?_; intro w12 ha12 hk12 hs12)
          refine bodyPost_ret (results_P2 (fn := Try.f51) rfl _ _ w.heap.size rfl _ rfl Pkt.zero (.slice none 0 0) ha12) rfl ?_
          exact ⟨.no NO.out, D8.out.bel.trans (hk12.below D8.out.bel.size (fun k hk => by omega))⟩
      · have d2 : ((kb.toNat : Int) == 1) = false := by simp [hk1]
        go_upto_region 16 with fail
        obtain ⟨q, hq⟩ : ∃ q : Pkt, q = ⟨kb.toNat, sb.toNat, db.toNat, x1, 0, [], 0, 0, 0⟩ := ⟨_, rfl⟩
        have D : Hid (DS w w2 B wc.heap.size (q.row (.slice none 0 0)) e1 A1 n1 c1 l1) := by subst hq; exact D2.out
        have LQ : Hid (LiesB w2 w2.heap.size none 0 q.press) := by subst hq; exact LiesB.nil _ _ _
        have HW : Hid q.WF := by subst hq; exact ⟨by show (0 : Int) ≤ 0; decide, by show (0 : Int) < 4294967296; decide⟩
        have HQ : Hid (∀ p, Pkt.Is b p → p = q ∧ e1 = false) := by
          intro p hp
          obtain ⟨-, k, s, d, t, hb, k1, s1, d1, e⟩ := Pkt.is_head hp
          have hbt := HBT.out
          rw [hb] at hbt
          simp only [List.cons.injEq] at hbt
          obtain ⟨rfl, rfl, rfl, -⟩ := hbt
          have f := Pkt.may_iff.1 hp.1
          rw [hl, show m + 4 - 4 = m by omega, ← HL0.out] at e
          have hn1 := HN1.out
          rw [e, Pkt.num_put (by have := f.id; omega) (by have := f.id; omega)] at hn1
          simp only [Prod.mk.injEq] at hn1
          refine ⟨?_, hn1.2.1.symm⟩
          rcases f.kind with ⟨h, -⟩ | ⟨h, a1, a2, a3, a4, a5⟩
          · omega
          · rw [hq]
            cases p
            simp only [Pkt.mk.injEq] at *
            exact ⟨k1.symm, s1.symm, d1.symm, hn1.1, a1, a4, a2, a3, a5⟩
        have HC : Hid (0 ≤ 0 ∧ 0 ≤ 32) := ⟨by omega, by omega⟩
        have HA9 : Hid (∀ b off, (none : Option Addr) = some ⟨b, off, none⟩ → q.press ≠ [] → w.heap.size < b) := fun b off h => by cases h
        clear D2 c0 hq
        go_wp2_with (refine wpP_load rfl (.tmp 4) rfl (w.heap.size + 1) rfl q (.slice none 0 0) D.out.p ?_)
        refine Calls.mono (packet_Encode q LQ.out (Nat.le_refl _) (by omega) HW.out) ?_
        rintro e w9 ⟨A9, n9, c9, rfl, own9, hb9, hnil⟩
        have D9 := hide (D.out.below hb9 (Nat.le_trans HBB.out D.out.bel.size))
        have O9 := hide own9
        have LB9 := hide (LA.out.below (D9.out.bel.mono HBB.out))
        have cb := D9.out.rd.arr.cell (j := 1) (by simp)
        simp only [List.getElem_cons_zero, List.getElem_cons_succ] at cb
        cases e1
        case true =>
          have NO : Hid (∀ p, ¬ Pkt.Is b p) := fun p hp => by have := (HQ.out p hp).2; cases this
          have heq : (q.enc == b) = (q.enc == b) := rfl
          go_wp2_with (first | rw [Lib.run_eql_slice_nil_nil _ _ _ Try.underlying34] | rw [Lib.run_eql_slice_some_nil _ _ _ _ Try.underlying34] | (go_at_call 81; (refine Calls.mono (bytes_Equal O9.out.lies LB9.out heq) ?_); rintro e w10 ⟨rfl, rfl⟩) | (refine wpP_store rfl (.tmp 2) (.tmp 89) rfl w.heap.size rfl Pkt.zero Pkt.zero none none 0 0 0 0 rfl D9.out.res ?_; intro w12 ha12 hk12 hs12))
          refine bodyPost_ret (results_P2 (fn := Try.f51) rfl _ _ w.heap.size rfl _ rfl Pkt.zero (.slice none 0 0) ha12) rfl ?_
          exact ⟨.no NO.out, D9.out.bel.trans (hk12.below D9.out.bel.size (fun k hk => by omega))⟩
        case false =>
          cases hm : q.may
          case false =>
            have NO : Hid (∀ p, ¬ Pkt.Is b p) := fun p hp => by have := (HQ.out p hp).1; subst this; rw [hp.1] at hm; cases hm
            obtain ⟨rfl, rfl, rfl⟩ := hnil hm
            have heq : (q.enc == b) = (q.enc == b) := rfl
            clear hnil own9
            go_wp2_with (first | rw [Lib.run_eql_slice_nil_nil _ _ _ Try.underlying34] | rw [Lib.run_eql_slice_some_nil _ _ _ _ Try.underlying34] | (go_at_call 81; (refine Calls.mono (bytes_Equal O9.out.lies LB9.out heq) ?_); rintro e w10 ⟨rfl, rfl⟩) | (refine wpP_store rfl (.tmp 2) (.tmp 89) rfl w.heap.size rfl Pkt.zero Pkt.zero none none 0 0 0 0 rfl D9.out.res ?_; intro w12 ha12 hk12 hs12))
            refine bodyPost_ret (results_P2 (fn := Try.f51) rfl _ _ w.heap.size rfl _ rfl Pkt.zero (.slice none 0 0) ha12) rfl ?_
            exact ⟨.no NO.out, D9.out.bel.trans (hk12.below D9.out.bel.size (fun k hk => by omega))⟩
          case true =>
            have hne : 0 < n9 := by have := own9.len; rcases Nat.eq_zero_or_pos n9 with h | h; · rw [h] at this; have := Pkt.enc_nil_iff.1 (List.eq_nil_of_length_eq_zero this); rw [hm] at this; cases this
                                    · exact h
            obtain ⟨g9, rfl, -, -⟩ := own9.form hne
            clear hnil own9
            cases heq : (q.enc == b)
            case false =>
              have NO : Hid (∀ p, ¬ Pkt.Is b p) := fun p hp => by have := (HQ.out p hp).1; subst this; rw [← Pkt.is_enc hp] at heq; simp at heq
              go_wp2_with (first | rw [Lib.run_eql_slice_nil_nil _ _ _ Try.underlying34] | rw [Lib.run_eql_slice_some_nil _ _ _ _ Try.underlying34] | (go_at_call 81; (refine Calls.mono (bytes_Equal O9.out.lies LB9.out heq) ?_); rintro e w10 ⟨rfl, rfl⟩) | (refine wpP_store rfl (.tmp 2) (.tmp 89) rfl w.heap.size rfl Pkt.zero Pkt.zero none none 0 0 0 0 rfl D9.out.res ?_; intro w12 ha12 hk12 hs12))
              refine bodyPost_ret (results_P2 (fn := Try.f51) rfl _ _ w.heap.size rfl _ rfl Pkt.zero (.slice none 0 0) ha12) rfl ?_
              exact ⟨.no NO.out, D9.out.bel.trans (hk12.below D9.out.bel.size (fun k hk => by omega))⟩
            case true =>
              have YES : Hid (Pkt.Is b q) := by show Pkt.Is b q; have := Pkt.enc_is hm HW.out; rwa [eq_of_beq heq] at this
              have LQ9 := hide ((LQ.out.below hb9).more hb9.size)
              go_wp2_with (first | rw [Lib.run_eql_slice_nil_nil _ _ _ Try.underlying34] | rw [Lib.run_eql_slice_some_nil _ _ _ _ Try.underlying34] | (go_at_call 81; (refine Calls.mono (bytes_Equal O9.out.lies LB9.out heq) ?_); rintro e w10 ⟨rfl, rfl⟩) | (refine wpP_load rfl (.tmp 4) rfl (w.heap.size + 1) rfl q (.slice none 0 0) D9.out.p ?_) | (refine wpP_store rfl (.tmp 2) (.tmp 90) rfl w.heap.size rfl q Pkt.zero none none 0 0 0 0 rfl D9.out.res ?_; intro w12 ha12 hk12 hs12))
              refine bodyPost_ret (results_P2 (fn := Try.f51) rfl _ _ w.heap.size rfl _ rfl q (.slice none 0 0) ha12) rfl ?_
              have LY := LQ9.out.keeps hk12 (fun b off h1 h2 hm => by have := HA9.out b off h1 h2; omega)
              rw [← hs12] at LY
              exact ⟨.yes q _ _ _ YES.out LY HC.out.1 HC.out.2 (fun b off h1 h2 => Nat.le_of_lt (HA9.out b off h1 h2)), D9.out.bel.trans (hk12.below D9.out.bel.size (fun k hk => by omega))⟩
end Go.Proofs.Ytbcgffgiifminaa
namespace Go.Proofs.Ytbcgffgiifminaa
open Go.RowKit
set_option maxRecDepth 10000

set_option maxHeartbeats 400000 in
theorem law_Short (A : Option Addr) (n c : Nat) (mi : Int) (m : Nat) (w : World) (hc : n ≤ c) (hmi : mi = (m : Int)) (hm2 : m ≤ 9223372036854775807) :
    Calls Try.prog 19 #[.slice A n c, .int .i64 mi] w fun e w' => e = .returned (.slice A (min m n) c) ∧ w = w' := by
  subst hmi
  by_cases h : m < n
  · have hmin : min m n = m := by omega
    rw [hmin]
    clear hmin
    have hmc : m ≤ c := by omega
    go_enter Try.func19, Try.ntmps19
    go_wp2
    go_ret
    exact ⟨rfl, rfl⟩
  · have hmin : min m n = n := by omega
    rw [hmin]
    clear hmin
    go_enter Try.func19, Try.ntmps19
    go_wp2
    go_ret
    exact ⟨rfl, rfl⟩
end Go.Proofs.Ytbcgffgiifminaa
namespace Go.Proofs.Ytbcgffgiifminaa
open Go.RowKit
set_option maxRecDepth 10000
set_option linter.unusedVariables false
theorem Pkt.row_oneV (p : Pkt) (A : Option Addr) (n c : Nat) : ∀ u ∈ p.row (.slice A n c), u.oneCell' = true := by
  intro u hu
  simp only [Pkt.row, List.mem_cons, List.not_mem_nil, or_false] at hu
  rcases hu with rfl | rfl | rfl | rfl | rfl | rfl | rfl | rfl | rfl <;> rfl
/-- A packet's variable that was just made is given its first value. -/
theorem wpP_init {ops : Array Oper} {rest : List Oper} {o : Oper} {a : Act} {w : World} {cs : Array Value} {T : TypeId} {Q : Exit → Act → World → Prop} (hgd : o.guard = none) (x y : Operand) (ho : o.op = .store 41 x y)
    (p : Pkt) (A : Option Addr) (n c : Nat) (hx : a.eval x = .pointer (some ⟨w.heap.size, 0, none⟩)) (hy : a.eval y = p.val (.slice A n c)) (hcs : cs.size = 9)
    (h : ∀ w', Arr T w' w.heap.size (p.row (.slice A n c)) → Below w.heap.size w w' → w'.heap.size = w.heap.size + 1 → wpList Try.prog ops Q rest (a.put o.dst undef) w') : wpList Try.prog ops Q (o :: rest) a (w.alloc (.cells cs T)) :=
  wpA_init hgd 41 x y ho (p.row (.slice A n c)) hx hy 9 info_packet hcs rfl (p.row_oneV A n c) h
/-- The whole packet is written. -/
theorem wpP_put {ops : Array Oper} {rest : List Oper} {o : Oper} {a : Act} {w : World} {Q : Exit → Act → World → Prop} (hgd : o.guard = none) (x y : Operand) (ho : o.op = .store 41 x y)
    (g : Nat) (hx : a.eval x = .pointer (some ⟨g, 0, none⟩)) (p : Pkt) (A : Option Addr) (n c : Nat) (hy : a.eval y = p.val (.slice A n c)) {R : List Value} (hg : Arr 41 w g R) (hR : R.length = 9)
    (h : ∀ w', Arr 41 w' g (p.row (.slice A n c)) → Keeps (fun k => k = g) w w' → w'.heap.size = w.heap.size → wpList Try.prog ops Q rest (a.put o.dst undef) w') : wpList Try.prog ops Q (o :: rest) a w :=
  wpA_store hgd 41 x y ho g (p.row (.slice A n c)) hx hy 41 _ hg 9 info_packet hR rfl (p.row_oneV A n c) h
/-- The whole packet is read, under a guard that lets it. -/
theorem wpPG_load {ops : Array Oper} {rest : List Oper} {o : Oper} {a : Act} {w : World} {Q : Exit → Act → World → Prop} (hgd : Region.wanted o (yielded ops a.tmps) = true) (x : Operand) (ho : o.op = .load 41 x)
    (g : Nat) (hx : a.eval x = .pointer (some ⟨g, 0, none⟩)) (p : Pkt) (v : Value) (hg : Arr 41 w g (p.row v)) (h : wpList Try.prog ops Q rest (a.put o.dst (p.val v)) w) : wpList Try.prog ops Q (o :: rest) a w :=
  wpList_step fun K hK => by
    rw [if_pos hgd]
    exact wp_load_row 41 x ho g hx 41 (p.row v).toArray (0, 0) _ hg Try.underlying41 rfl info_packet (hK _ _ h)
/-- A packet's block, read whole inside a region that draws. -/
def WholeP (g : Nat) (v : Value) (w : World) : Prop := (Instr.loadAt 41 (.pointer (some ⟨g, 0, none⟩))).run Try.prog w = .ok v w
theorem Arr.wholeP {w : World} {g : Nat} {p : Pkt} {v : Value} (h : Arr 41 w g (p.row v)) : WholeP g (p.val v) w := by
  have := run_loadVar_row (P := Try.prog) w g 41 41 (p.row v).toArray (0, 0) _ h Try.underlying41 rfl info_packet
  unfold WholeP
  simp only [Instr.loadAt, Instr.sureAddr, Sem.run_bind, Sem.run_pure, Result.andThen_ok, this]
theorem exec_wholeP {o : Oper} {a : Act} {x : Operand} {g : Nat} {v : Value} {w : World} (h : WholeP g v w) (ho : o.op = .load 41 x) (hx : a.eval x = .pointer (some ⟨g, 0, none⟩)) :
    (execOp a.eval o).run Try.prog w = .ok (.value v) w := by
  unfold execOp
  unfold WholeP at h
  simp only [ho, hx, Sem.run_bind, h, Result.andThen_ok, Sem.run_pure]
theorem step_loadP {ops : Array Oper} {o : Oper} {a : Act} {w : World} {K : Act → World → Prop} {Q : Exit → Act → World → Prop} {E : Prop} (hgd : o.guard = none) (x : Operand) (ho : o.op = .load 41 x)
    (g : Nat) (hx : a.eval x = .pointer (some ⟨g, 0, none⟩)) (p : Pkt) (v : Value) (hg : Arr 41 w g (p.row v)) (h : K (a.put o.dst (p.val v)) w) :
    if Region.wanted o (yielded ops a.tmps) = true then Oper.wp Try.prog o a w K Q else E := by
  have hw : Region.wanted o (yielded ops a.tmps) = true := by simp [Region.wanted, hgd]
  rw [if_pos hw]
  exact wp_load_row 41 x ho g hx 41 (p.row v).toArray (0, 0) _ hg Try.underlying41 rfl info_packet h
theorem step_putP {ops : Array Oper} {o : Oper} {a : Act} {w : World} {K : Act → World → Prop} {Q : Exit → Act → World → Prop} {E : Prop} (hgd : o.guard = none) (x y : Operand) (ho : o.op = .store 41 x y)
    (g : Nat) (hx : a.eval x = .pointer (some ⟨g, 0, none⟩)) (p : Pkt) (A : Option Addr) (n c : Nat) (hy : a.eval y = p.val (.slice A n c)) {R : List Value} (hg : Arr 41 w g R) (hR : R.length = 9)
    (h : ∀ w', Arr 41 w' g (p.row (.slice A n c)) → Keeps (fun k => k = g) w w' → w'.heap.size = w.heap.size → K (a.put o.dst undef) w') :
    if Region.wanted o (yielded ops a.tmps) = true then Oper.wp Try.prog o a w K Q else E := by
  have hw : Region.wanted o (yielded ops a.tmps) = true := by simp [Region.wanted, hgd]
  rw [if_pos hw]
  exact wp_store_row 41 x y ho g (p.row (.slice A n c)).toArray hx hy 41 R.toArray hg (by rw [info_packet]; rfl) (by simp [hR]) (Array.all_eq_true_iff_forall_mem.2 fun v hv => p.row_oneV A n c v (by simpa using hv))
    (h _ (setRow_heap w g _ _ 41 _ hg) ⟨rfl, rfl, rfl, by simp, fun k _ hk => setRow_other w g k _ hk⟩ (by simp))
/-- Decode, told by whether the bytes are a packet's. -/
theorem packet_Decode_yes (p : Pkt) {A : Option Addr} {n c B : Nat} {b : List UInt8} {w : World} (h : Pkt.Is b p) (hA : LiesB w B A n b) (hB : B ≤ w.heap.size) (hnc : n ≤ c) (hn : n ≤ 1000000) :
    Calls Try.prog 51 #[.slice A n c] w fun e w' => ∃ A' n' c', e = .returned (.tuple #[p.val (.slice A' n' c'), .int .i64 0]) ∧ LiesB w' w'.heap.size A' n' p.press ∧ n' ≤ c' ∧ n' ≤ 32 ∧ Below w.heap.size w w' := by
  refine (packet_Decode hA hB hnc hn).mono ?_
  rintro e w' ⟨hs, hb⟩
  cases hs with
  | yes q A n c h2 hl hc hn hf => obtain rfl := Pkt.is_inj h h2; exact ⟨A, n, c, rfl, hl, hc, hn, hb⟩
  | no h2 => exact absurd h (h2 p)
/-- The same, and the presses lie in a block of their own. -/
theorem packet_Decode_fresh (p : Pkt) {A : Option Addr} {n c B : Nat} {b : List UInt8} {w : World} (h : Pkt.Is b p) (hA : LiesB w B A n b) (hB : B ≤ w.heap.size) (hnc : n ≤ c) (hn : n ≤ 1000000) :
    Calls Try.prog 51 #[.slice A n c] w fun e w' => ∃ A' n' c', e = .returned (.tuple #[p.val (.slice A' n' c'), .int .i64 0]) ∧ LiesB w' w'.heap.size A' n' p.press ∧ n' ≤ c' ∧ n' ≤ 32 ∧ Below w.heap.size w w' ∧ ∀ bk off, A' = some ⟨bk, off, none⟩ → p.press ≠ [] → w.heap.size ≤ bk := by
  refine (packet_Decode hA hB hnc hn).mono ?_
  rintro e w' ⟨hs, hb⟩
  cases hs with
  | yes q A n c h2 hl hc hn hf => obtain rfl := Pkt.is_inj h h2; exact ⟨A, n, c, rfl, hl, hc, hn, hb, hf⟩
  | no h2 => exact absurd h (h2 p)
theorem packet_Decode_no {A : Option Addr} {n c B : Nat} {b : List UInt8} {w : World} (h : ∀ p, ¬ Pkt.Is b p) (hA : LiesB w B A n b) (hB : B ≤ w.heap.size) (hnc : n ≤ c) (hn : n ≤ 1000000) :
    Calls Try.prog 51 #[.slice A n c] w fun e w' => e = .returned (.tuple #[Pkt.zero.val (.slice none 0 0), .int .i64 1]) ∧ Below w.heap.size w w' := by
  refine (packet_Decode hA hB hnc hn).mono ?_
  rintro e w' ⟨hs, hb⟩
  cases hs with
  | yes q A n c h2 hl hc hn hf => exact absurd h2 (h q)
  | no h2 => exact ⟨rfl, hb⟩
end Go.Proofs.Ytbcgffgiifminaa
namespace Go.Proofs.Ytbcgffgiifminaa
open Go.RowKit
set_option maxRecDepth 10000
set_option linter.unusedVariables false
namespace Pkt
def fields (p : Pkt) : List Int := if p.kind = 1 then [p.id, p.first, p.ack, p.frame] else [p.id]
def last (p : Pkt) : List UInt8 := if p.kind = 1 then be32 p.sum ++ (Var.put (Var.zig (p.press.length : Int)) ++ Runs.enc 0 p.press) else []
def restN (p : Pkt) (i : Nat) : List UInt8 := (p.fields.drop i).flatMap (fun x => Var.put (Var.zig x)) ++ p.last
theorem rest_zero {b : List UInt8} {p : Pkt} (h : Is b p) : (b.take (b.length - 4)).drop 3 = restN p 0 := by
  obtain ⟨-, k, s, d, t, hb, -, -, -, e⟩ := is_head h
  rw [e]
  unfold restN fields last tail
  by_cases k1 : p.kind = 1
  · simp [k1]
  · simp [k1]
theorem rest_succ (p : Pkt) (i : Nat) (hi : i < p.fields.length) : restN p i = Var.put (Var.zig p.fields[i]) ++ restN p (i + 1) := by
  unfold restN
  rw [List.drop_eq_getElem_cons hi, List.flatMap_cons, List.append_assoc]
theorem fields_range {p : Pkt} (h : p.may = true) : ∀ v ∈ p.fields, 0 ≤ v ∧ v ≤ 1099511627776 := by
  have f := may_iff.1 h
  unfold fields
  intro v hv
  by_cases k1 : p.kind = 1
  · rw [if_pos k1] at hv
    have fi := f.id
    rcases f.kind with ⟨-, a1, a2, a3, -⟩ | ⟨k, -⟩
    · simp only [List.mem_cons, List.not_mem_nil, or_false] at hv
      rcases hv with rfl | rfl | rfl | rfl <;> omega
    · omega
  · rw [if_neg k1] at hv
    simp only [List.mem_cons, List.not_mem_nil, or_false] at hv
    subst hv
    exact f.id
/-- So many numbers were read: of a packet's bytes they are the packet's. -/
def Went (b x : List UInt8) (i at' : Nat) (vs : List Int) : Prop := ∀ p, Is b p → x.drop at' = restN p i ∧ p.fields.take i = vs
theorem went_zero (b : List UInt8) : Went b ((b.take (b.length - 4)).drop 3) 0 0 [] := fun p hp => ⟨by rw [List.drop_zero]; exact rest_zero hp, rfl⟩
theorem Went.bad {b x : List UInt8} {i at' k : Nat} {vs : List Int} {v e : Int} (h : Went b x i at' vs) (hg : Var.get 0 0 (x.drop at') = (v, k, e)) (hb : e ≠ 0 ∨ v < 0 ∨ 1099511627776 < v) (hN : ∀ p, Is b p → i < p.fields.length) : ∀ p, ¬ Is b p := by
  intro p hp
  have h1 := (h p hp).1
  rw [rest_succ p i (hN p hp)] at h1
  have hr := fields_range hp.1 _ (List.getElem_mem (hN p hp))
  rw [h1, Var.get_put0 _ _ (Var.zig_lt _ (by omega) (by omega)), Var.unzig_zig] at hg
  simp only [Prod.mk.injEq] at hg
  omega
theorem Went.next {b x : List UInt8} {i at' k : Nat} {vs : List Int} {v : Int} (h : Went b x i at' vs) (hg : Var.get 0 0 (x.drop at') = (v, k, 0)) (hN : ∀ p, Is b p → i < p.fields.length) : Went b x (i + 1) (at' + k) (vs ++ [v]) := by
  intro p hp
  obtain ⟨h1, h2⟩ := h p hp
  rw [rest_succ p i (hN p hp)] at h1
  have hr := fields_range hp.1 _ (List.getElem_mem (hN p hp))
  rw [h1, Var.get_put0 _ _ (Var.zig_lt _ (by omega) (by omega)), Var.unzig_zig] at hg
  simp only [Prod.mk.injEq] at hg
  obtain ⟨rfl, rfl, -⟩ := hg
  refine ⟨?_, ?_⟩
  · rw [← List.drop_drop, h1, List.drop_left]
  · rw [List.take_succ_eq_append_getElem (hN p hp), h2]
/-- Kind 1, all four numbers read. -/
theorem Went.four {b x : List UInt8} {at' : Nat} {vs : List Int} (h : Went b x 4 at' vs) {p : Pkt} (hp : Is b p) (hk : p.kind = 1) : x.drop at' = be32 p.sum ++ (Var.put (Var.zig (p.press.length : Int)) ++ Runs.enc 0 p.press) ∧ vs = [p.id, p.first, p.ack, p.frame] := by
  obtain ⟨h1, h2⟩ := h p hp
  unfold restN last fields at h1
  unfold fields at h2
  rw [if_pos hk] at h1 h2
  rw [if_pos hk] at h1
  exact ⟨by simpa using h1, by simpa using h2.symm⟩
theorem Went.one {b x : List UInt8} {at' : Nat} {v : Int} (h : Went b x 1 at' [v]) {p : Pkt} (hp : Is b p) : p.id = v := by
  obtain ⟨h1, h2⟩ := h p hp
  unfold fields at h2
  split at h2 <;> simpa using h2
end Pkt
end Go.Proofs.Ytbcgffgiifminaa
namespace Go.Proofs.Ytbcgffgiifminaa
open Go.RowKit
set_option maxRecDepth 10000
set_option linter.unusedVariables false
namespace Var
theorem mul_up (x p k : Nat) (hp : p = 128 ^ k) (h : x * 128 ^ k < 18446744073709551616) : IntKind.u64.wrap ((x : Int) * (p : Int)) = ((x * 128 ^ k : Nat) : Int) := by
  subst hp
  rw [IntKind.wrap_u64, ← Int.natCast_mul]
  omega
theorem pow_up (k p : Nat) (hp : p = 128 ^ k) (h : k < 9) : IntKind.u64.wrap ((p : Int) * 128) = ((128 ^ (k + 1) : Nat) : Int) := by
  subst hp
  have h1 : k = 0 ∨ k = 1 ∨ k = 2 ∨ k = 3 ∨ k = 4 ∨ k = 5 ∨ k = 6 ∨ k = 7 ∨ k = 8 := by omega
  rcases h1 with rfl | rfl | rfl | rfl | rfl | rfl | rfl | rfl | rfl <;> rfl
end Var

set_option maxRecDepth 10000 in
set_option maxHeartbeats 1000000 in
theorem ref_Get (A : Option Addr) (n c B : Nat) (l : List UInt8) (w : World) (hA : LiesB w B A n l) (hn : n ≤ 140737488355328) (v : Int) (m : Nat) (er : Int) (hv : Var.get 0 0 l = (v, m, er)) :
    Calls Try.prog 62 #[.slice A n c] w fun e w' => e = .returned (.tuple #[.int .i64 v, .int .i64 m, .int .i64 er]) ∧ w = w' := by
  have HA := hide hA
  have HV := hide hv
  clear hA hv
  go_enter Try.func62, Try.ntmps62
  go_wp2
  go_loop [5, 6, 7] (fun x q i => ∃ k u p : Nat, k ≤ n ∧ k ≤ 9 ∧ i = .int .i64 k ∧ x = .int .u64 (u : Nat) ∧ q = .int .u64 (p : Nat) ∧ p = 128 ^ k ∧ u < 128 ^ k ∧ Var.get k u (l.drop k) = (v, m, er)) (fun _ _ i => n - (intOf i).toNat)
  case atStart => exact ⟨0, 0, 1, Nat.zero_le _, by omega, rfl, rfl, rfl, rfl, by simp, HV.out⟩
  case round =>
    obtain ⟨k, u, p, hk, hk9, rfl, rfl, rfl, hp, hu, hg⟩ := hrel
    have HP := hide hp
    clear hp
    by_cases hlt : k < n
    · obtain ⟨b, off, hlk, rfl, -, hc⟩ := HA.out.at_ hlt
      rw [Var.drop_at hlk] at hg
      obtain ⟨z, hz⟩ : ∃ z, z = l[k] := ⟨_, rfl⟩
      rw [← hz] at hc hg
      have Hu := hide hu
      clear hz hu
      have hz2 := z.toNat_lt
      by_cases h9 : k = 9 ∧ 1 < z.toNat
      · rw [Var.get_form9 h9.1 h9.2] at hg
        injection hg with e1 e2; injection e2 with e2 e3
        subst e1 e2 e3
        obtain ⟨rfl, h92⟩ := h9
        go_wp2
        go_ret3
        exact ⟨rfl, rfl⟩
      · have hx9 : k = 9 → z.toNat % 128 ≤ 1 := by omega
        have hr := Var.room Hu.out (Nat.mod_lt z.toNat (by omega : 0 < 128)) hk9 hx9
        have hRem : (z.toNat : Int) % 128 = ((z.toNat % 128 : Nat) : Int) := by omega
        have hMul := Var.mul_up (z.toNat % 128) p k HP.out hr.1
        have hxz : z.toNat < 128 → z.toNat % 128 = z.toNat := fun h => Nat.mod_eq_of_lt h
        have hxz2 : 128 ≤ z.toNat → z.toNat % 128 = z.toNat - 128 := fun h => by omega
        have hw := Var.wrap_small (z.toNat % 128) (by omega)
        have Hx9 := hide hx9
        clear hx9
        obtain ⟨x, hx⟩ : ∃ x, x = z.toNat % 128 := ⟨_, rfl⟩
        rw [← hx] at hr hRem hMul hxz hxz2 hw
        have HX := hide hx
        clear hx
        obtain ⟨y, hy⟩ : ∃ y, y = x * 128 ^ k := ⟨_, rfl⟩
        rw [← hy] at hr hMul
        have HY := hide hy
        clear hy
        obtain ⟨s, hs⟩ : ∃ s, s = u + y := ⟨_, rfl⟩
        rw [← hs] at hr
        have hAdd : IntKind.u64.wrap ((u : Int) + (y : Int)) = (s : Int) := by rw [IntKind.wrap_u64]; omega
        have HS := hide hs
        clear hs
        have HR := hide hr
        have HXZ := hide hxz
        have HXZ2 := hide hxz2
        have HN := hide h9
        clear hr hxz hxz2
        by_cases hbig : 128 ≤ z.toNat
        · rw [Var.get_on h9 hbig, ← HXZ2.out hbig, ← HY.out, ← HS.out] at hg
          have HG := hide hg
          have d9 : ((k : Int) == 9) = false := by simp; omega
          have hk8 : k < 9 := by omega
          have hz0 : ((z.toNat : Int) == 0) = false := by simp; omega
          have hP := Var.pow_up k p HP.out hk8
          obtain ⟨p2, hp2⟩ : ∃ p2, p2 = 128 ^ (k + 1) := ⟨_, rfl⟩
          rw [← hp2] at hP
          have HP2 := hide hp2
          clear hp2
          clear hg h9 hz2
          have d128 : decide ((z.toNat : Int) < 128) = false := by simp; omega
          have HB := hide hbig
          clear hbig
          by_cases hk0 : k = 0
          · have d0 : ¬ 0 < k := by omega
            have HK := hide hk0
            clear hk0
            go_wp2
            exact ⟨⟨k + 1, s, p2, by omega, by omega, by go_num, rfl, rfl, HP2.out, by rw [HS.out, HY.out]; exact (Var.room Hu.out (by have := HX.out; omega) hk9 (fun h => absurd h (by omega))).2.2, HG.out⟩, by simp [intOf]; omega⟩
          · have d0 : 0 < k := by omega
            have HK := hide hk0
            clear hk0
            go_wp2
            exact ⟨⟨k + 1, s, p2, by omega, by omega, by go_num, rfl, rfl, HP2.out, by rw [HS.out, HY.out]; exact (Var.room Hu.out (by have := HX.out; omega) hk9 (fun h => absurd h (by omega))).2.2, HG.out⟩, by simp [intOf]; omega⟩
        · have hsm : z.toNat < 128 := by omega
          by_cases h0 : 0 < k ∧ z.toNat = 0
          · rw [Var.get_form0 h0.2 h0.1] at hg
            injection hg with e1 e2; injection e2 with e2 e3
            subst e1 e2 e3
            obtain ⟨h01, h02⟩ := h0
            clear h9
            rw [h02] at hc
            by_cases hk9' : k = 9
            · subst hk9'
              go_wp2
              all_goals (go_ret3; exact ⟨rfl, rfl⟩)
            · have d9 : ((k : Int) == 9) = false := by simp; omega
              go_wp2
              all_goals (go_ret3; exact ⟨rfl, rfl⟩)
          · rw [Var.get_ok h9 hsm h0, ← HXZ.out hsm, ← HY.out, ← HS.out] at hg
            injection hg with e1 e2; injection e2 with e2 e3
            subst e2 e3
            obtain ⟨g, hgg⟩ : ∃ g, g = s / 2 := ⟨_, rfl⟩
            have hg63 : g < 9223372036854775808 := by have := HR.out.2.1; omega
            have hHalf : (s : Int) / 2 = (g : Int) := by omega
            have HGG := hide hgg
            have H0 := hide h0
            have E1 := hide e1
            have d128 : decide ((z.toNat : Int) < 128) = true := by simp; omega
            have HSM := hide hsm
            clear h9 h0 e1 hgg hsm hbig hz2
            by_cases hk9' : k = 9
            · subst hk9'
              have hz1 : z.toNat ≤ 1 := by have := HN.out; omega
              have hz0 : ((z.toNat : Int) == 0) = false := by have := H0.out; simp; omega
              by_cases hs2 : s % 2 = 1
              · have hpar : (s : Int) % 2 = 1 := by omega
                have hcase : v = -(g : Int) - 1 := by rw [← E1.out]; unfold Var.unzig; rw [if_pos hs2, HGG.out]
                clear hs2
                subst hcase
                go_wp2
                go_ret3
                exact ⟨rfl, rfl⟩
              · have hpar : (s : Int) % 2 = 0 := by omega
                have hcase : v = (g : Int) := by rw [← E1.out]; unfold Var.unzig; rw [if_neg hs2, HGG.out]
                clear hs2
                subst hcase
                go_wp2
                go_ret3
                exact ⟨rfl, rfl⟩
            · have d9 : ((k : Int) == 9) = false := by simp; omega
              by_cases hk0 : k = 0
              · have d0 : ¬ 0 < k := by omega
                clear hk0
                by_cases hs2 : s % 2 = 1
                · have hpar : (s : Int) % 2 = 1 := by omega
                  have hcase : v = -(g : Int) - 1 := by rw [← E1.out]; unfold Var.unzig; rw [if_pos hs2, HGG.out]
                  clear hs2
                  subst hcase
                  go_wp2
                  go_ret3
                  exact ⟨rfl, rfl⟩
                · have hpar : (s : Int) % 2 = 0 := by omega
                  have hcase : v = (g : Int) := by rw [← E1.out]; unfold Var.unzig; rw [if_neg hs2, HGG.out]
                  clear hs2
                  subst hcase
                  go_wp2
                  go_ret3
                  exact ⟨rfl, rfl⟩
              · have hz0 : ((z.toNat : Int) == 0) = false := by have := H0.out; simp; omega
                have d0 : 0 < k := by omega
                clear hk0
                by_cases hs2 : s % 2 = 1
                · have hpar : (s : Int) % 2 = 1 := by omega
                  have hcase : v = -(g : Int) - 1 := by rw [← E1.out]; unfold Var.unzig; rw [if_pos hs2, HGG.out]
                  clear hs2
                  subst hcase
                  go_wp2
                  go_ret3
                  exact ⟨rfl, rfl⟩
                · have hpar : (s : Int) % 2 = 0 := by omega
                  have hcase : v = (g : Int) := by rw [← E1.out]; unfold Var.unzig; rw [if_neg hs2, HGG.out]
                  clear hs2
                  subst hcase
                  go_wp2
                  go_ret3
                  exact ⟨rfl, rfl⟩
    · rw [List.drop_eq_nil_of_le (by rw [HA.out.len]; omega), Var.get_nil] at hg
      injection hg with e1 e2; injection e2 with e2 e3
      subst e1 e2 e3
      go_wp2
      go_ret3
      exact ⟨rfl, rfl⟩
end Go.Proofs.Ytbcgffgiifminaa
namespace Go.Proofs.Ytbcgffgiifminaa
open Go.RowKit
set_option maxRecDepth 10000
set_option linter.unusedVariables false
/-- The fault of the next run, as the reference asks it. -/
def badU (first : Bool) (n q : Nat) (v er : Int) (l : List UInt8) : Bool := decide (er ≠ 0 ∨ v < 1 ∨ n = q ∨ (l.getD q 0 = 0 ∧ first = false))
theorem badU_out {first : Bool} {n q : Nat} {v er : Int} {l : List UInt8} {b : Bool} (h : badU first n q v er l = b) : (er ≠ 0 ∨ v < 1 ∨ n = q ∨ (l.getD q 0 = 0 ∧ first = false)) ↔ b = true := by subst h; unfold badU; simp

set_option maxRecDepth 10000 in
set_option maxHeartbeats 10000000 in
theorem ref_Unruns (A0 : Option Addr) (n0 c0 B : Nat) (l0 : List UInt8) (most : Int) (M : Nat) (w : World) (hA : LiesB w B A0 n0 l0) (hnc0 : n0 ≤ c0) (hB : B ≤ w.heap.size) (hn0 : n0 ≤ 1000000)
    (lo : -9223372036854775808 ≤ most) (hi : most ≤ 9223372036854775807) (hM : max 0 most = (M : Int)) (R : List UInt8 × Int) (hR : Runs.dec M true 0 [] l0 = R) (room : M ≤ 1000000 ∨ (R.2 = 0 ∧ R.1.length ≤ 1000000)) :
    Calls Try.prog 63 #[.slice A0 n0 c0, .int .i64 most] w fun e w' => ∃ A' n' c', e = .returned (.tuple #[.slice A' n' c', .int .i64 R.2]) ∧ OwnB w' w.heap.size A' n' c' R.1 ∧ Below w.heap.size w w' := by
  have HR := hide hR
  have HA := hide hA
  have HM := hide room
  clear hR hA room
  go_enter Try.func63, Try.ntmps63
  go_wp2
  go_loopg [0, 6, 7, 8] n0 (fun g sb s x i wr => ∃ (A : Option Addr) (n c : Nat) (l : List UInt8) (first : Bool) (A' : Option Addr) (n' c' : Nat) (l' : List UInt8) (ah : UInt8), g = n ∧ n ≤ n0 ∧ n ≤ c ∧ n' ≤ M ∧ sb = .slice A n c ∧ i = .bool first ∧ x = .int .u8 (ah.toNat : Int) ∧ s = .slice A' n' c' ∧ LiesB wr B A n l ∧ OwnB wr w.heap.size A' n' c' l' ∧ Runs.dec M first ah l' l = R ∧ Below w.heap.size w wr)
  case atStart => exact ⟨A0, n0, c0, l0, true, _, _, _, [], 0, rfl, by omega, by omega, by omega, rfl, rfl, rfl, rfl, HA.out, OwnB.nil _ _, HR.out, Below.refl _ _⟩
  case round =>
    obtain ⟨W1, hW1⟩ : ∃ W1, W1 = wr := ⟨_, rfl⟩
    subst hW1
    obtain ⟨A, n, c, l, first, A', n', c', l', ah, rfl, hn, hnc, hnM, rfl, rfl, rfl, rfl, hlies, hown, heq, hbel⟩ := hrel
    have HL := hide hlies
    have HO := hide hown
    have HB := hide hbel
    have HE := hide heq
    have hsz : w.heap.size ≤ W1.heap.size := hbel.size
    have hl' := hide hown.len
    clear hown hbel heq hlies
    by_cases hlt : 0 < gk
    · obtain ⟨v, q, er, hg⟩ : ∃ v q er, Var.get 0 0 l = (v, q, er) := ⟨_, _, _, rfl⟩
      have hf := Var.get_facts _ 0 0 v q er (by omega) (by simp) hg
      rw [HL.out.len] at hf
      have HG := hide hg
      have HNE : Hid (l ≠ []) := fun h => by have := HL.out.len; rw [h] at this; simp at this; omega
      obtain ⟨f1, f2, f3, f4, f5⟩ := hf
      have F4 := hide f4
      have F5 := hide f5
      clear hg f4 f5
      obtain ⟨bad, hbad⟩ : ∃ bad, badU first gk q v er l = bad := ⟨_, rfl⟩
      have HBAD := hide (badU_out hbad)
      clear hbad
      go_upto_region 7 with (go_at_call 62; refine Calls.mono (ref_Get _ _ _ B _ _ HL.out (by omega) v q er HG.out) ?_; rintro e w' ⟨rfl, rfl⟩)
      go_cut [44] from 13 to 70 (fun s44 wx => s44 = .bool bad ∧ wx = W1)
      case first =>
        by_cases b1 : er ≠ 0
        · have hd : (er == 0) = false := by simpa using b1
          have hd2 : (er != 0) = true := by simpa using b1
          have hb : bad = true := HBAD.out.1 (.inl b1)
          have HB1 := hide hb
          clear hb b1
          go_wp2
          go_meet
          rw [HB1.out]
          exact ⟨rfl, rfl⟩
        · obtain rfl : er = 0 := by omega
          have f5 := F5.out rfl
          clear b1
          by_cases b2 : v < 1
          · have HB1 := hide (HBAD.out.1 (.inr (.inl b2)))
            have d1 : decide (v < 1) = true := decide_eq_true b2
            clear b2
            go_wp2
            go_meet
            rw [HB1.out]
            exact ⟨rfl, rfl⟩
          · by_cases b3 : gk = q
            · have HB1 := hide (HBAD.out.1 (.inr (.inr (.inl b3))))
              have d1 : decide (v < 1) = false := decide_eq_false b2
              have d2 : ((gk : Int) == (q : Int)) = true := by simp; omega
              have d3 : (gk == q) = true := by simp; omega
              clear b3
              go_wp2
              go_meet
              rw [HB1.out]
              exact ⟨rfl, rfl⟩
            · have d1 : decide (v < 1) = false := decide_eq_false b2
              have d2 : ((gk : Int) == (q : Int)) = false := by simp; omega
              have d3 : (gk == q) = false := by simp; omega
              obtain ⟨b, off, hlm, rfl, hbB, hcc⟩ := HL.out.at_ (k := q) (by omega)
              have hget : l.getD q 0 = l[q] := by rw [List.getD_eq_getElem?_getD, List.getElem?_eq_getElem hlm]; rfl
              obtain ⟨z, hz⟩ : ∃ z, z = l[q] := ⟨_, rfl⟩
              rw [← hz] at hcc hget
              rw [hget] at HBAD
              have hzt := z.toNat_lt
              have hqs : q < gk := by omega
              clear hz hget
              by_cases hz0 : z = 0
              · subst hz0
                have hcc : W1.cell? ⟨b, off + q, none⟩ = some (.int .u8 0) := hcc
                cases first with
                | false =>
                  have HB1 := hide (HBAD.out.1 (.inr (.inr (.inr ⟨rfl, rfl⟩))))
                  clear b3
                  go_wp2
                  go_meet
                  rw [HB1.out]
                  exact ⟨rfl, rfl⟩
                | true =>
                  have HB1 : Hid (bad = false) := by
                    rw [← Bool.not_eq_true, ← HBAD.out]; exact fun h => by rcases h with h | h | h | h <;> first | exact h rfl | omega | cases h.2
                  clear b3
                  go_wp2
                  go_meet
                  rw [HB1.out]
                  exact ⟨rfl, rfl⟩
              · have hz1 : ((z.toNat : Int) == 0) = false := by
                  have h2 : z.toNat ≠ 0 := fun h => hz0 (UInt8.toNat_inj.1 (by rw [h]; rfl))
                  simp; omega
                have HB1 : Hid (bad = false) := by
                  rw [← Bool.not_eq_true, ← HBAD.out]; exact fun h => by rcases h with h | h | h | h <;> first | exact h rfl | omega | exact hz0 h.1
                clear hz0 b3
                go_wp2
                go_meet
                rw [HB1.out]
                exact ⟨rfl, rfl⟩
      case rest =>
        obtain ⟨rfl, rfl⟩ := hcut
        cases bad with
        | true =>
          have hr : R = ([], 1) := by
            rw [← HE.out]
            refine Runs.dec_bad HG.out HNE.out ?_
            rw [HL.out.len]
            rcases HBAD.out.2 rfl with h | h | h | h
            · exact .inl h
            · exact .inr (.inl h)
            · exact .inr (.inr (.inl (by omega)))
            · exact .inr (.inr (.inr h))
          subst hr
          go_wp2
          go_ret2
          exact ⟨none, 0, 0, rfl, OwnB.nil _ _, HB.out⟩
        | false =>
          have hnb := fun h => Bool.false_ne_true (HBAD.out.1 h)
          have er0 : er = 0 := by
            rcases Decidable.em (er = 0) with h | h
            · exact h
            · exact absurd (.inl h) hnb
          have HNB := hide hnb
          clear hnb
          subst er0
          have f5 := F5.out rfl
          have b2 : 1 ≤ v := by
            rcases Decidable.em (v < 1) with h | h
            · exact absurd (.inr (.inl h)) HNB.out
            · omega
          have b3 : q < gk := by
            rcases Decidable.em (gk = q) with h | h
            · exact absurd (.inr (.inr (.inl h))) HNB.out
            · omega
          obtain ⟨b, off, hlm, rfl, hbB, hcc⟩ := HL.out.at_ (k := q) (by omega)
          have hget : l.getD q 0 = l[q] := by rw [List.getD_eq_getElem?_getD, List.getElem?_eq_getElem hlm]; rfl
          obtain ⟨z, hz⟩ : ∃ z, z = l[q] := ⟨_, rfl⟩
          rw [← hz] at hcc hget
          have hzt := z.toNat_lt
          have HGT := hide hget
          clear hz hget
          have HOK : Hid (¬ ((0 : Int) ≠ 0 ∨ v < 1 ∨ l.length ≤ q ∨ (l.getD q 0 = 0 ∧ first = false))) := by
            have h3 : l.length = gk := HL.out.len
            have h4 := HNB.out
            rintro (h | h | h | h)
            · exact h rfl
            · omega
            · omega
            · exact h4 (.inr (.inr (.inr h)))
          have hMl : (M : Int) ≤ 9223372036854775807 := by omega
          by_cases b5 : (M : Int) - n' < v
          · have hr : R = ([], 4) := HE.out.symm.trans (Runs.dec_full (most := M) (first := first) (a := ah) (out := l') HG.out HNE.out HOK.out (by rw [hl'.out]; exact b5))
            subst hr
            go_wp2
            go_ret2
            exact ⟨none, 0, 0, rfl, OwnB.nil _ _, HB.out⟩
          · have hon := Runs.dec_on (most := M) (first := first) (a := ah) (out := l') HG.out HNE.out HOK.out (by rw [hl'.out]; exact b5)
            obtain ⟨vn, rfl⟩ : ∃ vn : Nat, v = (vn : Int) := ⟨v.toNat, by omega⟩
            rw [HE.out, HGT.out] at hon
            obtain ⟨z2, hz2⟩ : ∃ z2, z2 = ah ^^^ z := ⟨_, rfl⟩
            have hxor := bits_xor8 ah z
            rw [← hz2] at hon hxor
            have hroom : n' + vn ≤ 1000000 := by
              have h3 := hl'.out
              rcases HM.out with h | ⟨h1, h2⟩
              · omega
              · rw [hon] at h1 h2
                have := Runs.dec_len _ _ _ _ _ _ (Nat.le_refl _) h1
                rw [List.length_append, List.length_replicate] at this
                have e2 : ((vn : Int)).toNat = vn := by omega
                rw [e2] at *
                omega
            have HON := hide (show Runs.dec M false z2 (l' ++ List.replicate vn z2) (l.drop (q + 1)) = R from by
              rw [hon]; rfl)
            clear hon hz2
            go_wp2
            go_loopg [6, 12] vn (fun g s j wx => ∃ (t : Nat) (A2 : Option Addr) (n2 c2 : Nat), t ≤ vn ∧ g = vn - t ∧ n2 = n' + t ∧ j = .int .i64 t ∧ s = .slice A2 n2 c2 ∧ OwnB wx w.heap.size A2 n2 c2 (l' ++ List.replicate t z2) ∧ LiesB wx B (some ⟨b, off, none⟩) gk l ∧ Below w.heap.size w wx)
            case atStart => exact ⟨0, A', n', c', by omega, rfl, rfl, rfl, rfl, by simpa using HO.out, HL.out, HB.out⟩
            case round =>
              obtain ⟨t, A2, n2, c2, ht, rfl, rfl, rfl, rfl, hown2, hlies2, hbel2⟩ := hrel
              have HO2 := hide hown2
              have HB2 := hide hbel2
              have HL2 := hide hlies2
              have hs2 : w.heap.size ≤ wr.heap.size := hbel2.size
              clear hown2 hbel2 hlies2
              by_cases htv : t < vn
              · go_wp2_with (at_builtin; refine wpB_append rfl (.tmp 63) (.tmp 65) rfl w.heap.size A2 (n' + t) c2 _ rfl (HO2.out.below (Below_new _ _)) _ _ 1 1 [z2] rfl (LiesB.new _ _ _ _ _ _ rfl rfl) (n' + t + 1) _ rfl rfl (by omega) (by simp; omega) ?_; intro A3 c3 w3 own3 hb3 hg3)
                go_roundg (vn - (t + 1))
                case measure => omega
                case rel => exact ⟨t + 1, A3, n' + t + 1, c3, by omega, rfl, by omega, by go_num, rfl, by rw [List.append_assoc, ← List.replicate_succ'] at own3; exact own3, HL2.out.below ((((Below_new _ _).mono hs2).trans hb3).mono hB), HB2.out.trans (((Below_new _ _).mono hs2).trans hb3)⟩
              · obtain rfl : t = vn := by omega
                have HC := hide (HL2.out.cut (k := q + 1) hnc)
                go_wp2
                go_roundg (gk - (q + 1))
                case measure => omega
                case rel => exact ⟨_, gk - (q + 1), c - (q + 1), _, false, A2, n' + t, c2, _, z2, rfl, by omega, by omega, by omega, rfl, rfl, rfl, rfl, HC.out, HO2.out, HON.out, HB2.out⟩
    · obtain rfl : gk = 0 := by omega
      have hr : R = (l', 0) := by
        rw [← HE.out, List.eq_nil_of_length_eq_zero HL.out.len, Runs.dec_nil]
      subst hr
      go_wp2
      go_ret2
      exact ⟨A', n', c', rfl, HO.out, HB.out⟩
end Go.Proofs.Ytbcgffgiifminaa
