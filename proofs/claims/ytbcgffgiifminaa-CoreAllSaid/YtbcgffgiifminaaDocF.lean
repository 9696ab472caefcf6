/-
  The document's player: a packet heard.
-/
import Derived.Test.YtbcgffgiifminaaRLV
import Derived.Test.YtbcgffgiifminaaPktUnV
namespace Go.Proofs.Ytbcgffgiifminaa
open Go.RowKit
set_option maxRecDepth 10000
set_option linter.unusedVariables false
/-- No word is another one than its mark, and untold. -/
def Co.Calm (s : Co) : Prop := ∀ (i : Nat) (q : Peer), s.peers[i]? = some q → q.bad s.marks = false
theorem Co.Calm.held {s : Co} (h : s.Calm) : s.Held := by
  have : ∀ k, s.holdK k = s := by
    intro k
    induction k with
    | zero => rfl
    | succ k ih =>
      rw [Co.holdK, ih, Co.hold1]
      split
      · rename_i q hq
        rw [if_neg (by rw [h k q hq]; decide)]
      · rfl
  exact this _
theorem bad_apart (p : Peer) (marks : List Int) : ({ p with apart := true } : Peer).bad marks = false := by simp [Peer.bad]
theorem Co.calm_holdK (s : Co) : ∀ k i q, i < k → (s.holdK k).peers[i]? = some q → q.bad (s.holdK k).marks = false
  | 0, i, q, h, _ => by omega
  | k + 1, i, q, h, hq => by
    have hm : (s.holdK (k + 1)).marks = (s.holdK k).marks := (hold1_same (s.holdK k) k).2.2.1
    rw [hm]
    rw [Co.holdK, Co.hold1] at hq
    cases hp : (s.holdK k).peers[k]? with
    | none =>
      rw [hp] at hq
      by_cases e : i = k
      · subst e; rw [hp] at hq; cases hq
      · exact s.calm_holdK k i q (by omega) hq
    | some p =>
      rw [hp] at hq
      simp only at hq
      by_cases hb : p.bad (s.holdK k).marks = true
      · rw [if_pos hb] at hq
        by_cases e : i = k
        · subst e
          have hlt : i < (s.holdK i).peers.length := (List.getElem?_eq_some_iff.1 hp).1
          have hq2 : ((s.holdK i).peers.set i { p with apart := true })[i]? = some q := hq
          rw [List.getElem?_set_self hlt] at hq2
          injection hq2 with hq2
          rw [← hq2]; exact bad_apart _ _
        · have hq2 : ((s.holdK k).peers.set k { p with apart := true })[i]? = some q := hq
          rw [List.getElem?_set_ne (fun e2 => e e2.symm)] at hq2
          exact s.calm_holdK k i q (by omega) hq2
      · rw [if_neg hb] at hq
        by_cases e : i = k
        · subst e; rw [hp] at hq; injection hq with hq; rw [← hq]; simpa using hb
        · exact s.calm_holdK k i q (by omega) hq
theorem Co.calm_hold (s : Co) : s.hold.Calm := fun i q hq => by
  have hl : i < s.peers.length := by
    have h1 := (List.getElem?_eq_some_iff.1 hq).1
    have h2 : s.hold.peers.length = s.peers.length := (holdK_same s _).2.2.2.2.2.1
    omega
  exact s.calm_holdK _ i q hl hq
theorem Co.Calm.mark {s : Co} (h : s.Calm) (m : Int) : (s.mark m).Calm := by
  unfold Co.mark
  split
  · exact Co.calm_hold _
  · exact h
theorem Co.Calm.press {s : Co} (h : s.Calm) (b : UInt8) : (s.press b).Calm := by
  unfold Co.press
  split
  · exact h
  · exact h
theorem Co.Calm.tick {s : Co} (h : s.Calm) : s.tick.Calm := by
  unfold Co.tick
  split
  · exact h
  · split
    · exact h
    · exact h
theorem Co.Calm.quit {s : Co} (h : s.Calm) : s.quit.Calm := h
theorem Co.Calm.hear1 {s : Co} (h : s.Calm) (j : Nat) : (s.hear1 j).Calm := fun i q hq => by
  have hq2 : (s.peers.set j { s.pr j with heard := s.now })[i]? = some q := hq
  by_cases e : j = i
  · subst e
    by_cases hl : j < s.peers.length
    · rw [List.getElem?_set_self hl] at hq2
      injection hq2 with hq2
      have h1 := h j (s.pr j) (by rw [Co.pr, List.getD_eq_getElem?_getD, List.getElem?_eq_getElem hl]; rfl)
      rw [← hq2]
      exact h1
    · rw [List.getElem?_eq_none (by rw [List.length_set]; omega)] at hq2; cases hq2
  · rw [List.getElem?_set_ne e] at hq2
    exact h i q hq2
theorem Co.Calm.hear {s : Co} (h : s.Calm) (p : Pkt) : (s.hear p).Calm := by
  unfold Co.hear
  split
  · exact h.hear1 _
  · exact Co.calm_hold _
theorem Co.calm_new (c : Cfg) : (Co.new c).Calm := fun i q hq => by
  have hq2 : (List.replicate c.n.toNat (⟨c.delay, 0, 0, 0, false⟩ : Peer))[i]? = some q := hq
  rw [List.getElem?_replicate] at hq2
  split at hq2
  · injection hq2 with hq2
    rw [← hq2]; rfl
  · cases hq2
section
variable {B : Nat} {w w' : World} {x : Nat} {p : RP} {s : Co}
theorem ref_Receive_closed (h : RAt B w x p s) (hcl : s.closed = true) (A : Option Addr) (n c : Nat) : Calls Try.prog 41 #[.pointer (some ⟨x, 0, none⟩), .slice A n c] w fun r w' => r = .returned (.int .i64 6) ∧ w = w' := by
  have c18 := h.cell (reRow_closed s p)
  rw [hcl] at c18
  clear h hcl
  go_enter Try.func41, Try.ntmps41
  go_wp2_with fail
  go_ret
  exact ⟨rfl, rfl⟩
set_option maxHeartbeats 2000000 in
theorem ref_Receive_no (h : RAt B w x p s) (hcl : s.closed = false) {A : Option Addr} {n c B' : Nat} {b : List UInt8} (hb : ∀ q, ¬ Pkt.Is b q) (hA : LiesB w B' A n b) (hB' : B' ≤ w.heap.size) (hnc : n ≤ c) (hn : n ≤ 1000000) :
    Calls Try.prog 41 #[.pointer (some ⟨x, 0, none⟩), .slice A n c] w fun r w' => r = .returned (.int .i64 1) ∧ Below w.heap.size w w' := by
  have c18 := h.cell (reRow_closed s p)
  rw [hcl] at c18
  have HNO := hide hb
  have HA := hide hA
  have HBB := hide hB'
  have HNC := hide hnc
  clear h hcl hb hA hB' hnc
  go_enter Try.func41, Try.ntmps41
  go_wp2_with fail
  refine Calls.mono (ref_Unpacket_no HNO.out HA.out HBB.out HNC.out hn) ?_
  rintro r w2 ⟨q, A2, n2, c2, rfl, hb2⟩
  have HB2 := hide hb2
  clear hb2 c18
  go_upto_region 4 with (refine wpP_init rfl (.tmp 5) (.tmp 14) rfl q A2 n2 c2 rfl rfl rfl ?_; intro w3 ha3 hb3 hs3)
  have HB3 := hide (Below_step HB2.out hb3)
  clear ha3 hb3 hs3
  go_cut [47] (fun s47 wx => s47 = .bool true ∧ ∃ nd, wx = w3.drewN nd)
  case first =>
    go_quiet (fail)
    go_wp2_with fail
    go_meet
    exact ⟨rfl, _, rfl⟩
  case rest =>
  obtain ⟨rfl, nd, rfl⟩ := hcut
  go_wp2_with fail
  go_ret
  exact ⟨rfl, Below_drewN HB3.out nd⟩
end
end Go.Proofs.Ytbcgffgiifminaa
