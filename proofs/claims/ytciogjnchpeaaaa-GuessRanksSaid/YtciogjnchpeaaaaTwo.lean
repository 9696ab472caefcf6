/-
  A queue and the document's lines side by side.
-/
import Derived.Test.YtciogjnchpeaaaaRLF
import Derived.Test.YtciogjnchpeaaaaQNew
namespace Go.Proofs.Ytciogjnchpeaaaa
open Go.RowKit
set_option maxRecDepth 10000
set_option linter.unusedVariables false
theorem QAt.keeps {B : Nat} {w w' : World} {q c : Nat} {A : Option Addr} {xs : List (Nat × Option Nat)} {ls : List (List UInt8)} {S : Nat → Prop} (h : QAt B w q A c xs ls) (hk : Keeps S w w') (hh : ¬ S q)
    (hr : ∀ k, some k = (Value.slice A xs.length c).ownBlock → ¬ S k) (hl : ∀ (i : Nat) (hi : i < xs.length) k, lineBlocks xs[i].1 xs[i].2 k → ¬ S k) : QAt B w' q A c xs ls :=
  ⟨h.head.keeps hk hh, h.base, h.row.keeps hk hr, h.len, fun i hi => (h.line i hi).keeps hk (hl i hi), h.lbase, h.apart⟩
/-- Both hold the same lines; all blocks from B on. -/
structure TS (B : Nat) (w : World) (q : Nat) (A : Option Addr) (c : Nat) (xs : List (Nat × Option Nat)) (g n cg : Nat) (ss : List Sl) (ls : List (List UInt8)) : Prop where
  q : QAt B w q A c xs ls
  r : RL B w g n cg ss ls
  nx : xs.length = n
  cross : ∀ (i j : Nat) (hi : i < xs.length) (hj : j < ss.length) k, xs[i].2 = some k → (sv ss[j]).ownBlock ≠ some k
section
variable {B : Nat} {w w' : World} {q c g n cg : Nat} {A : Option Addr} {xs : List (Nat × Option Nat)} {ss : List Sl} {ls ls' : List (List UInt8)}
theorem TS.below (h : TS B w q A c xs g n cg ss ls) (hb : Below w.heap.size w w') : TS B w' q A c xs g n cg ss ls := ⟨h.q.below hb, h.r.below hb, h.nx, h.cross⟩
theorem TS.drew (h : TS B w q A c xs g n cg ss ls) : TS B w.drew q A c xs g n cg ss ls := ⟨h.q.drew, h.r.drew, h.nx, h.cross⟩
/-- The blocks of a line of the queue are none of the document's lines'. -/
theorem two_apart (hq : QAt B w q A c xs ls) (hr : RL B w g n cg ss ls') (hn : 0 < n) (hc : ∀ (i j : Nat) (hi : i < xs.length) (hj : j < ss.length) k, xs[i].2 = some k → (sv ss[j]).ownBlock ≠ some k) (i : Nat) (hi : i < xs.length) :
    ∀ k, lineBlocks xs[i].1 xs[i].2 k → k ≠ g ∧ ∀ (j : Nat) (hj : j < ss.length), some k ≠ (sv ss[j]).ownBlock := by
  intro k hk
  refine ⟨fun e => ?_, fun j hj e => ?_⟩
  · subst e
    exact (hq.line i hi).ne_row hk hr.row (by decide) (by decide) rfl
  · rcases hk with hk | hk
    · obtain ⟨_, A1, c1, hp1, _, _⟩ := hq.line i hi
      subst hk
      exact (hr.line j hj).ne_blk hp1 (by decide) e
    · exact hc i j hi hj k hk.symm e.symm
theorem two_heads (hq : QAt B w q A c xs ls) (hr : RL B w g n cg ss ls') (hn : 0 < n) (j : Nat) (hj : j < ss.length) :
    (¬ rlBlocks g ss[j] q) ∧ ∀ k, some k = (Value.slice A xs.length c).ownBlock → ¬ rlBlocks g ss[j] k := by
  refine ⟨fun h => ?_, fun k hk h => ?_⟩
  · rcases h with h | h
    · subst h
      exact hr.row.ne_blk hq.head (by decide) rfl
    · exact (hr.line j hj).ne_blk hq.head (by decide) h
  · rcases h with h | h
    · subst h
      exact hr.row.apart hq.row (by decide) k rfl hk
    · exact (OwnV.of_B (hr.line j hj)).apart hq.row (by decide) k h hk
/-- The queue's line is changed. -/
theorem TS.putQ (h : TS B w q A c xs g n cg ss ls) (hB : B ≤ w.heap.size) (hn : 0 < n) (i : Nat) (hi : i < xs.length) {g' : Option Nat} {l' : List UInt8} (hl : LineAt w' xs[i].1 g' l') (hk : Keeps (lineBlocks xs[i].1 xs[i].2) w w')
    (hg : g' = xs[i].2 ∨ ∃ k, g' = some k ∧ w.heap.size ≤ k) : QAt B w' q A c (xs.set i (xs[i].1, g')) (ls.set i l') ∧ RL B w' g n cg ss ls ∧
      ∀ (a j : Nat) (ha : a < (xs.set i (xs[i].1, g')).length) (hj : j < ss.length) k, (xs.set i (xs[i].1, g'))[a].2 = some k → (sv ss[j]).ownBlock ≠ some k := by
  have ap := two_apart h.q h.r hn h.cross i hi
  refine ⟨h.q.put hB i hi hl hk hg, h.r.keeps hk (fun hs => (ap g hs).1 rfl) (fun j hj k hkj hs => (ap k hs).2 j hj hkj), ?_⟩
  intro a j ha hj k hak
  rw [List.length_set] at ha
  rw [List.getElem_set] at hak
  split at hak
  · rcases hg with e | ⟨k2, e, h2⟩
    · exact h.cross i j hi hj k (by rw [← e]; exact hak)
    · have hk2 : g' = some k := hak
      rw [e] at hk2; injection hk2 with hk2
      intro e2
      have := ((h.r.line j hj).blk k e2.symm).2
      omega
  · exact h.cross a j ha hj k hak
/-- And the document's line. -/
theorem TS.putR {xs : List (Nat × Option Nat)} {w2 : World} {ls2 : List (List UInt8)} (hq : QAt B w q A c xs ls2) (hr : RL B w g n cg ss ls) (hn : 0 < n) (hnx : xs.length = n)
    (hc : ∀ (i j : Nat) (hi : i < xs.length) (hj : j < ss.length) k, xs[i].2 = some k → (sv ss[j]).ownBlock ≠ some k) (j : Nat) (hj : j < ss.length) {x : Sl} (hr2 : RL B w2 g n cg (ss.set j x) ls2) (hk : Keeps (rlBlocks g ss[j]) w w2)
    (hx : (sv x).ownBlock = (sv ss[j]).ownBlock ∨ ∃ k, (sv x).ownBlock = some k ∧ w.heap.size ≤ k) : TS B w2 q A c xs g n cg (ss.set j x) ls2 := by
  have hd := two_heads hq hr hn j hj
  refine ⟨hq.keeps hk hd.1 hd.2 (fun i hi k hik hs => ?_), hr2, hnx, ?_⟩
  · have ap := two_apart hq hr hn hc i hi k hik
    rcases hs with hs | hs
    · exact ap.1 hs
    · exact ap.2 j hj hs
  · intro i a hi ha k hik
    rw [List.length_set] at ha
    rw [List.getElem_set]
    split
    · rcases hx with e | ⟨k2, e, h2⟩
      · rw [e]; exact hc i j hi hj k hik
      · rw [e]
        intro e2; injection e2 with e2
        have := (hq.line i hi).lt.2 k hik.symm
        omega
    · exact hc i a hi ha k hik
end
end Go.Proofs.Ytciogjnchpeaaaa
