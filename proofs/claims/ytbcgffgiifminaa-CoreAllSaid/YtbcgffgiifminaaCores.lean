/-
  Several cores side by side in memory.
-/
import Derived.Test.YtbcgffgiifminaaStand
namespace Go.Proofs.Ytbcgffgiifminaa
open Go.RowKit
set_option maxRecDepth 10000
set_option linter.unusedVariables false
section
variable {S : Nat → Prop} {B : Nat} {w w' : World}
theorem owns_keeps {e : TypeId} {z n : Nat} {v : Value} {l : List Value} (h : w.ownsRow B e z v n l) (hk : Keeps S w w') (hn : ∀ k, some k = v.ownBlock → ¬ S k) : w'.ownsRow B e z v n l := by
  refine ⟨h.1, ?_⟩
  rcases h.2 with h2 | ⟨g, cap, cur, hv, hb, hh, r⟩
  · exact .inl h2
  · refine .inr ⟨g, cap, cur, hv, hb, ?_, r⟩
    rw [hk.block g (Array.getElem?_eq_some_iff.1 hh).1 (hn g (by rw [hv]; rfl))]
    exact hh
theorem QAt.keeps {q c : Nat} {A : Option Addr} {xs : List (Nat × Option Nat)} {ls : List (List UInt8)} (h : QAt B w q A c xs ls) (hk : Keeps S w w') (h1 : ¬ S q) (h2 : ∀ k, Mine A xs.length c k → ¬ S k) (h3 : ∀ (i : Nat) (hi : i < xs.length), ∀ k, lineBlocks xs[i].1 xs[i].2 k → ¬ S k) : QAt B w' q A c xs ls :=
  ⟨h.head.keeps hk h1, h.base, owns_keeps h.row hk h2, h.len, fun i hi => (h.line i hi).keeps hk (h3 i hi), h.lbase, h.apart⟩
theorem CAt.keeps {x : Nat} {p : CP} {s : Co} (h : CAt B w x p s) (hk : Keeps S w w') (hn : ∀ k, cBlocks x p k → ¬ S k) : CAt B w' x p s :=
  ⟨h.head.keeps hk (hn _ (.inl rfl)), h.base,
   h.q.keeps hk (hn _ (.inr (.inl rfl))) (fun k hk => hn k (.inr (.inr (.inl hk)))) (fun i hi k hk => hn k (.inr (.inr (.inr (.inl ⟨i, hi, hk⟩))))),
   h.nx, owns_keeps h.peers hk (fun k hk => hn k (.inr (.inr (.inr (.inr (.inl (by injection hk))))))),
   owns_keeps h.marks hk (fun k hk => hn k (.inr (.inr (.inr (.inr (.inr (.inl hk))))))),
   owns_keeps h.events hk (fun k hk => hn k (.inr (.inr (.inr (.inr (.inr (.inr hk))))))), h.ok⟩
theorem CAt.base_le {B' : Nat} {x : Nat} {p : CP} {s : Co} (h : CAt B w x p s) (hb : B' ≤ B) : CAt B' w x p s :=
  ⟨h.head, Nat.le_trans hb h.base, h.q.base_le' hb, h.nx, ownsRow_base_le h.peers hb, ownsRow_base_le h.marks hb, ownsRow_base_le h.events hb, h.ok⟩
theorem ML.keepsLow {T : TypeId} {A : Option Addr} {n c : Nat} {xs : List (Mle × Sl)} (h : ML T B w A n c xs) (hk : Keeps S w w') (hS : ∀ k, S k → k < B) : ML T B w' A n c xs :=
  ⟨owns_keeps h.row hk fun k hk hs => by have := (World.ownsRow.lt h.row k hk.symm).1; have := hS k hs; omega,
   fun x hx => (h.line x hx).keeps hk fun k hk hs => by have := ((h.line x hx).blk k hk).1; have := hS k hs; omega⟩
end
/-- So many cores, of no block in common. -/
structure Cores (B : Nat) (w : World) (k : Nat) (X : Nat → Nat) (P : Nat → CP) (S : Nat → Co) : Prop where
  core : ∀ i, i < k → CAt B w (X i) (P i) (S i)
  apart : ∀ i j, i < k → j < k → i ≠ j → ∀ b, cBlocks (X i) (P i) b → ¬ cBlocks (X j) (P j) b
section
variable {B : Nat} {w w' : World} {k : Nat} {X : Nat → Nat} {P : Nat → CP} {S : Nat → Co}
theorem Cores.nil (B : Nat) (w : World) (X : Nat → Nat) (P : Nat → CP) (S : Nat → Co) : Cores B w 0 X P S := ⟨fun i h => by omega, fun i j h => by omega⟩
theorem Cores.below (h : Cores B w k X P S) (hb : Below w.heap.size w w') : Cores B w' k X P S := ⟨fun i hi => (h.core i hi).below hb, h.apart⟩
theorem Cores.keeps {T : Nat → Prop} (h : Cores B w k X P S) (hk : Keeps T w w') (hn : ∀ i, i < k → ∀ b, cBlocks (X i) (P i) b → ¬ T b) : Cores B w' k X P S := ⟨fun i hi => (h.core i hi).keeps hk (hn i hi), h.apart⟩
theorem Cores.congr {X' : Nat → Nat} {P' : Nat → CP} {S' : Nat → Co} (h : Cores B w k X P S) (hX : ∀ i, i < k → X' i = X i) (hP : ∀ i, i < k → P' i = P i) (hS : ∀ i, i < k → S' i = S i) : Cores B w k X' P' S' :=
  ⟨fun i hi => by rw [hX i hi, hP i hi, hS i hi]; exact h.core i hi, fun i j hi hj hij b => by rw [hX i hi, hP i hi, hX j hj, hP j hj]; exact h.apart i j hi hj hij b⟩
/-- One core more, behind the others. -/
theorem Cores.add (h : Cores B w k X P S) (hB : B ≤ w.heap.size) (hb : Below w.heap.size w w') {x : Nat} {p : CP} {s : Co} (hc : CAt w.heap.size w' x p s) {X' : Nat → Nat} {P' : Nat → CP} {S' : Nat → Co}
    (hX : ∀ i, i < k → X' i = X i) (hP : ∀ i, i < k → P' i = P i) (hS : ∀ i, i < k → S' i = S i) (hx : X' k = x) (hp : P' k = p) (hs : S' k = s) : Cores B w' (k + 1) X' P' S' := by
  refine ⟨fun i hi => ?_, fun i j hi hj hij b h1 h2 => ?_⟩
  · by_cases e : i = k
    · rw [e, hx, hp, hs]; exact hc.base_le hB
    · rw [hX i (by omega), hP i (by omega), hS i (by omega)]; exact (h.core i (by omega)).below hb
  · by_cases e1 : i = k
    · by_cases e2 : j = k
      · omega
      · rw [e1, hx, hp] at h1
        rw [hX j (by omega), hP j (by omega)] at h2
        have := (hc.blocks b h1).1
        have := ((h.core j (by omega)).blocks b h2).2
        omega
    · by_cases e2 : j = k
      · rw [e2, hx, hp] at h2
        rw [hX i (by omega), hP i (by omega)] at h1
        have := (hc.blocks b h2).1
        have := ((h.core i (by omega)).blocks b h1).2
        omega
      · rw [hX i (by omega), hP i (by omega)] at h1
        rw [hX j (by omega), hP j (by omega)] at h2
        exact h.apart i j (by omega) (by omega) hij b h1 h2
/-- One core more, and its address behind a row. -/
theorem Cores.push {T : TypeId} {l : List Value} {w2 w3 w5 : World} {A A5 : Option Addr} {c c5 B2 : Nat} (h : Cores B w k X P S) (hB : B ≤ w.heap.size) (row : OwnV T w B2 A k c l) (dj : ∀ j, j < k → ∀ b, cBlocks (X j) (P j) b → ¬ Mine A k c b)
    (hb : Below w.heap.size w w2) {x : Nat} {p : CP} {s : Co} (hc : CAt w.heap.size w2 x p s) (hb3 : Below w2.heap.size w2 w3) (k5 : Keeps (Mine A k c) w3 w5)
    (hk5 : (Value.slice A5 (k + 1) c5).ownBlock = (Value.slice A k c).ownBlock ∨ (Value.slice A5 (k + 1) c5).ownBlock = some w3.heap.size) {X' : Nat → Nat} {P' : Nat → CP} {S' : Nat → Co}
    (hX : ∀ i, i < k → X' i = X i) (hP : ∀ i, i < k → P' i = P i) (hS : ∀ i, i < k → S' i = S i) (hx : X' k = x) (hp : P' k = p) (hs : S' k = s) :
    Cores B w5 (k + 1) X' P' S' ∧ ∀ j, j < k + 1 → ∀ b, cBlocks (X' j) (P' j) b → ¬ Mine A5 (k + 1) c5 b := by
  have h2 := h.add hB hb hc hX hP hS hx hp hs
  have old : ∀ j, j < k + 1 → ∀ b, cBlocks (X' j) (P' j) b → ¬ Mine A k c b := by
    intro j hj b hbk hm
    by_cases e : j = k
    · rw [e, hx, hp] at hbk
      have := (hc.blocks b hbk).1
      have := (row.blk b hm).2
      omega
    · rw [hX j (by omega), hP j (by omega)] at hbk
      exact dj j (by omega) b hbk hm
  refine ⟨(h2.below hb3).keeps k5 old, fun j hj b hbk hm => ?_⟩
  rcases mine_next hk5 hm with h' | h'
  · exact old j hj b hbk h'
  · have := ((h2.core j hj).blocks b hbk).2
    have := hb3.size
    omega
end
end Go.Proofs.Ytbcgffgiifminaa
