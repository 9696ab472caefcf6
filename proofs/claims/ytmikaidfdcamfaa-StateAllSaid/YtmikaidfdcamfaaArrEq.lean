/-
  Two arrays of numbers of 32 bits, compared.
-/
import Derived.Test.YtmikaidfdcamfaaState3
namespace Go.Proofs.Ytmikaidfdcamfaa
open Go.RowKit
theorem run_partI (e : TypeId) (l : List Int) (s : Nat) (hs : s < l.length) (w : World) (he : Try.prog.underlying e = some (.int .i32)) : (part e (ivs l).toArray s).run Try.prog w = .ok (.int .i32 (l.getD s 0)) w := by
  have hagg : (isAgg e).run Try.prog w = .ok false w := by
    unfold isAgg
    rw [Sem.run_bind, run_underlying he w]
    simp
  have h1 : (ivs l)[s]? = some (.int .i32 (l.getD s 0)) := by
    simp [ivs, List.getElem?_map, List.getD_eq_getElem?_getD, List.getElem?_eq_getElem hs]
  simp [part, Sem.run_bind, hagg, h1]
theorem run_equalA (d : Nat) (t e : TypeId) (n : Nat) (a b : List Int) (w : World) (hu : Try.prog.underlying t = some (.array n e)) (he : Try.prog.underlying e = some (.int .i32)) (hi : (Try.prog.info? e).map (·.size) = some 1)
    (ha : a.length = n) (hb : b.length = n) : (Op.equalIn (d + 2) t (.agg (ivs a).toArray) (.agg (ivs b).toArray)).run Try.prog w = .ok (a == b) w := by
  cases hq : Try.prog.info? e with
  | none => simp [hq] at hi
  | some i0 =>
    have hs : i0.size = 1 := by simpa [hq] using hi
    unfold Op.equalIn
    simp only [Sem.run_bind, run_underlying hu, Result.andThen_ok]
    simp [sizeOf, typeInfo, hq, hs]
    classical
    have loop : ∀ m s, s + m ≤ n → (forIn (List.range' s m) ((none, ()) : Option Bool × Unit) fun i __s => do
            let __do_lift ← part e (ivs a).toArray i
            let __do_lift_1 ← part e (ivs b).toArray i
            let __do_lift ← Op.equalIn (d + 1) e __do_lift __do_lift_1
            if __do_lift = false then pure (ForInStep.done (some false, ())) else pure (ForInStep.yield (none, ()))).run Try.prog w = .ok (if (∀ i, s ≤ i → i < s + m → a.getD i 0 = b.getD i 0) then (none, ()) else (some false, ())) w := by
      intro m
      induction m with
      | zero =>
        intro s _
        rw [if_pos (by intro i h1 h2; omega)]
        simp
      | succ m ih =>
        intro s hsm
        rw [List.range'_succ, List.forIn_cons]
        simp only [Sem.run_bind, run_partI e a s (by omega) w he, run_partI e b s (by omega) w he, Result.andThen_ok, run_equalIn_int w d e .i32 .i32 _ _ he]
        by_cases h : a.getD s 0 = b.getD s 0
        · have hb' : (a.getD s 0 == b.getD s 0) = true := by simpa using h
          rw [hb']
          simp only [Bool.true_eq_false, if_false, Sem.run_pure, Result.andThen_ok]
          rw [ih (s + 1) (by omega)]
          congr 1
          by_cases q : ∀ i, s + 1 ≤ i → i < s + 1 + m → a.getD i 0 = b.getD i 0
          · rw [if_pos q, if_pos]
            intro i h1 h2
            rcases Nat.lt_or_ge s i with h3 | h3
            · exact q i h3 (by omega)
            · obtain rfl : i = s := by omega
              exact h
          · rw [if_neg q, if_neg]
            exact fun q2 => q fun i h1 h2 => q2 i (by omega) (by omega)
        · have hb' : (a.getD s 0 == b.getD s 0) = false := by simpa using h
          rw [hb']
          simp only [if_true, Sem.run_pure, Result.andThen_ok]
          rw [if_neg]
          exact fun q => h (q s (by omega) (by omega))
    rw [loop n 0 (by omega)]
    by_cases q : a = b
    · subst q
      rw [if_pos (fun _ _ _ => rfl)]
      simp
    · rw [if_neg]
      · simp [q]
      · intro h
        apply q
        apply List.ext_getElem (by omega)
        intro i h1 h2
        have := h i (by omega) (by omega)
        simpa [List.getD_eq_getElem?_getD, List.getElem?_eq_getElem h1, List.getElem?_eq_getElem h2] using this
theorem run_eqlGame (a b : List Int) (w : World) (ha : a.length = 32) (hb : b.length = 32) : (binOp .eql 37 (.agg (ivs a).toArray) (.agg (ivs b).toArray)).run Try.prog w = .ok (.bool (a == b)) w := by
  rw [run_eql_struct, run_equalA 9998 37 21 32 a b w Try.underlying37 Try.underlying21 info_int32 ha hb]
  rfl
end Go.Proofs.Ytmikaidfdcamfaa
