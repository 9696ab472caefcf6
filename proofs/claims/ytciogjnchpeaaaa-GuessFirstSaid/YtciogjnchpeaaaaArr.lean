/-
  Arrays: a block that holds one; read and written whole, and cell by cell; results.
-/
import Derived.Test.YtciogjnchpeaaaaKeepB
import Derived.Laws.Tables
import Derived.Laws.CopyOwn
import Derived.Laws.NewBlocks
namespace Go.Proofs.Ytciogjnchpeaaaa
open Go.RowKit
set_option maxRecDepth 10000

/-- A type that is an array or a struct? -/
def rowDesc : TypeDesc → Bool
  | .struct _ | .array _ _ => true
  | _ => false
/-- Block g holds just the values l, as a variable of type T. -/
def Arr (T : TypeId) (w : World) (g : Nat) (l : List Value) : Prop := Blk w g T l.toArray
section
variable {T : TypeId} {w w' : World} {g : Nat} {l : List Value}
theorem Arr.blk (h : Arr T w g l) : w.heap[g]? = some (.cells l.toArray T (0, 0)) := h
theorem Arr.lt (h : Arr T w g l) : g < w.heap.size := Blk.lt h
theorem Arr.new (T : TypeId) (w : World) (cs : Array Value) (l : List Value) (h : cs.toList = l) : Arr T (w.alloc (.cells cs T)) w.heap.size l := by
  subst h
  exact heap_alloc_new w _
theorem Arr.below {B : Nat} (h : Arr T w g l) (hb : Below B w w') (hg : g < B) : Arr T w' g l := by
  unfold Arr Blk
  rw [hb.block g hg]
  exact h
theorem Arr.belowN (h : Arr T w g l) (hb : Below w.heap.size w w') : Arr T w' g l := h.below hb h.lt
theorem Arr.keeps {S : Nat → Prop} (h : Arr T w g l) (hk : Keeps S w w') (hn : ¬ S g) : Arr T w' g l := by
  unfold Arr Blk
  rw [hk.block g h.lt hn]
  exact h
theorem Arr.drew (h : Arr T w g l) : Arr T w.drew g l := h
theorem Arr.drewN (h : Arr T w g l) (k : Nat) : Arr T (w.drewN k) g l := h
theorem Arr.cell (h : Arr T w g l) {j : Nat} (hj : j < l.length) : w.cell? ⟨g, j, none⟩ = some l[j] := by
  rw [cell_of_row w g j _ T _ h]
  simp [List.getElem?_eq_getElem hj]
theorem Arr.frozen (h : Arr T w g l) (j : Nat) : w.frozen? ⟨g, j, none⟩ = false := frozen_of_row w g j _ T h
theorem Arr.set (h : Arr T w g l) (j : Nat) (x : Value) : Arr T (w.setCell ⟨g, j, none⟩ x) g (l.set j x) := by
  unfold Arr Blk
  rw [heap_setCell_same w g j _ T x h]
  simp
theorem Arr.lies (h : Arr T w g l) : Lies w w.heap.size (some ⟨g, 0, none⟩) l := fun _ =>
  ⟨g, 0, rfl, h.lt, fun j u hu => by
    rw [Nat.zero_add, cell_of_row w g j _ T _ h]
    simpa using hu⟩
end

/-- The whole array is read. -/
theorem wpA_load {ops : Array Oper} {rest : List Oper} {o : Oper} {a : Act} {w : World} {Q : Exit → Act → World → Prop} (hgd : o.guard = none) (ty : TypeId) (x : Operand) (ho : o.op = .load ty x)
    (g : Nat) (hx : a.eval x = .pointer (some ⟨g, 0, none⟩)) (T : TypeId) (l : List Value) (hg : Arr T w g l) (n : Nat) (e : TypeId) (hu : Try.prog.underlying ty = some (.array n e))
    (hi : (Try.prog.info? ty).map (·.size) = some n) (hn : l.length = n) (h : wpList Try.prog ops Q rest (a.put o.dst (.agg l.toArray)) w) : wpList Try.prog ops Q (o :: rest) a w :=
  wpList_load_row hgd ty x ho g hx T l.toArray (0, 0) _ hg hu rfl (by rw [hi]; simp [hn]) h
/-- The whole array is written. -/
theorem wpA_store {ops : Array Oper} {rest : List Oper} {o : Oper} {a : Act} {w : World} {Q : Exit → Act → World → Prop} (hgd : o.guard = none) (ty : TypeId) (x y : Operand) (ho : o.op = .store ty x y)
    (g : Nat) (l' : List Value) (hx : a.eval x = .pointer (some ⟨g, 0, none⟩)) (hy : a.eval y = .agg l'.toArray) (T : TypeId) (l : List Value) (hg : Arr T w g l) (n : Nat)
    (hi : (Try.prog.info? ty).map (·.size) = some n) (hn : l.length = n) (hn' : l'.length = n) (h1 : ∀ u ∈ l', u.oneCell' = true)
    (h : ∀ w', Arr T w' g l' → Keeps (fun k => k = g) w w' → w'.heap.size = w.heap.size → wpList Try.prog ops Q rest (a.put o.dst undef) w') : wpList Try.prog ops Q (o :: rest) a w :=
  wpList_store_row hgd ty x y ho g l'.toArray hx hy T l.toArray hg (by rw [hi]; simp [hn']) (by simp [hn, hn']) (Array.all_eq_true_iff_forall_mem.2 fun v hv => h1 v (by simpa using hv))
    (h _ (setRow_heap w g _ _ T _ hg) ⟨rfl, rfl, rfl, by simp, fun k _ hk => setRow_other w g k _ hk⟩ (by simp))
/-- A variable that was just made is given its first value. -/
theorem wpA_init {ops : Array Oper} {rest : List Oper} {o : Oper} {a : Act} {w : World} {cs : Array Value} {T : TypeId} {Q : Exit → Act → World → Prop} (hgd : o.guard = none) (ty : TypeId) (x y : Operand) (ho : o.op = .store ty x y)
    (l' : List Value) (hx : a.eval x = .pointer (some ⟨w.heap.size, 0, none⟩)) (hy : a.eval y = .agg l'.toArray) (n : Nat)
    (hi : (Try.prog.info? ty).map (·.size) = some n) (hn : cs.size = n) (hn' : l'.length = n) (h1 : ∀ u ∈ l', u.oneCell' = true)
    (h : ∀ w', Arr T w' w.heap.size l' → Below w.heap.size w w' → w'.heap.size = w.heap.size + 1 → wpList Try.prog ops Q rest (a.put o.dst undef) w') : wpList Try.prog ops Q (o :: rest) a (w.alloc (.cells cs T)) :=
  wpA_store hgd ty x y ho w.heap.size l' hx hy T cs.toList (Arr.new T w cs _ rfl) n hi (by simpa using hn) hn' h1 fun w' h2 h3 h4 =>
    h w' h2 ((Below_new w _).trans (h3.below (by simp) fun k hk => by omega)) (by rw [h4, World.size_alloc])
/-- 'x[i]' of an array's value. -/
theorem run_indexA {ty e : TypeId} {n : Nat} (hu : Try.prog.underlying ty = some (.array n e)) (hi : (Try.prog.info? e).map (·.size) = some 1) (d : TypeDesc) (hd : Try.prog.underlying e = some d) (hnd : rowDesc d = false) (l : List Value) (k : IntKind) (i : Nat) (hn : l.length = n) (hlt : i < l.length) (w : World) :
    (Instr.index ty (.agg l.toArray) (.int k (i : Int))).run Try.prog w = .ok l[i] w := by
  cases hq : Try.prog.info? e with
  | none => simp [hq] at hi
  | some t =>
    have hs : t.size = 1 := by simpa [hq] using hi
    have hagg : (isAgg e).run Try.prog w = .ok false w := by
      unfold isAgg
      rw [Sem.run_bind, run_underlying hd w]
      cases d <;> simp_all [rowDesc]
    simp only [Instr.index, asIntOf, Sem.run_bind, Sem.run_pure, Result.andThen_ok, run_underlying hu]
    rw [if_pos ⟨by omega, by omega⟩]
    simp [part, Sem.run_bind, hagg, sizeOf, typeInfo, hq, hs, List.getElem?_eq_getElem hlt]
section
variable {fn : Func} {p q : Tmp} {ty T : TypeId} {w : World} {g n : Nat} {e : TypeId} {l : List Value} {tmps : Array Value}
theorem results_arr (h : fn.results = #[.cell p ty]) (hp : tmps.getD p undef = .pointer (some ⟨g, 0, none⟩)) (hg : Arr T w g l) (hu : Try.prog.underlying ty = some (.array n e))
    (hi : (Try.prog.info? ty).map (·.size) = some n) (hn : l.length = n) : (results fn tmps).run Try.prog w = .ok (.agg l.toArray) w :=
  results_cell_row h tmps w g T l.toArray (0, 0) _ hp hg hu rfl (by rw [hi]; simp [hn])
theorem results_arr2 (h : fn.results = #[.cell p ty, .tmp q]) (hp : tmps.getD p undef = .pointer (some ⟨g, 0, none⟩)) (v : Value) (hv : tmps.getD q undef = v) (hg : Arr T w g l) (hu : Try.prog.underlying ty = some (.array n e))
    (hi : (Try.prog.info? ty).map (·.size) = some n) (hn : l.length = n) : (results fn tmps).run Try.prog w = .ok (.tuple #[.agg l.toArray, v]) w := by
  have hp' : tmps[p]?.getD undef = .pointer (some ⟨g, 0, none⟩) := by simpa using hp
  have hv' : tmps[q]?.getD undef = v := by simpa using hv
  have hl := run_loadVar_row (P := Try.prog) w g T ty l.toArray (0, 0) _ hg hu rfl (by rw [hi]; simp [hn])
  simp [results, h, hp', hv', asAddr, hl]
end
/-- copy into an array's block, inside a region that draws. -/
theorem step_copyA {ops : Array Oper} {o : Oper} {a : Act} {w : World} {K : Act → World → Prop} {Q : Exit → Act → World → Prop} {E : Prop} (hgd : o.guard = none) (d s : Operand) (dT sT : TypeId)
    (ho : o.op = .call { callee := .builtin .copy, args := #[d, s], argTypes := #[dT, sT] }) (elem : TypeId) (hu : Try.prog.underlying dT = some (.slice elem)) (hsz : (Try.prog.info? elem).map (·.size) = some 1)
    (g off dLen dCap g' off' sLen sCap : Nat) (hd : a.eval d = .slice (some ⟨g, off, none⟩) dLen dCap) (hs : a.eval s = .slice (some ⟨g', off', none⟩) sLen sCap)
    (T : TypeId) (l : List Value) (hg : Arr T w g l) (T' : TypeId) (l' : List Value) (hg' : Arr T' w g' l') (m : Nat) (hm : m = Nat.min sLen dLen) (hfit' : off' + m ≤ l'.length) (hfit : off + m ≤ l.length) (h1 : ∀ v ∈ l', v.oneCell' = true)
    (h : ∀ w', Arr T w' g (l.take off ++ (l'.drop off').take m ++ l.drop (off + m)) → Keeps (fun k => k = g) w w' → w'.heap.size = w.heap.size → K (a.put o.dst (goInt m)) w') :
    if Region.wanted o (yielded ops a.tmps) = true then Oper.wp Try.prog o a w K Q else E := by
  have hw : Region.wanted o (yielded ops a.tmps) = true := by simp [Region.wanted, hgd]
  rw [if_pos hw]
  have hlen : ((l'.drop off').take m).length = m := by rw [List.length_take, List.length_drop]; omega
  have hadd : ∀ j, (⟨g', off', none⟩ : Addr).add j = ⟨g', off' + j, none⟩ := fun j => by unfold Addr.add; split <;> simp_all
  have hrun := run_copy_row (P := Try.prog) w dT sT o.type elem g off dLen dCap ⟨g', off', none⟩ sLen sCap l.toArray T ((l'.drop off').take m) hu hsz hg (by rw [hlen]; exact hm)
    (fun j v hv => by
      rw [hadd, cell_of_row w g' (off' + j) _ T' _ hg']
      rw [List.getElem?_take] at hv
      split at hv
      · rw [List.getElem?_drop] at hv; simpa using hv
      · cases hv) (by rw [hlen]; simpa using hfit) (fun v hv => h1 v (List.mem_of_mem_drop (List.mem_of_mem_take hv)))
  rw [hlen] at hrun
  unfold Oper.wp
  simp [execOp, ho, resolve, invoke, builtin, hd, hs, hrun, Result.andThen]
  refine h _ ?_ ⟨rfl, rfl, rfl, by simp, fun k _ hk => setRow_other w g k _ hk⟩ (by simp)
  have := setRow_heap w g _ ((l.toArray.toList.take off ++ (l'.drop off').take m ++ l.toArray.toList.drop (off + m)).toArray) T _ hg
  simpa [Arr, Blk] using this
end Go.Proofs.Ytciogjnchpeaaaa
