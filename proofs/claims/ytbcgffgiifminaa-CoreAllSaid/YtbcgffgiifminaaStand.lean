/-
  quintainlaw15.Cut; a packet's variable made and given its first value.
  Unpacket, plain: what is read of a packet's bytes, number by number.
  quintainref1.Get.
  quintainref12.Unruns.
  The walk of Unpacket.
  quintainlaw15.begun: one packet.
  quintainlaw15.tells; Sealed.
  What comes in, read as lists: slices of bytes and of numbers.
  A packet that comes in by value.
  The document's lines: what a row of them holds.
  The document's lines: the walks of Put, Front, Joint; Lines.
  The document's lines: the walks of Front, Joint; Lines.
  What the walks of law 21 stand on.
  A mail written; what a player is told.
  What a player is told.
  Rows of mails; a player that quits.
  A player's clock goes on.
  A packet heard.
  A packet heard: the walk.
  What law 21 stands on: a core of the law's own; its events told.
  quintainlaw21.begun: two players.
-/
import Derived.Test.YtbcgffgiifminaaStand2
import Derived.ProofKit
import Derived.OpenShut
import Derived.ShutString
import Derived.ChangeOld
import Derived.Below
import Derived.Deep.Fields
namespace Go.Proofs.Ytbcgffgiifminaa
open Go.RowKit
set_option maxRecDepth 10000
set_option linter.unusedVariables false
theorem Pkt.row_oneV (p : Pkt) (A : Option Addr) (n c : Nat) : ∀ u ∈ p.row (.slice A n c), u.oneCell' = true := by
  intro u hu
  simp only [Pkt.row, List.mem_cons, List.not_mem_nil, or_false] at hu
  rcases hu with rfl | rfl | rfl | rfl | rfl | rfl | rfl | rfl | rfl <;> rfl
/-- A packet's variable that was just made is given its first value. -/
theorem wpP_init {ops : Array Oper} {rest : List Oper} {o : Oper} {a : Act} {w : World} {cs : Array Value} {T : TypeId} {Q : Exit → Act → World → Prop} (hgd : o.guard = none) (x y : Operand) (ho : o.op = .store 41 x y)
    (p : Pkt) (A : Option Addr) (n c : Nat) (hx : a.eval x = .pointer (some ⟨w.heap.size, 0, none⟩)) (hy : a.eval y = p.val (.slice A n c)) (hcs : cs.size = 9)
    (h : ∀ w', Arr T w' w.heap.size (p.row (.slice A n c)) → Below w.heap.size w w' → w'.heap.size = w.heap.size + 1 → wpList Try.prog ops Q rest (a.put o.dst undef) w') : wpList Try.prog ops Q (o :: rest) a (w.alloc (.cells cs T)) :=
  wpA_init hgd 41 x y ho (p.row (.slice A n c)) hx hy 9 info_packet hcs rfl (p.row_oneV A n c) h
/-- The whole packet is written. -/
theorem wpP_put {ops : Array Oper} {rest : List Oper} {o : Oper} {a : Act} {w : World} {Q : Exit → Act → World → Prop} (hgd : o.guard = none) (x y : Operand) (ho : o.op = .store 41 x y)
    (g : Nat) (hx : a.eval x = .pointer (some ⟨g, 0, none⟩)) (p : Pkt) (A : Option Addr) (n c : Nat) (hy : a.eval y = p.val (.slice A n c)) {R : List Value} (hg : Arr 41 w g R) (hR : R.length = 9)
    (h : ∀ w', Arr 41 w' g (p.row (.slice A n c)) → Keeps (fun k => k = g) w w' → w'.heap.size = w.heap.size → wpList Try.prog ops Q rest (a.put o.dst undef) w') : wpList Try.prog ops Q (o :: rest) a w :=
  wpA_store hgd 41 x y ho g (p.row (.slice A n c)) hx hy 41 _ hg 9 info_packet hR rfl (p.row_oneV A n c) h
/-- The whole packet is read, under a guard that lets it. -/
theorem wpPG_load {ops : Array Oper} {rest : List Oper} {o : Oper} {a : Act} {w : World} {Q : Exit → Act → World → Prop} (hgd : Region.wanted o (yielded ops a.tmps) = true) (x : Operand) (ho : o.op = .load 41 x)
    (g : Nat) (hx : a.eval x = .pointer (some ⟨g, 0, none⟩)) (p : Pkt) (v : Value) (hg : Arr 41 w g (p.row v)) (h : wpList Try.prog ops Q rest (a.put o.dst (p.val v)) w) : wpList Try.prog ops Q (o :: rest) a w :=
  wpList_step fun K hK => by
    rw [if_pos hgd]
    exact wp_load_row 41 x ho g hx 41 (p.row v).toArray (0, 0) _ hg Try.underlying41 rfl info_packet (hK _ _ h)
/-- A packet's block, read whole inside a region that draws. -/
def WholeP (g : Nat) (v : Value) (w : World) : Prop := (Instr.loadAt 41 (.pointer (some ⟨g, 0, none⟩))).run Try.prog w = .ok v w
theorem Arr.wholeP {w : World} {g : Nat} {p : Pkt} {v : Value} (h : Arr 41 w g (p.row v)) : WholeP g (p.val v) w := by
  have := run_loadVar_row (P := Try.prog) w g 41 41 (p.row v).toArray (0, 0) _ h Try.underlying41 rfl info_packet
  unfold WholeP
  simp only [Instr.loadAt, Instr.sureAddr, Sem.run_bind, Sem.run_pure, Result.andThen_ok, this]
theorem exec_wholeP {o : Oper} {a : Act} {x : Operand} {g : Nat} {v : Value} {w : World} (h : WholeP g v w) (ho : o.op = .load 41 x) (hx : a.eval x = .pointer (some ⟨g, 0, none⟩)) :
    (execOp a.eval o).run Try.prog w = .ok (.value v) w := by
  unfold execOp
  unfold WholeP at h
  simp only [ho, hx, Sem.run_bind, h, Result.andThen_ok, Sem.run_pure]
theorem step_loadP {ops : Array Oper} {o : Oper} {a : Act} {w : World} {K : Act → World → Prop} {Q : Exit → Act → World → Prop} {E : Prop} (hgd : o.guard = none) (x : Operand) (ho : o.op = .load 41 x)
    (g : Nat) (hx : a.eval x = .pointer (some ⟨g, 0, none⟩)) (p : Pkt) (v : Value) (hg : Arr 41 w g (p.row v)) (h : K (a.put o.dst (p.val v)) w) :
    if Region.wanted o (yielded ops a.tmps) = true then Oper.wp Try.prog o a w K Q else E := by
  have hw : Region.wanted o (yielded ops a.tmps) = true := by simp [Region.wanted, hgd]
  rw [if_pos hw]
  exact wp_load_row 41 x ho g hx 41 (p.row v).toArray (0, 0) _ hg Try.underlying41 rfl info_packet h
theorem step_putP {ops : Array Oper} {o : Oper} {a : Act} {w : World} {K : Act → World → Prop} {Q : Exit → Act → World → Prop} {E : Prop} (hgd : o.guard = none) (x y : Operand) (ho : o.op = .store 41 x y)
    (g : Nat) (hx : a.eval x = .pointer (some ⟨g, 0, none⟩)) (p : Pkt) (A : Option Addr) (n c : Nat) (hy : a.eval y = p.val (.slice A n c)) {R : List Value} (hg : Arr 41 w g R) (hR : R.length = 9)
    (h : ∀ w', Arr 41 w' g (p.row (.slice A n c)) → Keeps (fun k => k = g) w w' → w'.heap.size = w.heap.size → K (a.put o.dst undef) w') :
    if Region.wanted o (yielded ops a.tmps) = true then Oper.wp Try.prog o a w K Q else E := by
  have hw : Region.wanted o (yielded ops a.tmps) = true := by simp [Region.wanted, hgd]
  rw [if_pos hw]
  exact wp_store_row 41 x y ho g (p.row (.slice A n c)).toArray hx hy 41 R.toArray hg (by rw [info_packet]; rfl) (by simp [hR]) (Array.all_eq_true_iff_forall_mem.2 fun v hv => p.row_oneV A n c v (by simpa using hv))
    (h _ (setRow_heap w g _ _ 41 _ hg) ⟨rfl, rfl, rfl, by simp, fun k _ hk => setRow_other w g k _ hk⟩ (by simp))
/-- Decode, told by whether the bytes are a packet's. -/
theorem packet_Decode_yes (p : Pkt) {A : Option Addr} {n c B : Nat} {b : List UInt8} {w : World} (h : Pkt.Is b p) (hA : LiesB w B A n b) (hB : B ≤ w.heap.size) (hnc : n ≤ c) (hn : n ≤ 1000000) :
    Calls Try.prog 51 #[.slice A n c] w fun e w' => ∃ A' n' c', e = .returned (.tuple #[p.val (.slice A' n' c'), .int .i64 0]) ∧ LiesB w' w'.heap.size A' n' p.press ∧ n' ≤ c' ∧ n' ≤ 32 ∧ Below w.heap.size w w' := by
  refine (packet_Decode hA hB hnc hn).mono ?_
  rintro e w' ⟨hs, hb⟩
  cases hs with
  | yes q A n c h2 hl hc hn hf => obtain rfl := Pkt.is_inj h h2; exact ⟨A, n, c, rfl, hl, hc, hn, hb⟩
  | no h2 => exact absurd h (h2 p)
/-- The same, and the presses lie in a block of their own. -/
theorem packet_Decode_fresh (p : Pkt) {A : Option Addr} {n c B : Nat} {b : List UInt8} {w : World} (h : Pkt.Is b p) (hA : LiesB w B A n b) (hB : B ≤ w.heap.size) (hnc : n ≤ c) (hn : n ≤ 1000000) :
    Calls Try.prog 51 #[.slice A n c] w fun e w' => ∃ A' n' c', e = .returned (.tuple #[p.val (.slice A' n' c'), .int .i64 0]) ∧ LiesB w' w'.heap.size A' n' p.press ∧ n' ≤ c' ∧ n' ≤ 32 ∧ Below w.heap.size w w' ∧ ∀ bk off, A' = some ⟨bk, off, none⟩ → p.press ≠ [] → w.heap.size ≤ bk := by
  refine (packet_Decode hA hB hnc hn).mono ?_
  rintro e w' ⟨hs, hb⟩
  cases hs with
  | yes q A n c h2 hl hc hn hf => obtain rfl := Pkt.is_inj h h2; exact ⟨A, n, c, rfl, hl, hc, hn, hb, hf⟩
  | no h2 => exact absurd h (h2 p)
theorem packet_Decode_no {A : Option Addr} {n c B : Nat} {b : List UInt8} {w : World} (h : ∀ p, ¬ Pkt.Is b p) (hA : LiesB w B A n b) (hB : B ≤ w.heap.size) (hnc : n ≤ c) (hn : n ≤ 1000000) :
    Calls Try.prog 51 #[.slice A n c] w fun e w' => e = .returned (.tuple #[Pkt.zero.val (.slice none 0 0), .int .i64 1]) ∧ Below w.heap.size w w' := by
  refine (packet_Decode hA hB hnc hn).mono ?_
  rintro e w' ⟨hs, hb⟩
  cases hs with
  | yes q A n c h2 hl hc hn hf => exact absurd h2 (h q)
  | no h2 => exact ⟨rfl, hb⟩
end Go.Proofs.Ytbcgffgiifminaa
namespace Go.Proofs.Ytbcgffgiifminaa
open Go.RowKit
set_option maxRecDepth 10000
set_option linter.unusedVariables false
namespace Pkt
def fields (p : Pkt) : List Int := if p.kind = 1 then [p.id, p.first, p.ack, p.frame] else [p.id]
def last (p : Pkt) : List UInt8 := if p.kind = 1 then be32 p.sum ++ (Var.put (Var.zig (p.press.length : Int)) ++ Runs.enc 0 p.press) else []
def restN (p : Pkt) (i : Nat) : List UInt8 := (p.fields.drop i).flatMap (fun x => Var.put (Var.zig x)) ++ p.last
theorem rest_zero {b : List UInt8} {p : Pkt} (h : Is b p) : (b.take (b.length - 4)).drop 3 = restN p 0 := by
  obtain ⟨-, k, s, d, t, hb, -, -, -, e⟩ := is_head h
  rw [e]
  unfold restN fields last tail
  by_cases k1 : p.kind = 1
  · simp [k1]
  · simp [k1]
theorem rest_succ (p : Pkt) (i : Nat) (hi : i < p.fields.length) : restN p i = Var.put (Var.zig p.fields[i]) ++ restN p (i + 1) := by
  unfold restN
  rw [List.drop_eq_getElem_cons hi, List.flatMap_cons, List.append_assoc]
theorem fields_range {p : Pkt} (h : p.may = true) : ∀ v ∈ p.fields, 0 ≤ v ∧ v ≤ 1099511627776 := by
  have f := may_iff.1 h
  unfold fields
  intro v hv
  by_cases k1 : p.kind = 1
  · rw [if_pos k1] at hv
    have fi := f.id
    rcases f.kind with ⟨-, a1, a2, a3, -⟩ | ⟨k, -⟩
    · simp only [List.mem_cons, List.not_mem_nil, or_false] at hv
      rcases hv with rfl | rfl | rfl | rfl <;> omega
    · omega
  · rw [if_neg k1] at hv
    simp only [List.mem_cons, List.not_mem_nil, or_false] at hv
    subst hv
    exact f.id
/-- So many numbers were read: of a packet's bytes they are the packet's. -/
def Went (b x : List UInt8) (i at' : Nat) (vs : List Int) : Prop := ∀ p, Is b p → x.drop at' = restN p i ∧ p.fields.take i = vs
theorem went_zero (b : List UInt8) : Went b ((b.take (b.length - 4)).drop 3) 0 0 [] := fun p hp => ⟨by rw [List.drop_zero]; exact rest_zero hp, rfl⟩
theorem Went.bad {b x : List UInt8} {i at' k : Nat} {vs : List Int} {v e : Int} (h : Went b x i at' vs) (hg : Var.get 0 0 (x.drop at') = (v, k, e)) (hb : e ≠ 0 ∨ v < 0 ∨ 1099511627776 < v) (hN : ∀ p, Is b p → i < p.fields.length) : ∀ p, ¬ Is b p := by
  intro p hp
  have h1 := (h p hp).1
  rw [rest_succ p i (hN p hp)] at h1
  have hr := fields_range hp.1 _ (List.getElem_mem (hN p hp))
  rw [h1, Var.get_put0 _ _ (Var.zig_lt _ (by omega) (by omega)), Var.unzig_zig] at hg
  simp only [Prod.mk.injEq] at hg
  omega
theorem Went.next {b x : List UInt8} {i at' k : Nat} {vs : List Int} {v : Int} (h : Went b x i at' vs) (hg : Var.get 0 0 (x.drop at') = (v, k, 0)) (hN : ∀ p, Is b p → i < p.fields.length) : Went b x (i + 1) (at' + k) (vs ++ [v]) := by
  intro p hp
  obtain ⟨h1, h2⟩ := h p hp
  rw [rest_succ p i (hN p hp)] at h1
  have hr := fields_range hp.1 _ (List.getElem_mem (hN p hp))
  rw [h1, Var.get_put0 _ _ (Var.zig_lt _ (by omega) (by omega)), Var.unzig_zig] at hg
  simp only [Prod.mk.injEq] at hg
  obtain ⟨rfl, rfl, -⟩ := hg
  refine ⟨?_, ?_⟩
  · rw [← List.drop_drop, h1, List.drop_left]
  · rw [List.take_succ_eq_append_getElem (hN p hp), h2]
/-- Kind 1, all four numbers read. -/
theorem Went.four {b x : List UInt8} {at' : Nat} {vs : List Int} (h : Went b x 4 at' vs) {p : Pkt} (hp : Is b p) (hk : p.kind = 1) : x.drop at' = be32 p.sum ++ (Var.put (Var.zig (p.press.length : Int)) ++ Runs.enc 0 p.press) ∧ vs = [p.id, p.first, p.ack, p.frame] := by
  obtain ⟨h1, h2⟩ := h p hp
  unfold restN last fields at h1
  unfold fields at h2
  rw [if_pos hk] at h1 h2
  rw [if_pos hk] at h1
  exact ⟨by simpa using h1, by simpa using h2.symm⟩
theorem Went.one {b x : List UInt8} {at' : Nat} {v : Int} (h : Went b x 1 at' [v]) {p : Pkt} (hp : Is b p) : p.id = v := by
  obtain ⟨h1, h2⟩ := h p hp
  unfold fields at h2
  split at h2 <;> simpa using h2
end Pkt
end Go.Proofs.Ytbcgffgiifminaa
namespace Go.Proofs.Ytbcgffgiifminaa
open Go.RowKit
set_option maxRecDepth 10000
set_option linter.unusedVariables false
namespace Var
theorem mul_up (x p k : Nat) (hp : p = 128 ^ k) (h : x * 128 ^ k < 18446744073709551616) : IntKind.u64.wrap ((x : Int) * (p : Int)) = ((x * 128 ^ k : Nat) : Int) := by
  subst hp
  rw [IntKind.wrap_u64, ← Int.natCast_mul]
  omega
theorem pow_up (k p : Nat) (hp : p = 128 ^ k) (h : k < 9) : IntKind.u64.wrap ((p : Int) * 128) = ((128 ^ (k + 1) : Nat) : Int) := by
  subst hp
  have h1 : k = 0 ∨ k = 1 ∨ k = 2 ∨ k = 3 ∨ k = 4 ∨ k = 5 ∨ k = 6 ∨ k = 7 ∨ k = 8 := by omega
  rcases h1 with rfl | rfl | rfl | rfl | rfl | rfl | rfl | rfl | rfl <;> rfl
end Var

set_option maxRecDepth 10000 in
set_option maxHeartbeats 1000000 in
theorem ref_Get (A : Option Addr) (n c B : Nat) (l : List UInt8) (w : World) (hA : LiesB w B A n l) (hn : n ≤ 140737488355328) (v : Int) (m : Nat) (er : Int) (hv : Var.get 0 0 l = (v, m, er)) :
    Calls Try.prog 62 #[.slice A n c] w fun e w' => e = .returned (.tuple #[.int .i64 v, .int .i64 m, .int .i64 er]) ∧ w = w' := by
  have HA := hide hA
  have HV := hide hv
  clear hA hv
  go_enter Try.func62, Try.ntmps62
  go_wp2
  go_loop [5, 6, 7] (fun x q i => ∃ k u p : Nat, k ≤ n ∧ k ≤ 9 ∧ i = .int .i64 k ∧ x = .int .u64 (u : Nat) ∧ q = .int .u64 (p : Nat) ∧ p = 128 ^ k ∧ u < 128 ^ k ∧ Var.get k u (l.drop k) = (v, m, er)) (fun _ _ i => n - (intOf i).toNat)
  case atStart => exact ⟨0, 0, 1, Nat.zero_le _, by omega, rfl, rfl, rfl, rfl, by simp, HV.out⟩
  case round =>
    obtain ⟨k, u, p, hk, hk9, rfl, rfl, rfl, hp, hu, hg⟩ := hrel
    have HP := hide hp
    clear hp
    by_cases hlt : k < n
    · obtain ⟨b, off, hlk, rfl, -, hc⟩ := HA.out.at_ hlt
      rw [Var.drop_at hlk] at hg
      obtain ⟨z, hz⟩ : ∃ z, z = l[k] := ⟨_, rfl⟩
      rw [← hz] at hc hg
      have Hu := hide hu
      clear hz hu
      have hz2 := z.toNat_lt
      by_cases h9 : k = 9 ∧ 1 < z.toNat
      · rw [Var.get_form9 h9.1 h9.2] at hg
        injection hg with e1 e2; injection e2 with e2 e3
        subst e1 e2 e3
        obtain ⟨rfl, h92⟩ := h9
        go_wp2
        go_ret3
        exact ⟨rfl, rfl⟩
      · have hx9 : k = 9 → z.toNat % 128 ≤ 1 := by omega
        have hr := Var.room Hu.out (Nat.mod_lt z.toNat (by omega : 0 < 128)) hk9 hx9
        have hRem : (z.toNat : Int) % 128 = ((z.toNat % 128 : Nat) : Int) := by omega
        have hMul := Var.mul_up (z.toNat % 128) p k HP.out hr.1
        have hxz : z.toNat < 128 → z.toNat % 128 = z.toNat := fun h => Nat.mod_eq_of_lt h
        have hxz2 : 128 ≤ z.toNat → z.toNat % 128 = z.toNat - 128 := fun h => by omega
        have hw := Var.wrap_small (z.toNat % 128) (by omega)
        have Hx9 := hide hx9
        clear hx9
        obtain ⟨x, hx⟩ : ∃ x, x = z.toNat % 128 := ⟨_, rfl⟩
        rw [← hx] at hr hRem hMul hxz hxz2 hw
        have HX := hide hx
        clear hx
        obtain ⟨y, hy⟩ : ∃ y, y = x * 128 ^ k := ⟨_, rfl⟩
        rw [← hy] at hr hMul
        have HY := hide hy
        clear hy
        obtain ⟨s, hs⟩ : ∃ s, s = u + y := ⟨_, rfl⟩
        rw [← hs] at hr
        have hAdd : IntKind.u64.wrap ((u : Int) + (y : Int)) = (s : Int) := by rw [IntKind.wrap_u64]; omega
        have HS := hide hs
        clear hs
        have HR := hide hr
        have HXZ := hide hxz
        have HXZ2 := hide hxz2
        have HN := hide h9
        clear hr hxz hxz2
        by_cases hbig : 128 ≤ z.toNat
        · rw [Var.get_on h9 hbig, ← HXZ2.out hbig, ← HY.out, ← HS.out] at hg
          have HG := hide hg
          have d9 : ((k : Int) == 9) = false := by simp; omega
          have hk8 : k < 9 := by omega
          have hz0 : ((z.toNat : Int) == 0) = false := by simp; omega
          have hP := Var.pow_up k p HP.out hk8
          obtain ⟨p2, hp2⟩ : ∃ p2, p2 = 128 ^ (k + 1) := ⟨_, rfl⟩
          rw [← hp2] at hP
          have HP2 := hide hp2
          clear hp2
          clear hg h9 hz2
          have d128 : decide ((z.toNat : Int) < 128) = false := by simp; omega
          have HB := hide hbig
          clear hbig
          by_cases hk0 : k = 0
          · have d0 : ¬ 0 < k := by omega
            have HK := hide hk0
            clear hk0
            go_wp2
            exact ⟨⟨k + 1, s, p2, by omega, by omega, by go_num, rfl, rfl, HP2.out, by rw [HS.out, HY.out]; exact (Var.room Hu.out (by have := HX.out; omega) hk9 (fun h => absurd h (by omega))).2.2, HG.out⟩, by simp [intOf]; omega⟩
          · have d0 : 0 < k := by omega
            have HK := hide hk0
            clear hk0
            go_wp2
            exact ⟨⟨k + 1, s, p2, by omega, by omega, by go_num, rfl, rfl, HP2.out, by rw [HS.out, HY.out]; exact (Var.room Hu.out (by have := HX.out; omega) hk9 (fun h => absurd h (by omega))).2.2, HG.out⟩, by simp [intOf]; omega⟩
        · have hsm : z.toNat < 128 := by omega
          by_cases h0 : 0 < k ∧ z.toNat = 0
          · rw [Var.get_form0 h0.2 h0.1] at hg
            injection hg with e1 e2; injection e2 with e2 e3
            subst e1 e2 e3
            obtain ⟨h01, h02⟩ := h0
            clear h9
            rw [h02] at hc
            by_cases hk9' : k = 9
            · subst hk9'
              go_wp2
              all_goals (go_ret3; exact ⟨rfl, rfl⟩)
            · have d9 : ((k : Int) == 9) = false := by simp; omega
              go_wp2
              all_goals (go_ret3; exact ⟨rfl, rfl⟩)
          · rw [Var.get_ok h9 hsm h0, ← HXZ.out hsm, ← HY.out, ← HS.out] at hg
            injection hg with e1 e2; injection e2 with e2 e3
            subst e2 e3
            obtain ⟨g, hgg⟩ : ∃ g, g = s / 2 := ⟨_, rfl⟩
            have hg63 : g < 9223372036854775808 := by have := HR.out.2.1; omega
            have hHalf : (s : Int) / 2 = (g : Int) := by omega
            have HGG := hide hgg
            have H0 := hide h0
            have E1 := hide e1
            have d128 : decide ((z.toNat : Int) < 128) = true := by simp; omega
            have HSM := hide hsm
            clear h9 h0 e1 hgg hsm hbig hz2
            by_cases hk9' : k = 9
            · subst hk9'
              have hz1 : z.toNat ≤ 1 := by have := HN.out; omega
              have hz0 : ((z.toNat : Int) == 0) = false := by have := H0.out; simp; omega
              by_cases hs2 : s % 2 = 1
              · have hpar : (s : Int) % 2 = 1 := by omega
                have hcase : v = -(g : Int) - 1 := by rw [← E1.out]; unfold Var.unzig; rw [if_pos hs2, HGG.out]
                clear hs2
                subst hcase
                go_wp2
                go_ret3
                exact ⟨rfl, rfl⟩
              · have hpar : (s : Int) % 2 = 0 := by omega
                have hcase : v = (g : Int) := by rw [← E1.out]; unfold Var.unzig; rw [if_neg hs2, HGG.out]
                clear hs2
                subst hcase
                go_wp2
                go_ret3
                exact ⟨rfl, rfl⟩
            · have d9 : ((k : Int) == 9) = false := by simp; omega
              by_cases hk0 : k = 0
              · have d0 : ¬ 0 < k := by omega
                clear hk0
                by_cases hs2 : s % 2 = 1
                · have hpar : (s : Int) % 2 = 1 := by omega
                  have hcase : v = -(g : Int) - 1 := by rw [← E1.out]; unfold Var.unzig; rw [if_pos hs2, HGG.out]
                  clear hs2
                  subst hcase
                  go_wp2
                  go_ret3
                  exact ⟨rfl, rfl⟩
                · have hpar : (s : Int) % 2 = 0 := by omega
                  have hcase : v = (g : Int) := by rw [← E1.out]; unfold Var.unzig; rw [if_neg hs2, HGG.out]
                  clear hs2
                  subst hcase
                  go_wp2
                  go_ret3
                  exact ⟨rfl, rfl⟩
              · have hz0 : ((z.toNat : Int) == 0) = false := by have := H0.out; simp; omega
                have d0 : 0 < k := by omega
                clear hk0
                by_cases hs2 : s % 2 = 1
                · have hpar : (s : Int) % 2 = 1 := by omega
                  have hcase : v = -(g : Int) - 1 := by rw [← E1.out]; unfold Var.unzig; rw [if_pos hs2, HGG.out]
                  clear hs2
                  subst hcase
                  go_wp2
                  go_ret3
                  exact ⟨rfl, rfl⟩
                · have hpar : (s : Int) % 2 = 0 := by omega
                  have hcase : v = (g : Int) := by rw [← E1.out]; unfold Var.unzig; rw [if_neg hs2, HGG.out]
                  clear hs2
                  subst hcase
                  go_wp2
                  go_ret3
                  exact ⟨rfl, rfl⟩
    · rw [List.drop_eq_nil_of_le (by rw [HA.out.len]; omega), Var.get_nil] at hg
      injection hg with e1 e2; injection e2 with e2 e3
      subst e1 e2 e3
      go_wp2
      go_ret3
      exact ⟨rfl, rfl⟩
end Go.Proofs.Ytbcgffgiifminaa
namespace Go.Proofs.Ytbcgffgiifminaa
open Go.RowKit
set_option maxRecDepth 10000
set_option linter.unusedVariables false
/-- The fault of the next run, as the reference asks it. -/
def badU (first : Bool) (n q : Nat) (v er : Int) (l : List UInt8) : Bool := decide (er ≠ 0 ∨ v < 1 ∨ n = q ∨ (l.getD q 0 = 0 ∧ first = false))
theorem badU_out {first : Bool} {n q : Nat} {v er : Int} {l : List UInt8} {b : Bool} (h : badU first n q v er l = b) : (er ≠ 0 ∨ v < 1 ∨ n = q ∨ (l.getD q 0 = 0 ∧ first = false)) ↔ b = true := by subst h; unfold badU; simp

set_option maxRecDepth 10000 in
set_option maxHeartbeats 10000000 in
theorem ref_Unruns (A0 : Option Addr) (n0 c0 B : Nat) (l0 : List UInt8) (most : Int) (M : Nat) (w : World) (hA : LiesB w B A0 n0 l0) (hnc0 : n0 ≤ c0) (hB : B ≤ w.heap.size) (hn0 : n0 ≤ 1000000)
    (lo : -9223372036854775808 ≤ most) (hi : most ≤ 9223372036854775807) (hM : max 0 most = (M : Int)) (R : List UInt8 × Int) (hR : Runs.dec M true 0 [] l0 = R) (room : M ≤ 1000000 ∨ (R.2 = 0 ∧ R.1.length ≤ 1000000)) :
    Calls Try.prog 63 #[.slice A0 n0 c0, .int .i64 most] w fun e w' => ∃ A' n' c', e = .returned (.tuple #[.slice A' n' c', .int .i64 R.2]) ∧ OwnB w' w.heap.size A' n' c' R.1 ∧ Below w.heap.size w w' := by
  have HR := hide hR
  have HA := hide hA
  have HM := hide room
  clear hR hA room
  go_enter Try.func63, Try.ntmps63
  go_wp2
  go_loopg [0, 6, 7, 8] n0 (fun g sb s x i wr => ∃ (A : Option Addr) (n c : Nat) (l : List UInt8) (first : Bool) (A' : Option Addr) (n' c' : Nat) (l' : List UInt8) (ah : UInt8), g = n ∧ n ≤ n0 ∧ n ≤ c ∧ n' ≤ M ∧ sb = .slice A n c ∧ i = .bool first ∧ x = .int .u8 (ah.toNat : Int) ∧ s = .slice A' n' c' ∧ LiesB wr B A n l ∧ OwnB wr w.heap.size A' n' c' l' ∧ Runs.dec M first ah l' l = R ∧ Below w.heap.size w wr)
  case atStart => exact ⟨A0, n0, c0, l0, true, _, _, _, [], 0, rfl, by omega, by omega, by omega, rfl, rfl, rfl, rfl, HA.out, OwnB.nil _ _, HR.out, Below.refl _ _⟩
  case round =>
    obtain ⟨W1, hW1⟩ : ∃ W1, W1 = wr := ⟨_, rfl⟩
    subst hW1
    obtain ⟨A, n, c, l, first, A', n', c', l', ah, rfl, hn, hnc, hnM, rfl, rfl, rfl, rfl, hlies, hown, heq, hbel⟩ := hrel
    have HL := hide hlies
    have HO := hide hown
    have HB := hide hbel
    have HE := hide heq
    have hsz : w.heap.size ≤ W1.heap.size := hbel.size
    have hl' := hide hown.len
    clear hown hbel heq hlies
    by_cases hlt : 0 < gk
    · obtain ⟨v, q, er, hg⟩ : ∃ v q er, Var.get 0 0 l = (v, q, er) := ⟨_, _, _, rfl⟩
      have hf := Var.get_facts _ 0 0 v q er (by omega) (by simp) hg
      rw [HL.out.len] at hf
      have HG := hide hg
      have HNE : Hid (l ≠ []) := fun h => by have := HL.out.len; rw [h] at this; simp at this; omega
      obtain ⟨f1, f2, f3, f4, f5⟩ := hf
      have F4 := hide f4
      have F5 := hide f5
      clear hg f4 f5
      obtain ⟨bad, hbad⟩ : ∃ bad, badU first gk q v er l = bad := ⟨_, rfl⟩
      have HBAD := hide (badU_out hbad)
      clear hbad
      go_upto_region 7 with (go_at_call 62; refine Calls.mono (ref_Get _ _ _ B _ _ HL.out (by omega) v q er HG.out) ?_; rintro e w' ⟨rfl, rfl⟩)
      go_cut [44] from 13 to 70 (fun s44 wx => s44 = .bool bad ∧ wx = W1)
      case first =>
        by_cases b1 : er ≠ 0
        · have hd : (er == 0) = false := by simpa using b1
          have hd2 : (er != 0) = true := by simpa using b1
          have hb : bad = true := HBAD.out.1 (.inl b1)
          have HB1 := hide hb
          clear hb b1
          go_wp2
          go_meet
          rw [HB1.out]
          exact ⟨rfl, rfl⟩
        · obtain rfl : er = 0 := by omega
          have f5 := F5.out rfl
          clear b1
          by_cases b2 : v < 1
          · have HB1 := hide (HBAD.out.1 (.inr (.inl b2)))
            have d1 : decide (v < 1) = true := decide_eq_true b2
            clear b2
            go_wp2
            go_meet
            rw [HB1.out]
            exact ⟨rfl, rfl⟩
          · by_cases b3 : gk = q
            · have HB1 := hide (HBAD.out.1 (.inr (.inr (.inl b3))))
              have d1 : decide (v < 1) = false := decide_eq_false b2
              have d2 : ((gk : Int) == (q : Int)) = true := by simp; omega
              have d3 : (gk == q) = true := by simp; omega
              clear b3
              go_wp2
              go_meet
              rw [HB1.out]
              exact ⟨rfl, rfl⟩
            · have d1 : decide (v < 1) = false := decide_eq_false b2
              have d2 : ((gk : Int) == (q : Int)) = false := by simp; omega
              have d3 : (gk == q) = false := by simp; omega
              obtain ⟨b, off, hlm, rfl, hbB, hcc⟩ := HL.out.at_ (k := q) (by omega)
              have hget : l.getD q 0 = l[q] := by rw [List.getD_eq_getElem?_getD, List.getElem?_eq_getElem hlm]; rfl
              obtain ⟨z, hz⟩ : ∃ z, z = l[q] := ⟨_, rfl⟩
              rw [← hz] at hcc hget
              rw [hget] at HBAD
              have hzt := z.toNat_lt
              have hqs : q < gk := by omega
              clear hz hget
              by_cases hz0 : z = 0
              · subst hz0
                have hcc : W1.cell? ⟨b, off + q, none⟩ = some (.int .u8 0) := hcc
                cases first with
                | false =>
                  have HB1 := hide (HBAD.out.1 (.inr (.inr (.inr ⟨rfl, rfl⟩))))
                  clear b3
                  go_wp2
                  go_meet
                  rw [HB1.out]
                  exact ⟨rfl, rfl⟩
                | true =>
                  have HB1 : Hid (bad = false) := by
                    rw [← Bool.not_eq_true, ← HBAD.out]; exact fun h => by rcases h with h | h | h | h <;> first | exact h rfl | omega | cases h.2
                  clear b3
                  go_wp2
                  go_meet
                  rw [HB1.out]
                  exact ⟨rfl, rfl⟩
              · have hz1 : ((z.toNat : Int) == 0) = false := by
                  have h2 : z.toNat ≠ 0 := fun h => hz0 (UInt8.toNat_inj.1 (by rw [h]; rfl))
                  simp; omega
                have HB1 : Hid (bad = false) := by
                  rw [← Bool.not_eq_true, ← HBAD.out]; exact fun h => by rcases h with h | h | h | h <;> first | exact h rfl | omega | exact hz0 h.1
                clear hz0 b3
                go_wp2
                go_meet
                rw [HB1.out]
                exact ⟨rfl, rfl⟩
      case rest =>
        obtain ⟨rfl, rfl⟩ := hcut
        cases bad with
        | true =>
          have hr : R = ([], 1) := by
            rw [← HE.out]
            refine Runs.dec_bad HG.out HNE.out ?_
            rw [HL.out.len]
            rcases HBAD.out.2 rfl with h | h | h | h
            · exact .inl h
            · exact .inr (.inl h)
            · exact .inr (.inr (.inl (by omega)))
            · exact .inr (.inr (.inr h))
          subst hr
          go_wp2
          go_ret2
          exact ⟨none, 0, 0, rfl, OwnB.nil _ _, HB.out⟩
        | false =>
          have hnb := fun h => Bool.false_ne_true (HBAD.out.1 h)
          have er0 : er = 0 := by
            rcases Decidable.em (er = 0) with h | h
            · exact h
            · exact absurd (.inl h) hnb
          have HNB := hide hnb
          clear hnb
          subst er0
          have f5 := F5.out rfl
          have b2 : 1 ≤ v := by
            rcases Decidable.em (v < 1) with h | h
            · exact absurd (.inr (.inl h)) HNB.out
            · omega
          have b3 : q < gk := by
            rcases Decidable.em (gk = q) with h | h
            · exact absurd (.inr (.inr (.inl h))) HNB.out
            · omega
          obtain ⟨b, off, hlm, rfl, hbB, hcc⟩ := HL.out.at_ (k := q) (by omega)
          have hget : l.getD q 0 = l[q] := by rw [List.getD_eq_getElem?_getD, List.getElem?_eq_getElem hlm]; rfl
          obtain ⟨z, hz⟩ : ∃ z, z = l[q] := ⟨_, rfl⟩
          rw [← hz] at hcc hget
          have hzt := z.toNat_lt
          have HGT := hide hget
          clear hz hget
          have HOK : Hid (¬ ((0 : Int) ≠ 0 ∨ v < 1 ∨ l.length ≤ q ∨ (l.getD q 0 = 0 ∧ first = false))) := by
            have h3 : l.length = gk := HL.out.len
            have h4 := HNB.out
            rintro (h | h | h | h)
            · exact h rfl
            · omega
            · omega
            · exact h4 (.inr (.inr (.inr h)))
          have hMl : (M : Int) ≤ 9223372036854775807 := by omega
          by_cases b5 : (M : Int) - n' < v
          · have hr : R = ([], 4) := HE.out.symm.trans (Runs.dec_full (most := M) (first := first) (a := ah) (out := l') HG.out HNE.out HOK.out (by rw [hl'.out]; exact b5))
            subst hr
            go_wp2
            go_ret2
            exact ⟨none, 0, 0, rfl, OwnB.nil _ _, HB.out⟩
          · have hon := Runs.dec_on (most := M) (first := first) (a := ah) (out := l') HG.out HNE.out HOK.out (by rw [hl'.out]; exact b5)
            obtain ⟨vn, rfl⟩ : ∃ vn : Nat, v = (vn : Int) := ⟨v.toNat, by omega⟩
            rw [HE.out, HGT.out] at hon
            obtain ⟨z2, hz2⟩ : ∃ z2, z2 = ah ^^^ z := ⟨_, rfl⟩
            have hxor := bits_xor8 ah z
            rw [← hz2] at hon hxor
            have hroom : n' + vn ≤ 1000000 := by
              have h3 := hl'.out
              rcases HM.out with h | ⟨h1, h2⟩
              · omega
              · rw [hon] at h1 h2
                have := Runs.dec_len _ _ _ _ _ _ (Nat.le_refl _) h1
                rw [List.length_append, List.length_replicate] at this
                have e2 : ((vn : Int)).toNat = vn := by omega
                rw [e2] at *
                omega
            have HON := hide (show Runs.dec M false z2 (l' ++ List.replicate vn z2) (l.drop (q + 1)) = R from by
              rw [hon]; rfl)
            clear hon hz2
            go_wp2
            go_loopg [6, 12] vn (fun g s j wx => ∃ (t : Nat) (A2 : Option Addr) (n2 c2 : Nat), t ≤ vn ∧ g = vn - t ∧ n2 = n' + t ∧ j = .int .i64 t ∧ s = .slice A2 n2 c2 ∧ OwnB wx w.heap.size A2 n2 c2 (l' ++ List.replicate t z2) ∧ LiesB wx B (some ⟨b, off, none⟩) gk l ∧ Below w.heap.size w wx)
            case atStart => exact ⟨0, A', n', c', by omega, rfl, rfl, rfl, rfl, by simpa using HO.out, HL.out, HB.out⟩
            case round =>
              obtain ⟨t, A2, n2, c2, ht, rfl, rfl, rfl, rfl, hown2, hlies2, hbel2⟩ := hrel
              have HO2 := hide hown2
              have HB2 := hide hbel2
              have HL2 := hide hlies2
              have hs2 : w.heap.size ≤ wr.heap.size := hbel2.size
              clear hown2 hbel2 hlies2
              by_cases htv : t < vn
              · go_wp2_with (at_builtin; refine wpB_append rfl (.tmp 63) (.tmp 65) rfl w.heap.size A2 (n' + t) c2 _ rfl (HO2.out.below (Below_new _ _)) _ _ 1 1 [z2] rfl (LiesB.new _ _ _ _ _ _ rfl rfl) (n' + t + 1) _ rfl rfl (by omega) (by simp; omega) ?_; intro A3 c3 w3 own3 hb3 hg3)
                go_roundg (vn - (t + 1))
                case measure => omega
                case rel => exact ⟨t + 1, A3, n' + t + 1, c3, by omega, rfl, by omega, by go_num, rfl, by rw [List.append_assoc, ← List.replicate_succ'] at own3; exact own3, HL2.out.below ((((Below_new _ _).mono hs2).trans hb3).mono hB), HB2.out.trans (((Below_new _ _).mono hs2).trans hb3)⟩
              · obtain rfl : t = vn := by omega
                have HC := hide (HL2.out.cut (k := q + 1) hnc)
                go_wp2
                go_roundg (gk - (q + 1))
                case measure => omega
                case rel => exact ⟨_, gk - (q + 1), c - (q + 1), _, false, A2, n' + t, c2, _, z2, rfl, by omega, by omega, by omega, rfl, rfl, rfl, rfl, HC.out, HO2.out, HON.out, HB2.out⟩
    · obtain rfl : gk = 0 := by omega
      have hr : R = (l', 0) := by
        rw [← HE.out, List.eq_nil_of_length_eq_zero HL.out.len, Runs.dec_nil]
      subst hr
      go_wp2
      go_ret2
      exact ⟨A', n', c', rfl, HO.out, HB.out⟩
end Go.Proofs.Ytbcgffgiifminaa
namespace Go.Proofs.Ytbcgffgiifminaa
open Go.RowKit
set_option maxRecDepth 10000
set_option linter.unusedVariables false
/-- What Unpacket answers. -/
inductive Pkt.UnSaid (b : List UInt8) (w' : World) : Ending → Prop
  | yes (p : Pkt) (A : Option Addr) (n c : Nat) (h : Pkt.Is b p) (hl : LiesB w' w'.heap.size A n p.press) : Pkt.UnSaid b w' (.returned (.tuple #[p.val (.slice A n c), .bool true]))
  | no (q : Pkt) (A : Option Addr) (n c : Nat) (h : ∀ p, ¬ Pkt.Is b p) : Pkt.UnSaid b w' (.returned (.tuple #[q.val (.slice A n c), .bool false]))
/-- Unpacket at work: its result's block, the packet's, the numbers'. -/
structure US (w wx : World) (R : List Value) (L : List Int) : Prop where
  res : Arr 41 wx w.heap.size (Pkt.zero.row (.slice none 0 0))
  p : Arr 41 wx (w.heap.size + 1) R
  l : Arr 103 wx (w.heap.size + 2) (L.map (Value.int .i64))
  bel : Below w.heap.size w wx
section
variable {w wx w' : World} {R : List Value} {L : List Int}
theorem US.below (h : US w wx R L) (hb : Below wx.heap.size wx w') : US w w' R L := ⟨h.res.belowN hb, h.p.belowN hb, h.l.belowN hb, Below_step h.bel hb⟩
theorem US.drew (h : US w wx R L) : US w wx.drew R L := ⟨h.res.drew, h.p.drew, h.l.drew, Below_drewN h.bel 1⟩
theorem US.setP (h : US w wx R L) (j : Nat) (v : Value) : US w (wx.setCell ⟨w.heap.size + 1, j, none⟩ v) (R.set j v) L :=
  ⟨h.res.keeps (Keeps.setCell wx ⟨w.heap.size + 1, j, none⟩ v) (by show ¬ _ = w.heap.size + 1; omega), h.p.set j v, h.l.keeps (Keeps.setCell wx ⟨w.heap.size + 1, j, none⟩ v) (by show ¬ _ = w.heap.size + 1; omega),
   h.bel.trans ((Keeps.setCell wx ⟨w.heap.size + 1, j, none⟩ v).below h.bel.size (fun k hk => by show k = w.heap.size + 1 → _; omega))⟩
theorem US.setL (h : US w wx R L) (j : Nat) (v : Int) : US w (wx.setCell ⟨w.heap.size + 2, j, none⟩ (.int .i64 v)) R (L.set j v) :=
  ⟨h.res.keeps (Keeps.setCell wx ⟨w.heap.size + 2, j, none⟩ (.int .i64 v)) (by show ¬ _ = w.heap.size + 2; omega), h.p.keeps (Keeps.setCell wx ⟨w.heap.size + 2, j, none⟩ (.int .i64 v)) (by show ¬ _ = w.heap.size + 2; omega), by rw [List.map_set]; exact h.l.set j (.int .i64 v),
   h.bel.trans ((Keeps.setCell wx ⟨w.heap.size + 2, j, none⟩ (.int .i64 v)).below h.bel.size (fun k hk => by show k = w.heap.size + 2 → _; omega))⟩
end
/-- Read to the end: only this packet may have these bytes. -/
def UnEnd (b : List UInt8) (w wx : World) : Prop := ∃ (q : Pkt) (A : Option Addr) (n c : Nat) (L : List Int), US w wx (q.row (.slice A n c)) L ∧ LiesB wx wx.heap.size A n q.press ∧ n ≤ 32 ∧ q.WF ∧ (∀ b off, A = some ⟨b, off, none⟩ → q.press ≠ [] → ¬ b = w.heap.size) ∧ ∀ p, Pkt.Is b p → p = q
theorem nums_set (vs : List Int) (i : Nat) (hv : vs.length = i) (hi : i < 4) (v : Int) : (vs ++ List.replicate (4 - i) 0).set i v = (vs ++ [v]) ++ List.replicate (4 - (i + 1)) 0 := by
  rw [List.set_append_right _ _ (by omega), hv, Nat.sub_self, show 4 - i = (4 - (i + 1)) + 1 by omega, List.replicate_succ, List.set_cons_zero, List.append_assoc]
  rfl
set_option maxHeartbeats 4000000 in
set_option maxRecDepth 10000 in
theorem ref_Unpacket {A : Option Addr} {n c B : Nat} {b : List UInt8} {w : World} (hA : LiesB w B A n b) (hB : B ≤ w.heap.size) (hnc : n ≤ c) (hn : n ≤ 1000000) :
    Calls Try.prog 23 #[.slice A n c] w fun e w' => Pkt.UnSaid b w' e ∧ Below w.heap.size w w' := by
  have LA := hide hA
  have hl := hA.len
  have HBB := hide hB
  have HP : Hid (Arr 41 (w.alloc (.cells (Pkt.zero.row (.slice none 0 0)).toArray 41)) w.heap.size (Pkt.zero.row (.slice none 0 0))) := Arr.new 41 w _ _ rfl
  have HB : Hid (Below w.heap.size w (w.alloc (.cells (Pkt.zero.row (.slice none 0 0)).toArray 41))) := Below_new _ _
  have hsz : (w.alloc (.cells (Pkt.zero.row (.slice none 0 0)).toArray 41)).heap.size = w.heap.size + 1 := by simp
  simp only [Pkt.row, Pkt.zero] at HP HB hsz
  clear hA hB
  by_cases h7 : n < 8
  · have d1 : decide ((n : Int) < 8) = true := decide_eq_true (by omega)
    have HN : Hid (∀ p, ¬ Pkt.Is b p) := fun p hp => by have := (Pkt.is_head hp).1; omega
    clear h7 hsz
    go_enter Try.func23, Try.ntmps23
    go_upto_region 1 with fail
    generalize World.alloc w _ = wx at HP HB ⊢
    go_wp2_with (refine wpP_put rfl (.tmp 2) (.tmp 22) rfl w.heap.size rfl Pkt.zero none 0 0 rfl HP.out rfl ?_; intro w1 ha1 hk1 hs1)
    refine bodyPost_ret (results_P2 (fn := Try.f23) rfl _ _ w.heap.size rfl _ rfl Pkt.zero (.slice none 0 0) ha1) rfl ?_
    exact ⟨.no _ _ _ _ HN.out, HB.out.trans (hk1.below HB.out.size (fun k hk => by omega))⟩
  · obtain ⟨m, rfl⟩ : ∃ m, n = m + 4 := ⟨n - 4, by omega⟩
    have hm3 : 4 ≤ m := by omega
    have d1 : decide (((m + 4 : Nat) : Int) < 8) = false := decide_eq_false (by omega)
    obtain ⟨ab, ao, hl0, rfl, hab, -⟩ := LA.out.at_ (k := 0) (by omega)
    obtain ⟨kb, sb, db, tb, hbt⟩ : ∃ k s d t, b = k :: s :: d :: t := by
      match b, hl with
      | k :: s :: d :: t, _ => exact ⟨k, s, d, t, rfl⟩
      | [], h => simp at h
      | [_], h => simp at h
      | [_, _], h => simp at h
    have CC : Hid (∀ w', Below w.heap.size w w' → w'.cell? ⟨ab, ao, none⟩ = some (.int .u8 (kb.toNat : Int)) ∧ w'.cell? ⟨ab, ao + 1, none⟩ = some (.int .u8 (sb.toNat : Int)) ∧ w'.cell? ⟨ab, ao + 2, none⟩ = some (.int .u8 (db.toNat : Int))) := by
      intro w' hb
      have L := LA.out.below (hb.mono HBB.out)
      obtain ⟨_, _, _, e0, -, q0⟩ := L.at_ (k := 0) (by omega)
      obtain ⟨_, _, _, e1, -, q1⟩ := L.at_ (k := 1) (by omega)
      obtain ⟨_, _, _, e2, -, q2⟩ := L.at_ (k := 2) (by omega)
      injection e0 with e0; injection e0 with e00 e01; subst e00 e01
      injection e1 with e1; injection e1 with e10 e11; subst e10 e11
      injection e2 with e2; injection e2 with e20 e21; subst e20 e21
      simp only [hbt, List.getElem_cons_zero, List.getElem_cons_succ] at q0 q1 q2
      exact ⟨q0, q1, q2⟩
    have HBT := hide hbt
    clear h7 hbt
    go_enter Try.func23, Try.ntmps23
    go_upto_region 1 with fail
    generalize World.alloc w _ = wx at HP HB hsz ⊢
    have HSZ := hide hsz
    clear hsz
    go_upto_region 4 with fail
    go_cut [5] (fun s4 wy => s4 = .pointer (some ⟨w.heap.size + 1, 0, none⟩) ∧ Hid (Arr 41 wy (w.heap.size + 1) (Pkt.row ⟨kb.toNat, sb.toNat, db.toNat, 0, 0, [], 0, 0, 0⟩ (.slice none 0 0))) ∧ Hid (Arr 41 wy w.heap.size (Pkt.zero.row (.slice none 0 0))) ∧ Hid (Below w.heap.size w wy) ∧ Hid (wy.heap.size = w.heap.size + 2))
    case first =>
      have cc := CC.out wx HB.out
      obtain ⟨hc0, hc1, hc2⟩ := cc
      have HP1 : Arr 41 (wx.alloc (.cells (Pkt.zero.row (.slice none 0 0)).toArray 41)) (w.heap.size + 1) (Pkt.zero.row (.slice none 0 0)) := by rw [← HSZ.out]; exact Arr.new 41 wx _ _ rfl
      have HP2 : Arr 41 (wx.alloc (.cells (Pkt.zero.row (.slice none 0 0)).toArray 41)) w.heap.size (Pkt.zero.row (.slice none 0 0)) := Arr.belowN HP.out (Below_new _ _)
      have HB2 := Below_step HB.out (Below_new wx (.cells (Pkt.zero.row (.slice none 0 0)).toArray 41))
      have i0 : (0 : Int) < (m : Int) + 4 := by omega
      have i1 : (1 : Int) < (m : Int) + 4 := by omega
      have i2 : (2 : Int) < (m : Int) + 4 := by omega
      have wk : IntKind.i64.wrap (kb.toNat : Int) = kb.toNat := by rw [IntKind.wrap_i64]; have := kb.toNat_lt; omega
      have ws : IntKind.i64.wrap (sb.toNat : Int) = sb.toNat := by rw [IntKind.wrap_i64]; have := sb.toNat_lt; omega
      have wd : IntKind.i64.wrap (db.toNat : Int) = db.toNat := by rw [IntKind.wrap_i64]; have := db.toNat_lt; omega
      refine wp_region_noPanic ?_
      refine wp_region_held_drew (S := (fun w' => w'.cell? ⟨ab, ao, none⟩ = some (.int .u8 (kb.toNat : Int)) ∧ w'.cell? ⟨ab, ao + 1, none⟩ = some (.int .u8 (sb.toNat : Int)) ∧ w'.cell? ⟨ab, ao + 2, none⟩ = some (.int .u8 (db.toNat : Int)))) (by kernel_rfl) ⟨hc0, hc1, hc2⟩ (fun hHeld => ?_)
      refine tk0 0 ?_
      refine tk 1 ?_
      refine tk 2 ?_
      refine tk 3 ?_
      refine tk 4 ?_
      refine tk 5 ?_
      refine tk 6 ?_
      refine tk 7 ?_
      refine tk 8 ?_
      refine tk 9 ?_
      refine tk 10 ?_
      refine tk 11 ?_
      refine tk 12 ?_
      refine rdy 13 fun K hK => ?_
      go_simp
      refine hK.out _ _ (CC.out _ HB2.drew) (fun hHeld => ?_)
      clear hK K
      try simp only [Act.put, List.setIfInBounds_toArray, List.set_cons_zero, List.set_cons_succ]
      refine rdy 14 fun K hK => ?_
      (refine step_storeP rfl (.tmp 5) (.tmp 40) rfl wx.heap.size rfl ⟨kb.toNat, sb.toNat, db.toNat, 0, 0, [], 0, 0, 0⟩ Pkt.zero none none 0 0 0 0 rfl (by rw [HSZ.out]; exact HP1.drew) ?_; intro w3 ha3 hk3 hs3)
      refine hK.out _ _ (CC.out _ (HB2.drew.trans (hk3.below (by show w.heap.size ≤ _; exact HB2.size) (fun k hk => by have := HSZ.out; omega)))) (fun hHeld => ?_)
      clear hK K
      try simp only [Act.put]
      refine wpAnyH_done (by kernel_rfl) (NoPanic.normal ?_) _
      go_wp2_with fail
      go_meet
      rw [HSZ.out] at ha3 hk3
      exact ⟨by rw [HSZ.out], ha3, HP2.drew.keeps hk3 (by omega), HB2.drew.trans (hk3.below (by show w.heap.size ≤ _; exact HB2.size) (fun k hk => by omega)), by rw [hs3]; show (World.alloc wx _).heap.size = _; simp; exact HSZ.out⟩
    case rest =>
      obtain ⟨rfl, HP1, HP0, HB1, HZ⟩ := hcut
      clear HP HB HSZ
      go_upto_region 6 with fail
      generalize hw1 : World.alloc wc _ = w1
      have U0 : Hid (US w w1 (Pkt.row ⟨kb.toNat, sb.toNat, db.toNat, 0, 0, [], 0, 0, 0⟩ (.slice none 0 0)) [0, 0, 0, 0]) := by
        show US _ _ _ _
        rw [← hw1]
        refine ⟨HP0.out.belowN (Below_new _ _), HP1.out.belowN (Below_new _ _), ?_, Below_step HB1.out (Below_new _ _)⟩
        rw [← HZ.out]
        exact Arr.new 103 wc _ _ rfl
      rw [HZ.out]
      clear hw1 HP0 HP1 HB1 HZ CC
      obtain ⟨x, hx⟩ : ∃ x, x = (b.take m).drop 3 := ⟨_, rfl⟩
      have HX := hide hx
      obtain ⟨xo, hxo⟩ : ∃ xo, cutA (some ⟨ab, ao, none⟩) c 3 1 = some ⟨ab, xo, none⟩ := ⟨_, by unfold cutA; rw [if_neg (by omega)]; rfl⟩
      rw [hxo]
      have LX : Hid (∀ w', Below w.heap.size w w' → LiesB w' B (some ⟨ab, xo, none⟩) (m - 3) x) := by
        rw [← hxo]
        show ∀ w', _
        intro w' hb
        have := (LA.out.below (hb.mono HBB.out)).take m
        rw [Nat.min_eq_left (by omega)] at this
        rw [hx]
        exact this.cut (by omega)
      clear hxo
      have hxl : x.length = m - 3 := (LX.out _ U0.out.bel).len
      obtain ⟨N, hN⟩ : ∃ N, N = if (kb.toNat : Int) = 1 then 4 else 1 := ⟨_, rfl⟩
      have HNF : Hid (∀ p, Pkt.Is b p → p.fields.length = N ∧ p.kind = kb.toNat ∧ p.src = sb.toNat ∧ p.dst = db.toNat) := by
        show ∀ p, _
        intro p hp
        obtain ⟨-, k, s, d, t, hb, k1, s1, d1, -⟩ := Pkt.is_head hp
        have hbt := HBT.out
        rw [hb] at hbt
        simp only [List.cons.injEq] at hbt
        obtain ⟨rfl, rfl, rfl, -⟩ := hbt
        refine ⟨?_, k1.symm, s1.symm, d1.symm⟩
        rw [hN, Pkt.fields, ← k1]
        split <;> rfl
      have HW0 : Hid (Pkt.Went b x 0 0 []) := by
        show Pkt.Went _ _ _ _ _
        have := Pkt.went_zero b
        rwa [hl, show m + 4 - 4 = m by omega, ← hx] at this
      have hN4 : N ≤ 4 := by rw [hN]; split <;> omega
      have hN1 : 1 ≤ N := by rw [hN]; split <;> omega
      have HN := hide hN
      clear hx hN hl
      go_upto_region 8 with fail
      have c0 := U0.out.p.cell (j := 0) (by simp)
      simp only [List.getElem_cons_zero] at c0
      go_upto_if 43 with fail
      go_cut [8] (fun s wx => s = .int .i64 N ∧ w1 = wx)
      case first =>
        by_cases hk : (kb.toNat : Int) = 1
        · have d2 : ((kb.toNat : Int) == 1) = true := by simp [hk]
          have e : Hid (N = 4) := by show _ = _; rw [HN.out, if_pos hk]
          clear hk
          go_wp2_with fail
          go_meet
          rw [e.out]
          exact ⟨rfl, rfl⟩
        · have d2 : ((kb.toNat : Int) == 1) = false := by simp [hk]
          have e : Hid (N = 1) := by show _ = _; rw [HN.out, if_neg hk]
          clear hk
          go_wp2_with fail
          go_meet
          rw [e.out]
          exact ⟨rfl, rfl⟩
      case rest =>
      obtain ⟨rfl, rfl⟩ := hcut
      clear c0
      go_upto_region 11 with fail
      go_loopg [7, 9] N (fun g s7 s9 wr => ∃ (i at' : Nat) (vs : List Int), i ≤ N ∧ g = N - i ∧ s9 = .int .i64 i ∧ s7 = .int .i64 at' ∧ at' ≤ m - 3 ∧ Hid (vs.length = i) ∧ Hid (US w wr (Pkt.row ⟨kb.toNat, sb.toNat, db.toNat, 0, 0, [], 0, 0, 0⟩ (.slice none 0 0)) (vs ++ List.replicate (4 - i) 0)) ∧ Hid (Pkt.Went b x i at' vs))
      case atStart => exact ⟨0, 0, [], by omega, rfl, rfl, rfl, by omega, rfl, U0, HW0⟩
      case round =>
        obtain ⟨i, at', vs, hi, rfl, rfl, rfl, hat, HVL, HU, HW⟩ := hrel
        by_cases hlt : i < N
        · have HL := hide ((LX.out _ HU.out.bel).cut (k := at') (cap := c - 3) (by omega))
          obtain ⟨⟨v, k, e⟩, hg⟩ : ∃ y, Var.get 0 0 (x.drop at') = y := ⟨_, rfl⟩
          have HG := hide hg
          have hik : i < 4 := by omega
          have hatc : at' ≤ c - 3 := by omega
          have HNI : Hid (∀ p, Pkt.Is b p → i < p.fields.length) := fun p hp => by rw [(HNF.out p hp).1]; exact hlt
          clear hg
          go_wp2_with fail
          refine Calls.mono (ref_Get _ _ _ _ _ _ HL.out (by omega) v k e HG.out) ?_
          rintro e' w2 ⟨rfl, rfl⟩
          have BAD : e ≠ 0 ∨ v < 0 ∨ 1099511627776 < v → Hid (∀ p, ¬ Pkt.Is b p) := fun h => HW.out.bad HG.out h HNI.out
          by_cases he : e = 0
          · subst he
            by_cases hv : v < 0
            · have HNO := BAD (.inr (.inl hv))
              have d3 : decide (v < 0) = true := decide_eq_true hv
              clear BAD hv
              go_wp2_with (refine wpP_put rfl (.tmp 2) (.tmp 67) rfl w.heap.size rfl Pkt.zero none 0 0 rfl HU.out.res rfl ?_; intro w12 ha12 hk12 hs12)
              refine bodyPost_ret (results_P2 (fn := Try.f23) rfl _ _ w.heap.size rfl _ rfl Pkt.zero (.slice none 0 0) ha12) rfl ?_
              exact ⟨.no _ _ _ _ HNO.out, HU.out.bel.trans (hk12.below HU.out.bel.size (fun k hk => by omega))⟩
            · have d3 : decide (v < 0) = false := decide_eq_false hv
              by_cases hv2 : 1099511627776 < v
              · have HNO := BAD (.inr (.inr hv2))
                have d4 : decide (1099511627776 < v) = true := decide_eq_true hv2
                clear BAD hv hv2
                go_wp2_with (refine wpP_put rfl (.tmp 2) (.tmp 67) rfl w.heap.size rfl Pkt.zero none 0 0 rfl HU.out.res rfl ?_; intro w12 ha12 hk12 hs12)
                refine bodyPost_ret (results_P2 (fn := Try.f23) rfl _ _ w.heap.size rfl _ rfl Pkt.zero (.slice none 0 0) ha12) rfl ?_
                exact ⟨.no _ _ _ _ HNO.out, HU.out.bel.trans (hk12.below HU.out.bel.size (fun k hk => by omega))⟩
              · have d4 : decide (1099511627776 < v) = false := decide_eq_false hv2
                have hk : at' + k ≤ m - 3 := by have := (Var.get_back0 HG.out).2; rw [List.length_drop] at this; omega
                have HW2 := hide (HW.out.next HG.out HNI.out)
                have c1 := HU.out.l.cell (j := i) (by simp [HVL.out]; omega)
                have f1 := HU.out.l.frozen i
                have U2 := hide (HU.out.setL i v)
                rw [nums_set vs i HVL.out hik v] at U2
                clear BAD hv hv2
                have hii : (i : Int) < 4 := by omega
                go_upto_region 17 with fail
                generalize World.setCell wr _ _ = w3 at U2 ⊢
                go_wp2_with fail
                go_roundg (N - (i + 1))
                case measure => omega
                case rel => exact ⟨i + 1, at' + k, vs ++ [v], by omega, rfl, by go_num, by go_num, hk, by show _ = _; rw [List.length_append, HVL.out]; rfl, U2, HW2⟩
          · have HNO := BAD (.inl he)
            have d3 : (e != 0) = true := by simp [he]
            clear BAD he
            go_wp2_with (refine wpP_put rfl (.tmp 2) (.tmp 67) rfl w.heap.size rfl Pkt.zero none 0 0 rfl HU.out.res rfl ?_; intro w12 ha12 hk12 hs12)
            refine bodyPost_ret (results_P2 (fn := Try.f23) rfl _ _ w.heap.size rfl _ rfl Pkt.zero (.slice none 0 0) ha12) rfl ?_
            exact ⟨.no _ _ _ _ HNO.out, HU.out.bel.trans (hk12.below HU.out.bel.size (fun k hk => by omega))⟩
        · obtain rfl : i = N := by omega
          obtain ⟨l0, l1, l2, l3, hL4⟩ : ∃ l0 l1 l2 l3 : Int, vs ++ List.replicate (4 - i) 0 = [l0, l1, l2, l3] := by
            have h4 : (vs ++ List.replicate (4 - i) 0).length = 4 := by rw [List.length_append, HVL.out, List.length_replicate]; omega
            match vs ++ List.replicate (4 - i) 0, h4 with
            | [a, b, c, d], _ => exact ⟨a, b, c, d, rfl⟩
          have U1 := HU
          rw [hL4] at U1
          have HL4 := hide hL4
          have HAT := hide hat
          clear hL4 HU
          have CL : Hid (∀ w' R, US w w' R [l0, l1, l2, l3] → w'.cell? ⟨w.heap.size + 2, 0, none⟩ = some (.int .i64 l0) ∧ w'.cell? ⟨w.heap.size + 2, 1, none⟩ = some (.int .i64 l1) ∧ w'.cell? ⟨w.heap.size + 2, 2, none⟩ = some (.int .i64 l2) ∧ w'.cell? ⟨w.heap.size + 2, 3, none⟩ = some (.int .i64 l3)) := by
            show ∀ w' R, _
            intro w' R h
            exact ⟨h.l.cell (j := 0) (by simp), h.l.cell (j := 1) (by simp), h.l.cell (j := 2) (by simp), h.l.cell (j := 3) (by simp)⟩
          go_upto_region 18 with fail
          go_cut [] (fun wx => Hid (US w wx (Pkt.row ⟨kb.toNat, sb.toNat, db.toNat, l0, l1, [], l2, l3, 0⟩ (.slice none 0 0)) [l0, l1, l2, l3]))
          case first =>
            have p3 := U1.out.p.cell (j := 3) (by simp)
            have p4 := U1.out.p.cell (j := 4) (by simp)
            have p6 := U1.out.p.cell (j := 6) (by simp)
            have p7 := U1.out.p.cell (j := 7) (by simp)
            have f3 := U1.out.p.frozen 3
            have f4 := U1.out.p.frozen 4
            have f6 := U1.out.p.frozen 6
            have f7 := U1.out.p.frozen 7
            simp only [List.getElem_cons_zero, List.getElem_cons_succ] at p3 p4 p6 p7
            refine wp_region_noPanic ?_
            refine wp_region_held_drew (S := (fun w' => w'.cell? ⟨w.heap.size + 2, 0, none⟩ = some (.int .i64 l0) ∧ w'.cell? ⟨w.heap.size + 2, 1, none⟩ = some (.int .i64 l1) ∧ w'.cell? ⟨w.heap.size + 2, 2, none⟩ = some (.int .i64 l2) ∧ w'.cell? ⟨w.heap.size + 2, 3, none⟩ = some (.int .i64 l3))) (by kernel_rfl) (CL.out _ _ U1.out.drew) (fun hHeld => ?_)
            refine tk0 0 ?_
            refine tk 1 ?_
            refine tk 2 ?_
            refine tk 3 ?_
            refine tk 4 ?_
            refine tk 5 ?_
            refine tk 6 ?_
            refine tk 7 ?_
            refine tk 8 ?_
            have V1 := U1.out.drew
            refine rdy 9 fun K hK => ?_
            go_simp
            have V2 := V1.setP 3 (.int .i64 l0)
            refine hK.out _ _ (CL.out _ _ V2) (fun hHeld => ?_)
            clear hK K
            try simp only [Act.put]
            refine tk 10 ?_
            refine rdy 11 fun K hK => ?_
            go_simp
            have V3 := V2.setP 4 (.int .i64 l1)
            refine hK.out _ _ (CL.out _ _ V3) (fun hHeld => ?_)
            clear hK K
            try simp only [Act.put]
            refine tk 12 ?_
            refine rdy 13 fun K hK => ?_
            go_simp
            have V4 := V3.setP 6 (.int .i64 l2)
            refine hK.out _ _ (CL.out _ _ V4) (fun hHeld => ?_)
            clear hK K
            try simp only [Act.put]
            refine tk 14 ?_
            refine rdy 15 fun K hK => ?_
            go_simp
            have V5 := V4.setP 7 (.int .i64 l3)
            refine hK.out _ _ (CL.out _ _ V5) (fun hHeld => ?_)
            clear hK K
            try simp only [Act.put]
            refine wpAnyH_done (by kernel_rfl) (NoPanic.normal ?_) _
            go_wp2_with fail
            go_meet
            exact V5
          case rest =>
          have U2 := hcut
          clear hcut U1 CL
          have k0 := U2.out.p.cell (j := 0) (by simp)
          simp only [List.getElem_cons_zero] at k0
          go_upto_if 88 with fail
          go_cut [] (fun wx => Hid (UnEnd b w wx))
          case first =>
            by_cases hk : (kb.toNat : Int) = 1
            · have d2 : ((kb.toNat : Int) == 1) = true := by simp [hk]
              obtain rfl : i = 4 := by have := HN.out; rw [if_pos hk] at this; exact this
              have HV4 : Hid (vs = [l0, l1, l2, l3]) := by show _ = _; have := HL4.out; simpa using this
              have HNOB : Hid (∀ p, Pkt.Is b p → p.kind = 1) := fun p hp => by rw [(HNF.out p hp).2.1]; exact hk
              have HSP : Hid (∀ p, Pkt.Is b p → x.drop at' = be32 p.sum ++ (Var.put (Var.zig (p.press.length : Int)) ++ Runs.enc 0 p.press) ∧ [l0, l1, l2, l3] = [p.id, p.first, p.ack, p.frame]) := fun p hp => by
                have := HW.out.four hp (HNOB.out p hp)
                rwa [HV4.out] at this
              clear hk
              by_cases h4 : m - 3 < at' + 4
              · have d3 : decide (((m - 3 : Nat) : Int) - (at' : Int) < 4) = true := decide_eq_true (by omega)
                have HNO : Hid (∀ p, ¬ Pkt.Is b p) := fun p hp => by
                  have := congrArg List.length (HSP.out p hp).1
                  rw [List.length_drop, List.length_append, be32_length] at this
                  omega
                clear h4
                go_wp2_with (refine wpP_put rfl (.tmp 2) (.tmp 94) rfl w.heap.size rfl Pkt.zero none 0 0 rfl U2.out.res rfl ?_; intro w12 ha12 hk12 hs12)
                refine bodyPost_ret (results_P2 (fn := Try.f23) rfl _ _ w.heap.size rfl _ rfl Pkt.zero (.slice none 0 0) ha12) rfl ?_
                exact ⟨.no _ _ _ _ HNO.out, U2.out.bel.trans (hk12.below U2.out.bel.size (fun k hk => by omega))⟩
              · have d3 : decide (((m - 3 : Nat) : Int) - (at' : Int) < 4) = false := decide_eq_false (by omega)
                obtain ⟨y, hy⟩ : ∃ y, y = x.drop at' := ⟨_, rfl⟩
                have HY := hide hy
                have hyl : y.length = m - 3 - at' := by rw [hy, List.length_drop]; omega
                have HYL := hide hyl
                have h4' : at' + 4 ≤ m - 3 := by omega
                clear hy hyl h4
                go_upto_region 22 with fail
                rw [show ((4 : Nat) : Int) = 4 from rfl]
                go_cut [13] (fun s wx => s = .int .i64 0 ∧ wc = wx)
                case first =>
                  go_wp2_with fail
                  go_meet
                  exact ⟨rfl, rfl⟩
                case rest =>
                obtain ⟨rfl, rfl⟩ := hcut
                go_wp2_with fail
                go_loopg [13] 4 (fun g s wz => ∃ k : Nat, k ≤ 4 ∧ g = 4 - k ∧ s = .int .i64 k ∧ Hid (US w wz (Pkt.row ⟨kb.toNat, sb.toNat, db.toNat, l0, l1, [], l2, l3, ((Pkt.val4 y k : Nat) : Int)⟩ (.slice none 0 0)) [l0, l1, l2, l3]))
                case atStart => exact ⟨0, by omega, rfl, rfl, U2⟩
                case round =>
                  obtain ⟨k, hk, rfl, rfl, HU⟩ := hrel
                  by_cases hlt : k < 4
                  · have HLk := LX.out _ HU.out.bel
                    obtain ⟨xb', xo', hxk, e1, -, hcx⟩ := HLk.at_ (k := at' + k) (by omega)
                    injection e1 with e1; injection e1 with e10 e11; subst e10 e11
                    obtain ⟨z, hz⟩ : ∃ z, z = x[at' + k] := ⟨_, rfl⟩
                    rw [← hz] at hcx
                    have HCX : Hid (∀ w', Below w.heap.size w w' → w'.cell? ⟨ab, xo + (at' + k), none⟩ = some (.int .u8 (z.toNat : Int))) := by
                      show ∀ w', _
                      intro w' hb
                      obtain ⟨_, _, _, e1, -, h⟩ := (LX.out _ hb).at_ (k := at' + k) (by omega)
                      injection e1 with e1; injection e1 with e10 e11; subst e10 e11
                      rw [h, hz]
                    obtain ⟨V, hV⟩ : ∃ V, V = Pkt.val4 y k := ⟨_, rfl⟩
                    have hkl : k < y.length := by have := HYL.out; omega
                    have hyk : y[k] = z := by rw [hz]; have := HY.out; subst this; rw [List.getElem_drop]
                    have hV2 := Pkt.val4_lt y k hlt (by omega)
                    have hVs := Pkt.val4_succ y k hkl
                    rw [hyk, ← hV] at hVs
                    rw [← hV] at hV2 HU
                    have hV3 : V < 16777216 := by
                      have : 256 ^ k ≤ 256 ^ 3 := Nat.pow_le_pow_right (by omega) (by omega)
                      omega
                    have HVS : Hid (((V * 256 + z.toNat : Nat) : Int) = ((Pkt.val4 y (k + 1) : Nat) : Int)) := by show _ = _; rw [hVs]
                    have hzt := z.toNat_lt
                    have c8 := HU.out.p.cell (j := 8) (by simp)
                    have f8 := HU.out.p.frozen 8
                    simp only [List.getElem_cons_zero, List.getElem_cons_succ] at c8
                    have w1 : IntKind.u32.wrap ((V : Int) * 256) = (V : Int) * 256 := by rw [IntKind.wrap_u32]; omega
                    have w3 : IntKind.u32.wrap (z.toNat : Int) = (z.toNat : Int) := by rw [IntKind.wrap_u32]; omega
                    have w2 : IntKind.u32.wrap ((V : Int) * 256 + (z.toNat : Int)) = (V : Int) * 256 + (z.toNat : Int) := by rw [IntKind.wrap_u32]; omega
                    have a1 : IntKind.i64.wrap ((at' : Int) + (k : Int)) = (at' : Int) + (k : Int) := by rw [IntKind.wrap_i64]; omega
                    have a2 : (0 : Int) ≤ (at' : Int) + (k : Int) := by omega
                    have a3 : ((at' : Int) + (k : Int)).toNat = at' + k := by omega
                    have a4 : (at' : Int) + (k : Int) < ((m - 3 : Nat) : Int) := by omega
                    have U5 : Hid (US w (wr.drew.setCell ⟨w.heap.size + 1, 8, none⟩ (.int .u32 ((V : Int) * 256 + (z.toNat : Int)))) (Pkt.row ⟨kb.toNat, sb.toNat, db.toNat, l0, l1, [], l2, l3, (V : Int) * 256 + (z.toNat : Int)⟩ (.slice none 0 0)) [l0, l1, l2, l3]) := HU.out.drew.setP 8 _
                    clear hz hV hyk hV2 hVs HLk
                    go_upto_region 25 with fail
                    refine wp_region_noPanic ?_
                    refine wp_region_held_drew (S := (fun w' => w'.cell? ⟨ab, xo + (at' + k), none⟩ = some (.int .u8 (z.toNat : Int)))) (by kernel_rfl) hcx (fun hHeld => ?_)
                    refine tk0 0 ?_
                    refine tk 3 ?_
                    refine tk 4 ?_
                    refine tk 5 ?_
                    refine tk 6 ?_
                    refine tk 7 ?_
                    refine tk 8 ?_
                    refine tk 9 ?_
                    refine rdy 1 fun K hK => ?_
                    go_simp
                    refine hK.out _ _ hcx (fun hHeld => ?_)
                    clear hK K
                    try simp only [Act.put, List.setIfInBounds_toArray, List.set_cons_zero, List.set_cons_succ]
                    refine tk 2 ?_
                    refine tk 10 ?_
                    refine tk 11 ?_
                    refine rdy 12 fun K hK => ?_
                    go_simp
                    refine hK.out _ _ (HCX.out _ U5.out.bel) (fun hHeld => ?_)
                    clear hK K
                    try simp only [Act.put]
                    refine wpAnyH_done (by kernel_rfl) (NoPanic.normal ?_) _
                    clear w1 w2 w3 a1 a2 a3 a4 c8 f8 hcx
                    go_wp2_with fail
                    go_roundg (4 - (k + 1))
                    case measure => omega
                    case rel => exact ⟨k + 1, by omega, rfl, by go_num, by rw [← HVS.out]; exact U5.out⟩
                  · obtain rfl : k = 4 := by omega
                    have hyl4 : 4 ≤ y.length := by have := HYL.out; omega
                    obtain ⟨S, hS⟩ : ∃ S, S = Pkt.get4 y := ⟨_, rfl⟩
                    rw [Pkt.val4_four y hyl4, ← hS] at HU
                    have HSS := hide hS
                    have HSR := hide (Pkt.get4_range y)
                    rw [← hS] at HSR
                    clear hS hyl4
                    have HL := hide ((LX.out _ HU.out.bel).cut (k := at' + 4) (cap := c - 3) (by omega))
                    obtain ⟨⟨v, q, e⟩, hg⟩ : ∃ Y, Var.get 0 0 (x.drop (at' + 4)) = Y := ⟨_, rfl⟩
                    have HG := hide hg
                    clear hg
                    have hatc : at' + 4 ≤ c - 3 := by omega
                    have SP2 : Hid (∀ p, Pkt.Is b p → x.drop (at' + 4) = Var.put (Var.zig (p.press.length : Int)) ++ Runs.enc 0 p.press ∧ p.press.length ≤ 32 ∧ p.sum = S) := by
                      show ∀ p, _
                      intro p hp
                      have h1 := (HSP.out p hp).1
                      have hw := hp.2.1
                      have h2 := HSS.out
                      rw [HY.out, h1, Pkt.get4_be32 hw.1 hw.2] at h2
                      refine ⟨?_, ?_, h2.symm⟩
                      · rw [← List.drop_drop, h1, List.drop_append, List.drop_eq_nil_of_le (by rw [be32_length]; omega), be32_length]; rfl
                      · rcases (Pkt.may_iff.1 hp.1).kind with ⟨-, -, -, -, h⟩ | ⟨-, -, -, -, h, -⟩
                        · exact h
                        · rw [h]; simp
                    have SP3 : Hid (∀ p, Pkt.Is b p → v = p.press.length ∧ q = (Var.put (Var.zig (p.press.length : Int))).length ∧ e = 0 ∧ p.press.length ≤ 32) := by
                      show ∀ p, _
                      intro p hp
                      obtain ⟨h1, h2, -⟩ := SP2.out p hp
                      have h3 := HG.out
                      rw [h1, Var.get_put0 _ _ (Var.zig_lt _ (by omega) (by omega)), Var.unzig_zig] at h3
                      simp only [Prod.mk.injEq] at h3
                      exact ⟨h3.1.symm, h3.2.1.symm, h3.2.2.symm, h2⟩
                    go_wp2_with fail
                    refine Calls.mono (ref_Get _ _ _ _ _ _ HL.out (by omega) v q e HG.out) ?_
                    rintro e' w2 ⟨rfl, rfl⟩
                    by_cases he : e = 0
                    · subst he
                      by_cases hv : v < 0
                      · have HNO : Hid (∀ p, ¬ Pkt.Is b p) := fun p hp => by have := (SP3.out p hp).1; omega
                        have d4 : decide (v < 0) = true := decide_eq_true hv
                        clear hv
                        go_wp2_with (refine wpP_put rfl (.tmp 2) (.tmp 131) rfl w.heap.size rfl Pkt.zero none 0 0 rfl HU.out.res rfl ?_; intro w12 ha12 hk12 hs12)
                        refine bodyPost_ret (results_P2 (fn := Try.f23) rfl _ _ w.heap.size rfl _ rfl Pkt.zero (.slice none 0 0) ha12) rfl ?_
                        exact ⟨.no _ _ _ _ HNO.out, HU.out.bel.trans (hk12.below HU.out.bel.size (fun k hk => by omega))⟩
                      · have d4 : decide (v < 0) = false := decide_eq_false hv
                        by_cases hv2 : 32 < v
                        · have HNO : Hid (∀ p, ¬ Pkt.Is b p) := fun p hp => by have := SP3.out p hp; omega
                          have d5 : decide (32 < v) = true := decide_eq_true hv2
                          clear hv hv2
                          go_wp2_with (refine wpP_put rfl (.tmp 2) (.tmp 131) rfl w.heap.size rfl Pkt.zero none 0 0 rfl HU.out.res rfl ?_; intro w12 ha12 hk12 hs12)
                          refine bodyPost_ret (results_P2 (fn := Try.f23) rfl _ _ w.heap.size rfl _ rfl Pkt.zero (.slice none 0 0) ha12) rfl ?_
                          exact ⟨.no _ _ _ _ HNO.out, HU.out.bel.trans (hk12.below HU.out.bel.size (fun k hk => by omega))⟩
                        · have d5 : decide (32 < v) = false := decide_eq_false hv2
                          have hq : at' + 4 + q ≤ m - 3 := by have := (Var.get_back0 HG.out).2; rw [List.length_drop] at this; omega
                          have hqc : at' + 4 + q ≤ c - 3 := by omega
                          have HL2 := hide ((LX.out _ HU.out.bel).cut (k := at' + 4 + q) (cap := c - 3) (by omega))
                          obtain ⟨⟨y2, f⟩, hR⟩ : ∃ Y, Runs.dec 32 true 0 [] (x.drop (at' + 4 + q)) = Y := ⟨_, rfl⟩
                          have HR := hide hR
                          clear hR hv hv2
                          have SP4 : Hid (∀ p, Pkt.Is b p → y2 = p.press ∧ f = 0) := by
                            show ∀ p, _
                            intro p hp
                            obtain ⟨h1, h2, -⟩ := SP2.out p hp
                            have h3 := HR.out
                            rw [← List.drop_drop, h1, (SP3.out p hp).2.1, List.drop_left, Runs.dec_enc0 _ _ (by omega), if_pos h2] at h3
                            simp only [Prod.mk.injEq] at h3
                            exact ⟨h3.1.symm, h3.2.symm⟩
                          go_wp2_with fail
                          refine Calls.mono (ref_Unruns _ _ _ _ _ 32 32 _ HL2.out (by omega) (Nat.le_trans HBB.out HU.out.bel.size) (by omega) (by omega) (by omega) (by decide) (y2, f) HR.out (.inl (by omega))) ?_
                          rintro e' w3 ⟨A3, n3, c3, rfl, own3, hb3⟩
                          have U3 := hide (HU.out.below hb3)
                          have O3 := hide own3
                          have HB3 := hide hb3
                          clear own3 hb3
                          by_cases hf : f = 0
                          · subst hf
                            have c5 := U3.out.p.cell (j := 5) (by simp)
                            have f5 := U3.out.p.frozen 5
                            simp only [List.getElem_cons_zero, List.getElem_cons_succ] at c5
                            go_wp2_with fail
                            go_meet
                            refine ⟨⟨kb.toNat, sb.toNat, db.toNat, l0, l1, y2, l2, l3, S⟩, A3, n3, c3, _, U3.out.setP 5 (.slice A3 n3 c3), (O3.out.keeps (Keeps.setCell w3 ⟨w.heap.size + 1, 5, none⟩ (.slice A3 n3 c3)) (fun k hk => ?_)).lies, ?_, ⟨HSR.out.1, HSR.out.2⟩, ?_, ?_⟩
                            · have h1 := (O3.out.blk k hk).1
                              have h2 := HU.out.p.lt
                              show ¬ k = w.heap.size + 1
                              omega
                            · have h1 := (Runs.dec_back0 HR.out rfl).2
                              have h2 := O3.out.len
                              omega
                            · intro b' off' e1 e2
                              have h1 : 0 < n3 := by rcases Nat.eq_zero_or_pos n3 with h | h; · have := O3.out.len; rw [h] at this; exact absurd (List.eq_nil_of_length_eq_zero this) e2
                                                     · exact h
                              obtain ⟨g, hg, hg2, -⟩ := O3.out.form h1
                              rw [e1] at hg
                              injection hg with hg
                              injection hg with hg
                              have h2 := HU.out.res.lt
                              omega
                            · intro p hp
                              obtain ⟨-, k1, k2, k3⟩ := HNF.out p hp
                              have h1 := (HSP.out p hp).2
                              have h2 := (SP2.out p hp).2.2
                              have h3 := (SP4.out p hp).1
                              cases p
                              simp only [List.cons.injEq, Pkt.mk.injEq] at *
                              exact ⟨k1, k2, k3, h1.1.symm, h1.2.1.symm, h3.symm, h1.2.2.1.symm, h1.2.2.2.1.symm, h2⟩
                          · have HNO : Hid (∀ p, ¬ Pkt.Is b p) := fun p hp => hf (SP4.out p hp).2
                            have d6 : (f != 0) = true := by simp [hf]
                            clear hf
                            go_wp2_with (refine wpP_put rfl (.tmp 2) (.tmp 143) rfl w.heap.size rfl Pkt.zero none 0 0 rfl U3.out.res rfl ?_; intro w12 ha12 hk12 hs12)
                            refine bodyPost_ret (results_P2 (fn := Try.f23) rfl _ _ w.heap.size rfl _ rfl Pkt.zero (.slice none 0 0) ha12) rfl ?_
                            exact ⟨.no _ _ _ _ HNO.out, U3.out.bel.trans (hk12.below U3.out.bel.size (fun k hk => by omega))⟩
                    · have HNO : Hid (∀ p, ¬ Pkt.Is b p) := fun p hp => he (SP3.out p hp).2.2.1
                      have d4 : (e != 0) = true := by simp [he]
                      clear he
                      go_wp2_with (refine wpP_put rfl (.tmp 2) (.tmp 131) rfl w.heap.size rfl Pkt.zero none 0 0 rfl HU.out.res rfl ?_; intro w12 ha12 hk12 hs12)
                      refine bodyPost_ret (results_P2 (fn := Try.f23) rfl _ _ w.heap.size rfl _ rfl Pkt.zero (.slice none 0 0) ha12) rfl ?_
                      exact ⟨.no _ _ _ _ HNO.out, HU.out.bel.trans (hk12.below HU.out.bel.size (fun k hk => by omega))⟩
            · have d2 : ((kb.toNat : Int) == 1) = false := by simp [hk]
              obtain rfl : i = 1 := by have := HN.out; rw [if_neg hk] at this; exact this
              have HV1 : Hid (vs = [l0] ∧ l1 = 0 ∧ l2 = 0 ∧ l3 = 0) := by
                have := HL4.out
                have h1 := HVL.out
                match vs, h1 with
                | [v], _ =>
                  simp only [List.singleton_append, List.replicate_succ, List.replicate_zero, List.cons.injEq] at this
                  obtain ⟨rfl, rfl, rfl, rfl, -⟩ := this
                  exact ⟨rfl, rfl, rfl, rfl⟩
              have HQ : Hid (∀ p, Pkt.Is b p → p = ⟨kb.toNat, sb.toNat, db.toNat, l0, l1, [], l2, l3, 0⟩) := by
                show ∀ p, _
                intro p hp
                obtain ⟨-, k1, k2, k3⟩ := HNF.out p hp
                obtain ⟨e1, rfl, rfl, rfl⟩ := HV1.out
                have hw := HW.out
                rw [e1] at hw
                have hid := hw.one hp
                rcases (Pkt.may_iff.1 hp.1).kind with ⟨h, -⟩ | ⟨h, a1, a2, a3, a4, a5⟩
                · omega
                · cases p
                  simp only [Pkt.mk.injEq] at *
                  exact ⟨k1, k2, k3, hid, a1, a4, a2, a3, a5⟩
              clear hk
              go_wp2_with fail
              go_meet
              exact ⟨_, _, _, _, _, U2.out, LiesB.nil _ _ _, by omega, ⟨by show (0 : Int) ≤ 0; decide, by show (0 : Int) < 4294967296; decide⟩, (fun b off h => by cases h), HQ.out⟩
          case rest =>
          obtain ⟨q, Aq, nq, cq, L, hU, hl, hn32, hwf, hap, hq⟩ := hcut.out
          have HAP := hide hap
          have HU := hide hU
          have HLQ := hide hl
          have HWF := hide hwf
          have HQ := hide hq
          have HLB := hide (LA.out.below (hU.bel.mono HBB.out))
          obtain ⟨r, hr⟩ : ∃ r, (q.enc == b) = r := ⟨_, rfl⟩
          have HR := hide hr
          clear hcut hU hl hwf hq hap U2 k0 HW HNF HN HL4 HVL U0 HX LX hxl HW0
          go_upto_region 34 with fail
          refine wp_region_noPanic ?_
          refine wp_region_held_drew (S := (fun w' => WholeP (w.heap.size + 1) (q.val (.slice Aq nq cq)) w' ∧ Reads (some ⟨ab, ao, none⟩) (m + 4) c b w')) (by kernel_rfl) ⟨HU.out.p.drew.wholeP, run_stringB HLB.out.drew⟩ (fun hHeld => ?_)
          refine tk0 0 (v := q.val (.slice Aq nq cq)) (hy := by refine Or.inl ⟨by rfl, ?_⟩; intro w hSw; (try dsimp only at hSw); exact exec_wholeP (x := .tmp 5) hSw.1 rfl rfl) ?_
          refine tk 1 (v := q.val (.slice Aq nq cq)) (hy := by refine Or.inl ⟨by rfl, ?_⟩; intro w hSw; (try dsimp only at hSw); exact exec_wholeP (x := .tmp 5) hSw.1 rfl rfl) ?_
          refine tk 4 ?_
          refine tk 5 (hy := by refine Or.inl ⟨by rfl, ?_⟩; intro w hSw; (try dsimp only at hSw); have q1 := hSw.2; unfold Reads at q1; go_simp <;> with_reducible rfl) ?_
          refine rdy 2 fun K hK => ?_
          go_simp
          refine Calls.mono (ref_Packet q HLQ.out.drew (Nat.le_refl _) (by omega) HWF.out) ?_
          rintro e w9 ⟨A9, n9, c9, rfl, own9, hb9⟩
          have U9 := HU.out.drew.below hb9
          have L9 := HLB.out.drew.below (hb9.mono (Nat.le_trans HBB.out HU.out.bel.size))
          have LQ9 := (HLQ.out.drew.below hb9).more hb9.size
          refine hK.out _ _ ⟨U9.p.wholeP, run_stringB L9⟩ (fun hHeld => ?_)
          clear hK K
          try simp only [Act.put, List.setIfInBounds_toArray, List.set_cons_zero, List.set_cons_succ]
          refine wpAnyH_mono (S' := (fun w' => Reads A9 n9 c9 q.enc w' ∧ (fun w' => WholeP (w.heap.size + 1) (q.val (.slice Aq nq cq)) w' ∧ Reads (some ⟨ab, ao, none⟩) (m + 4) c b w') w')) (fun _ h => h.2) _ _ _ _ ?_
          have hHeld2 := (⟨run_stringB own9.lies, U9.p.wholeP, run_stringB L9⟩ : (fun w' => Reads A9 n9 c9 q.enc w' ∧ (fun w' => WholeP (w.heap.size + 1) (q.val (.slice Aq nq cq)) w' ∧ Reads (some ⟨ab, ao, none⟩) (m + 4) c b w') w') w9)
          refine tk 3 (hy := by refine Or.inl ⟨by rfl, ?_⟩; intro w hSw; (try dsimp only at hSw); have q1 := hSw.1; unfold Reads at q1; go_simp <;> with_reducible rfl) ?_
          refine tk 6 ?_
          refine rdy 7 fun K hK => ?_
          (refine step_putP rfl (.tmp 2) (.tmp 146) rfl w.heap.size rfl q Aq nq cq rfl U9.res rfl ?_; intro w10 ha10 hk10 hs10)
          have L10 := L9.keeps hk10 (by intro b' off' e1 _; injection e1 with e1; injection e1 with e10 e11; have := HBB.out; omega)
          have O10 := own9.keeps hk10 (by intro k hk h; have h1 := (own9.blk k hk).1; have h2 := HU.out.p.drew.lt; omega)
          have P10 := U9.p.keeps hk10 (by omega)
          refine hK.out _ _ ⟨run_stringB O10.lies, P10.wholeP, run_stringB L10⟩ (fun hHeld => ?_)
          clear hK K
          try simp only [Act.put]
          refine tk 8 ?_
          refine wpAnyH_done (by kernel_rfl) (NoPanic.normal ?_) _
          have LQ10 := LQ9.keeps hk10 HAP.out
          rw [← hs10] at LQ10
          go_wp2_with fail
          refine bodyPost_ret (results_P2 (fn := Try.f23) rfl _ _ w.heap.size rfl (.bool r) rfl q (.slice Aq nq cq) ha10) rfl ?_
          refine ⟨?_, U9.bel.trans (hk10.below U9.bel.size (fun k hk => by omega))⟩
          cases r
          · refine .no q Aq nq cq fun p hp => ?_
            obtain rfl := HQ.out p hp
            have := HR.out
            rw [← Pkt.is_enc hp] at this
            simp at this
          · refine .yes q Aq nq cq ?_ LQ10
            have he : q.enc = b := eq_of_beq HR.out
            have hm : q.may = true := by
              cases h : q.may
              · have h1 := Pkt.enc_nil_iff.2 h
                rw [he] at h1
                rw [h1] at hl0; simp at hl0
              · rfl
            have := Pkt.enc_is hm HWF.out
            rwa [he] at this
end Go.Proofs.Ytbcgffgiifminaa
namespace Go.Proofs.Ytbcgffgiifminaa
open Go.RowKit
set_option maxRecDepth 10000
set_option linter.unusedVariables false
def Pkt.one : Pkt := ⟨1, 1, 0, 9, 3, [4, 4], 5, 2, 77⟩
theorem Pkt.one_may : Pkt.one.may = true := by decide
theorem Pkt.zero_may : Pkt.zero.may = false := by decide
theorem Pkt.one_wf : Pkt.one.WF := ⟨by decide, by decide⟩
theorem Pkt.one_enc : ∃ t, Pkt.one.enc = 1 :: 1 :: 0 :: 18 :: t ∧ 5 ≤ t.length := by
  have hp : Var.put (Var.zig 9) = [18] := by rw [show Var.zig 9 = 18 from by decide, Var.put_small (by omega)]; rfl
  rw [Pkt.enc, if_pos Pkt.one_may, Pkt.sealB, Pkt.body, Pkt.tail, if_pos (by rfl)]
  show ∃ t, (Pkt.byte 1 :: Pkt.byte 1 :: Pkt.byte 0 :: (Var.put (Var.zig 9) ++ _)) ++ _ = _ ∧ _
  rw [hp]
  refine ⟨_, rfl, ?_⟩
  have : 1 ≤ (Var.put (Var.zig 3)).length := by
    cases e : Var.put (Var.zig 3) with
    | nil => exact absurd e (Var.put_ne _)
    | cons => simp
  show 5 ≤ ((Var.put (Var.zig 3) ++ _) ++ be32 _).length
  rw [List.length_append, List.length_append, be32_length]
  omega
theorem Pkt.one_cut : ∀ p, ¬ Pkt.Is (Pkt.one.enc.drop 1) p := by
  intro p hp
  obtain ⟨t, ht, -⟩ := Pkt.one_enc
  rw [ht] at hp
  obtain ⟨-, k, s, d, t', e, -, -, d1, -⟩ := Pkt.is_head hp
  simp only [List.drop_succ_cons, List.drop_zero, List.cons.injEq] at e
  obtain ⟨-, -, rfl, -⟩ := e
  have := (Pkt.may_iff.1 hp.1).dst
  have h18 : ((18 : UInt8).toNat : Int) = 18 := rfl
  omega
end Go.Proofs.Ytbcgffgiifminaa
namespace Go.Proofs.Ytbcgffgiifminaa
open Go.RowKit
set_option maxRecDepth 10000
set_option linter.unusedVariables false
theorem ref_Unpacket_yes (p : Pkt) {A : Option Addr} {n c B : Nat} {b : List UInt8} {w : World} (h : Pkt.Is b p) (hA : LiesB w B A n b) (hB : B ≤ w.heap.size) (hnc : n ≤ c) (hn : n ≤ 1000000) :
    Calls Try.prog 23 #[.slice A n c] w fun e w' => ∃ A' n' c', e = .returned (.tuple #[p.val (.slice A' n' c'), .bool true]) ∧ LiesB w' w'.heap.size A' n' p.press ∧ Below w.heap.size w w' := by
  refine (ref_Unpacket hA hB hnc hn).mono ?_
  rintro e w' ⟨hs, hb⟩
  cases hs with
  | yes q A n c h2 hl => obtain rfl := Pkt.is_inj h h2; exact ⟨A, n, c, rfl, hl, hb⟩
  | no q A n c h2 => exact absurd h (h2 p)
theorem ref_Unpacket_no {A : Option Addr} {n c B : Nat} {b : List UInt8} {w : World} (h : ∀ p, ¬ Pkt.Is b p) (hA : LiesB w B A n b) (hB : B ≤ w.heap.size) (hnc : n ≤ c) (hn : n ≤ 1000000) :
    Calls Try.prog 23 #[.slice A n c] w fun e w' => ∃ (q : Pkt) (A' : Option Addr) (n' c' : Nat), e = .returned (.tuple #[q.val (.slice A' n' c'), .bool false]) ∧ Below w.heap.size w w' := by
  refine (ref_Unpacket hA hB hnc hn).mono ?_
  rintro e w' ⟨hs, hb⟩
  cases hs with
  | yes q A n c h2 hl => exact absurd h2 (h q)
  | no q A n c h2 => exact ⟨q, A, n, c, rfl, hb⟩
end Go.Proofs.Ytbcgffgiifminaa
namespace Go.Proofs.Ytbcgffgiifminaa
open Go.ChangeShapes Go.WideShapes Go.ChangeAt Go.RowKit
set_option maxRecDepth 10000

theorem own_knob : ownKnob Try.prog.godebug = none := by kernel_rfl
theorem laid_out : laidOutB Try.prog = true := by kernel_rfl

/-- Numbers of kind k: the slice of address A and length n holds the numbers l. -/
def LiesI (k : IntKind) (w : World) (B : Nat) (A : Option Addr) (n : Nat) (l : List Int) : Prop :=
  l.length = n ∧ Lies w B A (l.map (Value.int k)) ∧ ∀ x ∈ l, (Lit.int k x).wf = true

section
variable {w w' : World} {B B' n : Nat} {A : Option Addr} {l : List Int} {k : IntKind}
theorem LiesI.below (h : LiesI k w B A n l) (hb : Below B w w') : LiesI k w' B A n l := ⟨h.1, h.2.1.below hb, h.2.2⟩
theorem LiesI.at_ (h : LiesI k w B A n l) {j : Nat} (hj : j < n) :
    ∃ (b off : Nat) (hl : j < l.length), A = some ⟨b, off, none⟩ ∧ b < B ∧ w.cell? ⟨b, off + j, none⟩ = some (.int k l[j]) := by
  have hl : j < l.length := by rw [h.1]; exact hj
  obtain ⟨b, off, e, hb, hc⟩ := h.2.1 (by intro h0; have := congrArg List.length h0; simp at this; subst this; simp at hl)
  exact ⟨b, off, hl, e, hb, hc j _ (by simp [List.getElem?_map, List.getElem?_eq_getElem hl])⟩
end

theorem LiesI.of_row {k : IntKind} {w : World} {x : Addr} {len cap : Nat} {zs : List Int} (hl : len ≤ cap) (hz : zs.length = cap)
    (hcell : ∀ i, i < zs.length → w.cell? (x.add i) = some (.int k (zs.getD i 0))) (hwz : ∀ n ∈ zs, (Lit.int k n).wf = true) :
    LiesI k w w.heap.size (some x) len (zs.take len) := by
  refine ⟨by rw [List.length_take]; omega, fun hne => ?_, fun y hy => hwz y (List.mem_of_mem_take hy)⟩
  have hpos : 0 < len := by
    rcases Nat.eq_zero_or_pos len with h0 | h0
    · subst h0; simp at hne
    · exact h0
  have h0 := hcell 0 (by omega)
  obtain ⟨b, off, spot⟩ := x
  have hs : spot = none := by simpa [Addr.add] using World.cell?_spot h0
  subst hs
  have hadd : ∀ j, (⟨b, off, none⟩ : Addr).add j = ⟨b, off + j, none⟩ := fun j => by unfold Addr.add; split <;> simp_all
  refine ⟨b, off, rfl, by have := World.block_lt_of_cell? w _ h0; simpa [hadd] using this, fun j u hu => ?_⟩
  rw [List.getElem?_map] at hu
  cases hj : (zs.take len)[j]? with
  | none => rw [hj] at hu; cases hu
  | some z =>
    rw [hj] at hu
    simp only [Option.map_some, Option.some.injEq] at hu
    subst hu
    rw [List.getElem?_take] at hj
    split at hj
    · rw [← hadd, hcell j (by omega), List.getD_eq_getElem?_getD, hj]; rfl
    · cases hj

theorem LiesB.of_ints {w : World} {B n : Nat} {A : Option Addr} {l : List Int} (h : LiesI .u8 w B A n l) : LiesB w B A n (l.map fun z => UInt8.ofNat z.toNat) := by
  refine ⟨by rw [List.length_map]; exact h.1, ?_⟩
  have e : (l.map fun z => UInt8.ofNat z.toNat).map bv = l.map (Value.int .u8) := by
    rw [List.map_map]
    refine List.map_congr_left fun z hz => ?_
    have hb := Go.bounds_u8 (h.2.2 z hz)
    simp only [Function.comp, bv, Value.int.injEq, true_and]
    rw [UInt8.toNat_ofNat_of_lt' (by show z.toNat < 256; omega)]
    omega
  rw [e]; exact h.2.1

section
variable {H : Type} {enc : TypeId × Value → H}
theorem open_numbers {t e : TypeId} {k : IntKind} {w : World} {fuel : Nat} {A : Option Addr} {n c : Nat} {x : DataW H × List MemPlace}
    (ht : Try.prog.underlying t = some (.slice e)) (he : Try.prog.underlying e = some (.int k)) (hc : Try.prog.cellsOf e = 1)
    (h : DataW.trod enc Try.prog w 0 (fun _ => true) true fuel t [.slice A n c] = some x) :
    ∃ l, LiesI k w w.heap.size A n l ∧ n ≤ c ∧ c ≤ maxLen := by
  rcases open_ints ht he hc h with ⟨hcs, _⟩ | ⟨a, l, c', zs, hcs, _, hl, hm, hz, _, hcell, hwz⟩
  · simp at hcs
    obtain ⟨rfl, rfl, rfl⟩ := hcs
    exact ⟨[], ⟨rfl, Lies.nil _ _ _, by simp⟩, Nat.le_refl _, by simp [maxLen]⟩
  · simp at hcs
    obtain ⟨rfl, rfl, rfl⟩ := hcs
    exact ⟨zs.take n, LiesI.of_row hl (by simpa using hz) hcell hwz, hl, hm⟩
theorem open_bytes {w : World} {fuel : Nat} {A : Option Addr} {n c : Nat} {x : DataW H × List MemPlace}
    (h : DataW.trod enc Try.prog w 0 (fun _ => true) true fuel 34 [.slice A n c] = some x) :
    ∃ l, LiesB w w.heap.size A n l ∧ n ≤ c ∧ c ≤ maxLen := by
  obtain ⟨l, hl, h2⟩ := open_numbers Try.underlying34 Try.underlying5 (by kernel_rfl) h
  exact ⟨_, LiesB.of_ints hl, h2⟩
end
end Go.Proofs.Ytbcgffgiifminaa
namespace Go.Proofs.Ytbcgffgiifminaa
open Go.ChangeShapes Go.WideShapes Go.ChangeAt Go.RowKit Go.Deep
set_option maxRecDepth 10000
set_option linter.unusedVariables false
/-- Of 64 bits. -/
def Is64 (x : Int) : Prop := -9223372036854775808 ≤ x ∧ x ≤ 9223372036854775807
structure Pkt.Ints (p : Pkt) : Prop where
  kind : Is64 p.kind
  src : Is64 p.src
  dst : Is64 p.dst
  id : Is64 p.id
  first : Is64 p.first
  ack : Is64 p.ack
  frame : Is64 p.frame
set_option maxHeartbeats 1000000 in
set_option maxRecDepth 10000 in
theorem open_packet {H : Type} {enc : TypeId × Value → H} {w : World} {r : Reach} {b0 : Nat} {v : Value} {d : DataW H} {ps : List MemPlace}
    (hv : Value.okWide Try.prog w r b0 41 v) (h : DataW.Trod enc Try.prog w 0 (fun _ => true) true 41 v d ps) :
    ∃ (q : Pkt) (A : Option Addr) (n c : Nat), v = q.val (.slice A n c) ∧ LiesB w w.heap.size A n q.press ∧ n ≤ c ∧ c ≤ maxLen ∧ q.WF ∧ q.Ints := by
  have hs := Try.underlying41
  obtain ⟨cs, rfl, hsz⟩ := okWide_struct hs hv
  have hC : Try.prog.cellsOf 41 = 9 := by kernel_rfl
  obtain ⟨l⟩ := cs
  match l, hsz.trans hC with
  | [c0, c1, c2, c3, c4, c5, c6, c7, c8], _ =>
    obtain ⟨fuel, hf⟩ := h
    obtain ⟨xs, n, _, hx, _, hlen, hg⟩ := DataW.trod_struct hs hf
    have hone := hone_of (P := Try.prog) (fs := (match Try.prog.underlying 41 with | some (.struct fs) => fs | _ => #[])) (by kernel_rfl)
    rw [hs] at hone
    match xs, hlen with
    | [y0, y1, y2, y3, y4, y5, y6, y7, y8], _ =>
      obtain ⟨o0, k0⟩ := hone 0 _ rfl
      obtain ⟨o1, k1⟩ := hone 1 _ rfl
      obtain ⟨o2, k2⟩ := hone 2 _ rfl
      obtain ⟨o3, k3⟩ := hone 3 _ rfl
      obtain ⟨o4, k4⟩ := hone 4 _ rfl
      obtain ⟨o5, k5⟩ := hone 5 _ rfl
      obtain ⟨o6, k6⟩ := hone 6 _ rfl
      obtain ⟨o7, k7⟩ := hone 7 _ rfl
      obtain ⟨o8, k8⟩ := hone 8 _ rfl
      have g0 := hg 0 _ rfl
      have g1 := hg 1 _ rfl
      have g2 := hg 2 _ rfl
      have g3 := hg 3 _ rfl
      have g4 := hg 4 _ rfl
      have g5 := hg 5 _ rfl
      have g6 := hg 6 _ rfl
      have g7 := hg 7 _ rfl
      have g8 := hg 8 _ rfl
      rw [o0, k0] at g0
      rw [o1, k1] at g1
      rw [o2, k2] at g2
      rw [o3, k3] at g3
      rw [o4, k4] at g4
      rw [o5, k5] at g5
      rw [o6, k6] at g6
      rw [o7, k7] at g7
      rw [o8, k8] at g8
      obtain ⟨a0, e0, -, w0⟩ := DataW.trod_int Try.underlying3 g0
      obtain ⟨a1, e1, -, w1⟩ := DataW.trod_int Try.underlying3 g1
      obtain ⟨a2, e2, -, w2⟩ := DataW.trod_int Try.underlying3 g2
      obtain ⟨a3, e3, -, w3⟩ := DataW.trod_int Try.underlying2 g3
      obtain ⟨a4, e4, -, w4⟩ := DataW.trod_int Try.underlying3 g4
      obtain ⟨a6, e6, -, w6⟩ := DataW.trod_int Try.underlying3 g6
      obtain ⟨a7, e7, -, w7⟩ := DataW.trod_int Try.underlying3 g7
      obtain ⟨a8, e8, -, w8⟩ := DataW.trod_int Try.underlying39 g8
      simp only [Value.cells, List.drop_zero, List.drop_succ_cons, List.take_succ_cons, List.take_zero, List.cons.injEq, and_true] at e0 e1 e2 e3 e4 e6 e7 e8
      subst e0 e1 e2 e3 e4 e6 e7 e8
      have hsl : ∃ A n c, c5 = .slice A n c := by
        rcases open_slice Try.underlying34 g5 with ⟨h0, _⟩ | ⟨a, len, cap, m, n', D, Pl, hcs, _⟩
        · simp only [Value.cells, List.drop_zero, List.drop_succ_cons, List.take_succ_cons, List.take_zero, List.cons.injEq, and_true] at h0
          exact ⟨_, _, _, h0⟩
        · simp only [Value.cells, List.drop_zero, List.drop_succ_cons, List.take_succ_cons, List.take_zero, List.cons.injEq, and_true] at hcs
          exact ⟨_, _, _, hcs⟩
      obtain ⟨A, m, c, rfl⟩ := hsl
      obtain ⟨bs, hL, hnc, hcm⟩ := open_bytes (A := A) (n := m) (c := c) (x := y5) g5
      have q0 := bounds_i64 w0
      have q1 := bounds_i64 w1
      have q2 := bounds_i64 w2
      have q3 := bounds_i64 w3
      have q4 := bounds_i64 w4
      have q6 := bounds_i64 w6
      have q7 := bounds_i64 w7
      have q8 := bounds_u32 w8
      exact ⟨⟨a0, a1, a2, a3, a4, bs, a6, a7, a8⟩, A, m, c, rfl, hL, hnc, hcm, ⟨q8.1, by show a8 < 4294967296; omega⟩, ⟨q0, q1, q2, q3, q4, q6, q7⟩⟩
end Go.Proofs.Ytbcgffgiifminaa
namespace Go.Proofs.Ytbcgffgiifminaa
open Go.RowKit
set_option maxRecDepth 10000
set_option linter.unusedVariables false
theorem elem_rline : Elem 118 122 (.agg #[.slice none 0 0]) 24 := ⟨Try.underlying118, by kernel_rfl, rfl⟩
/-- A slice: where, how long, with how much room. -/
abbrev Sl := Option Addr × Nat × Nat
@[reducible] def sv (x : Sl) : Value := .slice x.1 x.2.1 x.2.2
theorem sv_one (ss : List Sl) : ∀ u ∈ ss.map sv, u.oneCell' = true := by
  intro u hu
  obtain ⟨c, _, rfl⟩ := List.mem_map.1 hu
  rfl
/-- Block g holds lines (their blocks from B on). -/
structure RL (B : Nat) (w : World) (g n c : Nat) (ss : List Sl) (ls : List (List UInt8)) : Prop where
  row : OwnV 122 w B (some ⟨g, 0, none⟩) n c (ss.map sv)
  len : ls.length = n
  line : ∀ (i : Nat) (h : i < ss.length), OwnB w B ss[i].1 ss[i].2.1 ss[i].2.2 (ls.getD i [])
  apart : ∀ (i j : Nat) (hi : i < ss.length) (hj : j < ss.length), i ≠ j → ∀ k, (sv ss[i]).ownBlock = some k → (sv ss[j]).ownBlock ≠ some k
  short : ∀ i, (ls.getD i []).length ≤ 1000
/-- The blocks of one line. -/
def rlBlocks (g : Nat) (x : Sl) (k : Nat) : Prop := k = g ∨ some k = (sv x).ownBlock
section
variable {B : Nat} {w w' : World} {g n c : Nat} {ss : List Sl} {ls : List (List UInt8)}
theorem RL.slen (h : RL B w g n c ss ls) : ss.length = n := by have := h.row.len; rwa [List.length_map] at this
theorem RL.below (h : RL B w g n c ss ls) (hb : Below w.heap.size w w') : RL B w' g n c ss ls := ⟨h.row.below hb, h.len, fun i hi => (h.line i hi).below hb, h.apart, h.short⟩
theorem RL.drew (h : RL B w g n c ss ls) : RL B w.drew g n c ss ls := h.below ⟨rfl, rfl, rfl, Nat.le_refl _, fun _ _ => rfl⟩
theorem RL.gblk (h : RL B w g n c ss ls) (hn : 0 < n) : B ≤ g ∧ g < w.heap.size := by
  obtain ⟨g', e, h1, h2⟩ := h.row.form hn
  injection e with e; injection e with e
  subst e
  exact ⟨h1, h2⟩
theorem RL.keeps {S : Nat → Prop} (h : RL B w g n c ss ls) (hk : Keeps S w w') (h1 : ¬ S g) (h2 : ∀ (i : Nat) (hi : i < ss.length) k, some k = (sv ss[i]).ownBlock → ¬ S k) : RL B w' g n c ss ls :=
  ⟨h.row.keeps hk (fun k hk' => by
      have : k = g := by simpa [Value.ownBlock] using hk'
      subst this; exact h1), h.len, fun i hi => (h.line i hi).keeps hk (h2 i hi), h.apart, h.short⟩
theorem RL.cell (h : RL B w g n c ss ls) (i : Nat) (hi : i < n) : ∃ hs : i < ss.length, w.cell? ⟨g, i, none⟩ = some (.slice ss[i].1 ss[i].2.1 ss[i].2.2) ∧ w.frozen? ⟨g, i, none⟩ = false ∧ (ls.getD i []).length = ss[i].2.1 := by
  have hs : i < ss.length := by rw [h.slen]; exact hi
  obtain ⟨hl, hc⟩ := h.row.cell (j := i) hi
  refine ⟨hs, ?_, h.row.frozen i, (h.line i hs).len⟩
  rw [hc, List.getElem_map]
theorem RL.ne_g (h : RL B w g n c ss ls) (hn : 0 < n) (i : Nat) (hi : i < ss.length) : ∀ k, some k = (sv ss[i]).ownBlock → k ≠ g := by
  intro k hk e
  subst e
  exact h.row.apart (OwnV.of_B (h.line i hi)) (by decide) k (by rfl) hk
/-- One line is another one. -/
theorem RL.put (h : RL B w g n c ss ls) (i : Nat) (hi : i < n) {x : Sl} {l : List UInt8} (hr : OwnV 122 w' B (some ⟨g, 0, none⟩) n c ((ss.map sv).set i (sv x))) (ho : OwnB w' B x.1 x.2.1 x.2.2 l) (hs : i < ss.length)
    (hk : Keeps (rlBlocks g ss[i]) w w') (hx : (sv x).ownBlock = (sv ss[i]).ownBlock ∨ ∃ k, (sv x).ownBlock = some k ∧ w.heap.size ≤ k) (hl : l.length ≤ 1000) : RL B w' g n c (ss.set i x) (ls.set i l) := by
  have hls : i < ls.length := by rw [h.len]; exact hi
  have hg : ∀ j, (ls.set i l).getD j [] = if i = j then l else ls.getD j [] := by
    intro j
    by_cases e : i = j
    · subst e; rw [if_pos rfl, List.getD_eq_getElem?_getD, List.getElem?_set_self hls]; rfl
    · rw [if_neg e, List.getD_eq_getElem?_getD, List.getElem?_set_ne e, ← List.getD_eq_getElem?_getD]
  refine ⟨by rw [List.map_set]; exact hr, by rw [List.length_set]; exact h.len, ?_, ?_, ?_⟩
  · intro j hj
    rw [List.length_set] at hj
    rw [List.getElem_set, hg]
    by_cases e : i = j
    · subst e; rw [if_pos rfl, if_pos rfl]; exact ho
    · rw [if_neg e, if_neg e]
      refine (h.line j hj).keeps hk fun k hkj hki => ?_
      rcases hki with rfl | hki
      · exact h.ne_g (by omega) j hj _ hkj rfl
      · exact h.apart i j hs hj e k hki.symm hkj.symm
  · intro a b ha hb hab k
    rw [List.length_set] at ha hb
    rw [List.getElem_set, List.getElem_set]
    have fresh : ∀ j (hj : j < ss.length), i ≠ j → ∀ k, (sv x).ownBlock = some k → (sv ss[j]).ownBlock ≠ some k := by
      intro j hj e k hk' he
      rcases hx with hx | ⟨k2, hx, h2⟩
      · exact h.apart i j hs hj e k (by rw [← hx]; exact hk') he
      · rw [hx] at hk'; injection hk' with hk'
        have := ((h.line j hj).blk k he.symm).2
        omega
    by_cases e1 : i = a
    · subst e1
      rw [if_pos rfl, if_neg hab]
      exact fresh b hb hab k
    · rw [if_neg e1]
      by_cases e2 : i = b
      · subst e2
        rw [if_pos rfl]
        exact fun h1 h2 => fresh a ha e1 k h2 h1
      · rw [if_neg e2]
        exact h.apart a b ha hb hab k
  · intro j
    rw [hg]
    split
    · exact hl
    · exact h.short j
/-- One line more. -/
theorem RL.add {w2 w3 w4 : World} {g' c' : Nat} {x : Sl} {l : List UInt8} (h : n = 0 ∧ ss = [] ∧ ls = [] ∨ RL B w g n c ss ls) (hB : B ≤ w.heap.size) (hb : Below w.heap.size w w2) (ho : OwnB w2 w.heap.size x.1 x.2.1 x.2.2 l) (hb3 : Below w2.heap.size w2 w3) {A : Option Addr} (hA : n = 0 ∨ A = some ⟨g, 0, none⟩)
    (hr : OwnV 122 w4 B (some ⟨g', 0, none⟩) (n + 1) c' (ss.map sv ++ [sv x])) (hk : Keeps (Mine A n c) w3 w4) (hgm : n = 0 → (Value.slice A n c).ownBlock = none) (hl : l.length ≤ 1000) : RL B w4 g' (n + 1) c' (ss ++ [x]) (ls ++ [l]) := by
  have hns : ss.length = n := by
    rcases h with ⟨h1, h2, -⟩ | h
    · rw [h1, h2]; rfl
    · exact h.slen
  have hnl : ls.length = n := by
    rcases h with ⟨h1, -, h2⟩ | h
    · rw [h1, h2]; rfl
    · exact h.len
  have o3 := ho.below hb3
  have hmine : ∀ k, Mine A n c k → k = g ∧ 0 < n := by
    intro k hm
    rcases Nat.eq_zero_or_pos n with h0 | h0
    · have := hgm h0
      have hm' : some k = (Value.slice A n c).ownBlock := hm
      rw [this] at hm'; cases hm'
    · rcases hA with hA | hA
      · omega
      · subst hA
        have hm' : some k = (Value.slice (some ⟨g, 0, none⟩) n c).ownBlock := hm
        exact ⟨by simpa [Value.ownBlock] using hm', h0⟩
  have key : ∀ (i : Nat) (hi : i < (ss ++ [x]).length), (∃ h : i < ss.length, (ss ++ [x])[i] = ss[i]) ∨ (i = ss.length ∧ (ss ++ [x])[i] = x) := by
    intro i hi
    by_cases e : i < ss.length
    · exact .inl ⟨e, List.getElem_append_left e⟩
    · have : i = ss.length := by simp at hi; omega
      subst this
      exact .inr ⟨rfl, by simp⟩
  have gd : ∀ j, (ls ++ [l]).getD j [] = if j < n then ls.getD j [] else if j = n then l else [] := by
    intro j
    by_cases e : j < n
    · rw [if_pos e, List.getD_eq_getElem?_getD, List.getElem?_append_left (by rw [hnl]; exact e), ← List.getD_eq_getElem?_getD]
    · rw [if_neg e, List.getD_eq_getElem?_getD, List.getElem?_append_right (by rw [hnl]; omega), hnl]
      by_cases e2 : j = n
      · subst e2; rw [if_pos rfl, Nat.sub_self]; rfl
      · rw [if_neg e2]
        obtain ⟨q, hq⟩ : ∃ q, j - n = q + 1 := ⟨j - n - 1, by omega⟩
        rw [hq]; rfl
  refine ⟨by rw [List.map_append]; exact hr, by rw [List.length_append, hnl]; rfl, ?_, ?_, ?_⟩
  · intro i hi
    rcases key i hi with ⟨e, e2⟩ | ⟨e, e2⟩
    · rw [e2, gd, if_pos (by omega)]
      rcases h with ⟨h1, -, -⟩ | h
      · omega
      · have l4 : OwnB w3 B ss[i].1 ss[i].2.1 ss[i].2.2 (ls.getD i []) := ((h.line i e).below hb).below hb3
        exact l4.keeps hk fun k hk' hm => h.ne_g (hmine k hm).2 i e k hk' (hmine k hm).1
    · rw [e2, gd, if_neg (by omega), if_pos (by omega)]
      refine (o3.base_le hB).keeps hk fun k hk' hm => ?_
      rcases h with ⟨h1, -, -⟩ | h
      · have := (hmine k hm).2; omega
      · have h1 := (h.gblk (hmine k hm).2).2
        have h2 := (ho.blk k hk').1
        have := (hmine k hm).1
        omega
  · intro i j hi hj hij k
    rcases key i hi with ⟨e, e2⟩ | ⟨e, e2⟩
    · rcases key j hj with ⟨f, f2⟩ | ⟨f, f2⟩
      · rw [e2, f2]
        rcases h with ⟨h1, -, -⟩ | h
        · omega
        · exact h.apart i j e f hij k
      · rw [e2, f2]
        intro h1 h2
        rcases h with ⟨h1', -, -⟩ | h
        · omega
        · have := ((h.line i e).blk k h1.symm).2
          have := (ho.blk k h2.symm).1
          omega
    · rcases key j hj with ⟨f, f2⟩ | ⟨f, f2⟩
      · rw [e2, f2]
        intro h1 h2
        rcases h with ⟨h1', -, -⟩ | h
        · omega
        · have := ((h.line j f).blk k h2.symm).2
          have := (ho.blk k h1.symm).1
          omega
      · omega
  · intro j
    rw [gd]
    split
    · rcases h with ⟨h1, -, -⟩ | h
      · omega
      · exact h.short j
    · split
      · exact hl
      · simp
end
end Go.Proofs.Ytbcgffgiifminaa
namespace Go.Proofs.Ytbcgffgiifminaa
open Go.RowKit
set_option maxRecDepth 10000
set_option linter.unusedVariables false
theorem Below_newd (w : World) (o : Obj) : Below w.heap.size w (w.drew.alloc o) := have h := Below_new w.drew o; ⟨h.os, h.tape, h.output, h.size, h.block⟩
set_option maxHeartbeats 2000000 in
set_option maxRecDepth 10000 in
theorem ref_LinePut {B : Nat} {w : World} {g n c : Nat} {ss : List Sl} {ls : List (List UInt8)} (h : RL B w g n c ss ls) (hB : B ≤ w.heap.size) (i : Nat) (hi : i < n) {l : List UInt8} (hl : l = ls.getD i []) (first : Int) {A2 : Option Addr} {n2 c2 : Nat} {b : List UInt8}
    (hA : LiesB w B A2 n2 b) (h1 : -9223372036854775808 ≤ first) (h2 : first ≤ 9223372036854775807) (hn2 : n2 ≤ 9223372036854775807) {add : List UInt8} {N E : Int} (hadd : putAdd l first b = add) (hN : (add.length : Int) = N) (hE : putErr l first b = E) :
    Calls Try.prog 72 #[.pointer (some ⟨g, i, none⟩), .int .i64 first, .slice A2 n2 c2] w fun e w' =>
      e = .returned (.tuple #[.int .i64 N, .int .i64 E]) ∧ ∃ (x : Sl) (hs : i < ss.length), RL B w' g n c (ss.set i x) (ls.set i (l ++ add)) ∧ Keeps (rlBlocks g ss[i]) w w' ∧ ((sv x).ownBlock = (sv ss[i]).ownBlock ∨ ∃ k, (sv x).ownBlock = some k ∧ w.heap.size ≤ k) := by
  obtain ⟨hs, hc, hf, hlen⟩ := h.cell i hi
  have hll : l.length = ss[i].2.1 := by rw [hl]; exact hlen
  have hsh : l.length ≤ 1000 := by rw [hl]; exact h.short i
  obtain ⟨⟨A, m, cc⟩, hx⟩ : ∃ x, x = ss[i] := ⟨_, rfl⟩
  rw [← hx] at hc hll hlen
  simp only at hc hll hlen
  have HX := hide hx
  have H := hide h
  have HL := hide hl
  have HLL := hide hll
  have hm : m ≤ 1000 := by omega
  have same : Hid (ss.set i (A, m, cc) = ss) := by show _ = _; rw [hx]; exact List.set_getElem_self hs
  have same2 : Hid (ls.set i l = ls) := by
    show _ = _
    have hi2 : i < ls.length := by rw [h.len]; exact hi
    rw [hl, List.getD_eq_getElem?_getD, List.getElem?_eq_getElem hi2]
    exact List.set_getElem_self hi2
  by_cases hf0 : first < 0
  · have e1 : putAdd l first b = [] := by simp [putAdd, hf0]
    have e2 : putErr l first b = 1 := by simp [putErr, hf0]
    rw [e1] at hadd; rw [e2] at hE
    subst hadd hE hN
    have d : decide (first < 0) = true := decide_eq_true hf0
    clear hf0 hx h hl hll hA e1 e2 hc hf hlen
    go_enter Try.func72, Try.ntmps72
    go_wp2
    go_ret2
    exact ⟨rfl, (A, m, cc), hs, by rw [same.out, List.append_nil, same2.out]; exact H.out, Keeps.refl _ _, .inl (by rw [← HX.out])⟩
  have d : decide (first < 0) = false := decide_eq_false hf0
  by_cases hf1 : (m : Int) < first
  · have e1 : putAdd l first b = [] := by rw [putAdd, if_pos (.inr (by rw [hll]; exact hf1))]
    have e2 : putErr l first b = 2 := by rw [putErr, if_neg hf0, if_pos (by rw [hll]; exact hf1)]
    rw [e1] at hadd; rw [e2] at hE
    subst hadd hE hN
    have d2 : decide ((m : Int) < first) = true := decide_eq_true hf1
    clear hf0 hf1 hx h hl hll hA e1 e2 hlen
    go_enter Try.func72, Try.ntmps72
    go_wp2
    go_ret2
    exact ⟨rfl, (A, m, cc), hs, by rw [same.out, List.append_nil, same2.out]; exact H.out, Keeps.refl _ _, .inl (by rw [← HX.out])⟩
  have d2 : decide ((m : Int) < first) = false := decide_eq_false hf1
  obtain ⟨f, rfl⟩ : ∃ f : Nat, first = (f : Int) := ⟨first.toNat, by omega⟩
  have hfm : f ≤ m := by omega
  rw [putAdd_form (by omega), hll] at hadd
  rw [putErr_form (by omega)] at hE
  obtain ⟨s, hs'⟩ : ∃ s, s = m - f := ⟨_, rfl⟩
  rw [← hs'] at hadd
  have HA := hide hA
  have HS := hide hs'
  have HADD := hide hadd
  have HE := hide hE
  have HN := hide hN
  have hbl := hA.len
  have HBL := hide hbl
  clear hx h hl hll hA hadd hE hN hlen hs' hf0 hf1 hbl
  go_enter Try.func72, Try.ntmps72
  go_upto_region 5 with fail
  go_cut [8] (fun q wx => q = .int .i64 0 ∧ w = wx)
  case first =>
    go_wp2
    go_meet
    exact ⟨rfl, rfl⟩
  case rest =>
  obtain ⟨rfl, rfl⟩ := hcut
  clear hc hf
  go_wp2_with fail
  go_loopg [8, 9] n2 (fun gg s8 s9 wr => ∃ (k j : Nat) (x : Sl), k ≤ n2 ∧ gg = n2 - k ∧ s9 = .int .i64 k ∧ s8 = .int .i64 j ∧ j = k - s ∧ m + j ≤ 1000 ∧ Hid (RL B wr g n c (ss.set i x) (ls.set i (l ++ (b.drop s).take j))) ∧ Hid (Keeps (rlBlocks g ss[i]) w wr) ∧ Hid ((sv x).ownBlock = (sv ss[i]).ownBlock ∨ ∃ k, (sv x).ownBlock = some k ∧ w.heap.size ≤ k))
  case atStart => exact ⟨0, 0, (A, m, cc), by omega, rfl, rfl, rfl, by omega, by omega, by show RL _ _ _ _ _ _ _; rw [same.out, List.take_zero, List.append_nil, same2.out]; exact H.out, Keeps.refl _ _, .inl (by rw [← HX.out])⟩
  case round =>
    obtain ⟨W1, hW1⟩ : ∃ W1, W1 = wr := ⟨_, rfl⟩
    subst hW1
    obtain ⟨k, j, x, hk, rfl, rfl, rfl, hj, hj2, HR, HK, HXX⟩ := hrel
    have HJ := hide hj
    obtain ⟨hs3, hc, hf, hlen3⟩ := HR.out.cell i hi
    have hlen4 : (l ++ (b.drop s).take j).length = m + j ∨ n2 < k := by
      rw [List.length_append, HLL.out, List.length_take, List.length_drop, HBL.out]
      have := HJ.out; omega
    have hx3 : (ss.set i x)[i] = x := by simp
    rw [hx3] at hc hlen3
    have hi2 : i < ls.length := by rw [H.out.len]; exact hi
    have hgd : (ls.set i (l ++ (b.drop s).take j)).getD i [] = l ++ (b.drop s).take j := by
      rw [List.getD_eq_getElem?_getD, List.getElem?_set_self hi2]; rfl
    rw [hgd] at hlen3
    obtain ⟨A3, m3, c3⟩ := x
    have hm3 : m3 = m + j := by simp only at hlen3; omega
    subst hm3
    simp only at hc
    clear hj hlen3 hlen4 hx3 hgd
    by_cases hlt : k < n2
    · by_cases hsk : k < s
      · have hj0 : j = 0 := by have := HJ.out; omega
        subst hj0
        have d3 : decide ((k : Int) < (m : Int) - (f : Int)) = true := decide_eq_true (by have := HS.out; omega)
        have d4 : decide ((k : Int) < ((m + 0 : Nat) : Int) - (f : Int)) = true := decide_eq_true (by have := HS.out; omega)
        have HSK := hide hsk
        clear hsk
        go_wp2_with fail
        go_roundg (n2 - (k + 1))
        case measure => omega
        case rel => exact ⟨k + 1, 0, (A3, m + 0, c3), by omega, rfl, by go_num, rfl, by have := HSK.out; omega, by omega, HR, HK, HXX⟩
      · have hkj : Hid (k = s + j) := by show _ = _; have := HJ.out; omega
        have d3 : decide ((k : Int) < (m : Int) + (j : Int) - (f : Int)) = false := decide_eq_false (by have := HS.out; have := hkj.out; omega)
        by_cases hfull : 1000 ≤ m + j
        · have d4 : decide ((1000 : Int) ≤ (m : Int) + (j : Int)) = true := decide_eq_true (by omega)
          clear hsk hfull
          go_wp2_with fail
          go_ret2
          have hkj' := hkj.out
          have h1000 := of_decide_eq_true d4
          have e : add = (b.drop s).take j := by rw [← HADD.out]; congr 1; omega
          have hjl : ((b.drop s).take j).length = j := by rw [List.length_take, List.length_drop, HBL.out]; omega
          refine ⟨?_, (A3, m + j, c3), hs, by rw [e]; exact HR.out, HK.out, HXX.out⟩
          rw [← HN.out, ← HE.out, e, hjl, if_pos (by rw [HBL.out]; have := HS.out; omega)]
          rfl
        · have d4 : decide ((1000 : Int) ≤ (m : Int) + (j : Int)) = false := decide_eq_false (by omega)
          have hA1 := HA.out.keeps HK.out (by
            intro bk off e1 e2 hbk
            have hg := (H.out.gblk (by omega)).1
            obtain ⟨b2, o2, e3, hb2, -⟩ := HA.out.2 (by simpa using e2)
            rw [e3] at e1; injection e1 with e1; injection e1 with e1 _
            rcases hbk with hbk | hbk
            · omega
            · have := ((H.out.line i hs).blk bk hbk).1; omega)
          obtain ⟨ab, ao, hkb, hAA, hab, hcb⟩ := hA1.at_ hlt
          subst hAA
          obtain ⟨z, hz⟩ : ∃ z, z = b[k] := ⟨_, rfl⟩
          rw [← hz] at hcb
          have HZ := hide hz
          have HAB := hide hab
          clear hz hsk hfull hA1
          have HO : Hid (OwnB W1 B A3 (m + j) c3 (l ++ (b.drop s).take j)) := by
            show OwnB _ _ _ _ _ _
            have := HR.out.line i hs3
            simp only [List.getElem_set_self] at this
            rwa [List.getD_eq_getElem?_getD, List.getElem?_set_self hi2] at this
          have hgB := (HR.out.gblk (by omega)).1
          have hgW := (HR.out.gblk (by omega)).2
          have HGG := hide (show B ≤ g ∧ g < W1.heap.size from ⟨hgB, hgW⟩)
          have hBW : Hid (B ≤ W1.heap.size) := by show _ ≤ _; omega
          have FIN : Hid (∀ (w2 w5 : World) (A5 : Option Addr) (c5 : Nat), Below W1.heap.size W1 w2 → OwnB w5 B A5 (m + j + 1) c5 (l ++ (b.drop s).take (j + 1)) → Keeps (Mine A3 (m + j) c3) w2 w5 →
              ((Value.slice A5 (m + j + 1) c5).ownBlock = (Value.slice A3 (m + j) c3).ownBlock ∨ ∃ k, (Value.slice A5 (m + j + 1) c5).ownBlock = some k ∧ W1.heap.size ≤ k) → m + j < 1000 →
              RL B (w5.setCell ⟨g, i, none⟩ (.slice A5 (m + j + 1) c5)) g n c (ss.set i (A5, m + j + 1, c5)) (ls.set i (l ++ (b.drop s).take (j + 1))) ∧ Keeps (rlBlocks g ss[i]) w (w5.setCell ⟨g, i, none⟩ (.slice A5 (m + j + 1) c5)) ∧
              ((sv (A5, m + j + 1, c5)).ownBlock = (sv ss[i]).ownBlock ∨ ∃ k, (sv (A5, m + j + 1, c5)).ownBlock = some k ∧ w.heap.size ≤ k)) := by
            show ∀ (w2 w5 : World) (A5 : Option Addr) (c5 : Nat), _
            intro w2 w5 A5 c5 hb2 ho5 hk5 hx5 h1000
            have kc := Keeps.setCell w5 ⟨g, i, none⟩ (.slice A5 (m + j + 1) c5)
            have hrow2 : OwnV 122 w2 B (some ⟨g, 0, none⟩) n c ((ss.set i (A3, m + j, c3)).map sv) := HR.out.row.below hb2
            have hrow5 : OwnV 122 w5 B (some ⟨g, 0, none⟩) n c ((ss.set i (A3, m + j, c3)).map sv) := hrow2.keeps hk5 (fun k hkk hmm => by
              have ho2 : OwnB w2 B A3 (m + j) c3 (l ++ (b.drop s).take j) := HO.out.below hb2
              exact (OwnV.of_B ho2).apart hrow2 (by decide) k hmm hkk)
            have hkk : Keeps (rlBlocks g (A3, m + j, c3)) W1 (w5.setCell ⟨g, i, none⟩ (.slice A5 (m + j + 1) c5)) := by
              refine ((Keeps.of_below (S := rlBlocks g (A3, m + j, c3)) hb2).trans hk5 (fun k _ h => .inr h)).trans kc (fun k _ h => .inl h)
            have ho6 : OwnB (w5.setCell ⟨g, i, none⟩ (.slice A5 (m + j + 1) c5)) B A5 (m + j + 1) c5 (l ++ (b.drop s).take (j + 1)) := ho5.keeps kc (fun k hk1 hk2 => by
              have hk2 : k = g := hk2
              subst hk2
              exact (OwnV.of_B ho5).apart hrow5 (by decide) k hk1 (by rfl))
            have hput := HR.out.put i hi (x := (A5, m + j + 1, c5)) (l := l ++ (b.drop s).take (j + 1)) (hrow5.store i _) ho6 hs3 (by simp only [List.getElem_set_self]; exact hkk) (by simp only [List.getElem_set_self]; exact hx5) (by
              have := ho5.len; omega)
            rw [List.set_set, List.set_set] at hput
            refine ⟨hput, HK.out.trans hkk (fun k hkl hkx => ?_), ?_⟩
            · rcases hkx with h | h
              · exact .inl h
              · rcases HXX.out with e | ⟨k2, e, h2⟩
                · exact .inr (by rw [h, e])
                · rw [e] at h; injection h with h; omega
            · rcases hx5 with e | ⟨k2, e, h2⟩
              · rw [show (sv (A5, m + j + 1, c5)).ownBlock = _ from e]; exact HXX.out
              · exact .inr ⟨k2, e, Nat.le_trans HK.out.size h2⟩
          have HTK : Hid ((b.drop s).take (j + 1) = (b.drop s).take j ++ [z]) := by
            show _ = _
            have hkj' := hkj.out
            rw [List.take_succ_eq_append_getElem (by rw [List.length_drop, HBL.out]; omega), List.getElem_drop, HZ.out]
            subst hkj'
            rfl
          have hmj : Hid (m + j < 1000) := by show _ < _; have := of_decide_eq_false d4; omega
          clear hgB hgW
          go_upto_region 12 with fail
          refine wp_region_noPanic ?_
          refine wp_region_held_drew (S := (fun w' => w'.cell? ⟨ab, ao + k, none⟩ = some (.int .u8 (z.toNat : Int)))) (by kernel_rfl) hcb (fun hHeld => ?_)
          refine tk0 0 ?_
          refine tk 1 ?_
          refine tk 2 ?_
          refine tk 3 ?_
          refine tk 5 ?_
          refine tk 6 ?_
          refine tk 7 ?_
          refine tk 8 ?_
          refine wpAnyH_ready (rs := [4, 9]) (by kernel_rfl) (by simp) ?_
          refine AllReadyH.cons (o := ?_) ?_ (fun K hK => ?_) ?_
          rotate_left 1
          · (simp only [List.getElem?_toArray, List.getElem?_cons_succ, List.getElem?_cons_zero]; rfl)
          · go_simp
            skip
            refine hK.out _ _ hcb (fun hHeld => ?_)
            clear hK K
            try simp only [Act.put, List.setIfInBounds_toArray, List.set_cons_zero, List.set_cons_succ]
            refine rdy 9 fun K hK => ?_
            go_simp
            have hb2 : Below W1.heap.size W1 (W1.drew.alloc (.cells #[.int .u8 (z.toNat : Int)] 5)) := Below_newd W1 _
            have own2 := HO.out.below hb2
            have hcb2 : (W1.drew.alloc (.cells #[.int .u8 (z.toNat : Int)] 5)).cell? ⟨ab, ao + k, none⟩ = some (.int .u8 (z.toNat : Int)) := (hb2.cell (p := ⟨ab, ao + k, none⟩) (by have := HAB.out; have := hBW.out; show ab < _; omega)).trans hcb
            refine hK.out _ _ hcb2 (fun hHeld => ?_)
            clear hK K
            try simp only [Act.put, List.setIfInBounds_toArray, List.set_cons_zero, List.set_cons_succ]
            refine rdy 10 fun K hK => ?_
            (refine step_appendB rfl (.tmp 45) (.tmp 50) rfl B A3 (m + j) c3 _ rfl own2 _ _ 1 1 [z] rfl (LiesB.new W1.drew _ _ _ _ _ rfl rfl) (m + j + 1) (l ++ (b.drop s).take (j + 1)) rfl (by rw [HTK.out, List.append_assoc]) (by omega) (Nat.le_trans hBW.out hb2.size) ?_; intro A5 c5 w5 own5 k5 hk5)
            have hg5 := (((HR.out.row.below hb2).keeps k5 (fun q h1 h2 => (OwnV.of_B own2).apart (HR.out.row.below hb2) (by decide) q h2 h1)))
            obtain ⟨_, hc5⟩ := hg5.cell (j := i) hi
            have hf5 := hg5.frozen i
            have hcb5 : w5.cell? ⟨ab, ao + k, none⟩ = some (.int .u8 (z.toNat : Int)) := (World.cell?_of_block (k5.block ab (World.block_lt_of_cell? _ _ hcb2) (fun h => by have := (own2.blk ab h).1; have := HAB.out; omega))).trans hcb2
            refine hK.out _ _ hcb5 (fun hHeld => ?_)
            clear hK K
            try simp only [Act.put]
            refine tk 11 ?_
            refine tk 12 ?_
            refine rdy 13 fun K hK => ?_
            go_simp
            have hcb6 : (w5.setCell ⟨g, i, none⟩ (.slice A5 (m + j + 1) c5)).cell? ⟨ab, ao + k, none⟩ = some (.int .u8 (z.toNat : Int)) := (World.cell?_of_block (Below.heap_setCell w5 ⟨g, i, none⟩ _ ab (by have h1 := HGG.out; have h2 := HAB.out; show ab ≠ g; omega))).trans hcb5
            refine hK.out _ _ hcb6 (fun hHeld => ?_)
            clear hK K
            try simp only [Act.put]
            refine wpAnyH_done (by kernel_rfl) (NoPanic.normal ?_) _
            obtain ⟨FR, FK, FX⟩ := FIN.out _ w5 A5 c5 hb2 own5 k5 (hk5.imp id fun h => ⟨_, h, hb2.size⟩) hmj.out
            have HFR := hide FR
            have HFK := hide FK
            have HFX := hide FX
            clear FR FK FX hcb5 hcb6 hc5 hf5 hg5 k5 hk5 own5
            go_wp2_with fail
            go_roundg (n2 - (k + 1))
            case measure => omega
            case rel => exact ⟨k + 1, j + 1, (A5, m + j + 1, c5), by omega, rfl, by go_num, by go_num, by have := hkj.out; omega, by have := hmj.out; omega, HFR, HFK, HFX⟩
          refine AllReadyH.cons (o := ?_) ?_ (fun K hK => ?_) ?_
          rotate_left 1
          · (simp only [List.getElem?_toArray, List.getElem?_cons_succ, List.getElem?_cons_zero]; rfl)
          · go_simp
            skip
            have hb2 : Below W1.heap.size W1 (W1.drew.alloc (.cells #[.int .u8 (z.toNat : Int)] 5)) := Below_newd W1 _
            have own2 := HO.out.below hb2
            have hcb2 : (W1.drew.alloc (.cells #[.int .u8 (z.toNat : Int)] 5)).cell? ⟨ab, ao + k, none⟩ = some (.int .u8 (z.toNat : Int)) := (hb2.cell (p := ⟨ab, ao + k, none⟩) (by have := HAB.out; have := hBW.out; show ab < _; omega)).trans hcb
            refine hK.out _ _ hcb2 (fun hHeld => ?_)
            clear hK K
            try simp only [Act.put, List.setIfInBounds_toArray, List.set_cons_zero, List.set_cons_succ]
            have hcq : (W1.alloc (.cells #[.int .u8 (z.toNat : Int)] 5)).cell? ⟨g, i, none⟩ = some (.slice A3 (m + j) c3) := ((Below_new W1 _).cell (p := ⟨g, i, none⟩) HGG.out.2).trans hc
            refine rdy 4 fun K hK => ?_
            go_simp
            refine hK.out _ _ hcb2 (fun hHeld => ?_)
            clear hK K
            try simp only [Act.put, List.setIfInBounds_toArray, List.set_cons_zero, List.set_cons_succ]
            refine rdy 10 fun K hK => ?_
            (refine step_appendB rfl (.tmp 45) (.tmp 50) rfl B A3 (m + j) c3 _ rfl own2 _ _ 1 1 [z] rfl (LiesB.new W1.drew _ _ _ _ _ rfl rfl) (m + j + 1) (l ++ (b.drop s).take (j + 1)) rfl (by rw [HTK.out, List.append_assoc]) (by omega) (Nat.le_trans hBW.out hb2.size) ?_; intro A5 c5 w5 own5 k5 hk5)
            have hg5 := (((HR.out.row.below hb2).keeps k5 (fun q h1 h2 => (OwnV.of_B own2).apart (HR.out.row.below hb2) (by decide) q h2 h1)))
            obtain ⟨_, hc5⟩ := hg5.cell (j := i) hi
            have hf5 := hg5.frozen i
            have hcb5 : w5.cell? ⟨ab, ao + k, none⟩ = some (.int .u8 (z.toNat : Int)) := (World.cell?_of_block (k5.block ab (World.block_lt_of_cell? _ _ hcb2) (fun h => by have := (own2.blk ab h).1; have := HAB.out; omega))).trans hcb2
            refine hK.out _ _ hcb5 (fun hHeld => ?_)
            clear hK K
            try simp only [Act.put]
            refine tk 11 ?_
            refine tk 12 ?_
            refine rdy 13 fun K hK => ?_
            go_simp
            have hcb6 : (w5.setCell ⟨g, i, none⟩ (.slice A5 (m + j + 1) c5)).cell? ⟨ab, ao + k, none⟩ = some (.int .u8 (z.toNat : Int)) := (World.cell?_of_block (Below.heap_setCell w5 ⟨g, i, none⟩ _ ab (by have h1 := HGG.out; have h2 := HAB.out; show ab ≠ g; omega))).trans hcb5
            refine hK.out _ _ hcb6 (fun hHeld => ?_)
            clear hK K
            try simp only [Act.put]
            refine wpAnyH_done (by kernel_rfl) (NoPanic.normal ?_) _
            obtain ⟨FR, FK, FX⟩ := FIN.out _ w5 A5 c5 hb2 own5 k5 (hk5.imp id fun h => ⟨_, h, hb2.size⟩) hmj.out
            have HFR := hide FR
            have HFK := hide FK
            have HFX := hide FX
            clear FR FK FX hcb5 hcb6 hc5 hf5 hg5 k5 hk5 own5
            go_wp2_with fail
            go_roundg (n2 - (k + 1))
            case measure => omega
            case rel => exact ⟨k + 1, j + 1, (A5, m + j + 1, c5), by omega, rfl, by go_num, by go_num, by have := hkj.out; omega, by have := hmj.out; omega, HFR, HFK, HFX⟩
          exact AllReadyH.nil
    · obtain rfl : k = n2 := by omega
      go_wp2_with fail
      go_ret2
      have e : add = (b.drop s).take j := by
        rw [← HADD.out, List.take_of_length_le (by rw [List.length_drop, HBL.out]; have := HJ.out; omega), List.take_of_length_le (by rw [List.length_drop, HBL.out]; have := HJ.out; omega)]
      have hjl : ((b.drop s).take j).length = j := by rw [List.length_take, List.length_drop, HBL.out]; have := HJ.out; omega
      refine ⟨?_, (A3, m + j, c3), hs, by rw [e]; exact HR.out, HK.out, HXX.out⟩
      rw [← HN.out, ← HE.out, e, hjl, if_neg (by rw [HBL.out]; have := HS.out; have := HJ.out; omega)]
      rfl
end Go.Proofs.Ytbcgffgiifminaa
namespace Go.Proofs.Ytbcgffgiifminaa
open Go.RowKit
set_option maxRecDepth 10000
set_option linter.unusedVariables false
set_option maxHeartbeats 1000000 in
set_option maxRecDepth 10000 in
theorem ref_Front {B : Nat} {w : World} {g n c : Nat} {ss : List Sl} {ls : List (List UInt8)} (h : RL B w g n c ss ls) (hn : 0 < n) (hn8 : n ≤ 1000) {f : Int} (hf : f = (front ls : Int)) :
    Calls Try.prog 85 #[.slice (some ⟨g, 0, none⟩) n c] w fun e w' => e = .returned (.int .i64 f) ∧ w = w' := by
  obtain ⟨hs0, hc0, -, hl0⟩ := h.cell 0 hn
  have H := hide h
  have HF := hide hf
  have HN := hide h.len
  obtain ⟨⟨A0, m0, k0⟩, hx0⟩ : ∃ x, x = ss[0] := ⟨_, rfl⟩
  rw [← hx0] at hc0 hl0
  simp only at hc0 hl0
  have H1 : Hid (frontK ls 1 = m0) := by
    show _ = _
    rw [frontK_succ _ _ (by rw [h.len]; omega), hl0]
    show min (ls.getD 0 []).length m0 = m0
    rw [hl0]; omega
  clear h hf hx0 hl0
  go_enter Try.func85, Try.ntmps85
  go_wp2
  go_loop [3, 4] (fun s i => ∃ (k m : Nat), 1 ≤ k ∧ k ≤ n ∧ i = .int .i64 k ∧ s = .int .i64 m ∧ Hid (m = frontK ls k)) (fun _ i => n - (intOf i).toNat)
  case atStart => exact ⟨1, m0, by omega, by omega, rfl, rfl, H1.out.symm⟩
  case round =>
    obtain ⟨k, m, hk1, hk, rfl, rfl, hm⟩ := hrel
    by_cases hlt : k < n
    · obtain ⟨hs, hc, -, hl⟩ := H.out.cell k hlt
      obtain ⟨⟨A1, m1, c1⟩, hx1⟩ : ∃ x, x = ss[k] := ⟨_, rfl⟩
      rw [← hx1] at hc hl
      simp only at hc hl
      have HM : Hid (frontK ls (k + 1) = min m m1) := by show _ = _; rw [frontK_succ _ _ (by rw [HN.out]; omega), hl, hm.out]
      clear hx1 hl hm hc0
      go_wp2
      go_round
      case rel => exact ⟨k + 1, min m m1, by omega, by omega, by go_num, by first | rfl | go_num | (congr 1; omega), HM.out.symm⟩
      case measure => simp [intOf]; omega
    · obtain rfl : k = n := by omega
      clear hc0
      go_wp2
      go_ret
      exact ⟨by rw [HF.out, front, HN.out, ← hm.out]; rfl, rfl⟩
theorem OwnV.slice_nil {e : TypeId} {w : World} {base c : Nat} {A : Option Addr} {l : List Value} (h : OwnV e w base A 0 c l) : l = [] := List.eq_nil_of_length_eq_zero h.len
end Go.Proofs.Ytbcgffgiifminaa

namespace Go.Proofs.Ytbcgffgiifminaa
open Go.RowKit
set_option maxRecDepth 10000
set_option linter.unusedVariables false
/-- A mail: from, to, and where its bytes lie. -/
theorem info_mail : (Try.prog.info? 47).map (·.size) = some 3 := by kernel_rfl
def mailRow (f t : Int) (b : Value) : List Value := [.int .i64 f, .int .i64 t, b]
theorem results_Mail {fn : Func} {p : Tmp} (h : fn.results = #[.cell p 47]) (tmps : Array Value) (w : World) (g : Nat) (hp : tmps.getD p undef = .pointer (some ⟨g, 0, none⟩)) (f t : Int) (b : Value) (hg : Arr 47 w g (mailRow f t b)) :
    (results fn tmps).run Try.prog w = .ok (.agg #[.int .i64 f, .int .i64 t, b]) w :=
  results_cell_row h tmps w g 47 (mailRow f t b).toArray (0, 0) _ hp hg Try.underlying47 rfl info_mail
/-- A variable that holds a row is written whole, inside a region that draws. -/
theorem step_putA {ops : Array Oper} {o : Oper} {a : Act} {w : World} {K : Act → World → Prop} {Q : Exit → Act → World → Prop} {E : Prop} (hgd : o.guard = none) (ty : TypeId) (x y : Operand) (ho : o.op = .store ty x y)
    (g : Nat) (l : List Value) (hx : a.eval x = .pointer (some ⟨g, 0, none⟩)) (hy : a.eval y = .agg l.toArray) (T : TypeId) {R : List Value} (hg : Arr T w g R) (n : Nat) (hi : (Try.prog.info? ty).map (·.size) = some n) (hR : R.length = n) (hl : l.length = n) (h1 : ∀ u ∈ l, u.oneCell' = true)
    (h : ∀ w', Arr T w' g l → Keeps (fun k => k = g) w w' → w'.heap.size = w.heap.size → K (a.put o.dst undef) w') :
    if Region.wanted o (yielded ops a.tmps) = true then Oper.wp Try.prog o a w K Q else E := by
  have hw : Region.wanted o (yielded ops a.tmps) = true := by simp [Region.wanted, hgd]
  rw [if_pos hw]
  exact wp_store_row ty x y ho g l.toArray hx hy T R.toArray hg (by rw [hi]; simp [hl]) (by simp [hR, hl]) (Array.all_eq_true_iff_forall_mem.2 fun v hv => h1 v (by simpa using hv))
    (h _ (setRow_heap w g _ _ T _ hg) ⟨rfl, rfl, rfl, by simp, fun k _ hk => setRow_other w g k _ hk⟩ (by simp))
/-- The packet as it is sent. -/
def Pkt.sent (p : Pkt) (me dt id : Int) : Pkt := { p with src := me, dst := dt, id := id }
set_option maxHeartbeats 4000000 in
theorem core_mail {B : Nat} {w : World} {x : Nat} {p : CP} {s : Co} (h : CAt B w x p s) (k : Pkt) {A : Option Addr} {n c B' : Nat} (hA : LiesB w B' A n k.press) (hB' : B' ≤ w.heap.size) (hn : n ≤ 10000) (hw : k.WF) (dt : Int) :
    Calls Try.prog 65 #[.pointer (some ⟨x, 0, none⟩), k.val (.slice A n c), .int .i64 dt] w fun r w' => ∃ A' n' c', r = .returned (.agg #[.int .i64 s.cfg.me, .int .i64 dt, .slice A' n' c']) ∧ OwnB w' w.heap.size A' n' c' (k.sent s.cfg.me dt s.cfg.id).enc ∧ Below w.heap.size w w' := by
  have H := hide h
  have HA := hide hA
  have HB' := hide hB'
  have HW := hide hw
  have HX := hide (h.head.lt)
  obtain ⟨q, hq⟩ : ∃ q, q = k.sent s.cfg.me dt s.cfg.id := ⟨_, rfl⟩
  have HQ := hide hq
  obtain ⟨me, hme⟩ : ∃ me, me = s.cfg.me := ⟨_, rfl⟩
  obtain ⟨id, hid⟩ : ∃ id, id = s.cfg.id := ⟨_, rfl⟩
  rw [← hq, ← hme]
  have HME := hide hme
  have HID := hide hid
  have c1 := h.cell (coRow_me s p)
  have c2 := h.cell (coRow_id s p)
  rw [← hme] at c1
  rw [← hid] at c2
  clear h hA hB' hw hq hme hid
  obtain ⟨kind, src, dst, kid, first, press, ack, frame, sum⟩ := k
  go_enter Try.func65, Try.ntmps65
  go_upto_region 1 with fail
  have HP : Hid (Arr 41 (w.alloc (.cells (Pkt.row ⟨kind, src, dst, kid, first, press, ack, frame, sum⟩ (.slice A n c)).toArray 41)) w.heap.size (Pkt.row ⟨kind, src, dst, kid, first, press, ack, frame, sum⟩ (.slice A n c))) := Arr.new 41 w _ _ rfl
  have HB : Hid (Below w.heap.size w (w.alloc (.cells (Pkt.row ⟨kind, src, dst, kid, first, press, ack, frame, sum⟩ (.slice A n c)).toArray 41))) := Below_new _ _
  have HZ : Hid ((w.alloc (.cells (Pkt.row ⟨kind, src, dst, kid, first, press, ack, frame, sum⟩ (.slice A n c)).toArray 41)).heap.size = w.heap.size + 1) := World.size_alloc _ _
  simp only [Pkt.row] at HP HB HZ
  generalize World.alloc w _ = w1 at HP HB HZ ⊢
  have HM : Hid (Arr 47 (w1.alloc (.cells (mailRow 0 0 (.slice none 0 0)).toArray 47)) (w.heap.size + 1) (mailRow 0 0 (.slice none 0 0))) := by show Arr _ _ _ _; rw [← HZ.out]; exact Arr.new 47 w1 _ _ rfl
  have HP2 := hide (HP.out.belowN (Below_new w1 (.cells (mailRow 0 0 (.slice none 0 0)).toArray 47)))
  have HB2 := hide (Below_step HB.out (Below_new w1 (.cells (mailRow 0 0 (.slice none 0 0)).toArray 47)))
  simp only [mailRow] at HM HP2 HB2
  generalize World.alloc w1 _ = w2 at HM HP2 HB2 ⊢
  obtain ⟨g, hg⟩ : ∃ g, g = w.heap.size := ⟨_, rfl⟩
  have HG := hide hg
  have hxg : x ≠ g := by have := HX.out; omega
  rw [← hg] at HP2 HM ⊢
  have c1 := below_cell HB2.out c1
  have c2 := below_cell HB2.out c2
  have p1 := HP2.out.cell (j := 1) (by simp)
  have p2 := HP2.out.cell (j := 2) (by simp)
  have p3 := HP2.out.cell (j := 3) (by simp)
  simp only [List.getElem_cons_zero, List.getElem_cons_succ] at p1 p2 p3
  have f1 := HP2.out.frozen 1
  have f2 := HP2.out.frozen 2
  have f3 := HP2.out.frozen 3
  clear HP HB HZ hg
  go_cut [12] (fun s12 wx => Arr 41 wx g (Pkt.row ⟨kind, me, dt, id, first, press, ack, frame, sum⟩ (.slice A n c)) ∧ Arr 47 wx (g + 1) (mailRow 0 0 (.slice none 0 0)) ∧ Below w.heap.size w2 wx)
  case first =>
    go_region
    go_wp2_with fail
    go_meet
    have HR : Hid (Arr 41 (((w2.setCell ⟨g, 1, none⟩ (.int .i64 me)).setCell ⟨g, 2, none⟩ (.int .i64 dt)).setCell ⟨g, 3, none⟩ (.int .i64 id)) g (Pkt.row ⟨kind, me, dt, id, first, press, ack, frame, sum⟩ (.slice A n c))) := ((HP2.out.set 1 _).set 2 _).set 3 _
    have K1 := (Keeps.setCell w2 ⟨g, 1, none⟩ (.int .i64 me)).trans (Keeps.setCell (w2.setCell ⟨g, 1, none⟩ (.int .i64 me)) ⟨g, 2, none⟩ (.int .i64 dt)) (fun k _ hk => hk)
    have K2 := K1.trans (Keeps.setCell ((w2.setCell ⟨g, 1, none⟩ (.int .i64 me)).setCell ⟨g, 2, none⟩ (.int .i64 dt)) ⟨g, 3, none⟩ (.int .i64 id)) (fun k _ hk => hk)
    refine ⟨HR.out.drew, (HM.out.keeps K2 (by show ¬ g + 1 = g; omega)).drew, (K2.below HB2.out.size (fun k hk => by have := HG.out; show ¬ k = g; omega)).drew⟩
  case rest =>
    obtain ⟨ha3, hm3, hb3⟩ := hcut
    obtain ⟨w3, hw3⟩ : ∃ w3, w3 = wc := ⟨_, rfl⟩
    subst hw3
    have HP3 := hide ha3
    have HM3 := hide hm3
    have HB3 := hide (HB2.out.trans hb3)
    have HQ2 : Hid (q = ⟨kind, me, dt, id, first, press, ack, frame, sum⟩) := by show _ = _; rw [HQ.out, HME.out, HID.out]; rfl
    have HA3 := hide (HA.out.below (HB3.out.mono HB'.out))
    have HB3' := hide (Nat.le_trans HB'.out HB3.out.size)
    have q1 := HP3.out.cell (j := 1) (by simp)
    have q2 := HP3.out.cell (j := 2) (by simp)
    simp only [List.getElem_cons_zero, List.getElem_cons_succ] at q1 q2
    have hgg : g + 1 < w3.heap.size := HM3.out.lt
    clear ha3 hm3 hb3 c1 c2 p1 p2 p3 f1 f2 f3 HP2 HM HB2
    go_upto_region 2 with fail
    refine wp_region_noPanic ?_
    refine wp_region_held_drew (S := (fun w' => WholeP g (Pkt.val ⟨kind, me, dt, id, first, press, ack, frame, sum⟩ (.slice A n c)) w' ∧ w'.cell? ⟨g, 1, none⟩ = some (.int .i64 me) ∧ w'.cell? ⟨g, 2, none⟩ = some (.int .i64 dt))) (by kernel_rfl) ⟨HP3.out.drew.wholeP, q1, q2⟩ (fun hHeld => ?_)
    refine tk0 0 ?_
    refine tk 1 ?_
    refine tk 2 ?_
    refine tk 3 ?_
    refine tk 4 (v := Pkt.val ⟨kind, me, dt, id, first, press, ack, frame, sum⟩ (.slice A n c)) (hy := by refine Or.inl ⟨by rfl, ?_⟩; intro w hSw; (try dsimp only at hSw); exact exec_wholeP (x := .tmp 4) hSw.1 rfl rfl) ?_
    refine rdy 5 fun K hK => ?_
    go_simp
    refine Calls.mono (packet_Encode ⟨kind, me, dt, id, first, press, ack, frame, sum⟩ (HA3.out.drew) HB3'.out hn HW.out) ?_
    rintro e w4 ⟨A4, n4, c4, rfl, ho4, hb4, -⟩
    have HP4 := hide (HP3.out.drew.belowN hb4)
    have HM4 := hide (HM3.out.drew.belowN hb4)
    have HB4 := hide (Below_step HB3.out.drew hb4)
    have HO4 := hide (OwnB.base_le ho4 HB3.out.size)
    refine hK.out _ _ ⟨HP4.out.wholeP, below_cell hb4 q1, below_cell hb4 q2⟩ (fun hHeld => ?_)
    clear hK K
    try simp only [Act.put, List.setIfInBounds_toArray, List.set_cons_zero, List.set_cons_succ]
    refine tk 6 (v := .agg #[.int .i64 me, .int .i64 dt, .slice A4 n4 c4]) (hy := by refine Or.inl ⟨by rfl, ?_⟩; intro w hSw; (try dsimp only at hSw); (go_simp <;> with_reducible rfl)) ?_
    refine rdy 7 fun K hK => ?_
    (refine step_putA rfl 47 (.tmp 6) (.tmp 27) rfl (g + 1) (mailRow me dt (.slice A4 n4 c4)) rfl rfl 47 HM4.out 3 info_mail rfl rfl (by simp [mailRow, Value.oneCell']) ?_; intro w5 ha5 hk5 hs5)
    have HP5 := hide (HP4.out.keeps hk5 (by omega))
    have HO5 := hide (OwnB.base_le (OwnB.keeps ho4 hk5 (fun j hj hm => by have hl := ho4.blk j hj; have e : w3.drew.heap.size = w3.heap.size := rfl; omega)) HB3.out.size)
    have HB5 := hide (HB4.out.trans (hk5.below HB4.out.size (fun k hk => by have := HG.out; omega)))
    refine hK.out _ _ ⟨HP5.out.wholeP, HP5.out.cell (j := 1) (by simp), HP5.out.cell (j := 2) (by simp)⟩ (fun hHeld => ?_)
    clear hK K
    try simp only [Act.put]
    refine wpAnyH_done (by kernel_rfl) (NoPanic.normal ?_) _
    go_wp2_with fail
    refine bodyPost_ret (results_Mail (fn := Try.f65) rfl _ _ (g + 1) rfl me dt (.slice A4 n4 c4) ha5) rfl ⟨A4, n4, c4, rfl, ?_, HB5.out⟩
    rw [HQ2.out]
    exact HO5.out
end Go.Proofs.Ytbcgffgiifminaa
namespace Go.Proofs.Ytbcgffgiifminaa
open Go.RowKit
set_option maxRecDepth 10000
set_option linter.unusedVariables false
/-- What player i is told. -/
def Co.telling (s : Co) (i : Nat) : Pkt := ⟨1, s.cfg.me, i, s.cfg.id, (s.peers.getD i ⟨0, 0, 0, 0, false⟩).has, fromLine s.mine (s.peers.getD i ⟨0, 0, 0, 0, false⟩).has 32, ((s.ls.getD i []).length : Int), (s.marks.length : Int), if s.marks.length = 0 then 0 else s.marks.getD (s.marks.length - 1) 0⟩
set_option maxHeartbeats 8000000 in
theorem core_input {B : Nat} {w : World} {x : Nat} {p : CP} {s : Co} (h : CAt B w x p s) (hB : B ≤ w.heap.size) (i : Nat) (hi : i < s.peers.length) {ix : Int} (hix : ix = (i : Int)) :
    Calls Try.prog 61 #[.pointer (some ⟨x, 0, none⟩), .int .i64 ix] w fun r w' => ∃ A' n' c', r = .returned (.agg #[.int .i64 s.cfg.me, .int .i64 ix, .slice A' n' c']) ∧ OwnB w' w.heap.size A' n' c' (s.telling i).enc ∧ Below w.heap.size w w' := by
  subst hix
  have H := hide h
  have HB := hide hB
  have HI := hide hi
  have hn8 : s.peers.length ≤ 8 := by have := h.ok.np; have := h.ok.cfg.n; omega
  have HPI : Hid (i < p.xs.length) := by show _ < _; rw [h.nx]; exact hi
  obtain ⟨mi, hme, hmi, hmil, hll, h8⟩ := h.me
  have HME := hide hme
  have HMI := hide hmi
  have HMN := hide h.mn
  have c11 := h.cell (coRow_peers s p)
  have c10 := h.cell (coRow_q s p)
  have c12 := h.cell (coRow_marks s p)
  have c1 := h.cell (coRow_me s p)
  obtain ⟨pr, hpr⟩ : ∃ pr, pr = s.peers[i] := ⟨_, rfl⟩
  have HPR : Hid (s.peers.getD i ⟨0, 0, 0, 0, false⟩ = pr) := by show _ = _; rw [List.getD_eq_getElem?_getD, List.getElem?_eq_getElem hi, hpr]; rfl
  have ch : w.cell? ⟨p.g, i * 5, none⟩ = some (.int .i64 pr.has) := h.pcell (j := 0) (v := .int .i64 pr.has) hi (by omega) (by rw [hpr]; rfl)
  obtain ⟨n, hn⟩ : ∃ n, n = s.peers.length := ⟨_, rfl⟩
  have HN := hide hn
  rw [← hn] at c11
  have hin : (i : Int) < (n : Int) := by rw [hn]; omega
  obtain ⟨hs, hhs⟩ : ∃ hs, hs = pr.has := ⟨_, rfl⟩
  rw [← hhs] at ch
  have HHS := hide hhs
  obtain ⟨len, hlen⟩ : ∃ len, len = ((s.ls.getD i []).length : Int) := ⟨_, rfl⟩
  have HLEN := hide hlen
  have hhs2 : 0 ≤ hs ∧ hs ≤ 1000 := by have := h.ok.has pr (by rw [hpr]; exact List.getElem_mem hi); have := h.ok.short s.cfg.me.toNat; rw [hhs]; omega
  have HMINE : Hid (s.ls.getD mi [] = s.mine) := by show _ = _; rw [Co.mine, hme, Int.toNat_natCast]
  have hmn : p.mn ≤ 1000 := by have := h.ok.marks; rw [h.mn] at this; exact this
  clear h hB hn hpr hhs hlen hme hll hmil
  go_enter Try.func61, Try.ntmps61
  go_upto_region 1 with fail
  have HM : Hid (Arr 47 (w.alloc (.cells (mailRow 0 0 (.slice none 0 0)).toArray 47)) w.heap.size (mailRow 0 0 (.slice none 0 0))) := Arr.new 47 w _ _ rfl
  have HB1 : Hid (Below w.heap.size w (w.alloc (.cells (mailRow 0 0 (.slice none 0 0)).toArray 47))) := Below_new _ _
  simp only [mailRow] at HM HB1
  generalize World.alloc w _ = w1 at HM HB1 ⊢
  obtain ⟨g, hg⟩ : ∃ g, g = w.heap.size := ⟨_, rfl⟩
  have HG := hide hg
  rw [← hg] at HM ⊢
  have hgg : g < w1.heap.size := HM.out.lt
  have HC1 := hide (H.out.below HB1.out)
  have c11 := below_cell HB1.out c11
  have c10 := below_cell HB1.out c10
  have c12 := below_cell HB1.out c12
  have c1 := below_cell HB1.out c1
  have ch := below_cell HB1.out ch
  clear hg
  have HZ : Hid (Arr 41 (w1.drew.alloc (.cells (Pkt.zero.row (.slice none 0 0)).toArray 41)) w1.heap.size (Pkt.zero.row (.slice none 0 0))) := Arr.new 41 w1.drew _ _ rfl
  have bn := Below_new w1.drew (.cells (Pkt.zero.row (.slice none 0 0)).toArray 41)
  simp only [Pkt.row, Pkt.zero] at HZ bn
  have HC2 := hide (HC1.out.drew.below bn)
  have d11 := below_cell bn c11
  have d10 := below_cell bn c10
  have d12 := below_cell bn c12
  have dh := below_cell bn ch
  have HB2 : Hid (Below w1.heap.size w1 (w1.drew.alloc (.cells (Pkt.zero.row (.slice none 0 0)).toArray 41))) := Below_step ((Below.refl _ _).drew) bn
  clear bn
  go_cut [5] (fun s5 wx => s5 = .pointer (some ⟨w1.heap.size, 0, none⟩) ∧ Arr 41 wx w1.heap.size (Pkt.row ⟨1, 0, 0, 0, hs, [], len, p.mn, 0⟩ (.slice none 0 0)) ∧ Below w1.heap.size w1 wx)
  case first =>
    refine wp_region_noPanic ?_
    refine wp_region_held_drew (S := (fun w' => w'.cell? ⟨x, 11, none⟩ = some (.slice (some ⟨p.g, 0, none⟩) n p.pc) ∧ w'.cell? ⟨x, 10, none⟩ = some (.pointer (some ⟨p.q, 0, none⟩)) ∧ w'.cell? ⟨x, 12, none⟩ = some (.slice p.mA p.mn p.mc) ∧ w'.cell? ⟨p.g, i * 5, none⟩ = some (.int .i64 hs))) (by kernel_rfl) ⟨c11, c10, c12, ch⟩ (fun hHeld => ?_)
    refine tk0 0 ?_
    refine tk 1 ?_
    refine tk 2 ?_
    refine tk 3 ?_
    refine tk 4 ?_
    refine tk 5 ?_
    refine tk 6 ?_
    refine tk 7 ?_
    refine tk 8 ?_
    refine tk 9 ?_
    refine tk 10 ?_
    refine tk 11 ?_
    refine tk 12 ?_
    refine tk 15 ?_
    refine tk 16 ?_
    refine tk 17 ?_
    refine tk 18 ?_
    refine tk 19 ?_
    refine wpAnyH_ready (rs := [13, 21]) (by kernel_rfl) (by simp) ?_
    refine AllReadyH.cons (o := ?_) ?_ (fun K hK => ?_) ?_
    rotate_left 1
    · (simp only [List.getElem?_toArray, List.getElem?_cons_succ, List.getElem?_cons_zero]; rfl)
    · go_simp
      refine Calls.mono (queue_Line HC1.out.drew.q i HPI.out (by omega) rfl rfl) ?_
      rintro r w3 ⟨rfl, rfl⟩
      refine hK.out _ _ ⟨c11, c10, c12, ch⟩ (fun hHeld => ?_)
      clear hK K
      try simp only [Act.put, List.setIfInBounds_toArray, List.set_cons_zero, List.set_cons_succ]
      refine wpAnyH_ready (rs := [14, 21]) (by kernel_rfl) (by simp) ?_
      refine AllReadyH.cons (o := ?_) ?_ (fun K hK => ?_) ?_
      rotate_left 1
      · (simp only [List.getElem?_toArray, List.getElem?_cons_succ, List.getElem?_cons_zero]; rfl)
      · go_simp
        refine Calls.mono (line_Len_v _ _ (s.ls.getD i []) len _ (HC1.out.drew.line i HPI.out) HLEN.out.symm) ?_
        rintro r w3 ⟨rfl, rfl⟩
        refine hK.out _ _ ⟨c11, c10, c12, ch⟩ (fun hHeld => ?_)
        clear hK K
        try simp only [Act.put, List.setIfInBounds_toArray, List.set_cons_zero, List.set_cons_succ]
        refine tk 20 (v := .agg #[.int .i64 1, .int .i64 0, .int .i64 0, .int .i64 0, .int .i64 hs, .slice none 0 0, .int .i64 len, .int .i64 (p.mn : Int), .int .u32 0]) (hy := by refine Or.inl ⟨by rfl, ?_⟩; intro w hSw; (try dsimp only at hSw); (go_simp <;> with_reducible rfl)) ?_
        refine rdy 21 fun K hK => ?_
        go_simp
        refine hK.out _ _ ⟨d11, d10, d12, dh⟩ (fun hHeld => ?_)
        clear hK K
        try simp only [Act.put, List.setIfInBounds_toArray, List.set_cons_zero, List.set_cons_succ]
        refine rdy 22 fun K hK => ?_
        (refine step_putA rfl 41 (.tmp 5) (.tmp 27) rfl w1.heap.size (Pkt.row ⟨1, 0, 0, 0, hs, [], len, p.mn, 0⟩ (.slice none 0 0)) rfl rfl 41 HZ.out 9 info_packet rfl rfl (Pkt.row_oneV _ _ _ _) ?_; intro w5 ha5 hk5 hs5)
        have HB5 := hide (HB2.out.trans (hk5.below HB2.out.size (fun k hk => by omega)))
        have HC5 := hide (HC1.out.below HB5.out)
        refine hK.out _ _ ⟨by have := HC5.out.cell (coRow_peers s p); rw [← HN.out] at this; exact this, HC5.out.cell (coRow_q s p), HC5.out.cell (coRow_marks s p), below_cell HB5.out ch⟩ (fun hHeld => ?_)
        clear hK K
        try simp only [Act.put]
        refine wpAnyH_done (by kernel_rfl) (NoPanic.normal ?_) _
        go_wp2_with fail
        go_meet
        exact ⟨rfl, ha5, HB5.out⟩
      refine AllReadyH.cons (o := ?_) ?_ (fun K hK => ?_) ?_
      rotate_left 1
      · (simp only [List.getElem?_toArray, List.getElem?_cons_succ, List.getElem?_cons_zero]; rfl)
      · go_simp
        skip
        refine hK.out _ _ ⟨d11, d10, d12, dh⟩ (fun hHeld => ?_)
        clear hK K
        try simp only [Act.put, List.setIfInBounds_toArray, List.set_cons_zero, List.set_cons_succ]
        refine rdy 14 fun K hK => ?_
        go_simp
        refine Calls.mono (line_Len_v _ _ (s.ls.getD i []) len _ (HC2.out.line i HPI.out) HLEN.out.symm) ?_
        rintro r w3 ⟨rfl, rfl⟩
        refine hK.out _ _ ⟨d11, d10, d12, dh⟩ (fun hHeld => ?_)
        clear hK K
        try simp only [Act.put, List.setIfInBounds_toArray, List.set_cons_zero, List.set_cons_succ]
        refine tk 20 (v := .agg #[.int .i64 1, .int .i64 0, .int .i64 0, .int .i64 0, .int .i64 hs, .slice none 0 0, .int .i64 len, .int .i64 (p.mn : Int), .int .u32 0]) (hy := by refine Or.inl ⟨by rfl, ?_⟩; intro w hSw; (try dsimp only at hSw); (go_simp <;> with_reducible rfl)) ?_
        refine rdy 22 fun K hK => ?_
        (refine step_putA rfl 41 (.tmp 5) (.tmp 27) rfl w1.heap.size (Pkt.row ⟨1, 0, 0, 0, hs, [], len, p.mn, 0⟩ (.slice none 0 0)) rfl rfl 41 HZ.out 9 info_packet rfl rfl (Pkt.row_oneV _ _ _ _) ?_; intro w5 ha5 hk5 hs5)
        have HB5 := hide (HB2.out.trans (hk5.below HB2.out.size (fun k hk => by omega)))
        have HC5 := hide (HC1.out.below HB5.out)
        refine hK.out _ _ ⟨by have := HC5.out.cell (coRow_peers s p); rw [← HN.out] at this; exact this, HC5.out.cell (coRow_q s p), HC5.out.cell (coRow_marks s p), below_cell HB5.out ch⟩ (fun hHeld => ?_)
        clear hK K
        try simp only [Act.put]
        refine wpAnyH_done (by kernel_rfl) (NoPanic.normal ?_) _
        go_wp2_with fail
        go_meet
        exact ⟨rfl, ha5, HB5.out⟩
      exact AllReadyH.nil
    refine AllReadyH.cons (o := ?_) ?_ (fun K hK => ?_) ?_
    rotate_left 1
    · (simp only [List.getElem?_toArray, List.getElem?_cons_succ, List.getElem?_cons_zero]; rfl)
    · go_simp
      skip
      refine hK.out _ _ ⟨d11, d10, d12, dh⟩ (fun hHeld => ?_)
      clear hK K
      try simp only [Act.put, List.setIfInBounds_toArray, List.set_cons_zero, List.set_cons_succ]
      refine rdy 13 fun K hK => ?_
      go_simp
      refine Calls.mono (queue_Line HC2.out.q i HPI.out (by omega) rfl rfl) ?_
      rintro r w3 ⟨rfl, rfl⟩
      refine hK.out _ _ ⟨d11, d10, d12, dh⟩ (fun hHeld => ?_)
      clear hK K
      try simp only [Act.put, List.setIfInBounds_toArray, List.set_cons_zero, List.set_cons_succ]
      refine rdy 14 fun K hK => ?_
      go_simp
      refine Calls.mono (line_Len_v _ _ (s.ls.getD i []) len _ (HC2.out.line i HPI.out) HLEN.out.symm) ?_
      rintro r w3 ⟨rfl, rfl⟩
      refine hK.out _ _ ⟨d11, d10, d12, dh⟩ (fun hHeld => ?_)
      clear hK K
      try simp only [Act.put, List.setIfInBounds_toArray, List.set_cons_zero, List.set_cons_succ]
      refine tk 20 (v := .agg #[.int .i64 1, .int .i64 0, .int .i64 0, .int .i64 0, .int .i64 hs, .slice none 0 0, .int .i64 len, .int .i64 (p.mn : Int), .int .u32 0]) (hy := by refine Or.inl ⟨by rfl, ?_⟩; intro w hSw; (try dsimp only at hSw); (go_simp <;> with_reducible rfl)) ?_
      refine rdy 22 fun K hK => ?_
      (refine step_putA rfl 41 (.tmp 5) (.tmp 27) rfl w1.heap.size (Pkt.row ⟨1, 0, 0, 0, hs, [], len, p.mn, 0⟩ (.slice none 0 0)) rfl rfl 41 HZ.out 9 info_packet rfl rfl (Pkt.row_oneV _ _ _ _) ?_; intro w5 ha5 hk5 hs5)
      have HB5 := hide (HB2.out.trans (hk5.below HB2.out.size (fun k hk => by omega)))
      have HC5 := hide (HC1.out.below HB5.out)
      refine hK.out _ _ ⟨by have := HC5.out.cell (coRow_peers s p); rw [← HN.out] at this; exact this, HC5.out.cell (coRow_q s p), HC5.out.cell (coRow_marks s p), below_cell HB5.out ch⟩ (fun hHeld => ?_)
      clear hK K
      try simp only [Act.put]
      refine wpAnyH_done (by kernel_rfl) (NoPanic.normal ?_) _
      go_wp2_with fail
      go_meet
      exact ⟨rfl, ha5, HB5.out⟩
    exact AllReadyH.nil
  case rest =>
  obtain ⟨rfl, ha2, hb2⟩ := hcut
  obtain ⟨w2, hw2⟩ : ∃ w2, w2 = wc := ⟨_, rfl⟩
  subst hw2
  have HP2 := hide ha2
  have HBX := hide hb2
  have HC3 := hide (HC1.out.below hb2)
  have c10 := below_cell hb2 c10
  have c1 := below_cell hb2 c1
  have c4 := HP2.out.cell (j := 4) (by simp)
  have c5 := HP2.out.cell (j := 5) (by simp)
  have f5 := HP2.out.frozen 5
  simp only [List.getElem_cons_zero, List.getElem_cons_succ] at c4 c5
  have hlt2 : w1.heap.size < w2.heap.size := HP2.out.lt
  obtain ⟨F, hF⟩ : ∃ F, fromLine s.mine hs 32 = F := ⟨_, rfl⟩
  have HF := hide hF
  obtain ⟨m, hm⟩ : ∃ m, F.length = m := ⟨_, rfl⟩
  have HFM := hide hm
  have hm32 : m ≤ 1000 := by rw [← hm, ← hF]; unfold fromLine; split; exact Nat.zero_le _; rw [List.length_take]; omega
  clear hm ha2 hb2 HC2 HZ HB2 hF d11 d10 d12 dh c11 c12 ch
  go_upto_region 2 with fail
  refine wp_region_noPanic ?_
  refine wp_region_held_drew (S := (fun w' => w'.cell? ⟨x, 10, none⟩ = some (.pointer (some ⟨p.q, 0, none⟩)) ∧ w'.cell? ⟨x, 1, none⟩ = some (.int .i64 s.cfg.me) ∧ w'.cell? ⟨w1.heap.size, 4, none⟩ = some (.int .i64 hs))) (by kernel_rfl) ⟨c10, c1, c4⟩ (fun hHeld => ?_)
  refine tk0 0 ?_
  refine tk 1 ?_
  refine tk 2 ?_
  refine tk 3 ?_
  refine tk 4 ?_
  refine tk 5 ?_
  refine tk 6 ?_
  refine tk 7 ?_
  refine tk 8 ?_
  refine tk 10 ?_
  refine tk 11 ?_
  refine rdy 9 fun K hK => ?_
  go_simp
  refine Calls.mono (queue_Line HC3.out.drew.q mi HMI.out (by omega) HME.out rfl) ?_
  rintro r w3 ⟨rfl, rfl⟩
  refine hK.out _ _ ⟨c10, c1, c4⟩ (fun hHeld => ?_)
  clear hK K
  try simp only [Act.put, List.setIfInBounds_toArray, List.set_cons_zero, List.set_cons_succ]
  refine rdy 12 fun K hK => ?_
  go_simp
  refine Calls.mono (line_From_v _ _ s.mine F hs 32 m _ (by rw [← HMINE.out]; exact HC3.out.drew.line mi HMI.out) (by omega) (by omega) (by omega) (by omega) HF.out HFM.out) ?_
  rintro r w4 ⟨A5, k5, rfl, ho4, hb4⟩
  have HP4 := hide (HP2.out.drew.belowN hb4)
  have HC4 := hide (HC3.out.drew.below hb4)
  have HB4 := hide (Below_step HBX.out.drew hb4)
  have c5 := below_cell hb4 c5
  have f5 := HP4.out.frozen 5
  have c10 := below_cell hb4 c10
  have c1 := below_cell hb4 c1
  have c4 := below_cell hb4 c4
  refine hK.out _ _ ⟨c10, c1, c4⟩ (fun hHeld => ?_)
  clear hK K
  try simp only [Act.put, List.setIfInBounds_toArray, List.set_cons_zero, List.set_cons_succ]
  refine tk 13 ?_
  refine rdy 14 fun K hK => ?_
  go_simp
  have HP6 : Hid (Arr 41 (w4.setCell ⟨w1.heap.size, 5, none⟩ (.slice A5 m k5)) w1.heap.size (Pkt.row ⟨1, 0, 0, 0, hs, F, len, p.mn, 0⟩ (.slice A5 m k5))) := HP4.out.set 5 _
  have hk6 := Keeps.setCell w4 ⟨w1.heap.size, 5, none⟩ (.slice A5 m k5)
  have HB6 := hide (HB4.out.trans (hk6.below HB4.out.size (fun k hk => by show ¬ k = w1.heap.size; omega)))
  have e2 : w2.drew.heap.size = w2.heap.size := rfl
  have HO6 := hide (OwnB.base_le (OwnB.keeps ho4 hk6 (fun j hj hm => by have hl := ho4.blk j hj; have hm : j = w1.heap.size := hm; omega)) (base' := w2.heap.size) (Nat.le_refl _))
  have HC6 := hide (HC1.out.below HB6.out)
  have q4 := HP6.out.cell (j := 4) (by simp)
  simp only [List.getElem_cons_zero, List.getElem_cons_succ] at q4
  generalize World.setCell w4 _ _ = w6 at HP6 HB6 HO6 HC6 q4 ⊢
  refine hK.out _ _ ⟨HC6.out.cell (coRow_q s p), HC6.out.cell (coRow_me s p), q4⟩ (fun hHeld => ?_)
  clear hK K
  try simp only [Act.put]
  refine wpAnyH_done (by kernel_rfl) (NoPanic.normal ?_) _
  clear hb4 ho4 hHeld
  have HMK := HC6.out.marks
  have c12 := HC6.out.cell (coRow_marks s p)
  by_cases hm0 : p.mn = 0
  · have d1 : decide ((p.mn : Int) > 0) = false := decide_eq_false (by omega)
    have d2 : decide (0 < p.mn) = false := decide_eq_false (by omega)
    have HTELL : Hid (s.telling i = Pkt.sent ⟨1, 0, 0, 0, hs, F, len, p.mn, 0⟩ s.cfg.me i s.cfg.id) := by
      show _ = _
      rw [Co.telling, HPR.out, ← HHS.out, HF.out, ← HLEN.out, HMN.out, hm0]
      rfl
    clear hm0
    go_upto_region 6 with fail
    go_wp2_with (refine wpP_load rfl (.tmp 5) rfl w1.heap.size rfl ⟨1, 0, 0, 0, hs, F, len, p.mn, 0⟩ (.slice A5 m k5) HP6.out ?_)
    refine Calls.mono (core_mail HC6.out ⟨1, 0, 0, 0, hs, F, len, p.mn, 0⟩ (HO6.out.lies) (Nat.le_refl _) (by omega) ⟨by show (0 : Int) ≤ 0; omega, by show (0 : Int) < _; omega⟩ (i : Int)) ?_
    rintro r w8 ⟨A8, n8, c8, rfl, ho8, hb8⟩
    have HB8 := hide (HB6.out.trans (hb8.mono HB6.out.size))
    have HM8 := hide (HM.out.belowN HB8.out)
    have hgs : g < w6.heap.size := Nat.lt_of_lt_of_le hgg HB6.out.size
    clear hb8
    go_wp2_with (refine wpA_store rfl 47 (.tmp 4) (.tmp 61) rfl g (mailRow s.cfg.me i (.slice A8 n8 c8)) rfl rfl 47 _ HM8.out 3 info_mail rfl rfl (by simp [mailRow, Value.oneCell']) ?_; intro w9 ha9 hk9 hs9)
    refine bodyPost_ret (results_Mail (fn := Try.f61) rfl _ _ g rfl s.cfg.me i (.slice A8 n8 c8) ha9) rfl ⟨A8, n8, c8, rfl, ?_, ?_⟩
    · have h9 := OwnB.keeps ho8 hk9 (fun j hj hm => by have hl := ho8.blk j hj; omega)
      have h9 := OwnB.base_le (base' := w.heap.size) h9 (Nat.le_trans HB1.out.size HB6.out.size)
      rw [HTELL.out]
      exact h9
    · exact (HB1.out.trans (HB8.out.mono HB1.out.size)).trans (hk9.below (Nat.le_trans HB1.out.size HB8.out.size) (fun k hk => by have := HG.out; omega))
  · have d1 : decide ((p.mn : Int) > 0) = true := decide_eq_true (by omega)
    obtain ⟨k, hk⟩ : ∃ k, p.mn = k + 1 := ⟨p.mn - 1, by omega⟩
    have hkm : k < p.mn := by omega
    obtain ⟨gm, hmA, -, -⟩ := HC6.out.marks.form (by omega)
    rw [hmA] at HMK c12
    obtain ⟨hl9, c9⟩ := HMK.cell hkm
    obtain ⟨mk, hmk2⟩ : ∃ mk, mk = s.marks.getD k 0 := ⟨_, rfl⟩
    have hl10 : k < s.marks.length := by rw [HMN.out]; exact hkm
    have hc9 : w6.cell? ⟨gm, k, none⟩ = some (.int .u32 mk) := by
      rw [c9, List.getElem_map, hmk2, List.getD_eq_getElem?_getD, List.getElem?_eq_getElem hl10]; rfl
    have hmw : 0 ≤ mk ∧ mk < 4294967296 := by
      rw [hmk2, List.getD_eq_getElem?_getD, List.getElem?_eq_getElem hl10]
      exact HC6.out.ok.mark _ (List.getElem_mem hl10)
    have hkk : (p.mn : Int) - 1 = (k : Int) := by omega
    have hki : (k : Int) < (p.mn : Int) := by omega
    have hww : IntKind.i64.wrap (k : Int) = (k : Int) := IntWalk.i64_in _ ⟨by omega, by omega⟩
    have HTELL : Hid (s.telling i = Pkt.sent ⟨1, 0, 0, 0, hs, F, len, p.mn, mk⟩ s.cfg.me i s.cfg.id) := by
      show _ = _
      rw [Co.telling, HPR.out, ← HHS.out, HF.out, ← HLEN.out, HMN.out, if_neg hm0, show p.mn - 1 = k by omega, ← hmk2]
      rfl
    have c8 := HP6.out.cell (j := 8) (by simp)
    have f8 := HP6.out.frozen 8
    simp only [List.getElem_cons_zero, List.getElem_cons_succ] at c8
    clear hm0 hk hmA HMK hl9 c9 hmk2 hl10
    go_upto_region 6 with fail
    have HP7 : Hid (Arr 41 (w6.setCell ⟨w1.heap.size, 8, none⟩ (.int .u32 mk)) w1.heap.size (Pkt.row ⟨1, 0, 0, 0, hs, F, len, p.mn, mk⟩ (.slice A5 m k5))) := HP6.out.set 8 _
    have hk7 := Keeps.setCell w6 ⟨w1.heap.size, 8, none⟩ (.int .u32 mk)
    have HB7 := hide (HB6.out.trans (hk7.below HB6.out.size (fun k hk => by show ¬ k = w1.heap.size; omega)))
    have HO7 := hide (OwnB.keeps HO6.out hk7 (fun j hj hm => by have hl := HO6.out.blk j hj; have hm : j = w1.heap.size := hm; omega))
    have HC7 := hide (HC1.out.below HB7.out)
    generalize World.setCell w6 _ _ = w7 at HP7 HB7 HO7 HC7 ⊢
    go_wp2_with (refine wpP_load rfl (.tmp 5) rfl w1.heap.size rfl ⟨1, 0, 0, 0, hs, F, len, p.mn, mk⟩ (.slice A5 m k5) HP7.out ?_)
    refine Calls.mono (core_mail HC7.out ⟨1, 0, 0, 0, hs, F, len, p.mn, mk⟩ (HO7.out.lies) (Nat.le_refl _) (by omega) hmw (i : Int)) ?_
    rintro r w8 ⟨A8, n8, c8, rfl, ho8, hb8⟩
    have HB8 := hide (HB7.out.trans (hb8.mono HB7.out.size))
    have HM8 := hide (HM.out.belowN HB8.out)
    have hgs : g < w7.heap.size := Nat.lt_of_lt_of_le hgg HB7.out.size
    clear hb8
    go_wp2_with (refine wpA_store rfl 47 (.tmp 4) (.tmp 61) rfl g (mailRow s.cfg.me i (.slice A8 n8 c8)) rfl rfl 47 _ HM8.out 3 info_mail rfl rfl (by simp [mailRow, Value.oneCell']) ?_; intro w9 ha9 hk9 hs9)
    refine bodyPost_ret (results_Mail (fn := Try.f61) rfl _ _ g rfl s.cfg.me i (.slice A8 n8 c8) ha9) rfl ⟨A8, n8, c8, rfl, ?_, ?_⟩
    · have h9 := OwnB.keeps ho8 hk9 (fun j hj hm => by have hl := ho8.blk j hj; omega)
      have h9 := OwnB.base_le (base' := w.heap.size) h9 (Nat.le_trans HB1.out.size HB7.out.size)
      rw [HTELL.out]
      exact h9
    · exact (HB1.out.trans (HB8.out.mono HB1.out.size)).trans (hk9.below (Nat.le_trans HB1.out.size HB8.out.size) (fun k hk => by have := HG.out; omega))
end Go.Proofs.Ytbcgffgiifminaa
namespace Go.Proofs.Ytbcgffgiifminaa
open Go.RowKit
set_option maxRecDepth 10000
set_option linter.unusedVariables false
/-- A mail. -/
structure Mle where
  src : Int
  dst : Int
  b : List UInt8
def mrow (x : Mle × Sl) : List Value := [.int .i64 x.1.src, .int .i64 x.1.dst, sv x.2]
theorem mrow_len (x : Mle × Sl) : (mrow x).length = 3 := rfl
theorem ownsRow_base_le {w : World} {B B' sz n : Nat} {e : TypeId} {v : Value} {l : List Value} (h : w.ownsRow B e sz v n l) (hb : B' ≤ B) : w.ownsRow B' e sz v n l := by
  refine ⟨h.1, ?_⟩
  rcases h.2 with h2 | ⟨g, cap, cur, hv, hg, r⟩
  · exact .inl h2
  · exact .inr ⟨g, cap, cur, hv, Nat.le_trans hb hg, r⟩
/-- A row of mails of type T. -/
structure ML (T : TypeId) (B : Nat) (w : World) (A : Option Addr) (n c : Nat) (xs : List (Mle × Sl)) : Prop where
  row : w.ownsRow B T 3 (.slice A n c) n (xs.flatMap mrow)
  line : ∀ x ∈ xs, OwnB w B x.2.1 x.2.2.1 x.2.2.2 x.1.b
section
variable {T : TypeId} {B B' : Nat} {w w' : World} {A : Option Addr} {n c : Nat} {xs : List (Mle × Sl)}
theorem ML.nil (T : TypeId) (B : Nat) (w : World) : ML T B w none 0 0 [] := ⟨World.ownsRow_nil _ _ _ _, fun x h => by simp at h⟩
theorem ML.len (h : ML T B w A n c xs) : xs.length = n := by
  have := h.row.1
  rw [flat_len mrow_len] at this
  omega
theorem ML.below (h : ML T B w A n c xs) (hb : Below w.heap.size w w') : ML T B w' A n c xs := ⟨ownsRow_below h.row hb, fun x hx => (h.line x hx).below hb⟩
theorem ML.drew (h : ML T B w A n c xs) : ML T B w.drew A n c xs := h.below ((Below.refl _ _).drew)
theorem ML.base_le (h : ML T B w A n c xs) (hb : B' ≤ B) : ML T B' w A n c xs := ⟨ownsRow_base_le h.row hb, fun x hx => OwnB.base_le (h.line x hx) hb⟩
theorem ML.add {w2 w4 : World} {g4 c4 : Nat} {x : Mle × Sl} (h : ML T B w A n c xs) (hT : T ≠ 5) (hx : OwnB w2 B x.2.1 x.2.2.1 x.2.2.2 x.1.b) (hb : Below w.heap.size w w2) (hb3 : Below w2.heap.size w2 w')
    (own4 : w4.ownsRow B T 3 (.slice (some ⟨g4, 0, none⟩) (n + 1) c4) (n + 1) (xs.flatMap mrow ++ mrow x)) (k4 : Keeps (Mine A n c) w' w4) : ML T B w4 (some ⟨g4, 0, none⟩) (n + 1) c4 (xs ++ [x]) := by
  have off : Off (Mine A n c) w' [5] := Off.of (T := T) (owns_tb (ownsRow_below (ownsRow_below h.row hb) hb3)) (by simpa using hT)
  refine ⟨by rw [List.flatMap_append, List.flatMap_singleton]; exact own4, fun y hy => ?_⟩
  rcases List.mem_append.1 hy with hy | hy
  · exact owns_off (((h.line y hy).below hb).below hb3) k4 off (by simp)
  · rw [List.mem_singleton.1 hy]
    exact owns_off (hx.below hb3) k4 off (by simp)
theorem ML.keepsBelow {w4 : World} (h : ML T B w A n c xs) (hB : B ≤ w.heap.size) (k4 : Keeps (Mine A n c) w w4) : Below B w w4 := k4.below hB fun k hk hm => by have := World.ownsRow.lt h.row k hm.symm; omega
end
theorem elem_mails : ElemN 42 47 (.agg #[.int .i64 0, .int .i64 0, .slice none 0 0]) 3 40 := ⟨Try.underlying42, by kernel_rfl, rfl, by omega⟩
/-- What who quits sends. -/
def Co.quitTo (s : Co) (j : Nat) : Mle := ⟨s.cfg.me, j, (⟨2, s.cfg.me, j, s.cfg.id, 0, [], 0, 0, 0⟩ : Pkt).enc⟩
def Co.them (s : Co) : List Nat := othersOf s.peers.length s.cfg.me.toNat
def Co.quitMails (s : Co) : List Mle := if s.closed = true then [] else s.them.map s.quitTo
def Co.quit (s : Co) : Co := { s with closed := true }
theorem othersOf_pos {n me : Nat} (h : 2 ≤ n) : 0 < (othersOf n me).length := by
  apply List.length_pos_of_mem (a := if me = 0 then 1 else 0)
  unfold othersOf
  rw [List.mem_filter, List.mem_range]
  split
  · exact ⟨by omega, by simp; omega⟩
  · exact ⟨by omega, by simp; omega⟩
theorem take_succ_map {α β : Type} (f : α → β) (l : List α) (k : Nat) (h : k < l.length) : (l.take (k + 1)).map f = (l.take k).map f ++ [f l[k]] := by
  rw [List.take_succ_eq_append_getElem h, List.map_append]; rfl
theorem core_Quit_nil (w : World) : Calls Try.prog 32 #[.pointer none] w fun r w' => r = .returned (.slice none 0 0) ∧ w = w' := by
  go_enter Try.func32, Try.ntmps32
  go_wp2_with fail
  refine Calls.mono (core_Closed_nil w) ?_
  rintro r w2 ⟨rfl, rfl⟩
  go_wp2_with fail
  go_ret
  exact ⟨rfl, rfl⟩
set_option maxHeartbeats 4000000 in
theorem core_Quit {B : Nat} {w : World} {x : Nat} {p : CP} {s : Co} (h : CAt B w x p s) (hB : B ≤ w.heap.size) :
    Calls Try.prog 32 #[.pointer (some ⟨x, 0, none⟩)] w fun r w' => ∃ A n c xs, r = .returned (.slice A n c) ∧ ML 47 w.heap.size w' A n c xs ∧ xs.map Prod.fst = s.quitMails ∧ CAt B w' x p s.quit ∧ Stp w w' x p p := by
  have H := hide h
  have HB := hide hB
  obtain ⟨cl, hcl⟩ : ∃ cl, cl = s.closed := ⟨_, rfl⟩
  have HCL := hide hcl
  obtain ⟨Q, hQ⟩ : ∃ Q, Q = s.quitMails := ⟨_, rfl⟩
  have HQ := hide hQ
  obtain ⟨S, hS⟩ : ∃ S, S = s.quit := ⟨_, rfl⟩
  have HS := hide hS
  rw [← hQ, ← hS]
  have cc := h.cell (coRow_closed s p)
  have fz := h.hfrozen 15
  clear h hB hcl hQ hS
  go_enter Try.func32, Try.ntmps32
  go_wp2_with fail
  refine Calls.mono (core_Closed H.out) ?_
  rintro r w2 ⟨rfl, rfl⟩
  rw [← HCL.out]
  cases cl with
  | true =>
    have hSs : S = s := by
      rw [HS.out, Co.quit]
      have := HCL.out
      cases s
      simp only at this
      rw [← this]
    go_wp2_with fail
    go_ret
    exact ⟨none, 0, 0, [], rfl, ML.nil _ _ _, by rw [HQ.out, Co.quitMails, if_pos HCL.out.symm]; rfl, by rw [hSs]; exact H.out, Stp.refl _ _ _⟩
  | false =>
    obtain ⟨mi, hme, hmi, hmil, hll, h8⟩ := H.out.me
    have HME := hide hme
    have hn8 : s.peers.length ≤ 8 := by have := H.out.ok.np; have := H.out.ok.cfg.n; omega
    have HS2 := hide (H.out.setHead 15 (.bool true) s.quit (by rfl) rfl rfl rfl rfl ⟨H.out.ok.cfg, H.out.ok.np, H.out.ok.nl, H.out.ok.short, H.out.ok.head, H.out.ok.has, H.out.ok.heard, H.out.ok.frame, H.out.ok.sum, H.out.ok.marks, H.out.ok.mark, H.out.ok.now, H.out.ok.events⟩)
    have hq2 : s.quitMails = s.them.map s.quitTo := by rw [Co.quitMails, if_neg (by rw [← HCL.out]; decide)]
    have HQ2 : Hid (Q = (othersOf s.peers.length mi).map s.quitTo) := by show _ = _; rw [HQ.out, hq2, Co.them, hme, Int.toNat_natCast]
    have HSZ : Hid ((w.setCell ⟨x, 15, none⟩ (.bool true)).heap.size = w.heap.size) := World.size_setCell _ _ _
    clear hq2 hmi hmil hll hme
    go_upto_region 5 with fail
    generalize World.setCell w _ _ = w1 at HS2 HSZ ⊢
    have HC1 := hide HS2.out.1
    go_wp2_with fail
    refine Calls.mono (core_others HC1.out mi HME.out) ?_
    rintro r w2 ⟨oA, oc, rfl, ho2, hb2⟩
    have hlen : (Co.quit s).peers.length = s.peers.length := rfl
    rw [hlen] at ho2 ⊢
    obtain ⟨L, hL⟩ : ∃ L, L = othersOf s.peers.length mi := ⟨_, rfl⟩
    rw [← hL] at ho2 ⊢
    have HL := hide hL
    have hL1 : 0 < L.length := by rw [hL]; exact othersOf_pos (by have := H.out.ok.np; have := H.out.ok.cfg.n; omega)
    have hL8 : L.length ≤ 8 := by rw [hL]; exact Nat.le_trans (othersOf_len _ _) hn8
    obtain ⟨n, hn⟩ : ∃ n, n = L.length := ⟨_, rfl⟩
    rw [← hn] at ho2 hL8 hL1 ⊢
    have HN := hide hn
    obtain ⟨gL, hgL, -, -⟩ := ho2.form hL1
    subst hgL
    have HO2 := hide ho2
    have HB2 := hide hb2
    clear ho2 hb2 hL hn hlen cc fz
    go_wp2_with fail
    go_loopg [3, 14] n (fun gg s3 s14 wr => ∃ (k : Nat) (A : Option Addr) (c : Nat) (xs : List (Mle × Sl)), k ≤ n ∧ gg = n - k ∧ s14 = .int .i64 (k : Int) ∧ s3 = .slice A k c ∧ Hid (ML 47 w1.heap.size wr A k c xs) ∧ Hid (xs.map Prod.fst = (L.take k).map s.quitTo) ∧ Hid (OwnV 3 wr w1.heap.size (some ⟨gL, 0, none⟩) n oc (L.map iv)) ∧ Hid (Below w1.heap.size w1 wr))
    case atStart => exact ⟨0, none, 0, [], by omega, rfl, rfl, rfl, ML.nil _ _ _, rfl, HO2, HB2⟩
    case round =>
      obtain ⟨W1, hW1⟩ : ∃ W1, W1 = wr := ⟨_, rfl⟩
      subst hW1
      obtain ⟨k, A, c, xs, hkn, rfl, rfl, rfl, HML, HXS, HO, HBW⟩ := hrel
      by_cases hlt : k < n
      · obtain ⟨hl9, c9⟩ := HO.out.cell hlt
        have hlL : k < L.length := by rw [← HN.out]; exact hlt
        obtain ⟨j, hj⟩ : ∃ j, j = L[k] := ⟨_, rfl⟩
        have hc9 : W1.cell? ⟨gL, k, none⟩ = some (.int .i64 (j : Int)) := by rw [c9, List.getElem_map, hj]; rfl
        have HXS2 : Hid ((L.take (k + 1)).map s.quitTo = (L.take k).map s.quitTo ++ [s.quitTo j]) := by show _ = _; rw [take_succ_map _ _ _ hlL, hj]
        have HCW := hide (HC1.out.below HBW.out)
        have hki : (k : Int) < (n : Int) := by omega
        have hszW : w1.heap.size ≤ W1.heap.size := HBW.out.size
        clear hl9 c9 hj hlL
        go_wp2_with fail
        refine Calls.mono (core_mail HCW.out ⟨2, 0, 0, 0, 0, [], 0, 0, 0⟩ (LiesB.nil _ _ none) (Nat.le_refl _) (by omega) ⟨by show (0 : Int) ≤ 0; omega, by show (0 : Int) < _; omega⟩ (j : Int)) ?_
        rintro r w8 ⟨A8, n8, c8, rfl, ho8, hb8⟩
        have bn := Below_new w8 (.cells #[.int .i64 s.cfg.me, .int .i64 (j : Int), .slice A8 n8 c8] 47)
        have HML2 := hide ((HML.out.below hb8).below bn)
        have HL2 := hide (Lies.new w8 #[.int .i64 s.cfg.me, .int .i64 (j : Int), .slice A8 n8 c8] 47 (0, 0))
        have HB8 := hide (HBW.out.trans (hb8.mono hszW))
        have HB9 := hide (Below_step HB8.out bn)
        have HO8 := hide ho8
        have HBN := hide bn
        have HBB := hide hb8
        have hB9 : w1.heap.size ≤ (World.alloc w8 (.cells #[.int .i64 s.cfg.me, .int .i64 (j : Int), .slice A8 n8 c8] 47)).heap.size := HB9.out.size
        clear bn ho8 hb8
        have hme2 : s.quit.cfg.me = s.cfg.me := rfl
        rw [hme2]
        clear hme2
        go_wp2_with (refine wpN_append elem_mails rfl (.tmp 18) (.tmp 23) rfl w1.heap.size A k c _ rfl HML2.out.row _ _ 1 [.int .i64 s.cfg.me, .int .i64 (j : Int), .slice A8 n8 c8] rfl rfl HL2.out (by simp [Value.oneCell']) (by omega) (by omega) hB9 ?_; intro g9 c9 w9 own9 k9 hk9; have HOW := hide own9; have HK9 := hide k9; clear own9 k9 hk9)
        go_roundg (n - (k + 1))
        case measure => omega
        case rel =>
          refine ⟨k + 1, some ⟨g9, 0, none⟩, c9, xs ++ [(s.quitTo j, (A8, n8, c8))], by omega, rfl, by go_num, rfl, ?_, ?_, ?_, ?_⟩
          · exact HML.out.add (x := (s.quitTo j, (A8, n8, c8))) (by decide) (OwnB.base_le HO8.out hszW) HBB.out HBN.out HOW.out HK9.out
          · show _ = _
            rw [HXS2.out, ← HXS.out, List.map_append]; rfl
          · exact owns_off ((HO.out.below HBB.out).below HBN.out) HK9.out (Off.of (Ts := [3]) (owns_tb HML2.out.row) (by decide)) (by simp)
          · exact HB9.out.trans (HML2.out.keepsBelow hB9 HK9.out)
      · obtain rfl : k = n := by omega
        go_wp2_with fail
        go_ret
        have e1 : w1.heap.size = w.heap.size := HSZ.out
        refine ⟨A, k, c, xs, rfl, by have := HML.out; rw [e1] at this; exact this, ?_, by rw [HS.out]; exact HC1.out.below HBW.out, HS2.out.2.trans (Stp.of_below HBW.out)⟩
        rw [HXS.out, HQ2.out, HN.out, List.take_length, HL.out]
end Go.Proofs.Ytbcgffgiifminaa
namespace Go.Proofs.Ytbcgffgiifminaa
open Go.RowKit
set_option maxRecDepth 10000
set_option linter.unusedVariables false
def Peer.zero : Peer := ⟨0, 0, 0, 0, false⟩
def Co.ticked (s : Co) : Co := { s with now := s.now + 1 }
/-- Was nothing heard of a player for long? -/
def Co.isLate (s : Co) (j : Nat) : Bool := decide (40 ≤ s.now - (s.peers.getD j Peer.zero).heard)
def Co.lateWho (s : Co) : Option Nat := s.them.find? s.isLate
def Co.tick (s : Co) : Co := if s.closed = true then s else match s.ticked.lateWho with
  | some j => { s.ticked with events := s.events ++ [.late j], closed := true }
  | none => s.ticked
def Co.tellTo (s : Co) (j : Nat) : Mle := ⟨s.cfg.me, j, (s.telling j).enc⟩
def Co.tickMails (s : Co) : List Mle := if s.closed = true then [] else match s.ticked.lateWho with
  | some _ => []
  | none => s.them.map s.ticked.tellTo
theorem Co.Ok.tick {s : Co} (h : s.Ok) (hn : s.now < 1000000000) : s.ticked.Ok := ⟨h.cfg, h.np, h.nl, h.short, h.head, h.has, fun p hp => by have := h.heard p hp; show _ ∧ p.heard ≤ s.now + 1; omega, h.frame, h.sum, h.marks, h.mark, by have := h.now; show 0 ≤ s.now + 1 ∧ s.now + 1 ≤ _; omega, h.events⟩
theorem mem_others {n me j : Nat} : j ∈ othersOf n me ↔ j < n ∧ j ≠ me := by unfold othersOf; simp
theorem core_Tick_nil (w : World) : Calls Try.prog 22 #[.pointer none] w fun r w' => r = .returned (.slice none 0 0) ∧ w = w' := by
  go_enter Try.func22, Try.ntmps22
  go_wp2_with fail
  refine Calls.mono (core_Closed_nil w) ?_
  rintro r w2 ⟨rfl, rfl⟩
  go_wp2_with fail
  go_ret
  exact ⟨rfl, rfl⟩
set_option maxHeartbeats 8000000 in
theorem core_Tick {B : Nat} {w : World} {x : Nat} {p : CP} {s : Co} (h : CAt B w x p s) (hB : B ≤ w.heap.size) (hnow : s.now < 1000000000) (hen : p.en < 1000000000) :
    Calls Try.prog 22 #[.pointer (some ⟨x, 0, none⟩)] w fun r w' => ∃ A n c xs, r = .returned (.slice A n c) ∧ ML 47 w.heap.size w' A n c xs ∧ xs.map Prod.fst = s.tickMails ∧ ∃ p', CAt B w' x p' s.tick ∧ Stp w w' x p p' ∧ (0 < n → p' = p) := by
  have H := hide h
  have HB := hide hB
  obtain ⟨cl, hcl⟩ : ∃ cl, cl = s.closed := ⟨_, rfl⟩
  have HCL := hide hcl
  obtain ⟨Q, hQ⟩ : ∃ Q, Q = s.tickMails := ⟨_, rfl⟩
  have HQ := hide hQ
  obtain ⟨S, hS⟩ : ∃ S, S = s.tick := ⟨_, rfl⟩
  have HS := hide hS
  rw [← hQ, ← hS]
  have cn := h.cell (coRow_now s p)
  have fz := h.hfrozen 14
  clear h hB hcl hQ hS
  go_enter Try.func22, Try.ntmps22
  go_wp2_with fail
  refine Calls.mono (core_Closed H.out) ?_
  rintro r w2 ⟨rfl, rfl⟩
  rw [← HCL.out]
  cases cl with
  | true =>
    have hSs : S = s := by rw [HS.out, Co.tick, if_pos HCL.out.symm]
    go_wp2_with fail
    go_ret
    exact ⟨none, 0, 0, [], rfl, ML.nil _ _ _, by rw [HQ.out, Co.tickMails, if_pos HCL.out.symm]; rfl, p, by rw [hSs]; exact H.out, Stp.refl _ _ _, fun _ => rfl⟩
  | false =>
    obtain ⟨mi, hme, hmi, hmil, hll, h8⟩ := H.out.me
    have HME := hide hme
    have hn8 : s.peers.length ≤ 8 := by have := H.out.ok.np; have := H.out.ok.cfg.n; omega
    obtain ⟨nw, hnw⟩ : ∃ nw, nw = s.now := ⟨_, rfl⟩
    have HNW := hide hnw
    rw [← hnw] at cn
    have hnw2 : 0 ≤ nw ∧ nw < 1000000000 := by have := H.out.ok.now; rw [hnw]; omega
    have hww : IntKind.i64.wrap (nw + 1) = nw + 1 := IntWalk.i64_in _ ⟨by omega, by omega⟩
    have HS2 := hide (H.out.setHead 14 (.int .i64 (nw + 1)) s.ticked (by rw [hnw]; rfl) rfl rfl rfl rfl (H.out.ok.tick hnow))
    have HSZ : Hid ((w.setCell ⟨x, 14, none⟩ (.int .i64 (nw + 1))).heap.size = w.heap.size) := World.size_setCell _ _ _
    clear hmi hmil hll hme hnw
    go_upto_region 5 with fail
    generalize World.setCell w _ _ = w1 at HS2 HSZ ⊢
    have HC1 := hide HS2.out.1
    go_wp2_with fail
    refine Calls.mono (core_others HC1.out mi HME.out) ?_
    rintro r w2 ⟨oA, oc, rfl, ho2, hb2⟩
    have hlen : s.ticked.peers.length = s.peers.length := rfl
    rw [hlen] at ho2 ⊢
    obtain ⟨L, hL⟩ : ∃ L, L = othersOf s.peers.length mi := ⟨_, rfl⟩
    rw [← hL] at ho2 ⊢
    have HL := hide hL
    have hL1 : 0 < L.length := by rw [hL]; exact othersOf_pos (by have := H.out.ok.np; have := H.out.ok.cfg.n; omega)
    have hL8 : L.length ≤ 8 := by rw [hL]; exact Nat.le_trans (othersOf_len _ _) hn8
    have HLM : Hid (∀ j ∈ L, j < s.peers.length) := fun j hj => by rw [hL] at hj; exact (mem_others.1 hj).1
    have HTH : Hid (s.them = L) := by show _ = _; rw [hL, Co.them, HME.out, Int.toNat_natCast]
    obtain ⟨n, hn⟩ : ∃ n, n = L.length := ⟨_, rfl⟩
    rw [← hn] at ho2 hL8 hL1 ⊢
    have HN := hide hn
    obtain ⟨gL, hgL, -, -⟩ := ho2.form hL1
    subst hgL
    have HO2 := hide ho2
    have HC2 := hide (HC1.out.below hb2)
    have HB2 := hide hb2
    clear ho2 hb2 hL hn hlen cn fz
    go_wp2_with fail
    go_loopg [20] n (fun gg s20 wr => ∃ (k : Nat) (nd : Nat), k ≤ n ∧ gg = n - k ∧ s20 = .int .i64 (k : Int) ∧ wr = w2.drewN nd ∧ Hid (∀ j ∈ L.take k, s.ticked.isLate j = false))
    case atStart => exact ⟨0, 0, by omega, rfl, rfl, rfl, fun j hj => by simp at hj⟩
    case round =>
      obtain ⟨W1, hW1⟩ : ∃ W1, W1 = wr := ⟨_, rfl⟩
      subst hW1
      obtain ⟨k, nd, hkn, rfl, rfl, hnd, HNL⟩ := hrel
      have HND := hide hnd
      have HCW : Hid (CAt B W1 x p s.ticked) := by show CAt _ _ _ _ _; rw [hnd]; exact HC2.out.drewN nd
      have HOW : Hid (OwnV 3 W1 w1.heap.size (some ⟨gL, 0, none⟩) n oc (L.map iv)) := by show OwnV _ _ _ _ _ _ _; rw [hnd]; exact HO2.out.below (Below_drewN (Below.refl _ _) nd)
      have HBW : Hid (Below w1.heap.size w1 W1) := by show Below _ _ _; rw [hnd]; exact Below_drewN HB2.out nd
      clear hnd
      by_cases hlt : k < n
      · obtain ⟨hl9, c9⟩ := HOW.out.cell hlt
        have hlL : k < L.length := by rw [← HN.out]; exact hlt
        obtain ⟨j, hj⟩ : ∃ j, j = L[k] := ⟨_, rfl⟩
        have hc9 : W1.cell? ⟨gL, k, none⟩ = some (.int .i64 (j : Int)) := by rw [c9, List.getElem_map, hj]; rfl
        have hjn : j < s.peers.length := HLM.out j (by rw [hj]; exact List.getElem_mem _)
        have HJ : Hid (L[k]? = some j) := by show _ = _; rw [List.getElem?_eq_getElem hlL, hj]
        obtain ⟨pr, hpr⟩ : ∃ pr, pr = s.peers[j] := ⟨_, rfl⟩
        have hpr2 : s.ticked.peers[j]'hjn = pr := hpr.symm
        obtain ⟨hd, hhd⟩ : ∃ hd, hd = pr.heard := ⟨_, rfl⟩
        have c1 : W1.cell? ⟨p.g, j * 5 + 1, none⟩ = some (.int .i64 hd) := HCW.out.pcell (j := 1) (v := .int .i64 hd) (i := j) hjn (by omega) (by rw [hpr2, hhd]; rfl)
        have hhd2 : 0 ≤ hd ∧ hd ≤ nw := by rw [hhd, HNW.out]; exact H.out.ok.heard pr (by rw [hpr]; exact List.getElem_mem _)
        have cP := HCW.out.cell (coRow_peers _ _)
        have hnp : s.ticked.peers.length = s.peers.length := rfl
        obtain ⟨np, hnp2⟩ : ∃ np, np = s.peers.length := ⟨_, rfl⟩
        rw [hnp, ← hnp2] at cP
        have hjn2 : (j : Int) < (np : Int) := by rw [hnp2]; omega
        have cN := HCW.out.cell (coRow_now _ _)
        have hnn : s.ticked.now = nw + 1 := by rw [HNW.out]; rfl
        rw [hnn] at cN
        have hw2 : IntKind.i64.wrap (nw + 1 - hd) = nw + 1 - hd := IntWalk.i64_in _ ⟨by omega, by omega⟩
        obtain ⟨z, hz⟩ : ∃ z : Bool, decide (nw + 1 - hd ≥ 40) = z := ⟨_, rfl⟩
        have HZ : Hid (s.ticked.isLate j = z) := by
          show _ = _
          have hg : s.ticked.peers.getD j Peer.zero = pr := by show s.peers.getD j Peer.zero = pr; rw [List.getD_eq_getElem?_getD, List.getElem?_eq_getElem hjn, hpr]; rfl
          rw [← hz, Co.isLate, hnn, hg, ← hhd]
        have HJN := hide hjn
        have hki : (k : Int) < (n : Int) := by omega
        clear hl9 c9 hj hlL hpr hpr2 hhd hnp hnp2 hnn hjn
        go_upto_region 8 with fail
        go_cut [37] from 21 to 45 (fun s37 wx => s37 = .bool z ∧ ∃ nd2, wx = W1.drewN nd2)
        case first =>
          go_quiet (fail)
          go_wp2_with fail
          go_meet
          exact ⟨rfl, _, rfl⟩
        case rest =>
        obtain ⟨rfl, nd2, hnd2⟩ := hcut
        obtain ⟨W2, hW2⟩ : ∃ W2, W2 = wc := ⟨_, rfl⟩
        subst hW2
        have HND2 : Hid (W2 = w2.drewN (nd + nd2)) := by show _ = _; rw [hnd2, HND.out]; exact World.drewN_drewN _ _ _
        have HC3 : Hid (CAt B W2 x p s.ticked) := by show CAt _ _ _ _ _; rw [hnd2]; exact HCW.out.drewN nd2
        have HB3 : Hid (Below w1.heap.size w1 W2) := by show Below _ _ _; rw [hnd2]; exact Below_drewN HBW.out nd2
        clear hnd2 c1 cP cN
        cases z with
        | false =>
          go_wp2_with fail
          go_roundg (n - (k + 1))
          case measure => omega
          case rel =>
            refine ⟨k + 1, nd + nd2, by omega, rfl, by go_num, HND2.out, ?_⟩
            intro q hq
            rw [List.take_add_one, HJ.out] at hq
            rcases List.mem_append.1 hq with hq | hq
            · exact HNL.out q hq
            · have : q = j := by simpa using hq
              rw [this]; exact HZ.out
        | true =>
          have HLW : Hid (s.ticked.lateWho = some j) := by
            show _ = _
            have e1 : s.ticked.lateWho = s.them.find? s.ticked.isLate := rfl
            obtain ⟨hlk, hjk⟩ := List.getElem?_eq_some_iff.1 HJ.out
            rw [e1, HTH.out, List.find?_eq_some_iff_append]
            refine ⟨HZ.out, L.take k, L.drop (k + 1), ?_, fun q hq => by rw [HNL.out q hq]; rfl⟩
            rw [← hjk, List.getElem_cons_drop, List.take_append_drop]
          have hB3 : B ≤ W2.heap.size := by have := HB.out; have := HSZ.out; have := HB3.out.size; omega
          have hj8 : j < 8 := by have := HJN.out; omega
          go_wp2_with fail
          refine Calls.mono (core_note HC3.out hB3 (.late (j : Int)) ⟨⟨by show 0 ≤ (j : Int); omega, by show (j : Int) < 8; omega⟩, ⟨by show (0 : Int) ≤ 0; omega, by show (0 : Int) ≤ 1000; omega⟩⟩ hen) ?_
          rintro r w5 ⟨rfl, p5, hc5, hst5⟩
          have HC5 := hide hc5
          have HST5 := hide hst5
          have f15 := hc5.hfrozen 15
          have c15 := hc5.cell (coRow_closed _ _)
          have HC6 := hide (hc5.setHead 15 (.bool true) { s.ticked with events := s.ticked.events ++ [.late (j : Int)], closed := true } (by rfl) rfl rfl rfl rfl ⟨hc5.ok.cfg, hc5.ok.np, hc5.ok.nl, hc5.ok.short, hc5.ok.head, hc5.ok.has, hc5.ok.heard, hc5.ok.frame, hc5.ok.sum, hc5.ok.marks, hc5.ok.mark, hc5.ok.now, hc5.ok.events⟩)
          clear hc5 hst5
          go_wp2_with fail
          go_ret
          refine ⟨none, 0, 0, [], rfl, ML.nil _ _ _, ?_, p5, ?_, ((HS2.out.2.trans (Stp.of_below HB3.out)).trans HST5.out).trans HC6.out.2, fun h => absurd h (by omega)⟩
          · rw [HQ.out, Co.tickMails, if_neg (by rw [← HCL.out]; decide), HLW.out]; rfl
          · rw [HS.out, Co.tick, if_neg (by rw [← HCL.out]; decide), HLW.out]
            exact HC6.out.1
      · obtain rfl : n = k := by omega
        have HLW : Hid (s.ticked.lateWho = none) := by
          show _ = _
          have e1 : s.ticked.lateWho = s.them.find? s.ticked.isLate := rfl
          rw [e1, HTH.out, List.find?_eq_none]
          intro q hq
          rw [HNL.out q (by rw [HN.out, List.take_length]; exact hq)]
          decide
        clear HNL
        go_wp2_with fail
        refine Calls.mono (core_others HCW.out mi HME.out) ?_
        rintro r w3 ⟨oA, oc3, rfl, ho3, hb3⟩
        have hlen : s.ticked.peers.length = s.peers.length := rfl
        rw [hlen, ← HL.out, ← HN.out] at ho3 ⊢
        obtain ⟨g3, hg3, -, -⟩ := ho3.form hL1
        subst hg3
        have HO3 := hide (ho3.base_le HBW.out.size)
        have HB3 := hide (Below_step HBW.out hb3)
        clear ho3 hb3 hlen
        go_wp2_with fail
        go_loopg [3, 49] n (fun gg s3 s49 wr => ∃ (k : Nat) (A : Option Addr) (c : Nat) (xs : List (Mle × Sl)), k ≤ n ∧ gg = n - k ∧ s49 = .int .i64 (k : Int) ∧ s3 = .slice A k c ∧ Hid (ML 47 w1.heap.size wr A k c xs) ∧ Hid (xs.map Prod.fst = (L.take k).map s.ticked.tellTo) ∧ Hid (OwnV 3 wr w1.heap.size (some ⟨g3, 0, none⟩) n oc3 (L.map iv)) ∧ Hid (Below w1.heap.size w1 wr))
        case atStart => exact ⟨0, none, 0, [], by omega, rfl, rfl, rfl, ML.nil _ _ _, rfl, HO3, HB3⟩
        case round =>
          obtain ⟨W1, hW1⟩ : ∃ W1, W1 = wr := ⟨_, rfl⟩
          subst hW1
          obtain ⟨k, A, c, xs, hkn, rfl, rfl, rfl, HML, HXS, HO, HBW⟩ := hrel
          by_cases hlt : k < n
          · obtain ⟨hl9, c9⟩ := HO.out.cell hlt
            have hlL : k < L.length := by rw [← HN.out]; exact hlt
            obtain ⟨j, hj⟩ : ∃ j, j = L[k] := ⟨_, rfl⟩
            have hc9 : W1.cell? ⟨g3, k, none⟩ = some (.int .i64 (j : Int)) := by rw [c9, List.getElem_map, hj]; rfl
            have HXS2 : Hid ((L.take (k + 1)).map s.ticked.tellTo = (L.take k).map s.ticked.tellTo ++ [s.ticked.tellTo j]) := by show _ = _; rw [take_succ_map _ _ _ hlL, hj]
            have HCW := hide (HC1.out.below HBW.out)
            have hki : (k : Int) < (n : Int) := by omega
            have hjn : j < s.ticked.peers.length := HLM.out j (by rw [hj]; exact List.getElem_mem _)
            have hBW : B ≤ W1.heap.size := by have := HB.out; have := HSZ.out; have := HBW.out.size; omega
            have hszW : w1.heap.size ≤ W1.heap.size := HBW.out.size
            clear hl9 c9 hj hlL
            go_wp2_with fail
            refine Calls.mono (core_input HCW.out hBW j hjn rfl) ?_
            rintro r w8 ⟨A8, n8, c8, rfl, ho8, hb8⟩
            have bn := Below_new w8 (.cells #[.int .i64 s.cfg.me, .int .i64 (j : Int), .slice A8 n8 c8] 47)
            have HML2 := hide ((HML.out.below hb8).below bn)
            have HL2 := hide (Lies.new w8 #[.int .i64 s.cfg.me, .int .i64 (j : Int), .slice A8 n8 c8] 47 (0, 0))
            have HB8 := hide (HBW.out.trans (hb8.mono hszW))
            have HB9 := hide (Below_step HB8.out bn)
            have HO8 := hide ho8
            have HBN := hide bn
            have HBB := hide hb8
            have hB9 : w1.heap.size ≤ (World.alloc w8 (.cells #[.int .i64 s.cfg.me, .int .i64 (j : Int), .slice A8 n8 c8] 47)).heap.size := HB9.out.size
            clear bn ho8 hb8
            have hme2 : s.ticked.cfg.me = s.cfg.me := rfl
            rw [hme2]
            clear hme2
            go_wp2_with (refine wpN_append elem_mails rfl (.tmp 53) (.tmp 57) rfl w1.heap.size A k c _ rfl HML2.out.row _ _ 1 [.int .i64 s.cfg.me, .int .i64 (j : Int), .slice A8 n8 c8] rfl rfl HL2.out (by simp [Value.oneCell']) (by omega) (by omega) hB9 ?_; intro g9 c9 w9 own9 k9 hk9; have HOW := hide own9; have HK9 := hide k9; clear own9 k9 hk9)
            go_roundg (n - (k + 1))
            case measure => omega
            case rel =>
              refine ⟨k + 1, some ⟨g9, 0, none⟩, c9, xs ++ [(s.ticked.tellTo j, (A8, n8, c8))], by omega, rfl, by go_num, rfl, ?_, ?_, ?_, ?_⟩
              · exact HML.out.add (x := (s.ticked.tellTo j, (A8, n8, c8))) (by decide) (OwnB.base_le HO8.out hszW) HBB.out HBN.out HOW.out HK9.out
              · show _ = _
                rw [HXS2.out, ← HXS.out, List.map_append]; rfl
              · exact owns_off ((HO.out.below HBB.out).below HBN.out) HK9.out (Off.of (Ts := [3]) (owns_tb HML2.out.row) (by decide)) (by simp)
              · exact HB9.out.trans (HML2.out.keepsBelow hB9 HK9.out)
          · obtain rfl : k = n := by omega
            go_wp2_with fail
            go_ret
            have e1 : w1.heap.size = w.heap.size := HSZ.out
            refine ⟨A, k, c, xs, rfl, by have := HML.out; rw [e1] at this; exact this, ?_, p, by rw [HS.out, Co.tick, if_neg (by rw [← HCL.out]; decide), HLW.out]; exact HC1.out.below HBW.out, HS2.out.2.trans (Stp.of_below HBW.out), fun _ => rfl⟩
            rw [HXS.out, HQ.out, Co.tickMails, if_neg (by rw [← HCL.out]; decide), HLW.out, HN.out, List.take_length, HTH.out]
end Go.Proofs.Ytbcgffgiifminaa
namespace Go.Proofs.Ytbcgffgiifminaa
open Go.RowKit
set_option maxRecDepth 10000
set_option linter.unusedVariables false
def Co.setP (s : Co) (j : Nat) (q : Peer) : Co := { s with peers := s.peers.set j q }
def Co.pr (s : Co) (j : Nat) : Peer := s.peers.getD j Peer.zero
def Co.hear1 (s : Co) (j : Nat) : Co := s.setP j { s.pr j with heard := s.now }
def Co.hear2 (s : Co) (j : Nat) (p : Pkt) : Co := { s with ls := s.ls.set j (s.ls.getD j [] ++ putAdd (s.ls.getD j []) p.first p.press) }
def Co.acks (s : Co) (j : Nat) (p : Pkt) : Bool := decide (p.ack > (s.pr j).has) && decide (p.ack ≤ (s.mine.length : Int))
def Co.hear3 (s : Co) (j : Nat) (p : Pkt) : Co := if s.acks j p = true then s.setP j { s.pr j with has := p.ack } else s
def Co.words (s : Co) (j : Nat) (p : Pkt) : Bool := decide (p.frame > 0) && decide (p.frame ≥ (s.pr j).frame)
def Co.hear4 (s : Co) (j : Nat) (p : Pkt) : Co := if s.words j p = true then s.setP j { s.pr j with frame := p.frame, sum := p.sum } else s
/-- What a player knows behind a packet that is for it. -/
def Co.hear (s : Co) (p : Pkt) : Co :=
  if p.kind = 2 then { s.hear1 p.src.toNat with events := s.events ++ [.quit p.src], closed := true }
  else ((((s.hear1 p.src.toNat).hear2 p.src.toNat p).hear3 p.src.toNat p).hear4 p.src.toNat p).hold
/-- Is it for this player, of this game, of one of its players? -/
def Co.fits (s : Co) (p : Pkt) : Bool := decide (p.dst = s.cfg.me) && (decide (p.src < s.cfg.n) && decide (p.id = s.cfg.id))
section
variable {B : Nat} {w : World} {x : Nat} {p : CP} {s : Co}
theorem CAt.off (h : CAt B w x p s) {Ts : List TypeId} (h1 : ∀ T ∈ [84, 90, 50, 109, 5, 86, 39, 114], T ∉ Ts) : Off (cBlocks x p) w Ts := by
  intro k hk T hT hb
  have key : ∀ T', T' ∈ [84, 90, 50, 109, 5, 86, 39, 114] → TB w k T' → False := fun T' hm hb' => by
    rw [hb.one hb'] at hT
    exact h1 T' hm hT
  rcases hk with rfl | rfl | hk | ⟨i, hi, hk⟩ | rfl | hk | hk
  · exact key _ (by simp) h.head.tb
  · exact key _ (by simp) h.q.head.tb
  · exact key _ (by simp) (owns_tb h.q.row k hk)
  · rcases (h.line i hi).tb k hk with h' | h'
    · exact key _ (by simp) h'
    · exact key _ (by simp) h'
  · exact key _ (by simp) (owns_tb h.peers _ rfl)
  · exact key _ (by simp) (owns_tb h.marks k hk)
  · exact key _ (by simp) (owns_tb h.events k hk)
end
theorem core_Receive_nil (A : Option Addr) (n c : Nat) (w : World) : Calls Try.prog 20 #[.pointer none, .slice A n c] w fun r w' => r = .returned (.int .i64 6) ∧ w = w' := by
  go_enter Try.func20, Try.ntmps20
  go_wp2_with fail
  refine Calls.mono (core_Closed_nil w) ?_
  rintro r w2 ⟨rfl, rfl⟩
  go_wp2_with fail
  go_ret
  exact ⟨rfl, rfl⟩
theorem core_Receive_closed {B : Nat} {w : World} {x : Nat} {p : CP} {s : Co} (h : CAt B w x p s) (hcl : s.closed = true) (A : Option Addr) (n c : Nat) : Calls Try.prog 20 #[.pointer (some ⟨x, 0, none⟩), .slice A n c] w fun r w' => r = .returned (.int .i64 6) ∧ w = w' := by
  have H := hide h
  have HC := hide hcl
  clear h hcl
  go_enter Try.func20, Try.ntmps20
  go_wp2_with fail
  refine Calls.mono (core_Closed H.out) ?_
  rintro r w2 ⟨rfl, rfl⟩
  rw [HC.out]
  go_wp2_with fail
  go_ret
  exact ⟨rfl, rfl⟩
set_option maxHeartbeats 2000000 in
theorem core_Receive_no {B : Nat} {w : World} {x : Nat} {p : CP} {s : Co} (h : CAt B w x p s) (hcl : s.closed = false) {A : Option Addr} {n c B' : Nat} {b : List UInt8} (hb : ∀ q, ¬ Pkt.Is b q) (hA : LiesB w B' A n b) (hB' : B' ≤ w.heap.size) (hnc : n ≤ c) (hn : n ≤ 1000000) :
    Calls Try.prog 20 #[.pointer (some ⟨x, 0, none⟩), .slice A n c] w fun r w' => r = .returned (.int .i64 1) ∧ Below w.heap.size w w' := by
  have H := hide h
  have HC := hide hcl
  have HNO := hide hb
  have HA := hide hA
  have HBB := hide hB'
  have HNC := hide hnc
  clear h hcl hb hA hB' hnc
  go_enter Try.func20, Try.ntmps20
  go_wp2_with fail
  refine Calls.mono (core_Closed H.out) ?_
  rintro r w2 ⟨rfl, rfl⟩
  rw [HC.out]
  go_wp2_with fail
  refine Calls.mono (packet_Decode_no HNO.out HA.out HBB.out HNC.out hn) ?_
  rintro r w2 ⟨rfl, hb2⟩
  have HB2 := hide hb2
  clear hb2
  go_upto_region 4 with (refine wpP_init rfl (.tmp 5) (.tmp 13) rfl Pkt.zero none 0 0 rfl rfl rfl ?_; intro w3 ha3 hb3 hs3)
  have HB3 := hide (Below_step HB2.out hb3)
  clear ha3 hb3 hs3
  go_cut [46] (fun s46 wx => s46 = .bool true ∧ ∃ nd, wx = w3.drewN nd)
  case first =>
    go_quiet (fail)
    go_wp2_with fail
    go_meet
    exact ⟨rfl, _, rfl⟩
  case rest =>
  obtain ⟨rfl, nd, rfl⟩ := hcut
  go_wp2_with fail
  go_ret
  exact ⟨rfl, Below_drewN HB3.out nd⟩
end Go.Proofs.Ytbcgffgiifminaa
namespace Go.Proofs.Ytbcgffgiifminaa
open Go.RowKit
set_option maxRecDepth 10000
set_option linter.unusedVariables false
set_option maxHeartbeats 16000000 in
theorem core_Receive_yes {B : Nat} {w : World} {x : Nat} {p : CP} {s : Co} (h : CAt B w x p s) (hBw : B ≤ w.heap.size) (hcl : s.closed = false) (hen : p.en ≤ 999999000) {A : Option Addr} {n c B' : Nat} {b : List UInt8} (k : Pkt) (hb : Pkt.Is b k) (hA : LiesB w B' A n b) (hB' : B' ≤ w.heap.size) (hnc : n ≤ c) (hn : n ≤ 1000000) :
    Calls Try.prog 20 #[.pointer (some ⟨x, 0, none⟩), .slice A n c] w fun r w' => r = .returned (.int .i64 (if s.fits k = true then 0 else 1)) ∧ ∃ p', CAt B w' x p' (if s.fits k = true then s.hear k else s) ∧ Stp w w' x p p' := by
  have H := hide h
  have HC := hide hcl
  have HIS := hide hb
  have HA := hide hA
  have HBB := hide hB'
  have HB := hide hBw
  have HNC := hide hnc
  have hfine := Pkt.may_iff.1 hb.1
  have hwf := hb.2.1
  obtain ⟨j, hj⟩ : ∃ j : Nat, k.src = (j : Int) := ⟨k.src.toNat, by have := hfine.src; omega⟩
  have HJ := hide hj
  obtain ⟨S, hS⟩ : ∃ S, S = (if s.fits k = true then s.hear k else s) := ⟨_, rfl⟩
  have HS := hide hS
  obtain ⟨R, hR⟩ : ∃ R : Int, R = (if s.fits k = true then 0 else 1) := ⟨_, rfl⟩
  have HR := hide hR
  rw [← hS, ← hR]
  have HFINE := hide hfine
  have HWF := hide hwf
  have c1 := h.cell (coRow_me s p)
  have c2 := h.cell (coRow_id s p)
  have c0 := h.cell (coRow_n s p)
  clear h hcl hb hA hB' hnc hBw hfine hwf hj hS hR
  go_enter Try.func20, Try.ntmps20
  go_wp2_with fail
  refine Calls.mono (core_Closed H.out) ?_
  rintro r w2 ⟨rfl, rfl⟩
  rw [HC.out]
  go_wp2_with fail
  refine Calls.mono (packet_Decode_fresh k HIS.out HA.out HBB.out HNC.out hn) ?_
  rintro r w2 ⟨A2, n2, cc2, rfl, hl2, hcap2, hn2, hb2, hfr2⟩
  have HB2 := hide hb2
  have HL2 := hide hl2
  have HFR := hide hfr2
  have c1 := below_cell hb2 c1
  have c2 := below_cell hb2 c2
  have c0 := below_cell hb2 c0
  clear hb2 hl2 hfr2
  obtain ⟨kind, src, dst, kid, first, press, ack, frame, sum⟩ := k
  simp only at HJ HFR HL2
  go_upto_region 4 with (refine wpP_init rfl (.tmp 5) (.tmp 13) rfl ⟨kind, src, dst, kid, first, press, ack, frame, sum⟩ A2 n2 cc2 rfl rfl rfl ?_; intro w3 ha3 hb3 hs3)
  obtain ⟨g, hg⟩ : ∃ g, g = w2.heap.size := ⟨_, rfl⟩
  have HG := hide hg
  rw [← hg] at ha3 ⊢
  have HP3 := hide ha3
  have HB3 := hide (Below_step HB2.out hb3)
  have HL3 := hide (HL2.out.below hb3)
  have c1 := below_cell hb3 c1
  have c2 := below_cell hb3 c2
  have c0 := below_cell hb3 c0
  have q1 := ha3.cell (j := 1) (by simp)
  have q2 := ha3.cell (j := 2) (by simp)
  have q3 := ha3.cell (j := 3) (by simp)
  simp only [List.getElem_cons_zero, List.getElem_cons_succ] at q1 q2 q3
  obtain ⟨me, hme⟩ : ∃ me, me = s.cfg.me := ⟨_, rfl⟩
  obtain ⟨id, hid⟩ : ∃ id, id = s.cfg.id := ⟨_, rfl⟩
  obtain ⟨np, hnp⟩ : ∃ np, np = s.cfg.n := ⟨_, rfl⟩
  rw [← hme] at c1
  rw [← hid] at c2
  rw [← hnp] at c0
  obtain ⟨z, hz⟩ : ∃ z, z = s.fits ⟨kind, src, dst, kid, first, press, ack, frame, sum⟩ := ⟨_, rfl⟩
  have hz2 : z = (decide (dst = me) && (decide (src < np) && decide (kid = id))) := by rw [hz, Co.fits, hme, hid, hnp]
  have HZ := hide hz
  have HNP := hide hnp
  rw [← hz] at HS HR
  clear ha3 hb3 hs3 hg hz hme hid hnp
  go_cut [46] (fun s46 wx => s46 = .bool (!z) ∧ ∃ nd, wx = w3.drewN nd)
  case first =>
    by_cases h1 : dst = me
    · have d1 : (dst != me) = false := by simp [h1]
      by_cases h2 : src < np
      · have d2 : decide (src ≥ np) = false := decide_eq_false (by omega)
        by_cases h3 : kid = id
        · have d3 : (kid != id) = false := by simp [h3]
          have e : Hid (z = true) := by show _ = _; rw [hz2, decide_eq_true h1, decide_eq_true h2, decide_eq_true h3]; rfl
          clear hz2 h1 h2 h3
          go_quiet (fail)
          go_wp2_with fail
          go_meet
          exact ⟨by rw [e.out]; rfl, _, rfl⟩
        · have d3 : (kid != id) = true := by simp [h3]
          have e : Hid (z = false) := by show _ = _; rw [hz2, decide_eq_true h1, decide_eq_true h2, decide_eq_false h3]; rfl
          clear hz2 h1 h2 h3
          go_quiet (fail)
          go_wp2_with fail
          go_meet
          exact ⟨by rw [e.out]; rfl, _, rfl⟩
      · have d2 : decide (src ≥ np) = true := decide_eq_true (by omega)
        have e : Hid (z = false) := by show _ = _; rw [hz2, decide_eq_true h1, decide_eq_false h2]; rfl
        clear hz2 h1 h2
        go_quiet (fail)
        go_wp2_with fail
        go_meet
        exact ⟨by rw [e.out]; rfl, _, rfl⟩
    · have d1 : (dst != me) = true := by simp [h1]
      have e : Hid (z = false) := by show _ = _; rw [hz2, decide_eq_false h1]; rfl
      clear hz2 h1
      go_quiet (fail)
      go_wp2_with fail
      go_meet
      exact ⟨by rw [e.out]; rfl, _, rfl⟩
  case rest =>
  obtain ⟨rfl, nd, hnd⟩ := hcut
  obtain ⟨W4, hW4⟩ : ∃ W4, W4 = wc := ⟨_, rfl⟩
  subst hW4
  have HP4 : Hid (Arr 41 W4 g (Pkt.row ⟨kind, src, dst, kid, first, press, ack, frame, sum⟩ (.slice A2 n2 cc2))) := by show Arr _ _ _ _; rw [hnd]; exact HP3.out.drewN nd
  have HB4 : Hid (Below w.heap.size w W4) := by show Below _ _ _; rw [hnd]; exact Below_drewN HB3.out nd
  have HL4 : Hid (LiesB W4 w2.heap.size A2 n2 press) := by show LiesB _ _ _ _ _; rw [hnd]; exact HL3.out.drewN nd
  clear hnd HP3 HB3 HL3 HL2 c1 c2 c0 q1 q2 q3
  cases z with
  | false =>
    go_wp2_with fail
    go_ret
    refine ⟨by rw [HR.out]; rfl, p, ?_, Stp.of_below HB4.out⟩
    rw [HS.out, if_neg (by decide)]
    exact H.out.below HB4.out
  | true =>
    rw [if_pos rfl] at HS HR
    have hnpl : (s.peers.length : Int) = np := by rw [HNP.out]; exact H.out.ok.np
    have hjn : j < s.peers.length := by
      have h1 := hz2
      simp only [Bool.true_eq, Bool.and_eq_true, decide_eq_true_eq] at h1
      have := HJ.out
      omega
    have hjm : (j : Int) ≠ me := by
      have h1 := hz2
      simp only [Bool.true_eq, Bool.and_eq_true, decide_eq_true_eq] at h1
      have h3 := HFINE.out.ne
      simp only at h3
      rw [← h1.1, ← HJ.out]
      exact h3
    have HC4 := hide (H.out.below HB4.out)
    have c11 := HC4.out.cell (coRow_peers s p)
    have q1 := HP4.out.cell (j := 1) (by simp)
    simp only [List.getElem_cons_zero, List.getElem_cons_succ] at q1
    rw [HJ.out] at q1
    obtain ⟨npl, hnpl2⟩ : ∃ npl, npl = s.peers.length := ⟨_, rfl⟩
    rw [← hnpl2] at c11
    have hjl : (j : Int) < (npl : Int) := by rw [hnpl2]; omega
    have HJN := hide hjn
    have HJM := hide hjm
    have HNPL := hide hnpl2
    clear hz2 hnpl hjn hjm hnpl2
    go_upto_region 6 with fail
    go_cut [7] (fun s7 wx => s7 = .pointer (some ⟨p.g, j * 5, none⟩) ∧ ∃ nd, wx = W4.drewN nd)
    case first =>
      go_quiet (fail)
      go_wp2_with fail
      go_meet
      exact ⟨rfl, _, rfl⟩
    case rest =>
    obtain ⟨rfl, nd, hnd⟩ := hcut
    obtain ⟨W5, hW5⟩ : ∃ W5, W5 = wc := ⟨_, rfl⟩
    subst hW5
    have HP5 : Hid (Arr 41 W5 g (Pkt.row ⟨kind, src, dst, kid, first, press, ack, frame, sum⟩ (.slice A2 n2 cc2))) := by show Arr _ _ _ _; rw [hnd]; exact HP4.out.drewN nd
    have HB5 : Hid (Below w.heap.size w W5) := by show Below _ _ _; rw [hnd]; exact Below_drewN HB4.out nd
    have HL5 : Hid (LiesB W5 w2.heap.size A2 n2 press) := by show LiesB _ _ _ _ _; rw [hnd]; exact HL4.out.drewN nd
    have HC5 := hide (H.out.below HB5.out)
    clear hnd HP4 HB4 HL4 HC4 c11 q1
    obtain ⟨pr, hpr⟩ : ∃ pr, pr = s.peers[j]'HJN.out := ⟨_, rfl⟩
    have HPR : Hid (s.pr j = pr) := by show _ = _; rw [hpr, Co.pr, List.getD_eq_getElem?_getD, List.getElem?_eq_getElem HJN.out]; rfl
    have HPM : Hid (pr ∈ s.peers) := by rw [hpr]; exact List.getElem_mem _
    have cN := HC5.out.cell (coRow_now s p)
    have cH := HC5.out.pcell (i := j) (j := 1) (v := .int .i64 pr.heard) HJN.out (by omega) (by rw [hpr]; rfl)
    have fH := HC5.out.pfrozen (j * 5 + 1)
    have HS1 := hide (HC5.out.setPeer j 1 (.int .i64 s.now) { pr with heard := s.now } HJN.out (by omega) (by rw [hpr]; rfl) (HC5.out.ok.setPeer j _ (HC5.out.ok.has pr HPM.out) ⟨HC5.out.ok.now.1, Int.le_refl _⟩ (HC5.out.ok.frame pr HPM.out) (HC5.out.ok.sum pr HPM.out)))
    have HE1 : Hid ({ s with peers := s.peers.set j { pr with heard := s.now } } = s.hear1 j) := by show _ = _; rw [Co.hear1, HPR.out]; rfl
    have hpg : p.g < w.heap.size := (H.out.blocks p.g (.inr (.inr (.inr (.inr (.inl rfl)))))).2
    have hgw : w.heap.size ≤ g := by rw [HG.out]; exact HB2.out.size
    have hpgne : g ≠ p.g := by omega
    have HKK := hide (Keeps.setCell W5 ⟨p.g, j * 5 + 1, none⟩ (.int .i64 s.now))
    clear hpr
    go_upto_region 8 with fail
    generalize World.setCell W5 _ _ = W6 at HS1 HKK ⊢
    have HC6 : Hid (CAt B W6 x p (s.hear1 j)) := by rw [← HE1.out]; exact HS1.out.1
    have HST6 := hide ((Stp.of_below HB5.out).trans HS1.out.2)
    have HP6 := hide (HP5.out.keeps HKK.out (by show ¬ g = p.g; omega))
    have HL6 := hide (HL5.out.keeps HKK.out (fun bk off h1 h2 hm => by have := HFR.out bk off h1 h2; have hm : bk = p.g := hm; omega))
    have hsl1 : (s.hear1 j).peers.length = s.peers.length := by rw [← HE1.out]; exact List.length_set
    have hev1 : (s.hear1 j).events = s.events := by rw [← HE1.out]
    have HSL1 := hide hsl1
    have HEV1 := hide hev1
    have q0 := HP6.out.cell (j := 0) (by simp)
    simp only [List.getElem_cons_zero] at q0
    clear HS1 HKK HP5 HL5 HC5 cN cH fH hsl1 hev1
    rcases HFINE.out.kind with ⟨hk1, hkfi, hka, hkf, hkp⟩ | ⟨hk2, -⟩
    · simp only at hk1 hkfi hka hkf hkp
      have d2 : (kind == 2) = false := by rw [hk1]; rfl
      have HS0 : Hid (S = ((((s.hear1 j).hear2 j ⟨kind, src, dst, kid, first, press, ack, frame, sum⟩).hear3 j ⟨kind, src, dst, kid, first, press, ack, frame, sum⟩).hear4 j ⟨kind, src, dst, kid, first, press, ack, frame, sum⟩).hold) := by
        show _ = _
        rw [HS.out, Co.hear, if_neg (by show ¬ kind = 2; omega)]
        have e : (Pkt.src ⟨kind, src, dst, kid, first, press, ack, frame, sum⟩).toNat = j := by show src.toNat = j; rw [HJ.out]; rfl
        rw [e]
      have hjxs : j < p.xs.length := by rw [H.out.nx]; exact HJN.out
      have h8 : p.xs.length ≤ 8 := by have := H.out.nx; have := H.out.ok.np; have := H.out.ok.cfg.n; omega
      have c10 := HC6.out.cell (coRow_q _ _)
      have q1 := HP6.out.cell (j := 1) (by simp)
      have q4 := HP6.out.cell (j := 4) (by simp)
      have q5 := HP6.out.cell (j := 5) (by simp)
      simp only [List.getElem_cons_zero, List.getElem_cons_succ] at q1 q4 q5
      rw [HJ.out] at q1
      have hs26 : w2.heap.size ≤ W6.heap.size := by have := HP6.out.lt; have := HG.out; omega
      clear hk1
      go_upto_region 12 with fail
      refine wp_region_noPanic ?_
      refine wp_region_held_drew (S := (fun w' => w'.cell? ⟨x, 10, none⟩ = some (.pointer (some ⟨p.q, 0, none⟩)) ∧ w'.cell? ⟨g, 1, none⟩ = some (.int .i64 (j : Int)) ∧ w'.cell? ⟨g, 4, none⟩ = some (.int .i64 first) ∧ w'.cell? ⟨g, 5, none⟩ = some (.slice A2 n2 cc2))) (by kernel_rfl) ⟨c10, q1, q4, q5⟩ (fun hHeld => ?_)
      refine tk0 0 ?_
      refine tk 1 ?_
      refine tk 2 ?_
      refine tk 3 ?_
      refine tk 4 ?_
      refine tk 5 ?_
      refine tk 7 ?_
      refine tk 8 ?_
      refine tk 9 ?_
      refine tk 10 ?_
      refine rdy 6 fun K hK => ?_
      go_simp
      refine Calls.mono (queue_Line HC6.out.drew.q j hjxs (by omega) rfl rfl) ?_
      rintro r w3 ⟨rfl, rfl⟩
      refine hK.out _ _ ⟨c10, q1, q4, q5⟩ (fun hHeld => ?_)
      clear hK K
      try simp only [Act.put, List.setIfInBounds_toArray, List.set_cons_zero, List.set_cons_succ]
      refine rdy 11 fun K hK => ?_
      go_simp
      refine Calls.mono (line_Put_v _ _ ((s.hear1 j).ls.getD j []) first A2 n2 cc2 press _ _ _ _ (HC6.out.drew.line j hjxs) (HL6.out.drew.more hs26) ?_ (by omega) (by omega) (by omega) rfl rfl rfl) ?_
      · intro bk off h1 h2 hm
        have hf := HFR.out bk off h1 h2
        have hlb := (H.out.blocks bk (.inr (.inr (.inr (.inl ⟨j, hjxs, hm⟩))))).2
        omega
      rintro r w7 ⟨rfl, g', hl7, hk7, hg7⟩
      have HC7 := hide (HC6.out.drew.setLine (Nat.le_trans HB.out HST6.out.keeps.size) j hjxs hl7 hk7 hg7 hl7.1 (by rw [List.length_append]; omega))
      have HP7 := hide (HP6.out.drew.off HC7.out.2.keeps (HC6.out.drew.off (Ts := [41]) (by decide)) (by simp))
      have r1 := HP7.out.cell (j := 1) (by simp)
      have r4 := HP7.out.cell (j := 4) (by simp)
      have r5 := HP7.out.cell (j := 5) (by simp)
      simp only [List.getElem_cons_zero, List.getElem_cons_succ] at r1 r4 r5
      rw [HJ.out] at r1
      refine hK.out _ _ ⟨HC7.out.1.cell (coRow_q _ _), r1, r4, r5⟩ (fun hHeld => ?_)
      clear hK K
      try simp only [Act.put, List.setIfInBounds_toArray, List.set_cons_zero, List.set_cons_succ]
      refine wpAnyH_done (by kernel_rfl) (NoPanic.normal ?_) _
      obtain ⟨p7, hp7⟩ : ∃ p7 : CP, p7 = { p with xs := p.xs.set j (p.xs[j].1, g') } := ⟨_, rfl⟩
      have HG7 : Hid (p7.g = p.g) := by show _ = _; rw [hp7]
      have HC8 : Hid (CAt B w7 x p7 ((s.hear1 j).hear2 j ⟨kind, src, dst, kid, first, press, ack, frame, sum⟩)) := by rw [hp7]; exact HC7.out.1
      have HST8 : Hid (Stp w w7 x p p7) := by rw [hp7]; exact (HST6.out.trans (Stp.of_below ((Below.refl _ _).drew))).trans HC7.out.2
      obtain ⟨s2, hs2⟩ : ∃ s2, s2 = (s.hear1 j).hear2 j ⟨kind, src, dst, kid, first, press, ack, frame, sum⟩ := ⟨_, rfl⟩
      rw [← hs2] at HC8 HS0
      have hsl2 : s2.peers.length = s.peers.length := by rw [hs2]; exact HSL1.out
      have hev2 : s2.events = s.events := by rw [hs2]; exact HEV1.out
      obtain ⟨pr2, hpr2⟩ : ∃ pr2, pr2 = s2.peers[j]'(by rw [hsl2]; exact HJN.out) := ⟨_, rfl⟩
      have HPR2 : Hid (s2.pr j = pr2) := by show _ = _; rw [hpr2, Co.pr, List.getD_eq_getElem?_getD, List.getElem?_eq_getElem (by rw [hsl2]; exact HJN.out)]; rfl
      have HPM2 : Hid (pr2 ∈ s2.peers) := by rw [hpr2]; exact List.getElem_mem _
      have ch : w7.cell? ⟨p7.g, j * 5, none⟩ = some (.int .i64 pr2.has) := HC8.out.pcell (i := j) (j := 0) (v := .int .i64 pr2.has) (by rw [hsl2]; exact HJN.out) (by omega) (by rw [← hpr2]; rfl)
      rw [← HG7.out]
      have q6 := HP7.out.cell (j := 6) (by simp)
      simp only [List.getElem_cons_zero, List.getElem_cons_succ] at q6
      obtain ⟨hs, hhs⟩ : ∃ hs, hs = pr2.has := ⟨_, rfl⟩
      rw [← hhs] at ch
      obtain ⟨ml, hml⟩ : ∃ ml, ml = (s2.mine.length : Int) := ⟨_, rfl⟩
      have HML := hide hml
      obtain ⟨az, haz⟩ : ∃ az, az = s2.acks j ⟨kind, src, dst, kid, first, press, ack, frame, sum⟩ := ⟨_, rfl⟩
      have haz2 : az = (decide (ack > hs) && decide (ack ≤ ml)) := by rw [haz, Co.acks, HPR2.out, ← hhs, hml]
      have HAZ := hide haz
      have HSL2 := hide hsl2
      have HEV2 := hide hev2
      have HPR3 : Hid (∀ h : j < s2.peers.length, s2.peers[j]'h = pr2) := fun h => hpr2.symm
      have HS2D := hide hs2
      clear hp7 HC7 hl7 hk7 hg7 haz hhs hml hpr2 hsl2 hev2 hs2 c10 q1 q4 q5 r1 r4 r5 q0 HC6 HP6 HL6
      go_upto_region 13 with fail
      go_cut [97] (fun s97 wx => s97 = .bool az ∧ Below w7.heap.size w7 wx)
      case first =>
        by_cases h1 : ack > hs
        · have d1 : decide (ack > hs) = true := decide_eq_true h1
          obtain ⟨z2, hz2⟩ : ∃ z2 : Bool, decide (ack ≤ ml) = z2 := ⟨_, rfl⟩
          have e : Hid (az = z2) := by show _ = _; rw [haz2, d1, hz2]; rfl
          clear haz2 h1
          refine wp_region_noPanic ?_
          refine wp_region_held_drew (S := (fun w' => w'.cell? ⟨g, 6, none⟩ = some (.int .i64 ack) ∧ w'.cell? ⟨p7.g, j * 5, none⟩ = some (.int .i64 hs))) (by kernel_rfl) ⟨q6, ch⟩ (fun hHeld => ?_)
          refine tk0 0 ?_
          refine tk 1 ?_
          refine tk 2 ?_
          refine tk 3 ?_
          refine tk 4 ?_
          refine tk 5 ?_
          refine tk 6 ?_
          refine tk 7 ?_
          refine tk 8 ?_
          refine tk 9 ?_
          refine tk 10 ?_
          refine rdy 11 fun K hK => ?_
          go_simp
          refine Calls.mono (core_Head HC8.out.drew) ?_
          rw [← HML.out]
          rintro r w8 ⟨rfl, hb8⟩
          refine hK.out _ _ ⟨below_cell hb8 q6, below_cell hb8 ch⟩ (fun hHeld => ?_)
          clear hK K
          try simp only [Act.put, List.setIfInBounds_toArray, List.set_cons_zero, List.set_cons_succ]
          refine tk 12 (v := .bool z2) (hy := by refine Or.inl ⟨by rfl, ?_⟩; intro w hSw; (try dsimp only at hSw); (rw [← hz2]; go_simp <;> with_reducible rfl)) ?_
          refine tk 13 ?_
          refine wpAnyH_done (by kernel_rfl) (NoPanic.normal ?_) _
          go_wp2_with fail
          go_meet
          exact ⟨by rw [e.out], ⟨hb8.os, hb8.tape, hb8.output, hb8.size, hb8.block⟩⟩
        · have d1 : decide (ack > hs) = false := decide_eq_false h1
          have e : Hid (az = false) := by show _ = _; rw [haz2, d1]; rfl
          clear haz2 h1
          refine wp_region_noPanic ?_
          refine wp_region_held_drew (S := (fun w' => w'.cell? ⟨g, 6, none⟩ = some (.int .i64 ack) ∧ w'.cell? ⟨p7.g, j * 5, none⟩ = some (.int .i64 hs))) (by kernel_rfl) ⟨q6, ch⟩ (fun hHeld => ?_)
          refine tk0 0 ?_
          refine tk 1 ?_
          refine tk 2 ?_
          refine tk 3 ?_
          refine tk 4 ?_
          refine tk 5 ?_
          refine tk 6 ?_
          refine tk 7 ?_
          refine tku 8 ?_
          refine tku 9 ?_
          refine tku 10 ?_
          refine tku 11 ?_
          refine tku 12 ?_
          refine tk 13 ?_
          refine wpAnyH_done (by kernel_rfl) (NoPanic.normal ?_) _
          go_wp2_with fail
          go_meet
          exact ⟨by rw [e.out], (Below.refl _ _).drew⟩
      case rest =>
      obtain ⟨rfl, hb9⟩ := hcut
      obtain ⟨W9, hW9⟩ : ∃ W9, W9 = wc := ⟨_, rfl⟩
      subst hW9
      have HC9 := hide (HC8.out.below hb9)
      have HST9 := hide (HST8.out.trans (Stp.of_below hb9))
      have HP9 := hide (HP7.out.belowN hb9)
      clear hb9 q6 ch haz2
      cases az with
      | false =>
        obtain ⟨px, hpx⟩ : ∃ px, px = p7 := ⟨_, rfl⟩
        subst hpx
        have HS2 : Hid (S = (s2.hear4 j ⟨kind, src, dst, kid, first, press, ack, frame, sum⟩).hold) := by show _ = _; rw [HS0.out, Co.hear3, ← HAZ.out, if_neg (by decide)]
        have hsl : s2.peers.length = s.peers.length := HSL2.out
        have hsev : s2.events = s.events := HEV2.out
        obtain ⟨sx, hsx⟩ : ∃ sx, sx = s2 := ⟨_, rfl⟩
        have HSX := hide hsx
        have HCX := hide (show CAt B W9 x px sx by rw [hsx]; exact HC9.out)
        have HPX := hide HP9.out
        have HSTX := hide (show Stp w W9 x p px from HST9.out)
        have hplen : sx.peers.length = s.peers.length := by rw [hsx]; exact hsl
        have hevl : sx.events = s.events := by rw [hsx]; exact hsev
        have HENX : Hid (px.en ≤ 999999000) := by show _ ≤ _; have h1 := HCX.out.en; have h2 := H.out.en; rw [hevl] at h1; omega
        obtain ⟨prx, hprx⟩ : ∃ prx, prx = sx.peers[j]'(by rw [hplen]; exact HJN.out) := ⟨_, rfl⟩
        have HPRX : Hid (sx.pr j = prx) := by show _ = _; rw [hprx, Co.pr, List.getD_eq_getElem?_getD, List.getElem?_eq_getElem (by rw [hplen]; exact HJN.out)]; rfl
        have HPRM : Hid (prx ∈ sx.peers) := by rw [hprx]; exact List.getElem_mem _
        have c2 := HCX.out.pcell (i := j) (j := 2) (v := .int .i64 prx.frame) (by rw [hplen]; exact HJN.out) (by omega) (by rw [← hprx]; rfl)
        obtain ⟨fr, hfr⟩ : ∃ fr, fr = prx.frame := ⟨_, rfl⟩
        rw [← hfr] at c2
        have q7 := HPX.out.cell (j := 7) (by simp)
        simp only [List.getElem_cons_zero, List.getElem_cons_succ] at q7
        obtain ⟨wz, hwz⟩ : ∃ wz, wz = sx.words j ⟨kind, src, dst, kid, first, press, ack, frame, sum⟩ := ⟨_, rfl⟩
        have hwz2 : wz = (decide (frame > 0) && decide (frame ≥ fr)) := by rw [hwz, Co.words, HPRX.out, ← hfr]
        have HWZ := hide hwz
        have HPLEN := hide hplen
        clear hsx hplen hevl hprx hwz hfr
        go_upto_region 15 with fail
        go_cut [114] (fun s114 wx => s114 = .bool wz ∧ ∃ nd, wx = W9.drewN nd)
        case first =>
          by_cases h1 : frame > 0
          · have d1 : decide (frame > 0) = true := decide_eq_true h1
            by_cases h2 : frame ≥ fr
            · have d2 : decide (frame ≥ fr) = true := decide_eq_true h2
              have e : Hid (wz = true) := by show _ = _; rw [hwz2, d1, d2]; rfl
              clear hwz2 h1 h2
              go_quiet (fail)
              go_wp2_with fail
              go_meet
              exact ⟨by rw [e.out], _, rfl⟩
            · have d2 : decide (frame ≥ fr) = false := decide_eq_false h2
              have e : Hid (wz = false) := by show _ = _; rw [hwz2, d1, d2]; rfl
              clear hwz2 h1 h2
              go_quiet (fail)
              go_wp2_with fail
              go_meet
              exact ⟨by rw [e.out], _, rfl⟩
          · have d1 : decide (frame > 0) = false := decide_eq_false h1
            have e : Hid (wz = false) := by show _ = _; rw [hwz2, d1]; rfl
            clear hwz2 h1
            go_quiet (fail)
            go_wp2_with fail
            go_meet
            exact ⟨by rw [e.out], _, rfl⟩
        case rest =>
        obtain ⟨rfl, nd, hnd⟩ := hcut
        obtain ⟨WZ, hWZ⟩ : ∃ WZ, WZ = wc := ⟨_, rfl⟩
        subst hWZ
        have HCZ : Hid (CAt B WZ x px sx) := by show CAt _ _ _ _ _; rw [hnd]; exact HCX.out.drewN nd
        have HPZ : Hid (Arr 41 WZ g (Pkt.row ⟨kind, src, dst, kid, first, press, ack, frame, sum⟩ (.slice A2 n2 cc2))) := by show Arr _ _ _ _; rw [hnd]; exact HPX.out.drewN nd
        have HSTZ : Hid (Stp w WZ x p px) := by show Stp _ _ _ _ _; rw [hnd]; exact HSTX.out.trans (Stp.of_below (Below_drewN (Below.refl _ _) nd))
        clear hnd c2 q7 HCX HPX HSTX hwz2
        cases wz with
        | false =>
          have HS4 : Hid (S = sx.hold) := by show _ = _; rw [HS2.out, ← HSX.out, Co.hear4, ← HWZ.out, if_neg (by decide)]
          have hBZ : B ≤ WZ.heap.size := Nat.le_trans HB.out HSTZ.out.keeps.size
          go_wp2_with fail
          refine Calls.mono (core_hold HCZ.out hBZ HENX.out) ?_
          rintro r w9 ⟨rfl, p9, hc9, hst9⟩
          go_wp2_with fail
          go_ret
          exact ⟨by rw [HR.out]; rfl, p9, by rw [HS4.out]; exact hc9, HSTZ.out.trans hst9⟩
        | true =>
          have HS4 : Hid (S = (sx.setP j { prx with frame := frame, sum := sum }).hold) := by show _ = _; rw [HS2.out, ← HSX.out, Co.hear4, ← HWZ.out, if_pos rfl, HPRX.out]
          have hpx : sx.peers[j]'(by rw [HPLEN.out]; exact HJN.out) = prx := by
            have := HPRX.out
            rw [Co.pr, List.getD_eq_getElem?_getD, List.getElem?_eq_getElem (by rw [HPLEN.out]; exact HJN.out)] at this
            exact this
          have hjx : j < sx.peers.length := by rw [HPLEN.out]; exact HJN.out
          have c2 := HCZ.out.pcell (i := j) (j := 2) (v := .int .i64 prx.frame) hjx (by omega) (by rw [hpx]; rfl)
          have c3 := HCZ.out.pcell (i := j) (j := 3) (v := .int .u32 prx.sum) hjx (by omega) (by rw [hpx]; rfl)
          have f2 := HCZ.out.pfrozen (j * 5 + 2)
          have f3 := HCZ.out.pfrozen (j * 5 + 3)
          have q7 := HPZ.out.cell (j := 7) (by simp)
          have q8 := HPZ.out.cell (j := 8) (by simp)
          simp only [List.getElem_cons_zero, List.getElem_cons_succ] at q7 q8
          have hgp : g ≠ px.g := by
            intro e
            have h1 := HPZ.out.tb
            have h2 := owns_tb HCZ.out.peers px.g rfl
            rw [e] at h1
            exact absurd (h1.one h2) (by decide)
          have hfr1 : 0 ≤ frame ∧ frame ≤ 1000 := hkf
          have HP1 := hide (HCZ.out.setPeer j 2 (.int .i64 frame) { prx with frame := frame } hjx (by omega) (by rw [hpx]; rfl) (HCZ.out.ok.setPeer j _ (HCZ.out.ok.has prx HPRM.out) (HCZ.out.ok.heard prx HPRM.out) hfr1 (HCZ.out.ok.sum prx HPRM.out)))
          have HP2 := hide (HP1.out.1.setPeer j 3 (.int .u32 sum) { prx with frame := frame, sum := sum } (by show j < (sx.peers.set j _).length; rw [List.length_set]; exact hjx) (by omega) (by rw [List.getElem_set_self]; rfl) (HP1.out.1.ok.setPeer j _ (HCZ.out.ok.has prx HPRM.out) (HCZ.out.ok.heard prx HPRM.out) hfr1 HWF.out))
          have HP3 : Hid (CAt B ((WZ.setCell ⟨px.g, j * 5 + 2, none⟩ (.int .i64 frame)).setCell ⟨px.g, j * 5 + 3, none⟩ (.int .u32 sum)) x px (sx.setP j { prx with frame := frame, sum := sum })) := by
            have := HP2.out.1
            rw [List.set_set] at this
            exact this
          have HST3 := hide ((HSTZ.out.trans HP1.out.2).trans HP2.out.2)
          clear hjx hpx
          go_upto_region 16 with fail
          go_cut [121] (fun s121 wx => ∃ nd, wx = (((WZ.setCell ⟨px.g, j * 5 + 2, none⟩ (.int .i64 frame)).setCell ⟨px.g, j * 5 + 3, none⟩ (.int .u32 sum))).drewN nd)
          case first =>
            go_region
            go_wp2_with fail
            go_meet
            exact ⟨1, rfl⟩
          case rest =>
          obtain ⟨nd, hnd⟩ := hcut
          obtain ⟨WY, hWY⟩ : ∃ WY, WY = wc := ⟨_, rfl⟩
          subst hWY
          have HCY : Hid (CAt B WY x px (sx.setP j { prx with frame := frame, sum := sum })) := by show CAt _ _ _ _ _; rw [hnd]; exact HP3.out.drewN nd
          have HSTY : Hid (Stp w WY x p px) := by show Stp _ _ _ _ _; rw [hnd]; exact HST3.out.trans (Stp.of_below (Below_drewN (Below.refl _ _) nd))
          have hBZ : B ≤ WY.heap.size := Nat.le_trans HB.out HSTY.out.keeps.size
          clear hnd c2 c3 f2 f3 q7 q8
          go_wp2_with fail
          refine Calls.mono (core_hold HCY.out hBZ HENX.out) ?_
          rintro r w9 ⟨rfl, p9, hc9, hst9⟩
          go_wp2_with fail
          go_ret
          exact ⟨by rw [HR.out]; rfl, p9, by rw [HS4.out]; exact hc9, HSTY.out.trans hst9⟩
      | true =>
        have hack : 0 ≤ ack ∧ ack ≤ (s2.mine.length : Int) := by
          have h1 := HAZ.out
          rw [Co.acks] at h1
          have h2 := Bool.and_eq_true_iff.1 h1.symm
          exact ⟨hka.1, of_decide_eq_true h2.2⟩
        have hp2 : s2.peers[j]'(by rw [HSL2.out]; exact HJN.out) = pr2 := HPR3.out _
        have ch : W9.cell? ⟨p7.g, j * 5, none⟩ = some (.int .i64 pr2.has) := HC9.out.pcell (i := j) (j := 0) (v := .int .i64 pr2.has) (by rw [HSL2.out]; exact HJN.out) (by omega) (by rw [hp2]; rfl)
        have fh := HC9.out.pfrozen (j * 5)
        have q6 := HP9.out.cell (j := 6) (by simp)
        simp only [List.getElem_cons_zero, List.getElem_cons_succ] at q6
        have HS9 := hide (HC9.out.setPeer j 0 (.int .i64 ack) { pr2 with has := ack } (by rw [HSL2.out]; exact HJN.out) (by omega) (by rw [hp2]; rfl) (HC9.out.ok.setPeer j _ hack (HC9.out.ok.heard pr2 HPM2.out) (HC9.out.ok.frame pr2 HPM2.out) (HC9.out.ok.sum pr2 HPM2.out)))
        clear hp2
        go_upto_region 15 with fail
        have HSA : Hid (CAt B (W9.setCell ⟨p7.g, j * 5, none⟩ (.int .i64 ack)) x p7 (s2.setP j { pr2 with has := ack }) ∧ Stp W9 (W9.setCell ⟨p7.g, j * 5, none⟩ (.int .i64 ack)) x p7 p7) := HS9.out
        have HPA := hide (HP9.out.off HSA.out.2.keeps (HC9.out.off (Ts := [41]) (by decide)) (by simp))
        generalize World.setCell W9 _ _ = WA at HSA HPA ⊢
        clear ch fh q6
        obtain ⟨px, hpx⟩ : ∃ px, px = p7 := ⟨_, rfl⟩
        subst hpx
        have HS2 : Hid (S = ((s2.setP j { pr2 with has := ack }).hear4 j ⟨kind, src, dst, kid, first, press, ack, frame, sum⟩).hold) := by show _ = _; rw [HS0.out, Co.hear3, ← HAZ.out, if_pos rfl, HPR2.out]
        have hsl : (s2.setP j { pr2 with has := ack }).peers.length = s.peers.length := by show (s2.peers.set j _).length = _; rw [List.length_set]; exact HSL2.out
        have hsev : (s2.setP j { pr2 with has := ack }).events = s.events := HEV2.out
        obtain ⟨sx, hsx⟩ : ∃ sx, sx = (s2.setP j { pr2 with has := ack }) := ⟨_, rfl⟩
        have HSX := hide hsx
        have HCX := hide (show CAt B WA x px sx by rw [hsx]; exact HSA.out.1)
        have HPX := hide HPA.out
        have HSTX := hide (show Stp w WA x p px from (HST9.out.trans HSA.out.2))
        have hplen : sx.peers.length = s.peers.length := by rw [hsx]; exact hsl
        have hevl : sx.events = s.events := by rw [hsx]; exact hsev
        have HENX : Hid (px.en ≤ 999999000) := by show _ ≤ _; have h1 := HCX.out.en; have h2 := H.out.en; rw [hevl] at h1; omega
        obtain ⟨prx, hprx⟩ : ∃ prx, prx = sx.peers[j]'(by rw [hplen]; exact HJN.out) := ⟨_, rfl⟩
        have HPRX : Hid (sx.pr j = prx) := by show _ = _; rw [hprx, Co.pr, List.getD_eq_getElem?_getD, List.getElem?_eq_getElem (by rw [hplen]; exact HJN.out)]; rfl
        have HPRM : Hid (prx ∈ sx.peers) := by rw [hprx]; exact List.getElem_mem _
        have c2 := HCX.out.pcell (i := j) (j := 2) (v := .int .i64 prx.frame) (by rw [hplen]; exact HJN.out) (by omega) (by rw [← hprx]; rfl)
        obtain ⟨fr, hfr⟩ : ∃ fr, fr = prx.frame := ⟨_, rfl⟩
        rw [← hfr] at c2
        have q7 := HPX.out.cell (j := 7) (by simp)
        simp only [List.getElem_cons_zero, List.getElem_cons_succ] at q7
        obtain ⟨wz, hwz⟩ : ∃ wz, wz = sx.words j ⟨kind, src, dst, kid, first, press, ack, frame, sum⟩ := ⟨_, rfl⟩
        have hwz2 : wz = (decide (frame > 0) && decide (frame ≥ fr)) := by rw [hwz, Co.words, HPRX.out, ← hfr]
        have HWZ := hide hwz
        have HPLEN := hide hplen
        clear hsx hplen hevl hprx hwz hfr
        go_upto_region 15 with fail
        go_cut [114] (fun s114 wx => s114 = .bool wz ∧ ∃ nd, wx = WA.drewN nd)
        case first =>
          by_cases h1 : frame > 0
          · have d1 : decide (frame > 0) = true := decide_eq_true h1
            by_cases h2 : frame ≥ fr
            · have d2 : decide (frame ≥ fr) = true := decide_eq_true h2
              have e : Hid (wz = true) := by show _ = _; rw [hwz2, d1, d2]; rfl
              clear hwz2 h1 h2
              go_quiet (fail)
              go_wp2_with fail
              go_meet
              exact ⟨by rw [e.out], _, rfl⟩
            · have d2 : decide (frame ≥ fr) = false := decide_eq_false h2
              have e : Hid (wz = false) := by show _ = _; rw [hwz2, d1, d2]; rfl
              clear hwz2 h1 h2
              go_quiet (fail)
              go_wp2_with fail
              go_meet
              exact ⟨by rw [e.out], _, rfl⟩
          · have d1 : decide (frame > 0) = false := decide_eq_false h1
            have e : Hid (wz = false) := by show _ = _; rw [hwz2, d1]; rfl
            clear hwz2 h1
            go_quiet (fail)
            go_wp2_with fail
            go_meet
            exact ⟨by rw [e.out], _, rfl⟩
        case rest =>
        obtain ⟨rfl, nd, hnd⟩ := hcut
        obtain ⟨WZ, hWZ⟩ : ∃ WZ, WZ = wc := ⟨_, rfl⟩
        subst hWZ
        have HCZ : Hid (CAt B WZ x px sx) := by show CAt _ _ _ _ _; rw [hnd]; exact HCX.out.drewN nd
        have HPZ : Hid (Arr 41 WZ g (Pkt.row ⟨kind, src, dst, kid, first, press, ack, frame, sum⟩ (.slice A2 n2 cc2))) := by show Arr _ _ _ _; rw [hnd]; exact HPX.out.drewN nd
        have HSTZ : Hid (Stp w WZ x p px) := by show Stp _ _ _ _ _; rw [hnd]; exact HSTX.out.trans (Stp.of_below (Below_drewN (Below.refl _ _) nd))
        clear hnd c2 q7 HCX HPX HSTX hwz2
        cases wz with
        | false =>
          have HS4 : Hid (S = sx.hold) := by show _ = _; rw [HS2.out, ← HSX.out, Co.hear4, ← HWZ.out, if_neg (by decide)]
          have hBZ : B ≤ WZ.heap.size := Nat.le_trans HB.out HSTZ.out.keeps.size
          go_wp2_with fail
          refine Calls.mono (core_hold HCZ.out hBZ HENX.out) ?_
          rintro r w9 ⟨rfl, p9, hc9, hst9⟩
          go_wp2_with fail
          go_ret
          exact ⟨by rw [HR.out]; rfl, p9, by rw [HS4.out]; exact hc9, HSTZ.out.trans hst9⟩
        | true =>
          have HS4 : Hid (S = (sx.setP j { prx with frame := frame, sum := sum }).hold) := by show _ = _; rw [HS2.out, ← HSX.out, Co.hear4, ← HWZ.out, if_pos rfl, HPRX.out]
          have hpx : sx.peers[j]'(by rw [HPLEN.out]; exact HJN.out) = prx := by
            have := HPRX.out
            rw [Co.pr, List.getD_eq_getElem?_getD, List.getElem?_eq_getElem (by rw [HPLEN.out]; exact HJN.out)] at this
            exact this
          have hjx : j < sx.peers.length := by rw [HPLEN.out]; exact HJN.out
          have c2 := HCZ.out.pcell (i := j) (j := 2) (v := .int .i64 prx.frame) hjx (by omega) (by rw [hpx]; rfl)
          have c3 := HCZ.out.pcell (i := j) (j := 3) (v := .int .u32 prx.sum) hjx (by omega) (by rw [hpx]; rfl)
          have f2 := HCZ.out.pfrozen (j * 5 + 2)
          have f3 := HCZ.out.pfrozen (j * 5 + 3)
          have q7 := HPZ.out.cell (j := 7) (by simp)
          have q8 := HPZ.out.cell (j := 8) (by simp)
          simp only [List.getElem_cons_zero, List.getElem_cons_succ] at q7 q8
          have hgp : g ≠ px.g := by
            intro e
            have h1 := HPZ.out.tb
            have h2 := owns_tb HCZ.out.peers px.g rfl
            rw [e] at h1
            exact absurd (h1.one h2) (by decide)
          have hfr1 : 0 ≤ frame ∧ frame ≤ 1000 := hkf
          have HP1 := hide (HCZ.out.setPeer j 2 (.int .i64 frame) { prx with frame := frame } hjx (by omega) (by rw [hpx]; rfl) (HCZ.out.ok.setPeer j _ (HCZ.out.ok.has prx HPRM.out) (HCZ.out.ok.heard prx HPRM.out) hfr1 (HCZ.out.ok.sum prx HPRM.out)))
          have HP2 := hide (HP1.out.1.setPeer j 3 (.int .u32 sum) { prx with frame := frame, sum := sum } (by show j < (sx.peers.set j _).length; rw [List.length_set]; exact hjx) (by omega) (by rw [List.getElem_set_self]; rfl) (HP1.out.1.ok.setPeer j _ (HCZ.out.ok.has prx HPRM.out) (HCZ.out.ok.heard prx HPRM.out) hfr1 HWF.out))
          have HP3 : Hid (CAt B ((WZ.setCell ⟨px.g, j * 5 + 2, none⟩ (.int .i64 frame)).setCell ⟨px.g, j * 5 + 3, none⟩ (.int .u32 sum)) x px (sx.setP j { prx with frame := frame, sum := sum })) := by
            have := HP2.out.1
            rw [List.set_set] at this
            exact this
          have HST3 := hide ((HSTZ.out.trans HP1.out.2).trans HP2.out.2)
          clear hjx hpx
          go_upto_region 16 with fail
          go_cut [121] (fun s121 wx => ∃ nd, wx = (((WZ.setCell ⟨px.g, j * 5 + 2, none⟩ (.int .i64 frame)).setCell ⟨px.g, j * 5 + 3, none⟩ (.int .u32 sum))).drewN nd)
          case first =>
            go_region
            go_wp2_with fail
            go_meet
            exact ⟨1, rfl⟩
          case rest =>
          obtain ⟨nd, hnd⟩ := hcut
          obtain ⟨WY, hWY⟩ : ∃ WY, WY = wc := ⟨_, rfl⟩
          subst hWY
          have HCY : Hid (CAt B WY x px (sx.setP j { prx with frame := frame, sum := sum })) := by show CAt _ _ _ _ _; rw [hnd]; exact HP3.out.drewN nd
          have HSTY : Hid (Stp w WY x p px) := by show Stp _ _ _ _ _; rw [hnd]; exact HST3.out.trans (Stp.of_below (Below_drewN (Below.refl _ _) nd))
          have hBZ : B ≤ WY.heap.size := Nat.le_trans HB.out HSTY.out.keeps.size
          clear hnd c2 c3 f2 f3 q7 q8
          go_wp2_with fail
          refine Calls.mono (core_hold HCY.out hBZ HENX.out) ?_
          rintro r w9 ⟨rfl, p9, hc9, hst9⟩
          go_wp2_with fail
          go_ret
          exact ⟨by rw [HR.out]; rfl, p9, by rw [HS4.out]; exact hc9, HSTY.out.trans hst9⟩
    · simp only at hk2
      have d2 : (kind == 2) = true := by rw [hk2]; rfl
      have HS0 : Hid (S = { s.hear1 j with events := (s.hear1 j).events ++ [.quit (j : Int)], closed := true }) := by
        show _ = _
        rw [HS.out, Co.hear, if_pos hk2, HEV1.out]
        have e : (Pkt.src ⟨kind, src, dst, kid, first, press, ack, frame, sum⟩).toNat = j := by show src.toNat = j; rw [HJ.out]; rfl
        rw [e, ← HJ.out]
      have q1 := HP6.out.cell (j := 1) (by simp)
      simp only [List.getElem_cons_zero, List.getElem_cons_succ] at q1
      rw [HJ.out] at q1
      have hj8 : j < 8 := by have := HJN.out; have := H.out.ok.np; have := H.out.ok.cfg.n; omega
      have hB6 : B ≤ W6.heap.size := Nat.le_trans HB.out HST6.out.keeps.size
      clear hk2
      go_wp2_with fail
      refine Calls.mono (core_note HC6.out hB6 (.quit (j : Int)) ⟨⟨by show 0 ≤ (j : Int); omega, by show (j : Int) < 8; omega⟩, ⟨by show (0 : Int) ≤ 0; omega, by show (0 : Int) ≤ 1000; omega⟩⟩ (by omega)) ?_
      rintro r w7 ⟨rfl, p7, hc7, hst7⟩
      have HST7 := hide (HST6.out.trans hst7)
      have f15 := hc7.hfrozen 15
      have c15 := hc7.cell (coRow_closed _ _)
      have HC8 := hide (hc7.setHead 15 (.bool true) { s.hear1 j with events := (s.hear1 j).events ++ [.quit (j : Int)], closed := true } (by rfl) rfl rfl rfl rfl ⟨hc7.ok.cfg, hc7.ok.np, hc7.ok.nl, hc7.ok.short, hc7.ok.head, hc7.ok.has, hc7.ok.heard, hc7.ok.frame, hc7.ok.sum, hc7.ok.marks, hc7.ok.mark, hc7.ok.now, hc7.ok.events⟩)
      clear hc7 hst7
      go_wp2_with fail
      go_ret
      exact ⟨by rw [HR.out]; rfl, p7, by rw [HS0.out]; exact HC8.out.1, HST7.out.trans HC8.out.2⟩
end Go.Proofs.Ytbcgffgiifminaa
namespace Go.Proofs.Ytbcgffgiifminaa
open Go.RowKit
set_option maxRecDepth 10000
set_option linter.unusedVariables false
/-- A core of the call's own: what lies below B is as it was. -/
structure HC (B : Nat) (w0 w : World) (x : Nat) (p : CP) (s : Co) : Prop where
  core : CAt B w x p s
  bel : Below B w0 w
  base : B ≤ w.heap.size
section
variable {B : Nat} {w0 w w' : World} {x : Nat} {p p' : CP} {s s' : Co}
theorem HC.step (h : HC B w0 w x p s) (c : CAt B w' x p' s') (st : Stp w w' x p p') : HC B w0 w' x p' s' := ⟨c, h.bel.trans (st.below h.core h.base), Nat.le_trans h.base st.keeps.size⟩
theorem HC.below (h : HC B w0 w x p s) (hb : Below w.heap.size w w') : HC B w0 w' x p s := ⟨h.core.below hb, h.bel.trans (hb.mono h.base), Nat.le_trans h.base hb.size⟩
theorem HC.drewN (h : HC B w0 w x p s) (k : Nat) : HC B w0 (w.drewN k) x p s := h.below (Below_drewN (Below.refl _ _) k)
theorem HC.en (h : HC B w0 w x p s) (n : Nat) (hn : s.events.length ≤ n) : p.en ≤ n := by rw [← h.core.en]; exact hn
/-- Bytes beside a core. -/
structure Aside (w : World) (x : Nat) (p : CP) (A : Option Addr) (n c : Nat) (l : List UInt8) : Prop where
  own : OwnB w 0 A n c l
  out : ∀ k, some k = (Value.slice A n c).ownBlock → ¬ cBlocks x p k
theorem Aside.new {A : Option Addr} {n c : Nat} {l : List UInt8} (h : CAt B w x p s) (ho : OwnB w' w.heap.size A n c l) : Aside w' x p A n c l :=
  ⟨OwnB.base_le ho (Nat.zero_le _), fun k hk hc => by have := (ho.blk k hk).1; have := (h.blocks k hc).2; omega⟩
theorem Aside.below {A : Option Addr} {n c : Nat} {l : List UInt8} (h : Aside w x p A n c l) (hb : Below w.heap.size w w') : Aside w' x p A n c l := ⟨h.own.below hb, h.out⟩
theorem Aside.step {A : Option Addr} {n c : Nat} {l : List UInt8} (h : Aside w x p A n c l) (st : Stp w w' x p p') : Aside w' x p' A n c l :=
  ⟨h.own.keeps st.keeps h.out, fun k hk hc => by
    rcases st.new k hc with h' | h'
    · exact h.out k hk h'
    · have := (h.own.blk k hk).2; omega⟩
theorem use_New (c : Cfg) (hf : c.Fine) (w : World) : Calls Try.prog 14 #[c.val] w fun e w' => ∃ x p, e = .returned (.tuple #[.pointer (some ⟨x, 0, none⟩), .int .i64 0]) ∧ HC w.heap.size w w' x p (Co.new c) :=
  (core_New c hf w).mono fun r w' ⟨x, p, hr, hc, hb⟩ => ⟨x, p, hr, ⟨hc, hb, hb.size⟩⟩
theorem use_Press (h : HC B w0 w x p s) (b : UInt8) {v : Int} (hv : v = (b.toNat : Int)) {E : Int} (hE : s.pressErr = E) {S : Co} (hS : s.press b = S) :
    Calls Try.prog 15 #[.pointer (some ⟨x, 0, none⟩), .int .u8 v] w fun r w' => r = .returned (.int .i64 E) ∧ ∃ p', HC B w0 w' x p' S ∧ Stp w w' x p p' := by
  subst hE hS
  exact (core_Press h.core h.base b hv).mono fun r w' ⟨hr, p', hc, st⟩ => ⟨hr, p', h.step hc st, st⟩
theorem use_Mark (h : HC B w0 w x p s) (hen : s.events.length ≤ 999999000) (m : Int) (hm : 0 ≤ m ∧ m < 4294967296) {S : Co} (hS : s.mark m = S) :
    Calls Try.prog 30 #[.pointer (some ⟨x, 0, none⟩), .int .u32 m] w fun r w' => r = .returned (.tuple #[]) ∧ ∃ p', HC B w0 w' x p' S ∧ Stp w w' x p p' := by
  subst hS
  exact (core_Mark h.core h.base (h.en _ hen) m hm).mono fun r w' ⟨hr, p', hc, st⟩ => ⟨hr, p', h.step hc st, st⟩
theorem use_Quit (h : HC B w0 w x p s) {M : List Mle} (hM : s.quitMails = M) :
    Calls Try.prog 32 #[.pointer (some ⟨x, 0, none⟩)] w fun r w' => ∃ A n c xs, r = .returned (.slice A n c) ∧ ML 47 w.heap.size w' A n c xs ∧ xs.map Prod.fst = M ∧ HC B w0 w' x p s.quit ∧ Stp w w' x p p := by
  subst hM
  exact (core_Quit h.core h.base).mono fun r w' ⟨A, n, c, xs, hr, hm, hx, hc, st⟩ => ⟨A, n, c, xs, hr, hm, hx, h.step hc st, st⟩
theorem use_Tick (h : HC B w0 w x p s) (hnow : s.now < 1000000000) (hen : s.events.length ≤ 999999000) {M : List Mle} (hM : s.tickMails = M) {S : Co} (hS : s.tick = S) :
    Calls Try.prog 22 #[.pointer (some ⟨x, 0, none⟩)] w fun r w' => ∃ A n c xs, r = .returned (.slice A n c) ∧ ML 47 w.heap.size w' A n c xs ∧ xs.map Prod.fst = M ∧ ∃ p', HC B w0 w' x p' S ∧ Stp w w' x p p' ∧ (0 < n → p' = p) := by
  subst hM hS
  exact (core_Tick h.core h.base hnow (by have := h.en _ hen; omega)).mono fun r w' ⟨A, n, c, xs, hr, hm, hx, p', hc, st, he⟩ => ⟨A, n, c, xs, hr, hm, hx, p', h.step hc st, st, he⟩
theorem use_Receive_closed (h : HC B w0 w x p s) (hcl : s.closed = true) (A : Option Addr) (n c : Nat) : Calls Try.prog 20 #[.pointer (some ⟨x, 0, none⟩), .slice A n c] w fun r w' => r = .returned (.int .i64 6) ∧ w = w' := core_Receive_closed h.core hcl A n c
theorem use_Receive_no (h : HC B w0 w x p s) (hcl : s.closed = false) {A : Option Addr} {n c B' : Nat} {b : List UInt8} (hb : ∀ q, ¬ Pkt.Is b q) (hA : LiesB w B' A n b) (hB' : B' ≤ w.heap.size) (hnc : n ≤ c) (hn : n ≤ 1000000) :
    Calls Try.prog 20 #[.pointer (some ⟨x, 0, none⟩), .slice A n c] w fun r w' => r = .returned (.int .i64 1) ∧ HC B w0 w' x p s ∧ Below w.heap.size w w' :=
  (core_Receive_no h.core hcl hb hA hB' hnc hn).mono fun r w' ⟨hr, hb⟩ => ⟨hr, h.below hb, hb⟩
theorem use_Receive_yes (h : HC B w0 w x p s) (hcl : s.closed = false) (hen : s.events.length ≤ 999999000) {A : Option Addr} {n c B' : Nat} {b : List UInt8} (k : Pkt) (hb : Pkt.Is b k) (hA : LiesB w B' A n b) (hB' : B' ≤ w.heap.size) (hnc : n ≤ c) (hn : n ≤ 1000000)
    {R : Int} (hR : (if s.fits k = true then 0 else 1) = R) {S : Co} (hS : (if s.fits k = true then s.hear k else s) = S) :
    Calls Try.prog 20 #[.pointer (some ⟨x, 0, none⟩), .slice A n c] w fun r w' => r = .returned (.int .i64 R) ∧ ∃ p', HC B w0 w' x p' S ∧ Stp w w' x p p' := by
  subst hR hS
  exact (core_Receive_yes h.core h.base hcl (h.en _ hen) k hb hA hB' hnc hn).mono fun r w' ⟨hr, p', hc, st⟩ => ⟨hr, p', h.step hc st, st⟩
theorem use_Events (h : HC B w0 w x p s) {l : List Ev} (hl : s.events = l) : Calls Try.prog 27 #[.pointer (some ⟨x, 0, none⟩)] w fun r w' => ∃ A c, r = .returned (.slice A l.length c) ∧ OwnV 114 w' B A l.length c (l.map Ev.val) ∧ ∃ p', HC B w0 w' x p' { s with events := [] } ∧ Stp w w' x p p' := by
  subst hl
  refine (core_Events h.core).mono ?_
  rintro r w' ⟨hr, ho, hc, st⟩
  have e := h.core.en
  exact ⟨p.eA, p.ec, by rw [e]; exact hr, by rw [e]; exact ho, _, h.step hc st, st⟩
theorem use_Head (h : HC B w0 w x p s) {m : Int} (hm : (s.mine.length : Int) = m) : Calls Try.prog 16 #[.pointer (some ⟨x, 0, none⟩)] w fun r w' => r = .returned (.int .i64 m) ∧ HC B w0 w' x p s ∧ Below w.heap.size w w' := by
  subst hm
  exact (core_Head h.core).mono fun r w' ⟨hr, hb⟩ => ⟨hr, h.below hb, hb⟩
theorem use_Front (h : HC B w0 w x p s) {m : Int} (hm : (front s.ls : Int) = m) : Calls Try.prog 18 #[.pointer (some ⟨p.q, 0, none⟩)] w fun r w' => r = .returned (.int .i64 m) ∧ w = w' := by
  obtain ⟨i, -, hi, -, -, h8⟩ := h.core.me
  exact queue_Front h.core.q (by omega) (by omega) hm.symm
theorem use_Marks (h : HC B w0 w x p s) {m : Int} (hm : (s.marks.length : Int) = m) : Calls Try.prog 31 #[.pointer (some ⟨x, 0, none⟩)] w fun r w' => r = .returned (.int .i64 m) ∧ w = w' := by
  subst hm
  rw [h.core.mn]
  exact core_Marks h.core
theorem use_Closed (h : HC B w0 w x p s) {z : Bool} (hz : s.closed = z) : Calls Try.prog 26 #[.pointer (some ⟨x, 0, none⟩)] w fun r w' => r = .returned (.bool z) ∧ w = w' := by
  subst hz
  exact core_Closed h.core
end
theorem core_Mark_nil (m : Int) (w : World) : Calls Try.prog 30 #[.pointer none, .int .u32 m] w fun r w' => r = .returned (.tuple #[]) ∧ w = w' := by
  go_enter Try.func30, Try.ntmps30
  go_wp2_with fail
  exact bodyPost_ret (v := .tuple #[]) (by simp [results, go_sem]) rfl ⟨rfl, rfl⟩
theorem elem_raws : ElemN 56 59 (.agg #[.int .i64 0, .int .i64 0, .int .i64 0]) 3 24 := ⟨Try.underlying56, by kernel_rfl, rfl, by omega⟩
theorem Ev.row_len (e : Ev) : e.row.length = 3 := rfl
theorem Ev.val_one (e : Ev) : e.val.oneCell' = true := by cases e <;> rfl
set_option maxHeartbeats 2000000 in
theorem law_Raws {B : Nat} {A : Option Addr} {n c : Nat} {es : List Ev} {w : World} (h : OwnV 114 w B A n c (es.map Ev.val)) (hn8 : n ≤ 999999999) :
    Calls Try.prog 29 #[.slice A n c] w fun r w' => ∃ A' c', r = .returned (.slice A' n c') ∧ w'.ownsRow w.heap.size 59 3 (.slice A' n c') n (es.flatMap Ev.row) ∧ Below w.heap.size w w' := by
  have hel : es.length = n := by have := h.len; rwa [List.length_map] at this
  have HO := hide h
  have HEL := hide hel
  clear h hel
  go_enter Try.func29, Try.ntmps29
  go_wp2_with fail
  go_loopg [3, 4] n (fun gg s3 s4 wr => ∃ (k : Nat) (A' : Option Addr) (c' : Nat), k ≤ n ∧ gg = n - k ∧ s4 = .int .i64 (k : Int) ∧ s3 = .slice A' k c' ∧ Hid (wr.ownsRow w.heap.size 59 3 (.slice A' k c') k ((es.take k).flatMap Ev.row)) ∧ Hid (Below w.heap.size w wr))
  case atStart => exact ⟨0, none, 0, by omega, rfl, rfl, rfl, World.ownsRow_nil _ _ _ _, Below.refl _ _⟩
  case round =>
    obtain ⟨W1, hW1⟩ : ∃ W1, W1 = wr := ⟨_, rfl⟩
    subst hW1
    obtain ⟨k, A', c', hkn, rfl, rfl, rfl, HR, HB⟩ := hrel
    by_cases hlt : k < n
    · obtain ⟨g, hg, -, -⟩ := HO.out.form (by omega)
      have HO1 := HO.out.below HB.out
      rw [hg] at HO1
      obtain ⟨hl9, c9⟩ := HO1.cell hlt
      have hlL : k < es.length := by rw [HEL.out]; exact hlt
      obtain ⟨e, he⟩ : ∃ e, e = es[k] := ⟨_, rfl⟩
      have hr : W1.rangeAt g k [e.val] := by
        intro j v hv
        cases j with
        | zero =>
          have : v = e.val := by simpa using hv.symm
          rw [this, Nat.add_zero, c9, List.getElem_map, he]
        | succ j => simp at hv
      have HRG := hide hr
      have HTK : Hid ((es.take (k + 1)).flatMap Ev.row = (es.take k).flatMap Ev.row ++ e.row) := by
        show _ = _
        rw [List.take_succ_eq_append_getElem hlL, List.flatMap_append, List.flatMap_singleton, he]
      have hki : (k : Int) < (n : Int) := by omega
      subst hg
      clear hr hl9 c9 he HO1
      go_wp2_with (refine wpList_load_mid rfl 114 (.tmp 14) rfl g k rfl [e.val] _ HRG.out Try.underlying114 rfl info_ev ?_)
      refine Calls.mono (event_Raw e _) ?_
      rintro r w2 ⟨rfl, hb2⟩
      rw [show Value.agg e.row.toArray = .agg #[.int .i64 e.kind, .int .i64 e.player, .int .i64 e.frame] from rfl]
      have bn := Below_new w2 (.cells #[.int .i64 e.kind, .int .i64 e.player, .int .i64 e.frame] 59)
      have HR2 := hide (ownsRow_below (ownsRow_below HR.out hb2) bn)
      have HB2 := hide (Below_step (HB.out.trans (hb2.mono HB.out.size)) bn)
      have HL2 := hide (Lies.new w2 #[.int .i64 e.kind, .int .i64 e.player, .int .i64 e.frame] 59 (0, 0))
      have hB2 := HB2.out.size
      clear hb2 bn
      go_wp2_with (refine wpN_append elem_raws rfl (.tmp 11) (.tmp 17) rfl w.heap.size A' k c' _ rfl HR2.out _ _ 1 [.int .i64 e.kind, .int .i64 e.player, .int .i64 e.frame] rfl rfl HL2.out (by simp [Value.oneCell']) (by omega) (by omega) hB2 ?_; intro g9 c9 w9 own9 k9 hk9; have HOW := hide own9; have HK9 := hide (HB2.out.trans (k9.below hB2 (fun j hj hm => by have := World.ownsRow.lt HR2.out j hm.symm; omega))); clear own9 k9 hk9)
      go_roundg (n - (k + 1))
      case measure => omega
      case rel => exact ⟨k + 1, some ⟨g9, 0, none⟩, c9, by omega, rfl, by go_num, rfl, by rw [HTK.out]; exact HOW, HK9⟩
    · obtain rfl : n = k := by omega
      go_wp2_with fail
      go_ret
      refine ⟨A', c', rfl, ?_, HB.out⟩
      have := HR.out
      rw [List.take_of_length_le (by rw [HEL.out]; exact Nat.le_refl _)] at this
      exact this
end Go.Proofs.Ytbcgffgiifminaa
namespace Go.Proofs.Ytbcgffgiifminaa
open Go.RowKit
set_option maxRecDepth 10000
set_option linter.unusedVariables false
/-- A row beside a core. -/
structure AsideN (e : TypeId) (sz : Nat) (w : World) (x : Nat) (p : CP) (A : Option Addr) (n c : Nat) (l : List Value) : Prop where
  own : w.ownsRow 0 e sz (.slice A n c) n l
  out : ∀ k, some k = (Value.slice A n c).ownBlock → ¬ cBlocks x p k
section
variable {e : TypeId} {sz : Nat} {w w' : World} {x : Nat} {p p' : CP} {A : Option Addr} {n c : Nat} {l : List Value}
theorem AsideN.below (h : AsideN e sz w x p A n c l) (hb : Below w.heap.size w w') : AsideN e sz w' x p A n c l := ⟨ownsRow_below h.own hb, h.out⟩
theorem ownsRow_keeps {S : Nat → Prop} {B : Nat} (h : w.ownsRow B e sz (.slice A n c) n l) (hk : Keeps S w w') (hn : ∀ k, some k = (Value.slice A n c).ownBlock → ¬ S k) : w'.ownsRow B e sz (.slice A n c) n l := by
  refine ⟨h.1, ?_⟩
  rcases h.2 with h2 | ⟨g, cap, cur, hv, hb, hh, r⟩
  · exact .inl h2
  · refine .inr ⟨g, cap, cur, hv, hb, ?_, r⟩
    rw [hk.block g (Array.getElem?_eq_some_iff.1 hh).1 (hn g (by rw [hv]; rfl))]
    exact hh
theorem AsideN.step (h : AsideN e sz w x p A n c l) (st : Stp w w' x p p') : AsideN e sz w' x p' A n c l :=
  ⟨ownsRow_keeps h.own st.keeps h.out, fun k hk hc => by
    rcases st.new k hc with h' | h'
    · exact h.out k hk h'
    · have := (World.ownsRow.lt h.own k hk.symm).2; omega⟩
theorem AsideN.of {B B' : Nat} {s : Co} {w1 : World} (h : w.ownsRow B e sz (.slice A n c) n l) (hc : CAt B' w1 x p s) (hb : w1.heap.size ≤ B) : AsideN e sz w x p A n c l :=
  ⟨ownsRow_base_le h (Nat.zero_le _), fun k hk hm => by have := (World.ownsRow.lt h k hk.symm).1; have := (hc.blocks k hm).2; omega⟩
end
/-- The cells of a mail in its row. -/
theorem mail_cell {T : TypeId} {B : Nat} {w : World} {A : Option Addr} {n c : Nat} {xs : List (Mle × Sl)} (h : w.ownsRow B T 3 (.slice A n c) n (xs.flatMap mrow)) {i : Nat} (hi : i < n) (hx : i < xs.length) :
    ∃ g, A = some ⟨g, 0, none⟩ ∧ w.cell? ⟨g, i * 3, none⟩ = some (.int .i64 xs[i].1.src) ∧ w.cell? ⟨g, i * 3 + 1, none⟩ = some (.int .i64 xs[i].1.dst) ∧ w.cell? ⟨g, i * 3 + 2, none⟩ = some (sv xs[i].2) := by
  obtain ⟨g, hg⟩ : ∃ g, A = some ⟨g, 0, none⟩ := by
    rcases h.2 with ⟨hv, hx⟩ | ⟨g, cap, cur, hv, _⟩
    · omega
    · injection hv with h1 _ _; exact ⟨g, h1⟩
  subst hg
  have cc : ∀ j, j < 3 → ∀ v, (mrow xs[i])[j]? = some v → w.cell? ⟨g, i * 3 + j, none⟩ = some v := by
    intro j hj v hv
    rw [World.ownsRow.cellAt h (i * 3 + j) (by omega), flat_get mrow_len _ i j hx hj, hv]
  exact ⟨g, rfl, cc 0 (by omega) _ rfl, cc 1 (by omega) _ rfl, cc 2 (by omega) _ rfl⟩
def cfgB : Cfg := ⟨2, 1, 5, 0, 4, 1, 0, 0, 0, 3⟩
def pktB : Pkt := ⟨1, 0, 1, 5, 0, [3], 1, 0, 0⟩
def coB1 : Co := (Co.new cfgB).press 7
def coB2 : Co := coB1.tick
def coB3 : Co := coB2.hear pktB
def coB4 : Co := coB3.tick
theorem cfgB_fine : cfgB.Fine := cfgB.may_iff.1 (by decide)
theorem pktB_may : pktB.may = true := by decide
theorem pktB_wf : pktB.WF := ⟨by decide, by decide⟩
theorem coB1_err : (Co.new cfgB).pressErr = 0 := by decide
theorem coB1_mails : coB1.tickMails = [coB1.ticked.tellTo 0] := by rfl
theorem coB2_fits : coB2.fits pktB = true := by decide
theorem coB3_mails : coB3.tickMails = [coB3.ticked.tellTo 0] := by rfl
theorem coB4_mine : coB4.mine.length = 1 := by rfl
theorem coB4_front : front coB4.ls = 1 := by rfl
theorem coB4_closed : coB4.closed = false := by rfl
theorem coB4_events : coB4.events = [] := by rfl
theorem nil_no : ∀ q, ¬ Pkt.Is [] q := fun q h => by have := (Pkt.is_head h).1; simp at this
set_option maxHeartbeats 8000000 in
theorem begun21 (w : World) : Calls Try.prog 13 #[] w fun r w' => r = .returned (.bool true) ∧ Below w.heap.size w w' := by
  obtain ⟨s0, h0⟩ : ∃ s, s = Co.new cfgB := ⟨_, rfl⟩
  obtain ⟨s1, h1⟩ : ∃ s, s = coB1 := ⟨_, rfl⟩
  obtain ⟨s2, h2⟩ : ∃ s, s = coB2 := ⟨_, rfl⟩
  obtain ⟨s3, h3⟩ : ∃ s, s = coB3 := ⟨_, rfl⟩
  obtain ⟨s4, h4⟩ : ∃ s, s = coB4 := ⟨_, rfl⟩
  have HE0 : Hid (s0.pressErr = 0) := by show _ = _; rw [h0]; exact coB1_err
  have HP0 : Hid (s0.press 7 = s1) := by show _ = _; rw [h0, h1]; rfl
  have HM1 : Hid (s1.tickMails = [coB1.ticked.tellTo 0]) := by show _ = _; rw [h1]; exact coB1_mails
  have HT1 : Hid (s1.tick = s2) := by show _ = _; rw [h1, h2]; rfl
  have HN1 : Hid (s1.now < 1000000000 ∧ s1.events.length ≤ 999999000) := by show _ ∧ _; rw [h1]; decide
  have HF2 : Hid ((if s2.fits pktB = true then (0 : Int) else 1) = 0) := by show _ = _; rw [h2]; decide
  have HS2 : Hid ((if s2.fits pktB = true then s2.hear pktB else s2) = s3) := by show _ = _; rw [h2, h3]; rw [if_pos coB2_fits]; rfl
  have HC2 : Hid (s2.closed = false ∧ s2.events.length ≤ 999999000) := by show _ ∧ _; rw [h2]; exact ⟨by rfl, by decide⟩
  have HM3 : Hid (s3.tickMails = [coB3.ticked.tellTo 0]) := by show _ = _; rw [h3]; exact coB3_mails
  have HT3 : Hid (s3.tick = s4) := by show _ = _; rw [h3, h4]; rfl
  have HN3 : Hid (s3.now < 1000000000 ∧ s3.events.length ≤ 999999000) := by show _ ∧ _; rw [h3]; exact ⟨by decide, by decide⟩
  have HH4 : Hid ((s4.mine.length : Int) = 1) := by show _ = _; rw [h4, coB4_mine]; rfl
  have HR4 : Hid ((front s4.ls : Int) = 1) := by show _ = _; rw [h4, coB4_front]; rfl
  have HC4 : Hid (s4.closed = false) := by show _ = _; rw [h4]; exact coB4_closed
  have HE4 : Hid (s4.events = []) := by show _ = _; rw [h4]; exact coB4_events
  have HNEW : Hid (Co.new cfgB = s0) := h0.symm
  clear h0 h1 h2 h3 h4
  go_enter Try.func13, Try.ntmps13
  go_wp2_with fail
  refine Calls.mono (use_New cfgB cfgB_fine w) ?_
  rintro r w1 ⟨x, p1, rfl, hc1⟩
  rw [HNEW.out] at hc1
  have H1 := hide hc1
  clear hc1
  go_wp2_with fail
  refine Calls.mono (core_Queue H1.out.core) ?_
  rintro r w2 ⟨rfl, rfl⟩
  go_wp2_with fail
  refine Calls.mono (use_Press H1.out 7 rfl HE0.out HP0.out) ?_
  rintro r w2 ⟨rfl, p2, hc2, st2⟩
  have H2 := hide hc2
  clear hc2 st2
  go_wp2_with fail
  refine Calls.mono (use_Tick H2.out HN1.out.1 HN1.out.2 HM1.out HT1.out) ?_
  rintro r w3 ⟨mA, mn, mc, xs, rfl, hml, hxs, p3, hc3, st3, hp3⟩
  have hx1 : xs.length = 1 := by have := congrArg List.length hxs; simpa using this
  have hmn : mn = 1 := by rw [← hml.len]; exact hx1
  subst hmn
  obtain rfl := hp3 (by omega)
  have hxd : ∀ h : 0 < xs.length, (xs[0]'h).1.dst = 0 := by
    intro h
    have h2 : (xs.map Prod.fst)[0]? = some (coB1.ticked.tellTo 0) := by rw [hxs]; rfl
    rw [List.getElem?_map, List.getElem?_eq_getElem h] at h2
    injection h2 with h2
    rw [h2]; rfl
  have HX1 := hide hx1
  have HXD := hide hxd
  have HA3 := hide (AsideN.of hml.row H2.out.core (Nat.le_refl _))
  have H3 := hide hc3
  clear hml hxs hc3 st3 hp3 hx1 hxd
  have bn := Below_new w3 (.cells #[.int .u8 3] 5)
  have HL4 := hide (LiesB.new w3 #[.int .u8 3] 5 (0, 0) [3] 1 rfl rfl)
  have H4 := hide (H3.out.below bn)
  have HA4 := hide (HA3.out.below bn)
  clear bn
  go_wp2_with fail
  refine Calls.mono (ref_Packet pktB HL4.out (by rw [World.size_alloc]; omega) (by omega) pktB_wf) ?_
  rintro r w5 ⟨A5, n5, c5, rfl, ho5, hb5⟩
  have hn5 : n5 ≤ 100 := by have := ho5.len; have := Pkt.enc_short pktB; omega
  have HO5 := hide ho5
  have H5 := hide (H4.out.below hb5)
  have HA5 := hide (HA4.out.below hb5)
  clear ho5 hb5
  go_wp2_with fail
  refine Calls.mono (use_Receive_yes H5.out HC2.out.1 HC2.out.2 pktB (Pkt.enc_is pktB_may pktB_wf) HO5.out.lies (Nat.le_refl _) HO5.out.cap (by omega) HF2.out HS2.out) ?_
  rintro r w6 ⟨rfl, p6, hc6, st6⟩
  have H6 := hide hc6
  have HA6 := hide (HA5.out.step st6)
  clear hc6 st6
  go_wp2_with fail
  refine Calls.mono (use_Tick H6.out HN3.out.1 HN3.out.2 HM3.out HT3.out) ?_
  rintro r w7 ⟨kA, kn, kc, ys, rfl, hml, hxs, p7, hc7, st7, hp7⟩
  have hy1 : ys.length = 1 := by have := congrArg List.length hxs; simpa using this
  have hmn : kn = 1 := by rw [← hml.len]; exact hy1
  subst hmn
  have H7 := hide hc7
  have HA7 := hide (HA6.out.step st7)
  clear hml hxs hc7 st7 hp7 hy1
  obtain ⟨mg, rfl, -, md, -⟩ := mail_cell HA7.out.own (i := 0) (by omega) (by rw [HX1.out]; omega)
  rw [HXD.out _] at md
  go_wp2_with fail
  refine Calls.mono (use_Head H7.out HH4.out) ?_
  rintro r w8 ⟨rfl, hc8, hb8⟩
  have H8 := hide hc8
  clear hc8 hb8
  go_wp2_with fail
  refine Calls.mono (core_Queue H8.out.core) ?_
  rintro r w9 ⟨rfl, rfl⟩
  go_wp2_with fail
  refine Calls.mono (use_Front H8.out HR4.out) ?_
  rintro r w9 ⟨rfl, rfl⟩
  go_wp2_with fail
  refine Calls.mono (use_Receive_no H8.out HC4.out nil_no (LiesB.nil _ 0 none) (Nat.zero_le _) (Nat.le_refl _) (by omega)) ?_
  rintro r w9 ⟨rfl, hc9, hb9⟩
  have H9 := hide hc9
  clear hc9 hb9
  go_wp2_with fail
  refine Calls.mono (use_Closed H9.out HC4.out) ?_
  rintro r w10 ⟨rfl, rfl⟩
  go_wp2_with fail
  refine Calls.mono (use_Events H9.out HE4.out) ?_
  rintro r w10 ⟨eA, ec, rfl, -, p10, hc10, -⟩
  go_wp2_with fail
  go_ret
  exact ⟨rfl, hc10.bel⟩
end Go.Proofs.Ytbcgffgiifminaa
