import Derived.Test.Qxb6500382aProg
import Derived.WalkKit
import Derived.WalkSpells
import Derived.WalkLawsBesides
import Derived.Deep.QuietTactic
import Derived.Deep.RegionWith
import Derived.Deep.Cut
import Derived.BigQuiet
import Derived.Lib.AppendStr
import Derived.Laws.IdiomStrings
namespace Go.Proofs.Qxb6500382a
open Go.RowKit

theorem heap_new (w : World) (o : Obj) : (w.alloc o).heap[w.heap.size]? = some o := by
  show (w.heap.push o)[w.heap.size]? = some o
  simp
theorem cell_at (w : World) (b j : Nat) (c : Array Value) (t : TypeId) (h : w.heap[b]? = some (.cells c t)) : w.cell? ⟨b, j, none⟩ = c[j]? := by simp [World.cell?, h]
theorem frozen_at (w : World) (b j : Nat) (c : Array Value) (t : TypeId) (h : w.heap[b]? = some (.cells c t)) : w.frozen? ⟨b, j, none⟩ = false := by simp [World.frozen?, h]
theorem block_set (w : World) (b j : Nat) (c : Array Value) (t : TypeId) (v : Value) (h : w.heap[b]? = some (.cells c t)) : (w.setCell ⟨b, j, none⟩ v).heap[b]? = some (.cells (c.setIfInBounds j v) t) := by
  simp [World.setCell, Array.getElem?_modify, h]
theorem add_at (g j : Nat) : (⟨g, 0, none⟩ : Addr).add j = ⟨g, j, none⟩ := by
  unfold Addr.add
  split <;> simp_all

/-- A row of bytes. -/
def isRow : Obj → Bool
  | .cells _ t _ => t == 5
  | _ => false
/-- From W to W': new blocks; of the old ones only rows of bytes and the desk d may have turned; below B nothing. -/
structure Mv (B d : Nat) (W W' : World) : Prop where
  os : W'.os = W.os
  tape : W'.tape = W.tape
  output : W'.output = W.output
  size : W.heap.size ≤ W'.heap.size
  low : ∀ k, k < B → W'.heap[k]? = W.heap[k]?
  keep : ∀ (k : Nat) (o : Obj), k ≠ d → W.heap[k]? = some o → isRow o = false → W'.heap[k]? = some o

theorem Mv.refl (B d : Nat) (W : World) : Mv B d W W := ⟨rfl, rfl, rfl, Nat.le_refl _, fun _ _ => rfl, fun _ _ _ h _ => h⟩
theorem Mv.trans {B d : Nat} {W W1 W2 : World} (h : Mv B d W W1) (k : Mv B d W1 W2) : Mv B d W W2 :=
  ⟨k.os.trans h.os, k.tape.trans h.tape, k.output.trans h.output, Nat.le_trans h.size k.size, fun i hi => (k.low i hi).trans (h.low i hi), fun i o hd ho hr => k.keep i o hd (h.keep i o hd ho hr) hr⟩
theorem Mv.alloc {B d : Nat} {W W1 : World} (h : Mv B d W W1) (hB : B ≤ W1.heap.size) (o : Obj) : Mv B d W (W1.alloc o) :=
  h.trans ⟨rfl, rfl, rfl, by simp, fun k hk => Below.heap_alloc _ _ _ (by omega), fun k o' _ ho _ => (Below.heap_alloc _ _ _ (Array.getElem?_eq_some_iff.1 ho).1).trans ho⟩
theorem Mv.drewN {B d : Nat} {W W1 : World} (h : Mv B d W W1) (n : Nat) : Mv B d W (W1.drewN n) := ⟨h.os, h.tape, h.output, h.size, h.low, h.keep⟩
theorem Mv.drew {B d : Nat} {W W1 : World} (h : Mv B d W W1) : Mv B d W W1.drew := ⟨h.os, h.tape, h.output, h.size, h.low, h.keep⟩
theorem Mv.desk {B d : Nat} {W W1 : World} (h : Mv B d W W1) (hB : B ≤ d) (j : Nat) (v : Value) : Mv B d W (W1.setCell ⟨d, j, none⟩ v) :=
  h.trans ⟨rfl, rfl, rfl, by simp, fun k hk => Below.heap_setCell _ _ _ _ (by show k ≠ d; omega), fun k o hd ho _ => (Below.heap_setCell _ _ _ _ hd).trans ho⟩
theorem Mv.below {B d : Nat} {W W' : World} (h : Mv B d W W') : Below B W W' := ⟨h.os, h.tape, h.output, h.size, h.low⟩

/-- Bytes as cells. -/
def u8s (bs : List UInt8) : List Value := bs.map fun b => Value.int .u8 b.toNat
theorem u8s_append (a b : List UInt8) : u8s (a ++ b) = u8s a ++ u8s b := List.map_append ..
/-- The desk, its ledger holding bs; sr: its list of sources. -/
def Led (B d : Nat) (sr : Value) (bs : List UInt8) (W : World) : Prop :=
  ∃ v, W.heap[d]? = some (.cells #[sr, v, .int .i64 0, .nilFunc, .nilFunc] 37) ∧ W.ownsRow B 5 1 v bs.length (u8s bs) ∧ B ≤ d

theorem info5 : (Try.prog.info? 5).map (fun i => (i.zero, i.size, i.bytes)) = some (some (.int .u8 0), 1, 1) := by kernel_rfl

/-- What is laid behind an append onto the ledger's row. -/
theorem led_turn {B d : Nat} {sr v v' : Value} {n n' : Nat} {bs new : List UInt8} {W W' : World} (hd : W.heap[d]? = some (.cells #[sr, v, .int .i64 0, .nilFunc, .nilFunc] 37)) (hown : W.ownsRow B 5 1 v n (u8s bs)) (hB : B ≤ d)
    (ho : W'.ownsRow B 5 1 v' n' (u8s bs ++ u8s new)) (hg : W.grownBy W' v.ownBlock) (hn : n' = (bs ++ new).length) :
    W'.cell? ⟨d, 1, none⟩ = some v ∧ W'.frozen? ⟨d, 1, none⟩ = false ∧ (∃ p a c, v' = .slice p a c) ∧ Led B d sr (bs ++ new) (W'.setCell ⟨d, 1, none⟩ v') ∧ Mv B d W (W'.setCell ⟨d, 1, none⟩ v') := by
  have hdl : d < W.heap.size := (Array.getElem?_eq_some_iff.1 hd).1
  have row : ∀ k, v.ownBlock = some k → B ≤ k ∧ ∃ o, W.heap[k]? = some o ∧ isRow o = true := by
    intro k hk
    rcases hown.2 with ⟨rfl, _⟩ | ⟨g, cap, cur, rfl, hb, hgg, _⟩
    · simp [Value.ownBlock] at hk
    · simp [Value.ownBlock] at hk
      subst hk
      exact ⟨hb, _, hgg, rfl⟩
  have hne : ∀ (k : Nat) (o : Obj), W.heap[k]? = some o → isRow o = false → some k ≠ v.ownBlock := by
    intro k o hk hr e
    obtain ⟨_, o', ho', hr'⟩ := row k e.symm
    rw [hk] at ho'
    cases ho'
    rw [hr] at hr'
    cases hr'
  have hd' : W'.heap[d]? = some (.cells #[sr, v, .int .i64 0, .nilFunc, .nilFunc] 37) := (hg.block d hdl (hne d _ hd rfl)).trans hd
  have m1 : Mv B d W W' := ⟨hg.os, hg.tape, hg.output, hg.size, fun k hk => by
      by_cases hk' : k < W.heap.size
      · exact hg.block k hk' (fun e => by have := (row k e.symm).1; omega)
      · omega,
    fun k o _ hk hr => (hg.block k (Array.getElem?_eq_some_iff.1 hk).1 (hne k o hk hr)).trans hk⟩
  refine ⟨by rw [cell_at _ _ _ _ _ hd']; rfl, frozen_at _ _ _ _ _ hd', ?_, ⟨v', by rw [block_set _ _ _ _ _ _ hd']; rfl, ?_, hB⟩, m1.desk hB _ _⟩
  · rcases ho.2 with ⟨rfl, _⟩ | ⟨g, cap, cur, rfl, _⟩ <;> exact ⟨_, _, _, rfl⟩
  · rw [u8s_append, ← hn]
    refine ⟨ho.1, ?_⟩
    rcases ho.2 with hn | ⟨g, cap, cur, rfl, hb, hgg, rest⟩
    · exact .inl hn
    · refine .inr ⟨g, cap, cur, rfl, hb, ?_, rest⟩
      rw [Below.heap_setCell _ _ _ _ (by
        intro e
        have e' : g = d := e
        rw [e', hd'] at hgg
        cases hgg)]
      exact hgg

theorem wpList_append_run {P : Program} {ops : Array Oper} {Q : Exit → Act → World → Prop} {a : Act} {w w' : World} {o : Oper} {v : Value} {l : List Oper} (hgd : o.guard = none) (s x : Operand) (t u : TypeId) (ho : o.op = .call { callee := .builtin .append, args := #[s, x], argTypes := #[t, u] }) {p y : Value} (hs : a.eval s = p) (hx : a.eval x = y)
    (hr : (Builtin.append_ #[t, u] o.type #[p, y]).run P w = .ok v w') (h : wpList P ops Q l (a.put o.dst v) w') : wpList P ops Q (o :: l) a w :=
  wpList_plain hgd fun _ hK => by
    unfold Oper.wp execOp
    simp only [ho, resolve, invoke, builtin, Sem.run_bind, Sem.run_pure, Result.andThen_ok, List.map_toArray, List.map_cons, List.map_nil, hs, hx, hr]
    exact hK _ _ h

set_option maxHeartbeats 400000 in
theorem mark_any (B d : Nat) (sr : Value) (bs : List UInt8) (ev : UInt8) (W : World) (h : Led B d sr bs W) (hl : bs.length ≤ 1000) :
    Calls Try.prog 21 #[.pointer (some ⟨d, 1, none⟩), .int .u8 ev.toNat, .int .i64 0] W fun e W' => e = .returned (.tuple #[]) ∧ Led B d sr (bs ++ [ev, 48]) W' ∧ Mv B d W W' := by
  obtain ⟨v, hd, hown, hB⟩ := h
  have hc : W.cell? ⟨d, 1, none⟩ = some v := by rw [cell_at _ _ _ _ _ hd]; rfl
  have hdl : d < W.heap.size := (Array.getElem?_eq_some_iff.1 hd).1
  obtain ⟨i, hi, hzz⟩ := Option.map_eq_some_iff.1 info5
  simp only [Prod.mk.injEq] at hzz
  obtain ⟨hz, hs, hby⟩ := hzz
  have hN := heap_new W (.cells #[.int .u8 ev.toNat, .int .u8 48] 5)
  obtain ⟨v', w', hr, h2, h3, _⟩ := run_append_own (P := Try.prog) (W.alloc (.cells #[.int .u8 ev.toNat, .int .u8 48] 5)) B 32 32 5 i (.int .u8 0) 1 1 Try.underlying32 hi hz hs hby rfl (by decide) v bs.length (u8s bs) (hown.alloc _)
    ⟨W.heap.size, 0, none⟩ 2 2 [.int .u8 ev.toNat, .int .u8 48] rfl (by
      intro j u hu
      rw [add_at, cell_at _ _ _ _ _ hN]
      simpa using hu) (by intro u hu; simp at hu; rcases hu with rfl | rfl <;> rfl) (by unfold maxLen; omega) (by omega) (by simp; omega)
  obtain ⟨t1, t2, ⟨p', n', c', rfl⟩, t4, t5⟩ := led_turn (new := [ev, 48]) ((Below.heap_alloc _ _ _ hdl).trans hd) (hown.alloc _) hB h2 h3 (by simp)
  have HL : Hid _ := t4
  have HM : Hid _ := ((Mv.refl B d W).alloc (by omega) _).trans t5
  clear t4 t5 h2 h3 hown hd hN hi
  go_enter Try.func21, Try.ntmps21
  go_wp2_with (at_builtin; refine wpList_append_run rfl _ _ 32 32 rfl rfl rfl hr ?_)
  go_end0
  exact ⟨rfl, HL.out, HM.out⟩
end Go.Proofs.Qxb6500382a
