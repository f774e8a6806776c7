import Derived.Test.Qxb6500382aTake
import Derived.Deep.RegionHeld3
import Derived.Deep.RegionLaw
import Derived.Deep.DrawnRows
namespace Go.Proofs.Qxb6500382a
open Go.RowKit
attribute [local go_sem ↓] Go.wp_at_zero Go.wp_at_succ

theorem step_append_run {P : Program} {ops : Array Oper} {o : Oper} {a : Act} {w w' : World} {K : Act → World → Prop} {Q : Exit → Act → World → Prop} {E : Prop} {v p y : Value} (hgd : o.guard = none) (s x : Operand) (t u : TypeId)
    (ho : o.op = .call { callee := .builtin .append, args := #[s, x], argTypes := #[t, u] }) (hs : a.eval s = p) (hx : a.eval x = y) (hr : (Builtin.append_ #[t, u] o.type #[p, y]).run P w = .ok v w') (h : K (a.put o.dst v) w') :
    if Region.wanted o (yielded ops a.tmps) = true then Oper.wp P o a w K Q else E := by
  have hw : Region.wanted o (yielded ops a.tmps) = true := by simp [Region.wanted, hgd]
  rw [if_pos hw]
  unfold Oper.wp execOp
  simp only [ho, resolve, invoke, builtin, Sem.run_bind, Sem.run_pure, Result.andThen_ok, List.map_toArray, List.map_cons, List.map_nil, hs, hx, hr]
  exact h

theorem step_enter {P : Program} {ops : Array Oper} {o : Oper} {a : Act} {w : World} {K : Act → World → Prop} {Q : Exit → Act → World → Prop} {E : Prop} {f : FuncId} {vs : Array Value} {v : Value} {R : World → Prop} (hgd : o.guard = none)
    (hr : (execOp a.eval o).run P w = .ok (.enter f vs) w) (C : Calls P f vs w fun e w' => e = .returned v ∧ R w') (h : ∀ w', R w' → K (a.put o.dst v) w') :
    if Region.wanted o (yielded ops a.tmps) = true then Oper.wp P o a w K Q else E := by
  have hw : Region.wanted o (yielded ops a.tmps) = true := by simp [Region.wanted, hgd]
  rw [if_pos hw]
  unfold Oper.wp
  rw [hr, Oper.upon_enter]
  refine C.mono ?_
  rintro e w' ⟨rfl, hR⟩
  exact h w' hR

theorem got_key (B d : Nat) (sr v : Value) (bs : List UInt8) (W : World) (hd : W.heap[d]? = some (.cells #[sr, v, .int .i64 0, .nilFunc, .nilFunc] 37)) (hown : W.ownsRow B 5 1 v bs.length (u8s bs)) (hB : B ≤ d) (hl : bs.length ≤ 1000) (s : ByteArray) (hs : s.size ≤ 10)
    (w1 : World) (hb : Below W.heap.size W w1) : ∃ p n c w2, (Builtin.append_ #[32, 9] 32 #[v, .string s]).run Try.prog w1 = .ok (.slice p n c) w2 ∧ w2.cell? ⟨d, 1, none⟩ = some v ∧ w2.frozen? ⟨d, 1, none⟩ = false ∧
      Hid (Led B d sr (bs ++ s.data.toList) (w2.setCell ⟨d, 1, none⟩ (.slice p n c))) ∧ Hid (Mv B d W (w2.setCell ⟨d, 1, none⟩ (.slice p n c))) := by
  have hdl : d < W.heap.size := (Array.getElem?_eq_some_iff.1 hd).1
  obtain ⟨i, hi, hzz⟩ := Option.map_eq_some_iff.1 info5
  simp only [Prod.mk.injEq] at hzz
  obtain ⟨hz, hsz, hby⟩ := hzz
  have hd1 := (hb.block d hdl).trans hd
  have hown1 : w1.ownsRow B 5 1 v bs.length (u8s bs) := by
    refine ⟨hown.1, ?_⟩
    rcases hown.2 with hn | ⟨g, cap, cur, rfl, hbg, hgg, rest⟩
    · exact .inl hn
    · exact .inr ⟨g, cap, cur, rfl, hbg, (hb.block g (Array.getElem?_eq_some_iff.1 hgg).1).trans hgg, rest⟩
  obtain ⟨v', w2, hr, h2, h3, _⟩ := Go.Lib.run_append_own_string (P := Try.prog) w1 B 32 9 32 5 i Try.underlying32 Try.underlying9 hi hz hsz hby v bs.length (u8s bs) hown1 s (by unfold maxLen; omega) (by omega) (by have := hb.size; omega)
  obtain ⟨t1, t2, ⟨p', n', c', rfl⟩, t4, t5⟩ := led_turn (new := s.data.toList) hd1 hown1 hB h2 h3 (by rw [List.length_append, Array.length_toList]; rfl)
  exact ⟨p', n', c', w2, hr, t1, t2, t4, (Mv.of_below (by omega) hb).trans t5⟩

set_option maxRecDepth 100000 in
set_option maxHeartbeats 1000000 in
theorem got_any (B d : Nat) (sr : Value) (bs : List UInt8) (x : Int) (s : ByteArray) (hs : s.size ≤ 10) (C : ∀ W, Calls Try.prog 24 #[.int .i64 x, .int .i64 0] W fun e W' => e = .returned (.string s) ∧ Below W.heap.size W W') (W : World) (h : Led B d sr bs W) (hl : bs.length ≤ 1000) :
    Calls Try.prog 16 #[.pointer (some ⟨d, 1, none⟩), .int .i64 x, .int .i64 0] W fun e W' => e = .returned (.tuple #[]) ∧ Led B d sr (bs ++ s.data.toList) W' ∧ Mv B d W W' := by
  obtain ⟨v, hd, hown, hB⟩ := h
  have hc : W.cell? ⟨d, 1, none⟩ = some v := by rw [cell_at _ _ _ _ _ hd]; rfl
  have hdl : d < W.heap.size := (Array.getElem?_eq_some_iff.1 hd).1
  have KEY : Hid _ := got_key B d sr v bs W hd hown hB hl s hs
  clear hd hown
  go_enter Try.func16, Try.ntmps16
  go_wp2_with fail
  go_region_law (first
      | (refine step_enter (by rfl) (by simp [go_sem, Act.eval]) (C _) ?_; intro w1 hB1; have hc1 := (hB1.cell (p := ⟨d, 1, none⟩) hdl).trans hc; obtain ⟨p', n', c', w2, hr, t1, t2, HL, HM⟩ := KEY.out w1 ⟨hB1.os, hB1.tape, hB1.output, hB1.size, hB1.block⟩)
      | (refine step_append_run (by rfl) _ _ 32 9 (by rfl) (by rfl) (by rfl) hr ?_))
  all_goals
    go_wp2
    go_end0
    exact ⟨rfl, HL.out, HM.out⟩
end Go.Proofs.Qxb6500382a
