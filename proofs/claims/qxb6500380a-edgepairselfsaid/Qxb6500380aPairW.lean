import Derived.Test.Qxb6500380aFill
namespace Go.Proofs.Qxb6500380a
open Go.RowKit

def ints (xs : List Nat) : List Value := xs.map fun x => Value.int .i64 (x : Nat)
theorem info3 : (Try.prog.info? 3).map (fun i => (i.zero, i.size, i.bytes)) = some (some (.int .i64 0), 1, 8) := by kernel_rfl

/-- append of one int onto a row of the call's own: where the row lies then. -/
theorem app1 (w : World) (base : Nat) (ty : TypeId) (v : Value) (n : Nat) (ys : List Value) (hown : w.ownsRow base 3 1 v n ys) (x : Int) (a : Addr) (ha : w.cell? a = some (.int .i64 x)) (hn : n ≤ 100) (hb : base ≤ w.heap.size) (h0 : a.spot = none) :
    ∃ v' w', (Builtin.append_ #[40, 40] ty #[v, .slice (some a) 1 1]).run Try.prog w = .ok v' w' ∧ w'.ownsRow base 3 1 v' (n + 1) (ys ++ [.int .i64 x]) ∧ w.grownBy w' v.ownBlock ∧
      (v'.ownBlock = v.ownBlock ∨ v'.ownBlock = some w.heap.size) := by
  obtain ⟨i, hi, hzz⟩ := Option.map_eq_some_iff.1 info3
  simp only [Prod.mk.injEq] at hzz
  obtain ⟨hz, hs, hby⟩ := hzz
  have hnews : ∀ j u, [Value.int .i64 x][j]? = some u → w.cell? (a.add j) = some u := by
    intro j u hu
    match j, hu with
    | 0, hu => simp at hu; subst hu; obtain ⟨b, o, s⟩ := a; simp at h0; subst h0; simpa [Addr.add] using ha
  have h1 : ∀ u ∈ [Value.int .i64 x], u.oneCell' = true := by intro u hu; simp at hu; subst hu; rfl
  obtain ⟨v', w', hr, h2, h3, _⟩ := run_append_own (P := Try.prog) w base 40 ty 3 i (.int .i64 0) 1 8 Try.underlying40 hi hz hs hby rfl (by decide) v n ys hown a 1 1 [.int .i64 x] rfl hnews h1 (by unfold maxLen; omega) (by omega) hb
  refine ⟨v', w', hr, h2, h3, ?_⟩
  rcases hown.2 with ⟨rfl, rfl⟩ | ⟨g, cap, cur, rfl, hbg, hg, hnc, hcm, hcs, htake⟩
  · have hr' := run_append_nil (P := Try.prog) w 40 ty 3 i (.int .i64 0) Try.underlying40 hi hz a 1 1 [.int .i64 x] (by rw [hs]; rfl) hnews (by omega) (by omega) (by rw [hby]; omega)
    rw [hr'] at hr
    injection hr with e1 e2
    subst e1
    exact .inr rfl
  · by_cases hroom : n + 1 ≤ cap
    · have hfit : n * i.size + [Value.int .i64 x].length ≤ cur.size := by rw [hs, hcs]; simpa using hroom
      have hr' := run_append_room (P := Try.prog) w 40 ty 3 i Try.underlying40 hi g n cap cur hg a 1 1 [.int .i64 x] (by rw [hs]; rfl) hnews h1 hroom hfit
      rw [hr'] at hr
      injection hr with e1 e2
      subst e1
      exact .inl rfl
    · have holds : ∀ j u, ys[j]? = some u → w.cell? ((⟨g, 0, none⟩ : Addr).add j) = some u := hown.cells (g := g) rfl
      have hr' := run_append_grow (P := Try.prog) w 40 ty 3 i (.int .i64 0) Try.underlying40 hi hz ⟨g, 0, none⟩ n cap ys (by rw [hs]; exact hown.1) holds a 1 1 [.int .i64 x] (by rw [hs]; rfl) hnews (by omega) (by omega) (by rw [hby]; exact growslice_fits (by omega) (by omega))
      rw [hr'] at hr
      injection hr with e1 e2
      subst e1
      exact .inr rfl

/-- The world in Pair's loop: c0, c1 items have been taken out of the channels; k0, k1 have been laid into the two lists. -/
structure PairS (w : World) (xs : List Nat) (c0 c1 k0 k1 : Nat) (v0 v1 : Value) (wr : World) : Prop where
  ca : wr.heap[w.heap.size]? = some (.chan 6 (chBuf (xs.drop c0)) false 6 c0 false)
  cb : wr.heap[w.heap.size + 1]? = some (.chan 6 (chBuf (xs.drop c1)) false 6 c1 false)
  got : wr.heap[w.heap.size + 2]? = some (.cells #[v0, v1] 52)
  own0 : wr.ownsRow (w.heap.size + 3) 3 1 v0 k0 (ints (xs.take k0))
  own1 : wr.ownsRow (w.heap.size + 3) 3 1 v1 k1 (ints (xs.take k1))
  apart : ∀ g, v0.ownBlock = some g → v1.ownBlock ≠ some g
  below : Below w.heap.size w wr

theorem PairS.size {w : World} {xs : List Nat} {c0 c1 k0 k1 : Nat} {v0 v1 : Value} {wr : World} (h : PairS w xs c0 c1 k0 k1 v0 v1 wr) : w.heap.size + 3 ≤ wr.heap.size := by
  have := (Array.getElem?_eq_some_iff.1 h.got).1
  omega

theorem chBuf_drop (xs : List Nat) (c : Nat) (h : c < xs.length) : (chBuf (xs.drop c)).extract 1 (chBuf (xs.drop c)).size = chBuf (xs.drop (c + 1)) := by
  rw [List.drop_eq_getElem_cons h]
  simp [chBuf]
  exact List.take_of_length_le (by simp; omega)
theorem chBuf_head (xs : List Nat) (c : Nat) (h : c < xs.length) : (chBuf (xs.drop c)).getD 0 undef = .int .i64 (xs.getD c 0 : Nat) := by
  rw [List.drop_eq_getElem_cons h]
  simp [chBuf, List.getD_eq_getElem?_getD, h]

theorem ownsRow_putCh {w : World} {base : Nat} {v : Value} {n : Nat} {ys : List Value} (h : w.ownsRow base 3 1 v n ys) (m c : Nat) (hc : c < base) (o : Obj) : (putCh (w.drewN m) c o).ownsRow base 3 1 v n ys := by
  refine ⟨h.1, ?_⟩
  rcases h.2 with hn | ⟨g, cap, cur, hv, hb, hg, rest⟩
  · exact .inl hn
  · exact .inr ⟨g, cap, cur, hv, hb, by rw [putCh_other _ _ _ _ (by omega)]; exact hg, rest⟩

theorem PairS.take0 {w : World} {xs : List Nat} {c0 c1 k0 k1 : Nat} {v0 v1 : Value} {wr : World} (h : PairS w xs c0 c1 k0 k1 v0 v1 wr) (n : Nat) (hc : c0 < xs.length) :
    PairS w xs (c0 + 1) c1 k0 k1 v0 v1 (putCh (wr.drewN n) w.heap.size (.chan 6 ((chBuf (xs.drop c0)).extract 1 (chBuf (xs.drop c0)).size) false 6 (c0 + 1) false)) := by
  have hs := h.size
  rw [chBuf_drop xs c0 hc]
  refine ⟨putCh_same _ _ _ (by show _ < wr.heap.size; omega), ?_, ?_, ownsRow_putCh h.own0 _ _ (by omega) _, ownsRow_putCh h.own1 _ _ (by omega) _, h.apart, below_putCh (a := w) (w := wr.drewN n) ⟨h.below.os, h.below.tape, h.below.output, h.below.size, h.below.block⟩ (Nat.le_refl _) _⟩
  · rw [putCh_other _ _ _ _ (by omega)]; exact h.cb
  · rw [putCh_other _ _ _ _ (by omega)]; exact h.got
theorem PairS.take1 {w : World} {xs : List Nat} {c0 c1 k0 k1 : Nat} {v0 v1 : Value} {wr : World} (h : PairS w xs c0 c1 k0 k1 v0 v1 wr) (n : Nat) (hc : c1 < xs.length) :
    PairS w xs c0 (c1 + 1) k0 k1 v0 v1 (putCh (wr.drewN n) (w.heap.size + 1) (.chan 6 ((chBuf (xs.drop c1)).extract 1 (chBuf (xs.drop c1)).size) false 6 (c1 + 1) false)) := by
  have hs := h.size
  rw [chBuf_drop xs c1 hc]
  refine ⟨?_, putCh_same _ _ _ (by show _ < wr.heap.size; omega), ?_, ownsRow_putCh h.own0 _ _ (by omega) _, ownsRow_putCh h.own1 _ _ (by omega) _, h.apart, below_putCh (a := w) (w := wr.drewN n) ⟨h.below.os, h.below.tape, h.below.output, h.below.size, h.below.block⟩ (by omega) _⟩
  · rw [putCh_other _ _ _ _ (by omega)]; exact h.ca
  · rw [putCh_other _ _ _ _ (by omega)]; exact h.got

theorem ints_snoc (xs : List Nat) (k : Nat) (h : k < xs.length) : ints (xs.take k) ++ [.int .i64 (xs.getD k 0 : Nat)] = ints (xs.take (k + 1)) := by
  rw [List.take_succ_eq_append_getElem h]
  unfold ints
  rw [List.map_append]
  simp [List.getD_eq_getElem?_getD, h, -List.map_take]

theorem cell_at (w : World) (b j : Nat) (c : Array Value) (t : TypeId) (h : w.heap[b]? = some (.cells c t)) : w.cell? ⟨b, j, none⟩ = c[j]? := by simp [World.cell?, h]
theorem frozen_at (w : World) (b j : Nat) (c : Array Value) (t : TypeId) (h : w.heap[b]? = some (.cells c t)) : w.frozen? ⟨b, j, none⟩ = false := by simp [World.frozen?, h]
theorem block_set (w : World) (b j : Nat) (c : Array Value) (t : TypeId) (v : Value) (h : w.heap[b]? = some (.cells c t)) : (w.setCell ⟨b, j, none⟩ v).heap[b]? = some (.cells (c.setIfInBounds j v) t) := by
  simp [World.setCell, Array.getElem?_modify, h]

/-- 'got[0] = append(got[0], v)'. -/
theorem PairS.lay0 {w : World} {xs : List Nat} {c0 c1 k0 k1 : Nat} {v0 v1 : Value} {wr : World} (h : PairS w xs c0 c1 k0 k1 v0 v1 wr) (ty : TypeId) (hk : k0 < xs.length) (hx : xs.length ≤ 6) :
    wr.cell? ⟨w.heap.size + 2, 0, none⟩ = some v0 ∧ ∃ v' w', (Builtin.append_ #[40, 40] ty #[v0, .slice (some ⟨wr.heap.size, 0, none⟩) 1 1]).run Try.prog (wr.alloc (.cells #[.int .i64 (xs.getD k0 0 : Nat)] 3)) = .ok v' w' ∧
      w'.cell? ⟨w.heap.size + 2, 0, none⟩ = some v0 ∧ w'.frozen? ⟨w.heap.size + 2, 0, none⟩ = false ∧ (∃ p n c, v' = .slice p n c) ∧ PairS w xs c0 c1 (k0 + 1) k1 v' v1 (w'.setCell ⟨w.heap.size + 2, 0, none⟩ v') := by
  have hs := h.size
  obtain ⟨v', w', hr, ho, hg, hb⟩ := app1 (wr.alloc (.cells #[.int .i64 (xs.getD k0 0 : Nat)] 3)) (w.heap.size + 3) ty v0 k0 (ints (xs.take k0)) (h.own0.alloc _) (xs.getD k0 0 : Nat) ⟨wr.heap.size, 0, none⟩
    (by rw [cell_at _ _ _ _ _ (heap_new _ _)]; rfl) (by omega) (by simp; omega) rfl
  have hz : (wr.alloc (.cells #[.int .i64 (xs.getD k0 0 : Nat)] 3)).heap.size = wr.heap.size + 1 := by simp
  have old : ∀ k, k < wr.heap.size → v0.ownBlock ≠ some k → w'.heap[k]? = wr.heap[k]? := fun k hk hne =>
    (hg.block k (by omega) (fun e => hne e.symm)).trans (Below.heap_alloc _ _ _ hk)
  have low : ∀ k, k < w.heap.size + 3 → w'.heap[k]? = wr.heap[k]? := fun k hk => old k (by omega) (fun e => by have := (h.own0.lt k e).1; omega)
  have hgot : w'.heap[w.heap.size + 2]? = some (.cells #[v0, v1] 52) := (low _ (by omega)).trans h.got
  have hset : (w'.setCell ⟨w.heap.size + 2, 0, none⟩ v').heap[w.heap.size + 2]? = some (.cells #[v', v1] 52) := by rw [block_set _ _ _ _ _ _ hgot]; rfl
  have hoth : ∀ k, k ≠ w.heap.size + 2 → (w'.setCell ⟨w.heap.size + 2, 0, none⟩ v').heap[k]? = w'.heap[k]? := fun k hk => Below.heap_setCell _ _ _ _ hk
  refine ⟨by rw [cell_at _ _ _ _ _ h.got]; rfl, v', w', hr, by rw [cell_at _ _ _ _ _ hgot]; rfl, frozen_at _ _ _ _ _ hgot, ?_, ?_⟩
  · rcases ho.2 with ⟨rfl, _⟩ | ⟨g, cap, cur, rfl, _⟩ <;> exact ⟨_, _, _, rfl⟩
  · have b1 : Below w.heap.size w (wr.alloc (.cells #[.int .i64 (xs.getD k0 0 : Nat)] 3)) := h.below.alloc (by omega) _
    refine ⟨by rw [hoth _ (by omega), low _ (by omega)]; exact h.ca, by rw [hoth _ (by omega), low _ (by omega)]; exact h.cb, hset, ?_, ?_, ?_, ?_⟩
    · rw [← ints_snoc xs k0 hk]; exact ownsRow_setCell_below ho (by show w.heap.size + 2 < w.heap.size + 3; omega) _
    · refine ownsRow_setCell_below ?_ (by show w.heap.size + 2 < w.heap.size + 3; omega) _
      exact (h.own1.alloc _).kept hg (by
        cases e : v1.ownBlock with
        | none => exact .inl rfl
        | some g => exact .inr (fun e' => h.apart g e'.symm e))
    · intro g hg' e
      rcases hb with hb | hb
      · rw [hb] at hg'; exact h.apart g hg' e
      · rw [hb] at hg'
        have := (h.own1.lt g e).2
        simp only [Option.some.injEq] at hg'
        omega
    · exact (b1.grown hg (by omega) (fun k e => by have := (h.own0.lt k e).1; omega)).setCell (by show _ ≤ _; simp) _
/-- 'got[1] = append(got[1], v)'. -/
theorem PairS.lay1 {w : World} {xs : List Nat} {c0 c1 k0 k1 : Nat} {v0 v1 : Value} {wr : World} (h : PairS w xs c0 c1 k0 k1 v0 v1 wr) (ty : TypeId) (hk : k1 < xs.length) (hx : xs.length ≤ 6) :
    wr.cell? ⟨w.heap.size + 2, 1, none⟩ = some v1 ∧ ∃ v' w', (Builtin.append_ #[40, 40] ty #[v1, .slice (some ⟨wr.heap.size, 0, none⟩) 1 1]).run Try.prog (wr.alloc (.cells #[.int .i64 (xs.getD k1 0 : Nat)] 3)) = .ok v' w' ∧
      w'.cell? ⟨w.heap.size + 2, 1, none⟩ = some v1 ∧ w'.frozen? ⟨w.heap.size + 2, 1, none⟩ = false ∧ (∃ p n c, v' = .slice p n c) ∧ PairS w xs c0 c1 k0 (k1 + 1) v0 v' (w'.setCell ⟨w.heap.size + 2, 1, none⟩ v') := by
  have hs := h.size
  obtain ⟨v', w', hr, ho, hg, hb⟩ := app1 (wr.alloc (.cells #[.int .i64 (xs.getD k1 0 : Nat)] 3)) (w.heap.size + 3) ty v1 k1 (ints (xs.take k1)) (h.own1.alloc _) (xs.getD k1 0 : Nat) ⟨wr.heap.size, 0, none⟩
    (by rw [cell_at _ _ _ _ _ (heap_new _ _)]; rfl) (by omega) (by simp; omega) rfl
  have hz : (wr.alloc (.cells #[.int .i64 (xs.getD k1 0 : Nat)] 3)).heap.size = wr.heap.size + 1 := by simp
  have old : ∀ k, k < wr.heap.size → v1.ownBlock ≠ some k → w'.heap[k]? = wr.heap[k]? := fun k hk hne =>
    (hg.block k (by omega) (fun e => hne e.symm)).trans (Below.heap_alloc _ _ _ hk)
  have low : ∀ k, k < w.heap.size + 3 → w'.heap[k]? = wr.heap[k]? := fun k hk => old k (by omega) (fun e => by have := (h.own1.lt k e).1; omega)
  have hgot : w'.heap[w.heap.size + 2]? = some (.cells #[v0, v1] 52) := (low _ (by omega)).trans h.got
  have hset : (w'.setCell ⟨w.heap.size + 2, 1, none⟩ v').heap[w.heap.size + 2]? = some (.cells #[v0, v'] 52) := by rw [block_set _ _ _ _ _ _ hgot]; rfl
  have hoth : ∀ k, k ≠ w.heap.size + 2 → (w'.setCell ⟨w.heap.size + 2, 1, none⟩ v').heap[k]? = w'.heap[k]? := fun k hk => Below.heap_setCell _ _ _ _ hk
  refine ⟨by rw [cell_at _ _ _ _ _ h.got]; rfl, v', w', hr, by rw [cell_at _ _ _ _ _ hgot]; rfl, frozen_at _ _ _ _ _ hgot, ?_, ?_⟩
  · rcases ho.2 with ⟨rfl, _⟩ | ⟨g, cap, cur, rfl, _⟩ <;> exact ⟨_, _, _, rfl⟩
  · have b1 : Below w.heap.size w (wr.alloc (.cells #[.int .i64 (xs.getD k1 0 : Nat)] 3)) := h.below.alloc (by omega) _
    refine ⟨by rw [hoth _ (by omega), low _ (by omega)]; exact h.ca, by rw [hoth _ (by omega), low _ (by omega)]; exact h.cb, hset, ?_, ?_, ?_, ?_⟩
    · refine ownsRow_setCell_below ?_ (by show w.heap.size + 2 < w.heap.size + 3; omega) _
      exact (h.own0.alloc _).kept hg (by
        cases e : v0.ownBlock with
        | none => exact .inl rfl
        | some g => exact .inr (fun e' => h.apart g e e'.symm))
    · rw [← ints_snoc xs k1 hk]; exact ownsRow_setCell_below ho (by show w.heap.size + 2 < w.heap.size + 3; omega) _
    · intro g hg' e
      rcases hb with hb | hb
      · rw [hb] at e; exact h.apart g hg' e
      · rw [hb] at e
        have := (h.own0.lt g hg').2
        simp only [Option.some.injEq] at e
        omega
    · exact (b1.grown hg (by omega) (fun k e => by have := (h.own1.lt k e).1; omega)).setCell (by show _ ≤ _; simp) _
end Go.Proofs.Qxb6500380a
