import Derived.Test.Qxb6500382aSeq
import Derived.Test.Qxb6500382aAdd
namespace Go.Proofs.Qxb6500382a
open Go.RowKit Go.Shelf

/-- The desk between two calls. -/
structure DS (B d s row cap : Nat) (cur : Array Value) (b1 b2 b3 : Nat) (W : World) : Prop where
  led : Led B d (.slice (some ⟨row, 0, none⟩) 1 cap) [] W
  row : W.heap[row]? = some (.cells cur 38)
  one : cur[0]? = some (.pointer (some ⟨s, 0, none⟩))
  src : ∃ c : Nat, W.heap[s]? = some (srcO (.pointer (some ⟨b3, 0, none⟩)) c false)
  n1 : W.heap[b1]? = some (.cells #[.int .i64 1, .pointer none, .pointer (some ⟨b2, 0, none⟩)] 55)
  n2 : W.heap[b2]? = some (.cells #[.int .i64 2, .pointer none, .pointer none] 55)
  n3 : W.heap[b3]? = some (.cells #[.int .i64 3, .pointer (some ⟨b1, 0, none⟩), .pointer none] 55)
  Bs : B ≤ s

/-- What Head hands back, by n. -/
def ans (n : Nat) : Array Value := if n = 1 then #[.int .i64 10, .int .i64 0, .int .i64 0, .string { data := #[111, 48, 112, 48, 61, 49, 46, 48, 112, 48, 99, 48] }] else #[.int .i64 9, .int .i64 0, .int .i64 2, .string { data := #[111, 48, 112, 48, 61, 49, 46, 48, 112, 48, 61, 50, 46, 48, 99, 48] }]

variable {B d s row cap : Nat} {cur : Array Value} {b1 b2 b3 : Nat} {W : World}

theorem DS.out (h : DS B d s row cap cur b1 b2 b3 W) : (∀ k, k ∈ [row, b1, b2, b3] → k ∉ [d, s] ∧ k < W.heap.size) ∧ s ≠ d ∧ s < W.heap.size ∧ d < W.heap.size ∧ B ≤ d := by
  obtain ⟨v, hd, _⟩ := h.led
  obtain ⟨c, hs⟩ := h.src
  unfold srcO at hs
  have h1 := h.n1
  have h2 := h.n2
  have h3 := h.n3
  have key : ∀ (k : Nat) (c : Array Value) (t : TypeId), W.heap[k]? = some (.cells c t) → t ≠ 37 → t ≠ 43 → k ∉ [d, s] ∧ k < W.heap.size := by
    intro k c t hk t1 t2
    simp only [List.mem_cons, List.not_mem_nil, or_false, not_or]
    exact ⟨⟨ne_type hk hd t1, ne_type hk hs t2⟩, (Array.getElem?_eq_some_iff.1 hk).1⟩
  refine ⟨?_, ne_type hs hd (by decide), (Array.getElem?_eq_some_iff.1 hs).1, h.led.lt.1, h.led.lt.2⟩
  simp only [List.forall_mem_cons]
  exact ⟨key _ _ _ h.row (by decide) (by decide), key _ _ _ h1 (by decide) (by decide), key _ _ _ h2 (by decide) (by decide), key _ _ _ h3 (by decide) (by decide), fun _ h => absurd h (by simp)⟩

/-- The desk, moved. -/
theorem DS.mv (h : DS B d s row cap cur b1 b2 b3 W) {V : World} (m : MvX B [d, s] W V) (led : Led B d (.slice (some ⟨row, 0, none⟩) 1 cap) [] V) (src : ∃ c : Nat, V.heap[s]? = some (srcO (.pointer (some ⟨b3, 0, none⟩)) c false)) : DS B d s row cap cur b1 b2 b3 V :=
  ⟨led, m.keep _ _ (h.out.1 _ (by simp)).1 h.row rfl, h.one, src, m.keep _ _ (h.out.1 _ (by simp)).1 h.n1 rfl, m.keep _ _ (h.out.1 _ (by simp)).1 h.n2 rfl, m.keep _ _ (h.out.1 _ (by simp)).1 h.n3 rfl, h.Bs⟩

/-- Head leaves: the mark, the rescue, the answer. -/
theorem leave9 (h : DS B d s row cap cur b1 b2 b3 W) {n D ba l1 c : Nat} {ch : List PanicEntry} {bb : List UInt8} {Wl V : World} {fn : Func} {tmps : Array Value} {R : Ending → World → Prop} (hf : Fate n ch bb) (m0 : MvX B [d, s] W Wl) (hD : Wl.heap[D]? = some (.deferred (some [])))
    (nD : W.heap.size ≤ D) (nba : W.heap.size ≤ ba) (nl1 : W.heap.size ≤ l1) (Dl : D ≠ l1) (Da : D ≠ ba)
    (led : Led B d (.slice (some ⟨row, 0, none⟩) 1 cap) (bb ++ [99, 48]) V) (hba : V.heap[ba]? = some (.cells #[.int .i64 0, .int .i64 c, .int .i64 0, .string { data := #[] }] 26)) (src : ∃ c : Nat, V.heap[s]? = some (srcO (.pointer (some ⟨b3, 0, none⟩)) c false)) (mv : MvX B [d, s, ba, l1] Wl V)
    (hres : ∀ (w : World) (x y z u : Value), w.heap[ba]? = some (.cells #[x, y, z, u] 26) → (results fn tmps).run Try.prog w = .ok (.agg #[x, y, z, u]) w)
    (hR : ∀ V', DS B d s row cap cur b1 b2 b3 V' → MvX B [d, s] W V' → R (.returned (.agg (ans n))) V') :
    LeavesW Try.prog fn tmps R [{ target := .collected D, args := #[] }, { target := .fn (.func 14) #[], args := #[.pointer (some ⟨d, 0, none⟩), .pointer (some ⟨ba, 0, none⟩)] }] (.panicking ch) V := by
  obtain ⟨o1, o2, o3, o4, o5⟩ := h.out
  have zl := m0.size
  have hDV : V.heap[D]? = some (.deferred (some [])) := mv.keep _ _ (by simp only [List.mem_cons, List.not_mem_nil, or_false, not_or]; refine ⟨?_, ?_, ?_, ?_⟩ <;> omega) hD rfl
  have led2 : Led B d (.slice (some ⟨row, 0, none⟩) 1 cap) (bb ++ [99, 48]) (V.putObj D (.deferred none)) := led.putObj D _ _ (by omega) hDV rfl
  have hba2 : (V.putObj D (.deferred none)).heap[ba]? = some (.cells #[.int .i64 0, .int .i64 c, .int .i64 0, .string { data := #[] }] 26) := (World.putObj_heap_other (Ne.symm Da)).trans hba
  obtain ⟨c', hs⟩ := src
  have hs2 : (V.putObj D (.deferred none)).heap[s]? = some (srcO (.pointer (some ⟨b3, 0, none⟩)) c' false) := (World.putObj_heap_other (by omega)).trans hs
  have m1 : MvX B [d, s] W V := m0.new mv (fun k hk => by
    simp only [List.mem_cons, List.not_mem_nil, or_false] at hk ⊢
    rcases hk with e | e | e | e
    · exact .inl (.inl e)
    · exact .inl (.inr e)
    · right; omega
    · right; omega)
  have m2 : MvX B [d, s] W (V.putObj D (.deferred none)) := m1.new (X' := [D]) ((MvX.refl B [D] V).putObj (by simp) (by omega) _) (fun k hk => by simp only [List.mem_cons, List.not_mem_nil, or_false] at hk; right; omega)
  have fin : ∀ V', MvX B [d, ba] (V.putObj D (.deferred none)) V' → Led B d (.slice (some ⟨row, 0, none⟩) 1 cap) [] V' → DS B d s row cap cur b1 b2 b3 V' ∧ MvX B [d, s] W V' := by
    intro V' m l
    have m3 : MvX B [d, s] W V' := m2.new m (fun k hk => by
      simp only [List.mem_cons, List.not_mem_nil, or_false] at hk ⊢
      rcases hk with e | e
      · exact .inl (.inl e)
      · right; omega)
    exact ⟨h.mv m3 l ⟨c', m.keep _ _ (by simp only [List.mem_cons, List.not_mem_nil, or_false, not_or]; exact ⟨o2, by omega⟩) hs2 rfl⟩, m3⟩
  refine ⟨by simp, .inl ⟨D, _, rfl, run_takeDeferred hDV, by simp, .inr ⟨_, _, 14, _, rfl, rfl, ?_⟩⟩⟩
  rcases hf with ⟨rfl, ⟨sv, rfl⟩, rfl⟩ | ⟨hn, rfl, rfl⟩
  · refine (rescue_rt B d ba _ _ _ _ _ sv _ (by simp) _ led2 hba2 (by omega)).mono ?_
    rintro e u' V' ⟨rfl, rfl, q1, q2, q3⟩
    obtain ⟨f1, f2⟩ := fin V' q3 q1
    exact ⟨_, rfl, _, hres V' _ _ _ _ q2, hR V' f1 f2⟩
  · refine (rescue_ft B d ba _ _ _ _ _ _ (by simp) _ led2 hba2 (by omega)).mono ?_
    rintro e u' V' ⟨rfl, rfl, q1, q2, q3⟩
    obtain ⟨f1, f2⟩ := fin V' q3 q1
    refine ⟨_, rfl, _, hres V' _ _ _ _ q2, ?_⟩
    have := hR V' f1 f2
    unfold ans at this
    rw [if_neg (by omega)] at this
    exact this

/-- The world while Head gets ready. -/
structure HW (n B d s row cap b3 bd bi bn ba : Nat) (W V : World) : Prop where
  m : MvX B [d, s] W V
  led : Led B d (.slice (some ⟨row, 0, none⟩) 1 cap) [] V
  src : ∃ c : Nat, V.heap[s]? = some (srcO (.pointer (some ⟨b3, 0, none⟩)) c false)
  hbd : V.heap[bd]? = some (.cells #[.pointer (some ⟨d, 0, none⟩)] 22)
  hbi : V.heap[bi]? = some (.cells #[.int .i64 0] 3)
  hbn : V.heap[bn]? = some (.cells #[.int .i64 n] 3)
  hba : V.heap[ba]? = some (.cells #[.int .i64 0, .int .i64 0, .int .i64 0, .string { data := #[] }] 26)

theorem HW.drewN {n B d s row cap b3 bd bi bn ba : Nat} {W V : World} (h : HW n B d s row cap b3 bd bi bn ba W V) (k : Nat) : HW n B d s row cap b3 bd bi bn ba W (V.drewN k) :=
  ⟨h.m.drewN k, h.led.drewN k, h.src, h.hbd, h.hbi, h.hbn, h.hba⟩
theorem HW.alloc {n B d s row cap b3 bd bi bn ba : Nat} {W V : World} (h : HW n B d s row cap b3 bd bi bn ba W V) (hB : B ≤ W.heap.size) (o : Obj) : HW n B d s row cap b3 bd bi bn ba W (V.alloc o) :=
  ⟨h.m.alloc (Nat.le_trans hB h.m.size) o, h.led.alloc o, h.src.imp fun _ => keep_alloc, keep_alloc h.hbd, keep_alloc h.hbi, keep_alloc h.hbn, keep_alloc h.hba⟩

theorem head_start (h : DS B d s row cap cur b1 b2 b3 W) (n : Nat) : HW n B d s row cap b3 W.heap.size (W.heap.size + 1) (W.heap.size + 1 + 1) (W.heap.size + 1 + 1 + 1) W
    ((((W.alloc (.cells #[.pointer (some ⟨d, 0, none⟩)] 22)).alloc (.cells #[.int .i64 0] 3)).alloc (.cells #[.int .i64 n] 3)).alloc (.cells #[.int .i64 0, .int .i64 0, .int .i64 0, .string { data := #[] }] 26)) := by
  obtain ⟨o1, o2, o3, o4, o5⟩ := h.out
  have e1 := World.alloc_heap_new W (.cells #[.pointer (some ⟨d, 0, none⟩)] 22)
  have e2 := World.alloc_heap_new (W.alloc (.cells #[.pointer (some ⟨d, 0, none⟩)] 22)) (.cells #[.int .i64 0] 3)
  have e3 := World.alloc_heap_new ((W.alloc (.cells #[.pointer (some ⟨d, 0, none⟩)] 22)).alloc (.cells #[.int .i64 0] 3)) (.cells #[.int .i64 n] 3)
  have e4 := World.alloc_heap_new (((W.alloc (.cells #[.pointer (some ⟨d, 0, none⟩)] 22)).alloc (.cells #[.int .i64 0] 3)).alloc (.cells #[.int .i64 n] 3)) (.cells #[.int .i64 0, .int .i64 0, .int .i64 0, .string { data := #[] }] 26)
  simp only [World.size_alloc] at e2 e3 e4
  exact ⟨((((MvX.refl B _ W).alloc (by omega) _).alloc (by simp; omega) _).alloc (by simp; omega) _).alloc (by simp; omega) _, (((h.led.alloc _).alloc _).alloc _).alloc _, h.src.imp fun _ k => keep_alloc (keep_alloc (keep_alloc (keep_alloc k))),
    keep_alloc (keep_alloc (keep_alloc e1)), keep_alloc (keep_alloc e2), keep_alloc e3, e4⟩

theorem HW.cells {n bd bi bn ba : Nat} {V : World} (k : HW n B d s row cap b3 bd bi bn ba W V) (h : DS B d s row cap cur b1 b2 b3 W) : V.cell? ⟨bd, 0, none⟩ = some (.pointer (some ⟨d, 0, none⟩)) ∧ V.cell? ⟨bi, 0, none⟩ = some (.int .i64 0) ∧ V.cell? ⟨bn, 0, none⟩ = some (.int .i64 n) ∧
    V.cell? ⟨d, 0, none⟩ = some (.slice (some ⟨row, 0, none⟩) 1 cap) ∧ V.cell? ⟨d, 2, none⟩ = some (.int .i64 0) ∧ V.cell? ⟨row, 0, none⟩ = some (.pointer (some ⟨s, 0, none⟩)) ∧
    (∃ c : Nat, V.cell? ⟨s, 6, none⟩ = some (.int .i64 c)) ∧ V.cell? ⟨s, 7, none⟩ = some (.bool false) ∧ V.frozen? ⟨s, 6, none⟩ = false ∧ V.frozen? ⟨s, 7, none⟩ = false := by
  obtain ⟨v, hd, _⟩ := k.led
  obtain ⟨c, hs⟩ := k.src
  have hr := k.m.keep _ _ (h.out.1 row (by simp)).1 h.row rfl
  refine ⟨by rw [cell_at _ _ _ _ _ k.hbd]; rfl, by rw [cell_at _ _ _ _ _ k.hbi]; rfl, by rw [cell_at _ _ _ _ _ k.hbn]; rfl, by rw [cell_at _ _ _ _ _ hd]; rfl, by rw [cell_at _ _ _ _ _ hd]; rfl, by rw [cell_at _ _ _ _ _ hr]; exact h.one, ⟨c, by rw [cell_at _ _ _ _ _ hs]; rfl⟩, by rw [cell_at _ _ _ _ _ hs]; rfl, frozen_at _ _ _ _ _ hs, frozen_at _ _ _ _ _ hs⟩

/-- fresh: made and live go down. -/
theorem HW.fresh {n bd bi bn ba : Nat} {V : World} (k : HW n B d s row cap b3 bd bi bn ba W V) (h : DS B d s row cap cur b1 b2 b3 W) : HW n B d s row cap b3 bd bi bn ba W ((V.setCell ⟨s, 6, none⟩ (.int .i64 0)).setCell ⟨s, 7, none⟩ (.bool false)) ∧
    ((V.setCell ⟨s, 6, none⟩ (.int .i64 0)).setCell ⟨s, 7, none⟩ (.bool false)).heap[s]? = some (srcO (.pointer (some ⟨b3, 0, none⟩)) 0 false) := by
  obtain ⟨o1, o2, o3, o4, o5⟩ := h.out
  obtain ⟨c, hs⟩ := k.src
  have hs' := hs
  unfold srcO at hs'
  have x1 := block_set _ _ 6 _ _ (.int .i64 0) hs
  have x2 : ((V.setCell ⟨s, 6, none⟩ (.int .i64 0)).setCell ⟨s, 7, none⟩ (.bool false)).heap[s]? = some (srcO (.pointer (some ⟨b3, 0, none⟩)) 0 false) := by rw [block_set _ _ _ _ _ _ x1]; rfl
  have ne : ∀ (j : Nat) (o : Obj), j ≠ s → V.heap[j]? = some o → ((V.setCell ⟨s, 6, none⟩ (.int .i64 0)).setCell ⟨s, 7, none⟩ (.bool false)).heap[j]? = some o := fun j o hj ho => by
    rw [Below.heap_setCell _ _ _ _ hj, Below.heap_setCell _ _ _ _ hj]; exact ho
  exact ⟨⟨(k.m.setCell (by simp) h.Bs _ _).setCell (by simp) h.Bs _ _, (k.led.setCell _ _ _ o2 _ hs rfl).setCell _ _ _ o2 _ x1 rfl, ⟨0, x2⟩, ne _ _ (ne_type k.hbd hs' (by decide)) k.hbd, ne _ _ (ne_type k.hbi hs' (by decide)) k.hbi, ne _ _ (ne_type k.hbn hs' (by decide)) k.hbn, ne _ _ (ne_type k.hba hs' (by decide)) k.hba⟩, x2⟩

/-- Head enters its loop. -/
theorem head_pre (h : DS B d s row cap cur b1 b2 b3 W) {n bd bi bn ba bl bc bs : Nat} (hn1 : 1 ≤ n) (hn9 : n ≤ 9) {V : World} (k : HW n B d s row cap b3 bd bi bn ba W V) (hs : V.heap[s]? = some (srcO (.pointer (some ⟨b3, 0, none⟩)) 0 false))
    (x1 : V.heap[bs]? = some (.cells #[.pointer (some ⟨s, 0, none⟩)] 38)) (x2 : V.heap[bc]? = some (.cells #[.int .i64 0] 3)) (x3 : V.heap[bl]? = some (.cells #[.pointer (some ⟨d, 1, none⟩)] 50)) (nba : W.heap.size ≤ ba)
    (r1 : Loop) (hr : Rec1 bd bi bn ba r1) (st : r1 = { r1 with state := .ready, pending := none }) :
    Pre n B d (.slice (some ⟨row, 0, none⟩) 1 cap) bd bi bn ba (V.heap.size + 1) r1 bl bc bs s b1 b2 b3 ((V.alloc (.deferred (some []))).alloc (.loop r1)) := by
  have kk : ∀ (j : Nat) (o : Obj), V.heap[j]? = some o → ((V.alloc (.deferred (some []))).alloc (.loop r1)).heap[j]? = some o := fun j o h => keep_alloc (keep_alloc h)
  obtain ⟨o1, o2, o3, o4, o5⟩ := h.out
  have hz := k.m.size
  have hl : ((V.alloc (.deferred (some []))).alloc (.loop r1)).heap[V.heap.size + 1]? = some (.loop r1) := by
    have := World.alloc_heap_new (V.alloc (.deferred (some []))) (.loop r1)
    simpa using this
  have e : st1 r1 n 0 = r1 := by
    unfold st1
    rw [if_neg (by omega), if_neg (by omega)]
    exact st.symm
  refine ⟨hr, hn1, hn9, ⟨kk _ _ k.hbd, kk _ _ k.hbi, kk _ _ k.hbn, kk _ _ k.hba, ?_⟩, (k.led.alloc _).alloc _, kk _ _ x3, kk _ _ x2, kk _ _ x1, kk _ _ hs, kk _ _ (k.m.keep _ _ (o1 _ (by simp)).1 h.n1 rfl), kk _ _ (k.m.keep _ _ (o1 _ (by simp)).1 h.n2 rfl), kk _ _ (k.m.keep _ _ (o1 _ (by simp)).1 h.n3 rfl), by omega, by omega, h.Bs⟩
  rw [e]
  exact hl
end Go.Proofs.Qxb6500382a
