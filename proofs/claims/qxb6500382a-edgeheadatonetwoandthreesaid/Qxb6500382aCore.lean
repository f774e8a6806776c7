import Derived.Test.Qxb6500382aWalk
import Derived.Test.Qxb6500382aAt
namespace Go.Proofs.Qxb6500382a
open Go.RowKit Go.Shelf

set_option maxHeartbeats 400000 in
/-- all's closure: the walk from the root. -/
theorem all1 (rb : Nat) (y root : Value) (W : World) (R : Ending → World → Prop) (h : W.cell? ⟨rb, 0, none⟩ = some root) (C : Calls Try.prog 29 #[root, y] W fun e w' => ∃ ch, e = .panicked ch ∧ R (.panicked ch) w') :
    Calls Try.prog 28 #[y, .pointer (some ⟨rb, 0, none⟩)] W R := by
  refine (callsIn_wide (n := 5)).1 ?_
  refine callsIn_of_wp Try.func28 rfl trivial ?_ rfl
  simp only [Try.ntmps28, List.size_toArray, List.length_cons, List.length_nil, Nat.reduceAdd, Nat.reduceSub, Array.replicate_succ, Array.replicate_zero, List.push_toArray, List.append_toArray, List.nil_append, List.cons_append]
  gi_wp2_with fail
  refine ⟨trivial, (callsIn_wide.2 C).mono ?_⟩
  rintro e W1 ⟨ch, rfl, hr⟩
  exact ⟨rfl, hr⟩

theorem Led.alloc {B d : Nat} {sr : Value} {bs : List UInt8} {W : World} (h : Led B d sr bs W) (o : Obj) : Led B d sr bs (W.alloc o) :=
  h.below ((Below.refl _ W).alloc (Nat.le_refl _) o)
theorem keep_alloc {W : World} {k : Nat} {o o' : Obj} (h : W.heap[k]? = some o) : (W.alloc o').heap[k]? = some o :=
  (Below.heap_alloc _ _ _ (Array.getElem?_eq_some_iff.1 h).1).trans h
theorem MvX.new {B : Nat} {X X' : List Nat} {W W1 W2 : World} (m : MvX B X W W1) (m' : MvX B X' W1 W2) (h : ∀ k, k ∈ X' → k ∈ X ∨ W.heap.size ≤ k) : MvX B X W W2 :=
  ⟨m'.os.trans m.os, m'.tape.trans m.tape, m'.output.trans m.output, Nat.le_trans m.size m'.size, fun i hi => (m'.low i hi).trans (m.low i hi), fun i o hd ho hr => m'.keep i o (fun e => by
    rcases h i e with h | h
    · exact hd h
    · have := (Array.getElem?_eq_some_iff.1 ho).1; omega) (m.keep i o hd ho hr) hr⟩

theorem ne_type {W : World} {a b : Nat} {c c' : Array Value} {t t' : TypeId} (h : W.heap[a]? = some (.cells c t)) (h' : W.heap[b]? = some (.cells c' t')) (ht : t ≠ t') : a ≠ b := by
  intro e
  rw [e, h'] at h
  injection h with h
  injection h with h1 h2
  exact ht h2.symm

/-- What holds when the source's function is entered. -/
structure Pre (n B d : Nat) (sr : Value) (bd bi bn ba l1 : Nat) (r1 : Loop) (bl bc bs s b1 b2 b3 : Nat) (W : World) : Prop where
  rec1 : Rec1 bd bi bn ba r1
  n1 : 1 ≤ n
  n9 : n ≤ 9
  hs : HS n 0 l1 bd bi bn ba d r1 W
  led : Led B d sr [] W
  hbl : W.heap[bl]? = some (.cells #[.pointer (some ⟨d, 1, none⟩)] 50)
  hbc : W.heap[bc]? = some (.cells #[.int .i64 0] 3)
  hbs : W.heap[bs]? = some (.cells #[.pointer (some ⟨s, 0, none⟩)] 38)
  hsrc : W.heap[s]? = some (srcO (.pointer (some ⟨b3, 0, none⟩)) 0 false)
  h1 : W.heap[b1]? = some (.cells #[.int .i64 1, .pointer none, .pointer (some ⟨b2, 0, none⟩)] 55)
  h2 : W.heap[b2]? = some (.cells #[.int .i64 2, .pointer none, .pointer none] 55)
  h3 : W.heap[b3]? = some (.cells #[.int .i64 3, .pointer (some ⟨b1, 0, none⟩), .pointer none] 55)
  Bl1 : B ≤ l1
  Bba : B ≤ ba
  Bs : B ≤ s

variable {n B d : Nat} {sr : Value} {bd bi bn ba l1 : Nat} {r1 : Loop} {bl bc bs s b1 b2 b3 : Nat} {W : World}

/-- The blocks that stay differ from those that turn. -/
theorem Pre.out (p : Pre n B d sr bd bi bn ba l1 r1 bl bc bs s b1 b2 b3 W) : (∀ k, k ∈ [bl, bc, bs, b1, b2, b3, bd, bi, bn] → k ∉ [d, s, ba, l1]) ∧ ba ∉ [d, s, l1] ∧ l1 ∉ [d, s, ba] ∧ s ∉ [d, ba, l1] ∧ d ∉ [s, ba, l1] := by
  obtain ⟨v, hd, _⟩ := p.led
  have hb1 := p.h1
  have hb2 := p.h2
  have hb3 := p.h3
  have hs := p.hsrc
  unfold srcO at hs
  have key : ∀ (k : Nat) (c : Array Value) (t : TypeId), W.heap[k]? = some (.cells c t) → t ≠ 37 → t ≠ 43 → t ≠ 26 → k ∉ [d, s, ba, l1] := by
    intro k c t hk t1 t2 t3
    simp only [List.mem_cons, List.not_mem_nil, or_false, not_or]
    exact ⟨ne_type hk hd t1, ne_type hk hs t2, ne_type hk p.hs.hba t3, cells_ne_loop hk p.hs.hL⟩
  have e1 := ne_type hd hs (by decide)
  have e2 := ne_type hd p.hs.hba (by decide)
  have e3 := ne_type hs p.hs.hba (by decide)
  have e4 := cells_ne_loop hd p.hs.hL
  have e5 := cells_ne_loop hs p.hs.hL
  have e6 := cells_ne_loop p.hs.hba p.hs.hL
  refine ⟨?_, ?_, ?_, ?_, ?_⟩
  · simp only [List.forall_mem_cons]
    refine ⟨key _ _ _ p.hbl (by decide) (by decide) (by decide), key _ _ _ p.hbc (by decide) (by decide) (by decide), key _ _ _ p.hbs (by decide) (by decide) (by decide), key _ _ _ hb1 (by decide) (by decide) (by decide), key _ _ _ hb2 (by decide) (by decide) (by decide), key _ _ _ hb3 (by decide) (by decide) (by decide), key _ _ _ p.hs.hbd (by decide) (by decide) (by decide), key _ _ _ p.hs.hbi (by decide) (by decide) (by decide), key _ _ _ p.hs.hbn (by decide) (by decide) (by decide), fun _ h => absurd h (by simp)⟩
  · simp only [List.mem_cons, List.not_mem_nil, or_false, not_or]; exact ⟨e2.symm, e3.symm, e6⟩
  · simp only [List.mem_cons, List.not_mem_nil, or_false, not_or]; exact ⟨e4.symm, e5.symm, e6.symm⟩
  · simp only [List.mem_cons, List.not_mem_nil, or_false, not_or]; exact ⟨e1.symm, e3, e5⟩
  · simp only [List.mem_cons, List.not_mem_nil, or_false, not_or]; exact ⟨e1, e2, e4⟩

/-- What holds when the source's loop has thrown, ahead of the clean-up. -/
structure Thrown (B d : Nat) (sr : Value) (ba l1 bl bc bs s b3 D : Nat) (bb : List UInt8) (W W' : World) : Prop where
  led : Led B d sr bb W'
  hba : ∃ c : Nat, W'.heap[ba]? = some (.cells #[.int .i64 0, .int .i64 c, .int .i64 0, .string { data := #[] }] 26)
  hsrc : ∃ c : Nat, W'.heap[s]? = some (srcO (.pointer (some ⟨b3, 0, none⟩)) c true)
  hbl : W'.heap[bl]? = some (.cells #[.pointer (some ⟨d, 1, none⟩)] 50)
  hbc : W'.heap[bc]? = some (.cells #[.int .i64 0] 3)
  hbs : W'.heap[bs]? = some (.cells #[.pointer (some ⟨s, 0, none⟩)] 38)
  hD : W'.heap[D]? = some (.deferred (some []))
  mv : MvX B [d, s, ba, l1] W W'

/-- THE LOOP over the tree, all rounds. -/
theorem core (p : Pre n B d sr bd bi bn ba l1 r1 bl bc bs s b1 b2 b3 W) (W4 : World) (yb bj rb : Nat) (r2 : Loop) (m4 : MvX B [d, s] W W4) (led4 : Led B d sr [111, 48] W4)
    (hs4 : W4.heap[s]? = some (srcO (.pointer (some ⟨b3, 0, none⟩)) 0 true)) (hyb : W4.heap[yb]? = some (.cells #[.func (.yield l1) #[] #[]] 60)) (hbj : W4.heap[bj]? = some (.cells #[.int .i64 0] 3))
    (hrb : W4.heap[rb]? = some (.cells #[.pointer (some ⟨b3, 0, none⟩)] 41)) (nyb : W.heap.size ≤ yb) (nbj : W.heap.size ≤ bj) (rec2 : Rec2 bl bc bs yb bj r2) (st2 : r2 = { r2 with state := .ready, pending := none }) :
    Calls Try.prog 28 #[.func (.yield (W4.heap.size + 1)) #[] #[], .pointer (some ⟨rb, 0, none⟩)] ((W4.alloc (.deferred (some []))).alloc (.loop r2)) fun e W' => ∃ ch, e = .panicked ch ∧ ∃ bb, Fate n ch bb ∧ Thrown B d sr ba l1 bl bc bs s b3 W4.heap.size bb W W' := by
  have o := p.out
  have lt : ∀ (k : Nat) (o : Obj), W.heap[k]? = some o → k < W.heap.size := fun k o h => (Array.getElem?_eq_some_iff.1 h).1
  have s4 := m4.size
  have B4 : B ≤ W.heap.size := by have := p.led.lt; omega
  have lj := (Array.getElem?_eq_some_iff.1 hbj).1
  have ly := (Array.getElem?_eq_some_iff.1 hyb).1
  have la := lt _ _ p.hs.hba
  have l1' := lt _ _ p.hs.hL
  have ls := lt _ _ p.hsrc
  have ldd : d < W.heap.size := p.led.lt.1
  obtain ⟨o1, o2, o3, o4, o5⟩ := o
  have sub : ∀ k, k ∉ [d, s, ba, l1] → k ∉ [d, s] := by
    intro k hk
    simp only [List.mem_cons, List.not_mem_nil, or_false, not_or] at hk ⊢
    exact ⟨hk.1, hk.2.1⟩
  have k5 : ∀ (k : Nat) (o : Obj), W4.heap[k]? = some o → ((W4.alloc (.deferred (some []))).alloc (.loop r2)).heap[k]? = some o := fun k o h => keep_alloc (keep_alloc h)
  have kk : ∀ (k : Nat) (o : Obj), k ∈ [bl, bc, bs, b1, b2, b3, bd, bi, bn] → W.heap[k]? = some o → isRow o = false → ((W4.alloc (.deferred (some []))).alloc (.loop r2)).heap[k]? = some o :=
    fun k o hk h hr => k5 _ _ (m4.keep k o (sub _ (o1 k hk)) h hr)
  have hl2 : ((W4.alloc (.deferred (some []))).alloc (.loop r2)).heap[W4.heap.size + 1]? = some (.loop r2) := by
    have := World.alloc_heap_new (W4.alloc (.deferred (some []))) (.loop r2)
    simpa using this
  have hD : ((W4.alloc (.deferred (some []))).alloc (.loop r2)).heap[W4.heap.size]? = some (.deferred (some [])) := keep_alloc (World.alloc_heap_new _ _)
  have m5 : MvX B [d, s, ba, l1] W ((W4.alloc (.deferred (some []))).alloc (.loop r2)) :=
    ((m4.mono (fun k hk => by simp only [List.mem_cons, List.not_mem_nil, or_false] at hk ⊢; rcases hk with h | h <;> simp [h])).alloc (by omega) _).alloc (by simp; omega) _
  have led5 : Led B d sr [111, 48] ((W4.alloc (.deferred (some []))).alloc (.loop r2)) := (led4.alloc _).alloc _
  have sJ : bj ≠ s := by omega
  have aS : ba ∉ [d, s] := by simp only [List.mem_cons, List.not_mem_nil, or_false, not_or] at o2 ⊢; exact ⟨o2.1, o2.2.1⟩
  have lS : l1 ∉ [d, s] := by simp only [List.mem_cons, List.not_mem_nil, or_false, not_or] at o3 ⊢; exact ⟨o3.1, o3.2.1⟩
  have c : Cx ⟨n, B, d, sr, bd, bi, bn, ba, l1, r1, bl, bc, bs, yb, bj, s, W4.heap.size + 1, r2, b1, b2, b3⟩ ((W4.alloc (.deferred (some []))).alloc (.loop r2)) := by
    refine { rec1 := p.rec1, rec2 := rec2, st2 := st2, n1 := p.n1, n9 := p.n9, hbc := kk _ _ (by simp) p.hbc rfl, hbl := kk _ _ (by simp) p.hbl rfl, hyb := k5 _ _ hyb, hbs := kk _ _ (by simp) p.hbs rfl, h1 := kk _ _ (by simp) p.h1 rfl, h2 := kk _ _ (by simp) p.h2 rfl, h3 := kk _ _ (by simp) p.h3 rfl, Bl1 := p.Bl1, Bba := p.Bba, Bl2 := ?_, Bbj := ?_, Bs := p.Bs, out := ?_, oba := ?_, ol1 := ?_, obj := ?_, os := ?_, ol2 := ?_ }
    · show B ≤ W4.heap.size + 1; omega
    · show B ≤ bj; omega
    · have old : ∀ k, k ∈ [bl, bc, bs, b1, b2, b3, bd, bi, bn] → k < W.heap.size := by
        simp only [List.forall_mem_cons]
        exact ⟨lt _ _ p.hbl, lt _ _ p.hbc, lt _ _ p.hbs, lt _ _ p.h1, lt _ _ p.h2, lt _ _ p.h3, lt _ _ p.hs.hbd, lt _ _ p.hs.hbi, lt _ _ p.hs.hbn, fun _ h => absurd h (by simp)⟩
      intro k hk
      by_cases e : k = yb
      · have ybj : yb ≠ bj := ne_type hyb hbj (by decide)
        simp only [List.mem_cons, List.not_mem_nil, or_false, not_or]
        refine ⟨?_, ?_, ?_, ?_, ?_, ?_⟩ <;> omega
      · have hk' : k ∈ [bl, bc, bs, b1, b2, b3, bd, bi, bn] := by
          simp only [List.mem_cons, List.not_mem_nil, or_false] at hk ⊢
          rcases hk with h | h | h | h | h | h | h | h | h | h
          all_goals first | exact absurd h e | simp [h]
        have a1 := old k hk'
        have a2 := o1 k hk'
        simp only [List.mem_cons, List.not_mem_nil, or_false, not_or] at a2 ⊢
        obtain ⟨a3, a4, a5, a6⟩ := a2
        refine ⟨a3, ?_, a4, ?_, a5, a6⟩ <;> omega
    · simp only [List.mem_cons, List.not_mem_nil, or_false, not_or] at o2 ⊢
      obtain ⟨a1, a2, _⟩ := o2
      refine ⟨a1, ?_, a2, ?_⟩ <;> omega
    · simp only [List.mem_cons, List.not_mem_nil, or_false, not_or] at o3 ⊢
      obtain ⟨a1, a2, _⟩ := o3
      refine ⟨a1, ?_, a2, ?_⟩ <;> omega
    · simp only [List.mem_cons, List.not_mem_nil, or_false, not_or]
      refine ⟨?_, ?_, ?_⟩ <;> omega
    · exact o4
    · simp only [List.mem_cons, List.not_mem_nil, or_false, not_or]
      refine ⟨?_, ?_, ?_⟩ <;> omega
  have st : St ⟨n, B, d, sr, bd, bi, bn, ba, l1, r1, bl, bc, bs, yb, bj, s, W4.heap.size + 1, r2, b1, b2, b3⟩ ((W4.alloc (.deferred (some []))).alloc (.loop r2)) 0 [111, 48] ((W4.alloc (.deferred (some []))).alloc (.loop r2)) :=
    ⟨⟨kk _ _ (by simp) p.hs.hbd rfl, kk _ _ (by simp) p.hs.hbi rfl, kk _ _ (by simp) p.hs.hbn rfl, k5 _ _ (m4.keep _ _ aS p.hs.hba rfl), k5 _ _ (m4.keep _ _ lS p.hs.hL rfl)⟩, k5 _ _ hbj, k5 _ _ hs4, hl2, led5, MvX.refl _ _ _⟩
  have cr : ((W4.alloc (.deferred (some []))).alloc (.loop r2)).cell? ⟨rb, 0, none⟩ = some (.pointer (some ⟨b3, 0, none⟩)) := by rw [cell_at _ _ _ _ _ (k5 _ _ hrb)]; rfl
  refine all1 rb _ _ _ _ cr ((walk_all c st).mono ?_)
  rintro e W' ⟨ch, bb, rfl, hf, en⟩
  refine ⟨ch, rfl, ch, rfl, bb, hf, ?_⟩
  have nX : ∀ k, k ∈ [d, bj, s, W4.heap.size + 1, ba, l1] → k ∈ [d, s, ba, l1] ∨ W.heap.size ≤ k := by
    intro k hk
    simp only [List.mem_cons, List.not_mem_nil, or_false] at hk ⊢
    rcases hk with h | h | h | h | h | h
    · exact .inl (.inl h)
    · right; omega
    · exact .inl (.inr (.inl h))
    · right; omega
    · exact .inl (.inr (.inr (.inl h)))
    · exact .inl (.inr (.inr (.inr h)))
  have co := c.out
  exact ⟨en.led, en.hba, en.hsrc, en.mv.keep _ _ (co _ (by simp)) (kk _ _ (by simp) p.hbl rfl) rfl, en.mv.keep _ _ (co _ (by simp)) (kk _ _ (by simp) p.hbc rfl) rfl, en.mv.keep _ _ (co _ (by simp)) (kk _ _ (by simp) p.hbs rfl) rfl,
    en.mv.keep _ _ (by simp only [List.mem_cons, List.not_mem_nil, or_false, not_or]; refine ⟨?_, ?_, ?_, ?_, ?_, ?_⟩ <;> omega) hD rfl, m5.new en.mv nX⟩

/-- The one call of a range over a closure. -/
theorem res_range {a : Act} {t l : Nat} {w : World} {fn : Fn} {cap : Array Value} (h : a.eval (.tmp t) = .func fn #[] cap) :
    (resolve a.eval (rangeCall (.tmp t) l) 0).run Try.prog w = .ok { target := .fn fn cap, args := #[.func (.yield l) #[] #[]] } w := by
  have e : ∀ v, a.eval (.const v) = v := fun _ => rfl
  simp [resolve, h, e, Deferred.ofValue]

theorem fate_settle {n : Nat} {ch : List PanicEntry} {bb : List UInt8} (h : Fate n ch bb) : settle (.panicking ch) = .panicking ch := by
  rcases h with ⟨_, ⟨sv, rfl⟩, _⟩ | ⟨_, rfl, _⟩ <;> rfl
theorem fate_len {n : Nat} {ch : List PanicEntry} {bb : List UInt8} (h : Fate n ch bb) : bb.length ≤ 14 := by
  rcases h with ⟨_, _, rfl⟩ | ⟨_, _, rfl⟩ <;> decide

/-- The source's function leaves: the mark, the clean-up. -/
theorem leave20 (o2 : ba ∉ [d, s, l1]) {D : Nat} {ch : List PanicEntry} {bb : List UInt8} {W' : World} {fn : Func} {tmps : Array Value} {R : Ending → World → Prop} (hf : Fate n ch bb) (hB : B ≤ D) (hDn : W.heap.size ≤ D) (Bs : B ≤ s) (t : Thrown B d sr ba l1 bl bc bs s b3 D bb W W')
    (hR : ∀ V, Led B d sr (bb ++ [99, 48]) V → (∃ c : Nat, V.heap[ba]? = some (.cells #[.int .i64 0, .int .i64 c, .int .i64 0, .string { data := #[] }] 26)) → (∃ c : Nat, V.heap[s]? = some (srcO (.pointer (some ⟨b3, 0, none⟩)) c false)) → MvX B [d, s, ba, l1] W V → R (.panicked ch) V) :
    LeavesW Try.prog fn tmps R [{ target := .collected D, args := #[] }, { target := .fn (.func 22) #[.pointer (some ⟨bs, 0, none⟩), .pointer (some ⟨bl, 0, none⟩), .pointer (some ⟨bc, 0, none⟩)], args := #[] }] (.panicking ch) W' := by
  obtain ⟨led, ⟨c1, hba⟩, ⟨c2, hsrc⟩, hbl, hbc, hbs, hD, mv⟩ := t
  have nd : ∀ (k : Nat) (o : Obj), W'.heap[k]? = some o → (∀ x, o ≠ .deferred x) → k ≠ D := by
    intro k o h ho e
    rw [e, hD] at h
    injection h with h
    exact ho _ h.symm
  have ne : ∀ (k : Nat) (o : Obj), W'.heap[k]? = some o → (∀ x, o ≠ .deferred x) → (W'.putObj D (.deferred none)).heap[k]? = some o := fun k o h ho => (World.putObj_heap_other (nd k o h ho)).trans h
  have nDd : D ≠ d := by
    obtain ⟨v, hv, _⟩ := led
    exact (nd _ _ hv (by simp)).symm
  refine ⟨by simp, .inl ⟨D, _, rfl, run_takeDeferred hD, by simp, .inr ⟨_, _, 22, _, rfl, rfl, ?_⟩⟩⟩
  refine (clean_any B d s bl bc bs sr (.pointer (some ⟨b3, 0, none⟩)) bb (by have := fate_len hf; omega) c2 true _ _ (ne _ _ hbc (by simp)) (ne _ _ hbl (by simp)) (ne _ _ hbs (by simp)) (ne _ _ hsrc (by simp [srcO])) (led.putObj D _ _ nDd hD rfl) Bs).mono ?_
  rintro e u' V ⟨rfl, rfl, q1, q2, q3⟩
  refine ⟨_, rfl, ?_⟩
  rw [fate_settle hf]
  have mD : MvX B [d, s, ba, l1] W (W'.putObj D (.deferred none)) := mv.new (X' := [D]) ((MvX.refl B [D] W').putObj (by simp) hB _) (fun k hk => by simp only [List.mem_cons, List.not_mem_nil, or_false] at hk; subst hk; exact .inr hDn)
  refine hR V q1 ⟨c1, q3.keep _ _ ?_ (ne _ _ hba (by simp)) rfl⟩ ⟨c2, q2⟩ (mD.trans (q3.mono ?_))
  · simp only [List.mem_cons, List.not_mem_nil, or_false, not_or] at o2 ⊢
    exact ⟨o2.1, o2.2.1⟩
  · intro k hk
    simp only [List.mem_cons, List.not_mem_nil, or_false] at hk ⊢
    rcases hk with h | h <;> simp [h]
end Go.Proofs.Qxb6500382a
