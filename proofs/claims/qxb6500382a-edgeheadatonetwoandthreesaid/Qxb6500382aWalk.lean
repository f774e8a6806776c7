import Derived.Test.Qxb6500382aHS
import Derived.Test.Qxb6500382aClean
import Derived.Test.Qxb6500382aSmall
namespace Go.Proofs.Qxb6500382a
open Go.RowKit Go.Shelf

theorem yieldAt_mono {F : Fence} {m : Nat} {P : Program} {l : Nat} {args : Array Value} {W : World} {R R' : Ending → World → Prop} (h : YieldAt F m P l args W R) (hr : ∀ e w, R e w → R' e w) : YieldAt F m P l args W R' := by
  obtain ⟨fn, tmps, assign, body, hy, hRd⟩ := h
  exact ⟨fn, tmps, assign, body, hy, hRd.mono hr⟩

/-- The names of a run of Head on the one source. -/
structure Nm where
  n : Nat
  B : Nat
  d : Nat
  sr : Value
  bd : Nat
  bi : Nat
  bn : Nat
  ba : Nat
  l1 : Nat
  r1 : Loop
  bl : Nat
  bc : Nat
  bs : Nat
  yb : Nat
  bj : Nat
  s : Nat
  l2 : Nat
  r2 : Loop
  b1 : Nat
  b2 : Nat
  b3 : Nat

/-- What is fixed while the rounds run. -/
structure Cx (N : Nm) (W : World) : Prop where
  rec1 : Rec1 N.bd N.bi N.bn N.ba N.r1
  rec2 : Rec2 N.bl N.bc N.bs N.yb N.bj N.r2
  st2 : N.r2 = { N.r2 with state := .ready, pending := none }
  n1 : 1 ≤ N.n
  n9 : N.n ≤ 9
  hbc : W.heap[N.bc]? = some (.cells #[.int .i64 0] 3)
  hbl : W.heap[N.bl]? = some (.cells #[.pointer (some ⟨N.d, 1, none⟩)] 50)
  hyb : W.heap[N.yb]? = some (.cells #[.func (.yield N.l1) #[] #[]] 60)
  hbs : W.heap[N.bs]? = some (.cells #[.pointer (some ⟨N.s, 0, none⟩)] 38)
  h1 : W.heap[N.b1]? = some (.cells #[.int .i64 1, .pointer none, .pointer (some ⟨N.b2, 0, none⟩)] 55)
  h2 : W.heap[N.b2]? = some (.cells #[.int .i64 2, .pointer none, .pointer none] 55)
  h3 : W.heap[N.b3]? = some (.cells #[.int .i64 3, .pointer (some ⟨N.b1, 0, none⟩), .pointer none] 55)
  Bl1 : N.B ≤ N.l1
  Bba : N.B ≤ N.ba
  Bl2 : N.B ≤ N.l2
  Bbj : N.B ≤ N.bj
  Bs : N.B ≤ N.s
  out : ∀ k, k ∈ [N.bl, N.bc, N.bs, N.yb, N.b1, N.b2, N.b3, N.bd, N.bi, N.bn] → k ∉ [N.d, N.bj, N.s, N.l2, N.ba, N.l1]
  oba : N.ba ∉ [N.d, N.bj, N.s, N.l2]
  ol1 : N.l1 ∉ [N.d, N.bj, N.s, N.l2]
  obj : N.bj ∉ [N.d, N.ba, N.l1]
  os : N.s ∉ [N.d, N.ba, N.l1]
  ol2 : N.l2 ∉ [N.d, N.ba, N.l1]

/-- The rounds' state, k values having come. -/
structure St (N : Nm) (W0 : World) (k : Nat) (bb : List UInt8) (W : World) : Prop where
  hs : HS N.n k N.l1 N.bd N.bi N.bn N.ba N.d N.r1 W
  hj : W.heap[N.bj]? = some (.cells #[.int .i64 k] 3)
  hsrc : W.heap[N.s]? = some (srcO (.pointer (some ⟨N.b3, 0, none⟩)) k true)
  hl : W.heap[N.l2]? = some (.loop N.r2)
  led : Led N.B N.d N.sr bb W
  mv : MvX N.B [N.d, N.bj, N.s, N.l2, N.ba, N.l1] W0 W

/-- What stands when a round has thrown. -/
structure En (N : Nm) (W0 : World) (bb : List UInt8) (W : World) : Prop where
  hba : ∃ c : Nat, W.heap[N.ba]? = some (.cells #[.int .i64 0, .int .i64 c, .int .i64 0, .string { data := #[] }] 26)
  hsrc : ∃ c : Nat, W.heap[N.s]? = some (srcO (.pointer (some ⟨N.b3, 0, none⟩)) c true)
  led : Led N.B N.d N.sr bb W
  mv : MvX N.B [N.d, N.bj, N.s, N.l2, N.ba, N.l1] W0 W

variable {N : Nm} {W0 W : World} {k : Nat} {bb : List UInt8}

theorem sub1 (N : Nm) : ∀ k, k ∈ [N.d, N.bj, N.s, N.l2] → k ∈ [N.d, N.bj, N.s, N.l2, N.ba, N.l1] := by
  intro k h
  simp only [List.mem_cons, List.not_mem_nil, or_false] at h ⊢
  rcases h with h | h | h | h <;> simp [h]
theorem sub2 (N : Nm) : ∀ k, k ∈ [N.d, N.ba, N.l1] → k ∈ [N.d, N.bj, N.s, N.l2, N.ba, N.l1] := by
  intro k h
  simp only [List.mem_cons, List.not_mem_nil, or_false] at h ⊢
  rcases h with h | h | h <;> simp [h]

/-- A value goes through to Head. -/
theorem round_go (c : Cx N W0) (h : St N W0 k bb W) (hk : k < N.n) (hk2 : k < 2) (hlb : bb.length ≤ 800) (x : Int) (g : ByteArray) (hg : g.size ≤ 10)
    (C : ∀ W, Calls Try.prog 24 #[.int .i64 x, .int .i64 0] W fun e W' => e = .returned (.string g) ∧ Below W.heap.size W W') :
    YieldAt Fence.wide 4 Try.prog N.l2 #[.int .i64 x] W fun e W' => e = .returned (.bool true) ∧ St N W0 (k + 1) ((bb ++ [112, 48]) ++ g.data.toList) W' := by
  obtain ⟨p1, p2, p3, u0, u6, u7, u8, u9, u10, u11, u12, u13, u14, u15, u16, u17, u18, u19, u20, u21, u22, u23, u24, u25, u26, u27, u28, u29, u30, u31, u32, u33, u34, u35, u36, u37, u38, u39, u40, u41, u42, u43, u44, u45, u46, u47, u48, u49, u50, u51, u52, u53, u54, u55, u56, u57, p4⟩ := c.rec2
  have hst : N.r2.state = .ready := by rw [c.st2]
  refine outer_go N.r2 hst p1 p2 u0 u6 u7 u8 u9 u10 u11 u12 u13 u14 u15 u16 u17 u18 u19 u20 u21 u22 u23 u24 u25 u26 u27 u28 u29 u30 u31 u32 u33 u34 u35 u36 u37 u38 u39 u40 u41 u42 u43 u44 u45 u46 u47 u48 u49 u50 u51 u52 u53 u54 u55 u56 u57 N.bl N.bc N.bs N.yb N.bj p4 p3 N.B N.d N.l2 N.l1 N.s N.sr bb (by omega) x (.pointer (some ⟨N.b3, 0, none⟩)) k k hk2 W h.hl
    (h.mv.keep _ _ (c.out _ (by simp)) c.hbc rfl) (h.mv.keep _ _ (c.out _ (by simp)) c.hbl rfl) (h.mv.keep _ _ (c.out _ (by simp)) c.hyb rfl) (h.mv.keep _ _ (c.out _ (by simp)) c.hbs rfl) h.hj h.hsrc h.led c.Bl2 c.Bbj c.Bs 4 _
    (fun W4 => HS N.n (k + 1) N.l1 N.bd N.bi N.bn N.ba N.d N.r1 W4 ∧ W4.heap[N.bj]? = some (.cells #[.int .i64 (k + 1 : Nat)] 3) ∧ W4.heap[N.s]? = some (srcO (.pointer (some ⟨N.b3, 0, none⟩)) (k + 1) true) ∧ Led N.B N.d N.sr ((bb ++ [112, 48]) ++ g.data.toList) W4 ∧ MvX N.B [N.d, N.bj, N.s, N.l2, N.ba, N.l1] W0 W4) ?_ ?_
  · intro W3 a1 a2 a3 a4 a5
    have m3 : MvX N.B [N.d, N.bj, N.s, N.l2, N.ba, N.l1] W0 W3 := h.mv.trans (a4.mono (sub1 N))
    have x4 : ∀ j, j ∈ [N.bl, N.bc, N.bs, N.yb, N.b1, N.b2, N.b3, N.bd, N.bi, N.bn] → j ∉ [N.d, N.bj, N.s, N.l2] := fun j hj e => c.out j hj (sub1 N j e)
    have y4 : ∀ j, j ∈ [N.bl, N.bc, N.bs, N.yb, N.b1, N.b2, N.b3, N.bd, N.bi, N.bn] → j ∉ [N.d, N.ba, N.l1] := fun j hj e => c.out j hj (sub2 N j e)
    have hs3 := h.hs.mv a4 (x4 _ (by simp)) (x4 _ (by simp)) (x4 _ (by simp)) c.oba c.ol1
    refine yieldAt_mono (hs3.go c.rec1 hk c.n9 N.sr (bb ++ [112, 48]) (by simp; omega) a1 c.Bl1 c.Bba x g hg C (y4 _ (by simp)) (y4 _ (by simp)) (y4 _ (by simp)) 3) ?_
    rintro e W4 ⟨⟨b, rfl⟩, q1, q2, q3⟩
    have m4 : MvX N.B [N.d, N.bj, N.s, N.l2, N.ba, N.l1] W0 W4 := m3.trans (q3.mono (sub2 N))
    have s4 := q3.keep _ _ c.os a3 rfl
    exact .inl ⟨b, rfl, ⟨q1, q3.keep _ _ c.obj a2 rfl, s4, q2, m4⟩, m4.keep _ _ (c.out _ (by simp)) c.hbs rfl, s4, q3.keep _ _ c.ol2 a5 rfl⟩
  · rintro W4 ⟨q1, q2, q3, q4, q5⟩ q6
    have e : ({ N.r2 with state := .ready, pending := none } : Loop) = N.r2 := c.st2.symm
    rw [e]
    have ne : ∀ j, j ≠ N.l2 → ∀ o, W4.heap[j]? = some o → (W4.putObj N.l2 (.loop N.r2)).heap[j]? = some o := fun j hj o ho => (World.putObj_heap_other hj).trans ho
    have z : ∀ j, j ∈ [N.bl, N.bc, N.bs, N.yb, N.b1, N.b2, N.b3, N.bd, N.bi, N.bn] → j ≠ N.l2 := fun j hj e => c.out j hj (e ▸ by simp)
    have zl : N.l1 ≠ N.l2 := fun e => c.ol1 (e ▸ by simp)
    have zo : N.l2 ≠ N.d := fun e => c.ol2 (e ▸ by simp)
    exact ⟨rfl, ⟨ne _ (z _ (by simp)) _ q1.hbd, ne _ (z _ (by simp)) _ q1.hbi, ne _ (z _ (by simp)) _ q1.hbn, ne _ (cells_ne_loop q1.hba q6) _ q1.hba, ne _ zl _ q1.hL⟩, ne _ (cells_ne_loop q2 q6) _ q2, ne _ (cells_ne_loop q3 q6) _ q3, World.putObj_heap_same (Array.getElem?_eq_some_iff.1 q6).1, q4.putObj _ _ _ zo q6 rfl, q5.putObj (by simp) c.Bl2 _⟩

/-- A value comes that Head no longer wants. -/
theorem round_die (c : Cx N W0) (h : St N W0 k bb W) (hk : N.n ≤ k) (hk2 : k < 2) (hlb : bb.length ≤ 800) (x : Int) :
    YieldAt Fence.wide 4 Try.prog N.l2 #[.int .i64 x] W fun e W' => (∃ sv, e = .panicked [{ v := .iface 10 (.string sv), recovered := false }]) ∧ En N W0 (bb ++ [112, 48]) W' := by
  obtain ⟨p1, p2, p3, u0, u6, u7, u8, u9, u10, u11, u12, u13, u14, u15, u16, u17, u18, u19, u20, u21, u22, u23, u24, u25, u26, u27, u28, u29, u30, u31, u32, u33, u34, u35, u36, u37, u38, u39, u40, u41, u42, u43, u44, u45, u46, u47, u48, u49, u50, u51, u52, u53, u54, u55, u56, u57, p4⟩ := c.rec2
  have hst : N.r2.state = .ready := by rw [c.st2]
  refine outer_go N.r2 hst p1 p2 u0 u6 u7 u8 u9 u10 u11 u12 u13 u14 u15 u16 u17 u18 u19 u20 u21 u22 u23 u24 u25 u26 u27 u28 u29 u30 u31 u32 u33 u34 u35 u36 u37 u38 u39 u40 u41 u42 u43 u44 u45 u46 u47 u48 u49 u50 u51 u52 u53 u54 u55 u56 u57 N.bl N.bc N.bs N.yb N.bj p4 p3 N.B N.d N.l2 N.l1 N.s N.sr bb (by omega) x (.pointer (some ⟨N.b3, 0, none⟩)) k k hk2 W h.hl
    (h.mv.keep _ _ (c.out _ (by simp)) c.hbc rfl) (h.mv.keep _ _ (c.out _ (by simp)) c.hbl rfl) (h.mv.keep _ _ (c.out _ (by simp)) c.hyb rfl) (h.mv.keep _ _ (c.out _ (by simp)) c.hbs rfl) h.hj h.hsrc h.led c.Bl2 c.Bbj c.Bs 4 _
    (fun _ => False) ?_ (fun _ h => h.elim)
  intro W3 a1 a2 a3 a4 a5
  have m3 : MvX N.B [N.d, N.bj, N.s, N.l2, N.ba, N.l1] W0 W3 := h.mv.trans (a4.mono (sub1 N))
  have x4 : ∀ j, j ∈ [N.bl, N.bc, N.bs, N.yb, N.b1, N.b2, N.b3, N.bd, N.bi, N.bn] → j ∉ [N.d, N.bj, N.s, N.l2] := fun j hj e => c.out j hj (sub1 N j e)
  have hs3 := h.hs.mv a4 (x4 _ (by simp)) (x4 _ (by simp)) (x4 _ (by simp)) c.oba c.ol1
  refine yieldAt_mono (hs3.die c.rec1 hk x 3) ?_
  rintro e W4 ⟨⟨sv, rfl⟩, o, rfl⟩
  have zl : N.l1 ≠ N.d := fun e => c.ol1 (e ▸ by simp)
  exact .inr ⟨_, rfl, ⟨sv, rfl⟩, ⟨_, (World.putObj_heap_other (cells_ne_loop hs3.hba hs3.hL)).trans hs3.hba⟩, ⟨_, (World.putObj_heap_other (cells_ne_loop a3 hs3.hL)).trans a3⟩, a1.putObj _ _ _ zl hs3.hL rfl, m3.putObj (by simp) c.Bl1 _⟩

/-- The trip. -/
theorem round_trip (c : Cx N W0) (h : St N W0 2 bb W) (x : Int) :
    YieldAt Fence.wide 4 Try.prog N.l2 #[.int .i64 x] W fun e W' => e = .panicked [{ v := .iface 57 (.agg #[.int .i64 0, .int .i64 2]), recovered := false }] ∧ En N W0 bb W' := by
  obtain ⟨p1, p2, p3, u0, u6, u7, u8, u9, u10, u11, u12, u13, u14, u15, u16, u17, u18, u19, u20, u21, u22, u23, u24, u25, u26, u27, u28, u29, u30, u31, u32, u33, u34, u35, u36, u37, u38, u39, u40, u41, u42, u43, u44, u45, u46, u47, u48, u49, u50, u51, u52, u53, u54, u55, u56, u57, p4⟩ := c.rec2
  have hst : N.r2.state = .ready := by rw [c.st2]
  have zo : N.l2 ≠ N.d := fun e => c.ol2 (e ▸ by simp)
  refine outer_trip N.r2 hst p1 p2 u0 u6 u7 u8 u9 u10 u11 u12 u13 u14 u15 u16 u17 u18 u19 u20 u21 u22 u23 u24 u25 u26 u27 u28 u29 u30 u31 u32 u33 u34 u35 u36 u37 u38 u39 u40 u41 u42 u43 u44 u45 u46 u47 u48 u49 u50 u51 u52 u53 u54 u55 u56 u57 N.bl N.bc N.bs N.yb N.bj p4 p3 N.l2 N.s x (.pointer (some ⟨N.b3, 0, none⟩)) 2 true W h.hl
    (h.mv.keep _ _ (c.out _ (by simp)) c.hbc rfl) (h.mv.keep _ _ (c.out _ (by simp)) c.hbs rfl) h.hj h.hsrc 4 _
    ⟨rfl, ⟨2, ?_⟩, ⟨2, ?_⟩, ?_, ?_⟩
  · exact (World.putObj_heap_other (cells_ne_loop h.hs.hba h.hl)).trans h.hs.hba
  · exact (World.putObj_heap_other (cells_ne_loop h.hsrc h.hl)).trans h.hsrc
  · exact (h.led.putObj _ _ _ zo h.hl rfl).drew
  · exact (h.mv.putObj (by simp) c.Bl2 _).drew

/-- How it ends, by n: what is thrown, what the ledger tells ahead of the clean-up. -/
def Fate (n : Nat) (ch : List PanicEntry) (bb : List UInt8) : Prop :=
  (n = 1 ∧ (∃ sv, ch = [{ v := .iface 10 (.string sv), recovered := false }]) ∧ bb = [111, 48, 112, 48, 61, 49, 46, 48, 112, 48]) ∨
  (2 ≤ n ∧ ch = [{ v := .iface 57 (.agg #[.int .i64 0, .int .i64 2]), recovered := false }] ∧ bb = [111, 48, 112, 48, 61, 49, 46, 48, 112, 48, 61, 50, 46, 48])

/-- THE WALK over the tree. -/
theorem walk_all (c : Cx N W0) (h : St N W0 0 [111, 48] W0) :
    Calls Try.prog 29 #[.pointer (some ⟨N.b3, 0, none⟩), .func (.yield N.l2) #[] #[]] W0 fun e W' => ∃ ch bb, e = .panicked ch ∧ Fate N.n ch bb ∧ En N W0 bb W' := by
  have n3 : ∀ V bb k, St N W0 k bb V → V.heap[N.b3]? = some (.cells #[.int .i64 3, .pointer (some ⟨N.b1, 0, none⟩), .pointer none] 55) := fun V bb k s => s.mv.keep _ _ (c.out _ (by simp)) c.h3 rfl
  have n1 : ∀ V bb k, St N W0 k bb V → V.heap[N.b1]? = some (.cells #[.int .i64 1, .pointer none, .pointer (some ⟨N.b2, 0, none⟩)] 55) := fun V bb k s => s.mv.keep _ _ (c.out _ (by simp)) c.h1 rfl
  have n2 : ∀ V bb k, St N W0 k bb V → V.heap[N.b2]? = some (.cells #[.int .i64 2, .pointer none, .pointer none] 55) := fun V bb k s => s.mv.keep _ _ (c.out _ (by simp)) c.h2 rfl
  by_cases e1 : N.n = 1
  · refine walk_node N.b3 N.l2 3 _ _ W0 _ (fun _ => False) (fun _ => False) c.h3 ?_ (fun _ h => h.elim) (fun _ h => h.elim) (fun _ h => h.elim) (fun _ h => h.elim)
    refine walk_node N.b1 N.l2 1 _ _ W0 _ (fun V => V = W0) (fun V => St N W0 1 (([111, 48] ++ [112, 48]) ++ [61, 49, 46, 48]) V) c.h1 ?_ ?_ ?_ ?_ ?_
    · exact (walk_nil _ _).mono fun e w' q => .inl ⟨q.1, q.2⟩
    · intro V hV; rw [hV]; exact c.h1
    · intro V hV
      rw [hV]
      exact yieldAt_mono (round_go c h (by omega) (by omega) (by simp) 1 ⟨#[61, 49, 46, 48]⟩ (by decide) Got_one) fun e w' q => .inl ⟨q.1, q.2⟩
    · intro V s; exact n1 _ _ _ s
    · intro V s
      refine (walk_node N.b2 N.l2 2 _ _ V (fun e W' => ∃ ch bb, e = .panicked ch ∧ Fate N.n ch bb ∧ En N W0 bb W') (fun V' => V' = V) (fun _ => False) (n2 _ _ _ s) ?_ ?_ ?_ (fun _ h => h.elim) (fun _ h => h.elim)).mono ?_
      · exact (walk_nil _ _).mono fun e w' q => .inl ⟨q.1, q.2⟩
      · intro V' hV; rw [hV]; exact n2 _ _ _ s
      · intro V' hV
        rw [hV]
        refine yieldAt_mono (round_die c s (by omega) (by omega) (by simp) 2) ?_
        rintro e w' ⟨⟨sv, rfl⟩, q⟩
        exact .inr ⟨_, rfl, _, _, rfl, .inl ⟨e1, ⟨sv, rfl⟩, rfl⟩, q⟩
      · rintro e w' ⟨ch, bb, rfl, f, q⟩
        exact .inr ⟨_, rfl, .inr ⟨_, rfl, _, _, rfl, f, q⟩⟩
  · have e2 : 2 ≤ N.n := by have := c.n1; omega
    refine walk_node N.b3 N.l2 3 _ _ W0 _ (fun V => St N W0 2 (((([111, 48] ++ [112, 48]) ++ [61, 49, 46, 48]) ++ [112, 48]) ++ [61, 50, 46, 48]) V) (fun _ => False) c.h3 ?_ ?_ ?_ (fun _ h => h.elim) (fun _ h => h.elim)
    · refine walk_node N.b1 N.l2 1 _ _ W0 _ (fun V => V = W0) (fun V => St N W0 1 (([111, 48] ++ [112, 48]) ++ [61, 49, 46, 48]) V) c.h1 ?_ ?_ ?_ ?_ ?_
      · exact (walk_nil _ _).mono fun e w' q => .inl ⟨q.1, q.2⟩
      · intro V hV; rw [hV]; exact c.h1
      · intro V hV
        rw [hV]
        exact yieldAt_mono (round_go c h (by omega) (by omega) (by simp) 1 ⟨#[61, 49, 46, 48]⟩ (by decide) Got_one) fun e w' q => .inl ⟨q.1, q.2⟩
      · intro V s; exact n1 _ _ _ s
      · intro V s
        refine (walk_node N.b2 N.l2 2 _ _ V (fun e W' => e = .returned (.bool true) ∧ St N W0 2 (((([111, 48] ++ [112, 48]) ++ [61, 49, 46, 48]) ++ [112, 48]) ++ [61, 50, 46, 48]) W') (fun V' => V' = V) (fun V' => St N W0 2 (((([111, 48] ++ [112, 48]) ++ [61, 49, 46, 48]) ++ [112, 48]) ++ [61, 50, 46, 48]) V') (n2 _ _ _ s) ?_ ?_ ?_ ?_ ?_).mono ?_
        · exact (walk_nil _ _).mono fun e w' q => .inl ⟨q.1, q.2⟩
        · intro V' hV; rw [hV]; exact n2 _ _ _ s
        · intro V' hV
          rw [hV]
          exact yieldAt_mono (round_go c s (by omega) (by omega) (by simp) 2 ⟨#[61, 50, 46, 48]⟩ (by decide) Got_two) fun e w' q => .inl ⟨q.1, q.2⟩
        · intro V' s'; exact n2 _ _ _ s'
        · intro V' s'
          exact (walk_nil _ _).mono fun e w' q => .inl ⟨q.1, rfl, q.2 ▸ s'⟩
        · rintro e w' ⟨rfl, q⟩
          exact .inl ⟨rfl, .inl ⟨rfl, q⟩⟩
    · intro V s; exact n3 _ _ _ s
    · intro V s
      refine yieldAt_mono (round_trip c s 3) ?_
      rintro e w' ⟨rfl, q⟩
      exact .inr ⟨_, rfl, _, _, rfl, .inr ⟨e2, rfl, rfl⟩, q⟩
end Go.Proofs.Qxb6500382a
