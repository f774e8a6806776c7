import Derived.Test.Qxb6500382aInner
namespace Go.Proofs.Qxb6500382a
open Go.RowKit Go.Shelf
attribute [local go_sem] Oper.semAt_some

/-- A round that begins though an earlier one has said 'no more': a run-time error. -/
theorem begin_done {l : Nat} {r : Loop} {W : World} (hL : W.heap[l]? = some (.loop r)) (hst : r.state = .done) :
    ∃ sv, (Instr.beginRound l).run Try.prog W = .halt (.panic (.iface 10 (.string sv))) (W.putObj l (.loop { r with state := .busy })) :=
  ⟨_, by simp [Instr.beginRound, Sem.run_bind, run_getLoop hL, run_setObj_loop _ hL, Result.andThen, hst, runtimePanic, program, goPanic, Sem.run, strVal]; rfl⟩

/-- The source as it lies on the desk. -/
def srcO (root : Value) (made : Nat) (live : Bool) : Obj := .cells #[.int .i64 2, .int .i64 1, .int .i64 2, .string { data := #[3, 1, 2] }, .slice none 0 0, root, .int .i64 made, .bool live] 43

set_option maxRecDepth 100000 in
set_option maxHeartbeats 2000000 in
/-- THE TRIP: the round that finds j at the trip throws. -/
theorem outer_trip (r : Loop) (hst : r.state = .ready) (hps : r.params = #[16]) (hfn : r.fn = 20) (u0 u6 u7 u8 u9 u10 u11 u12 u13 u14 u15 u16 u17 u18 u19 u20 u21 u22 u23 u24 u25 u26 u27 u28 u29 u30 u31 u32 u33 u34 u35 u36 u37 u38 u39 u40 u41 u42 u43 u44 u45 u46 u47 u48 u49 u50 u51 u52 u53 u54 u55 u56 u57 : Value) (bl bi bs by_ bj : Nat) (htm : r.tmps = #[u0, .pointer (some ⟨bl, 0, none⟩), .pointer (some ⟨bi, 0, none⟩), .pointer (some ⟨bs, 0, none⟩), .pointer (some ⟨by_, 0, none⟩), .pointer (some ⟨bj, 0, none⟩), u6, u7, u8, u9, u10, u11, u12, u13, u14, u15, u16, u17, u18, u19, u20, u21, u22, u23, u24, u25, u26, u27, u28, u29, u30, u31, u32, u33, u34, u35, u36, u37, u38, u39, u40, u41, u42, u43, u44, u45, u46, u47, u48, u49, u50, u51, u52, u53, u54, u55, u56, u57]) (hAB : Try.f20.body.bind rangeParts = some (r.assign, r.body))
    (l s : Nat) (x : Int) (root : Value) (made : Nat) (live : Bool) (W : World) (hL : W.heap[l]? = some (.loop r)) (hbi : W.heap[bi]? = some (.cells #[.int .i64 0] 3))
    (hbs : W.heap[bs]? = some (.cells #[.pointer (some ⟨s, 0, none⟩)] 38)) (hbj : W.heap[bj]? = some (.cells #[.int .i64 2] 3)) (hs : W.heap[s]? = some (srcO root made live)) (m : Nat) (R : Ending → World → Prop)
    (hR : R (.panicked [{ v := .iface 57 (.agg #[.int .i64 0, .int .i64 2]), recovered := false }]) (W.putObj l (.loop { r with state := .busy })).drew) :
    YieldAt Fence.wide m Try.prog l #[.int .i64 x] W R := by
  simp only [Try.f20, Option.bind_some, rangeParts, Option.some.injEq, Prod.mk.injEq] at hAB
  obtain ⟨hA, hBd⟩ := hAB
  unfold srcO at hs
  have ni : bi ≠ l := cells_ne_loop hbi hL
  have ns : bs ≠ l := cells_ne_loop hbs hL
  have nj : bj ≠ l := cells_ne_loop hbj hL
  have nq : s ≠ l := cells_ne_loop hs hL
  refine yield_ready hL hst (by rw [hps]; rfl) (by rw [hfn]; exact ⟨_, Try.func20⟩) ⟨#[u0, .pointer (some ⟨bl, 0, none⟩), .pointer (some ⟨bi, 0, none⟩), .pointer (some ⟨bs, 0, none⟩), .pointer (some ⟨by_, 0, none⟩), .pointer (some ⟨bj, 0, none⟩), .int .i64 x, u7, u8, u9, u10, u11, u12, u13, u14, u15, .int .i64 x, u17, u18, u19, u20, u21, u22, u23, u24, u25, u26, u27, u28, u29, u30, u31, u32, u33, u34, u35, u36, u37, u38, u39, u40, u41, u42, u43, u44, u45, u46, u47, u48, u49, u50, u51, u52, u53, u54, u55, u56, u57], []⟩ ?_ ?_
  · intro K hK
    rw [hps, htm, ← hA]
    clear hA hBd hL hR hps htm
    gi_wp2
    exact hK
  · have cs : (W.putObj l (.loop { r with state := .busy })).cell? ⟨bs, 0, none⟩ = some (.pointer (some ⟨s, 0, none⟩)) := by rw [cell_at _ _ _ _ _ ((World.putObj_heap_other ns).trans hbs)]; rfl
    have ci : (W.putObj l (.loop { r with state := .busy })).cell? ⟨bi, 0, none⟩ = some (.int .i64 0) := by rw [cell_at _ _ _ _ _ ((World.putObj_heap_other ni).trans hbi)]; rfl
    have cj : (W.putObj l (.loop { r with state := .busy })).cell? ⟨bj, 0, none⟩ = some (.int .i64 2) := by rw [cell_at _ _ _ _ _ ((World.putObj_heap_other nj).trans hbj)]; rfl
    have ct : (W.putObj l (.loop { r with state := .busy })).cell? ⟨s, 2, none⟩ = some (.int .i64 2) := by rw [cell_at _ _ _ _ _ ((World.putObj_heap_other nq).trans hs)]; rfl
    have HR : Hid _ := hR
    clear hL hbi hbs hbj hs hA hst hps hfn htm hR
    revert HR cs ci cj ct
    generalize W.putObj l (.loop { r with state := .busy }) = W1
    intro cs ci cj ct HR
    rw [← hBd]
    clear hBd
    have hmix := mixed
    gi_wp2_with fail
    refine wpIn_mono (Q := fun e a' w' => e = .normal ∧ a' = ⟨#[u0, .pointer (some ⟨bl, 0, none⟩), .pointer (some ⟨bi, 0, none⟩), .pointer (some ⟨bs, 0, none⟩), .pointer (some ⟨by_, 0, none⟩), .pointer (some ⟨bj, 0, none⟩), .int .i64 x, u7, u8, u9, u10, u11, u12, u13, u14, u15, .int .i64 x, .int .i64 2, .pointer (some ⟨s, 0, none⟩), .pointer (some ⟨s, 0, none⟩), .pointer (some ⟨s, 2, none⟩), .int .i64 2, .bool true, u23, u24, u25, u26, u27, u28, u29, u30, u31, u32, u33, u34, u35, u36, u37, u38, u39, u40, u41, u42, u43, u44, u45, u46, u47, u48, u49, u50, u51, u52, u53, u54, u55, u56, u57], []⟩ ∧ w' = W1.drew) ?_ ?_
    · gi_region_with_o (fail)
      all_goals exact ⟨rfl, rfl, rfl⟩
    · rintro e a' W2 ⟨rfl, rfl, rfl⟩
      gi_wp2
      exact ⟨rfl, HR.out⟩

set_option maxRecDepth 100000 in
set_option maxHeartbeats 4000000 in
/-- A ROUND THAT HANDS OUT: the mark, j and made go up by one, then yield is asked; deaf to its answer it goes on; a throw goes through. -/
theorem outer_go (r : Loop) (hst : r.state = .ready) (hps : r.params = #[16]) (hfn : r.fn = 20) (u0 u6 u7 u8 u9 u10 u11 u12 u13 u14 u15 u16 u17 u18 u19 u20 u21 u22 u23 u24 u25 u26 u27 u28 u29 u30 u31 u32 u33 u34 u35 u36 u37 u38 u39 u40 u41 u42 u43 u44 u45 u46 u47 u48 u49 u50 u51 u52 u53 u54 u55 u56 u57 : Value) (bl bi bs by_ bj : Nat) (htm : r.tmps = #[u0, .pointer (some ⟨bl, 0, none⟩), .pointer (some ⟨bi, 0, none⟩), .pointer (some ⟨bs, 0, none⟩), .pointer (some ⟨by_, 0, none⟩), .pointer (some ⟨bj, 0, none⟩), u6, u7, u8, u9, u10, u11, u12, u13, u14, u15, u16, u17, u18, u19, u20, u21, u22, u23, u24, u25, u26, u27, u28, u29, u30, u31, u32, u33, u34, u35, u36, u37, u38, u39, u40, u41, u42, u43, u44, u45, u46, u47, u48, u49, u50, u51, u52, u53, u54, u55, u56, u57]) (hAB : Try.f20.body.bind rangeParts = some (r.assign, r.body))
    (B d l l1 s : Nat) (sr : Value) (bb : List UInt8) (hlb : bb.length ≤ 900) (x : Int) (root : Value) (j made : Nat) (hj : j < 2) (W : World) (hL : W.heap[l]? = some (.loop r)) (hbi : W.heap[bi]? = some (.cells #[.int .i64 0] 3))
    (hbl : W.heap[bl]? = some (.cells #[.pointer (some ⟨d, 1, none⟩)] 50)) (hby : W.heap[by_]? = some (.cells #[.func (.yield l1) #[] #[]] 60))
    (hbs : W.heap[bs]? = some (.cells #[.pointer (some ⟨s, 0, none⟩)] 38)) (hbj : W.heap[bj]? = some (.cells #[.int .i64 j] 3)) (hs : W.heap[s]? = some (srcO root made true)) (hled : Led B d sr bb W) (hBl : B ≤ l) (hBj : B ≤ bj) (hBs : B ≤ s)
    (m : Nat) (R : Ending → World → Prop) (Post : World → Prop)
    (hY : ∀ W3, Led B d sr (bb ++ [112, 48]) W3 → W3.heap[bj]? = some (.cells #[.int .i64 (j + 1 : Nat)] 3) → W3.heap[s]? = some (srcO root (j + 1) true) → MvX B [d, bj, s, l] W W3 → W3.heap[l]? = some (.loop { r with state := .busy }) →
      YieldAt Fence.wide (m - 1) Try.prog l1 #[.int .i64 x] W3 fun e W4 => (∃ b, e = .returned (.bool b) ∧ Post W4 ∧ W4.heap[bs]? = some (.cells #[.pointer (some ⟨s, 0, none⟩)] 38) ∧ W4.heap[s]? = some (srcO root (j + 1) true) ∧ W4.heap[l]? = some (.loop { r with state := .busy })) ∨
        (∃ ch, e = .panicked ch ∧ R (.panicked ch) W4))
    (hR : ∀ W4, Post W4 → W4.heap[l]? = some (.loop { r with state := .busy }) → R (.returned (.bool true)) (W4.putObj l (.loop { r with state := .ready, pending := none }))) :
    YieldAt Fence.wide m Try.prog l #[.int .i64 x] W R := by
  simp only [Try.f20, Option.bind_some, rangeParts, Option.some.injEq, Prod.mk.injEq] at hAB
  obtain ⟨hA, hBd⟩ := hAB
  unfold srcO at hs hY
  have ni : bi ≠ l := cells_ne_loop hbi hL
  have ns : bs ≠ l := cells_ne_loop hbs hL
  have nj : bj ≠ l := cells_ne_loop hbj hL
  have nq : s ≠ l := cells_ne_loop hs hL
  have nl : bl ≠ l := cells_ne_loop hbl hL
  have ny : by_ ≠ l := cells_ne_loop hby hL
  have ndl : d ≠ l := by obtain ⟨v, hv, _⟩ := hled; exact cells_ne_loop hv hL
  have dne : ∀ (k : Nat) (c : Array Value) (t : TypeId), W.heap[k]? = some (.cells c t) → t ≠ 37 → k ≠ d := by
    intro k c t hk ht e
    obtain ⟨v, hv, _⟩ := hled
    rw [e, hv] at hk
    injection hk with hk
    injection hk with h1 h2
    exact ht h2.symm
  have dj : bj ≠ d := dne _ _ _ hbj (by decide)
  have ds : s ≠ d := dne _ _ _ hs (by decide)
  have dbs : bs ≠ d := dne _ _ _ hbs (by decide)
  have dbl : bl ≠ d := dne _ _ _ hbl (by decide)
  have dby : by_ ≠ d := dne _ _ _ hby (by decide)
  have dbi : bi ≠ d := dne _ _ _ hbi (by decide)
  have sj : bj ≠ s := by intro e; rw [e, hs] at hbj; cases hbj
  have ybj : by_ ≠ bj := by intro e; rw [e, hbj] at hby; cases hby
  have ys : by_ ≠ s := by intro e; rw [e, hs] at hby; cases hby
  have sbj : bs ≠ bj := by intro e; rw [e, hbj] at hbs; cases hbs
  have sbs : bs ≠ s := by intro e; rw [e, hs] at hbs; cases hbs
  refine yield_ready hL hst (by rw [hps]; rfl) (by rw [hfn]; exact ⟨_, Try.func20⟩) ⟨#[u0, .pointer (some ⟨bl, 0, none⟩), .pointer (some ⟨bi, 0, none⟩), .pointer (some ⟨bs, 0, none⟩), .pointer (some ⟨by_, 0, none⟩), .pointer (some ⟨bj, 0, none⟩), .int .i64 x, u7, u8, u9, u10, u11, u12, u13, u14, u15, .int .i64 x, u17, u18, u19, u20, u21, u22, u23, u24, u25, u26, u27, u28, u29, u30, u31, u32, u33, u34, u35, u36, u37, u38, u39, u40, u41, u42, u43, u44, u45, u46, u47, u48, u49, u50, u51, u52, u53, u54, u55, u56, u57], []⟩ ?_ ?_
  · intro K hK
    rw [hps, htm, ← hA]
    clear hA hBd hL hR hps htm hY dne
    gi_wp2
    exact hK
  · have g : ∀ (k : Nat) (o : Obj), k ≠ l → W.heap[k]? = some o → (W.putObj l (.loop { r with state := .busy })).heap[k]? = some o := fun k o hk ho => (World.putObj_heap_other hk).trans ho
    have gbs : Hid _ := g bs _ ns hbs
    have gbi : Hid _ := g bi _ ni hbi
    have gbl : Hid _ := g bl _ nl hbl
    have gby : Hid _ := g by_ _ ny hby
    have gbj : Hid _ := g bj _ nj hbj
    have gs : Hid _ := g s _ nq hs
    have gled : Hid (Led B d sr bb (W.putObj l (.loop { r with state := .busy }))) := hled.putObj l _ _ (Ne.symm ndl) hL rfl
    have gm : Hid (MvX B [d, bj, s, l] W (W.putObj l (.loop { r with state := .busy }))) := (MvX.refl B _ W).putObj (by simp) hBl _
    have gL : Hid ((W.putObj l (.loop { r with state := .busy })).heap[l]? = some (.loop { r with state := .busy })) := World.putObj_heap_same (Array.getElem?_eq_some_iff.1 hL).1
    have HY : Hid _ := hY
    have HR : Hid _ := hR
    clear hL hbi hbs hbj hs hA hst hps hfn htm hR hY hbl hby g dne hled
    revert gbs gbi gbl gby gbj gs gled gm gL
    generalize W.putObj l (.loop { r with state := .busy }) = W1
    intro gbs gbi gbl gby gbj gs gled gm gL
    rw [← hBd]
    clear hBd
    have hmix := mixed
    have cs : W1.cell? ⟨bs, 0, none⟩ = some (.pointer (some ⟨s, 0, none⟩)) := by rw [cell_at _ _ _ _ _ gbs.out]; rfl
    have ci : W1.cell? ⟨bi, 0, none⟩ = some (.int .i64 0) := by rw [cell_at _ _ _ _ _ gbi.out]; rfl
    have cl : W1.cell? ⟨bl, 0, none⟩ = some (.pointer (some ⟨d, 1, none⟩)) := by rw [cell_at _ _ _ _ _ gbl.out]; rfl
    have cj : W1.cell? ⟨bj, 0, none⟩ = some (.int .i64 j) := by rw [cell_at _ _ _ _ _ gbj.out]; rfl
    have ct : W1.cell? ⟨s, 2, none⟩ = some (.int .i64 2) := by rw [cell_at _ _ _ _ _ gs.out]; rfl
    have hj2 : ((j : Int) == 2) = false := by simp; omega
    gi_wp2_with fail
    refine wpIn_mono (Q := fun e a' w' => e = .normal ∧ a' = ⟨#[u0, .pointer (some ⟨bl, 0, none⟩), .pointer (some ⟨bi, 0, none⟩), .pointer (some ⟨bs, 0, none⟩), .pointer (some ⟨by_, 0, none⟩), .pointer (some ⟨bj, 0, none⟩), .int .i64 x, u7, u8, u9, u10, u11, u12, u13, u14, u15, .int .i64 x, .int .i64 j, .pointer (some ⟨s, 0, none⟩), .pointer (some ⟨s, 0, none⟩), .pointer (some ⟨s, 2, none⟩), .int .i64 2, .bool false, u23, u24, u25, u26, u27, u28, u29, u30, u31, u32, u33, u34, u35, u36, u37, u38, u39, u40, u41, u42, u43, u44, u45, u46, u47, u48, u49, u50, u51, u52, u53, u54, u55, u56, u57], []⟩ ∧ w' = W1.drew) ?_ ?_
    · gi_region_with_o (fail)
      all_goals exact ⟨rfl, rfl, rfl⟩
    · rintro e a' W2 ⟨rfl, rfl, rfl⟩
      have MK := mark_any B d sr bb 112 W1.drew gled.out.drew (by omega)
      clear ct cj
      gi_wp2_with fail
      refine ⟨trivial, depW _, (CallsIn.inRound l (callsIn_wide.2 MK)).mono ?_⟩
      rintro e W2 ⟨rfl, hl2, hm2⟩
      have k2 : ∀ (k : Nat) (o : Obj), k ≠ d → W1.heap[k]? = some o → isRow o = false → W2.heap[k]? = some o := hm2.keep
      have q2s : Hid _ := k2 s _ ds gs.out rfl
      have q2j : Hid _ := k2 bj _ dj gbj.out rfl
      have q2b : Hid _ := k2 bs _ dbs gbs.out rfl
      have q2y : Hid _ := k2 by_ _ dby gby.out rfl
      have q2L : Hid _ := k2 l _ (Ne.symm ndl) gL.out rfl
      have HL2 : Hid (Led B d sr (bb ++ [112, 48]) W2) := hl2
      have HM2 : Hid (MvX B [d, bj, s, l] W W2) := gm.out.trans ⟨hm2.os, hm2.tape, hm2.output, hm2.size, hm2.low, fun k o hk ho hr => hm2.keep k o (fun e => hk (by simp [e])) ho hr⟩
      clear MK hl2 hm2 k2 gbs gbi gbl gby gbj gs gled gm gL cs ci cl hj2
      have cj : W2.cell? ⟨bj, 0, none⟩ = some (.int .i64 j) := by rw [cell_at _ _ _ _ _ q2j.out]; rfl
      have fj : W2.frozen? ⟨bj, 0, none⟩ = false := frozen_at _ _ _ _ _ q2j.out
      have cs : W2.cell? ⟨bs, 0, none⟩ = some (.pointer (some ⟨s, 0, none⟩)) := by rw [cell_at _ _ _ _ _ q2b.out]; rfl
      have cm : W2.cell? ⟨s, 6, none⟩ = some (.int .i64 made) := by rw [cell_at _ _ _ _ _ q2s.out]; rfl
      have fm : W2.frozen? ⟨s, 6, none⟩ = false := frozen_at _ _ _ _ _ q2s.out
      have cy : W2.cell? ⟨by_, 0, none⟩ = some (.func (.yield l1) #[] #[]) := by rw [cell_at _ _ _ _ _ q2y.out]; rfl
      have jj : (j : Int) + 1 = ((j + 1 : Nat) : Int) := by omega
      have JJ : Hid ((j : Int) + 1 = ((j + 1 : Nat) : Int)) := jj
      clear jj
      have a1 : ((W2.setCell ⟨bj, 0, none⟩ (.int .i64 (j + 1 : Nat))).setCell ⟨s, 6, none⟩ (.int .i64 (j + 1 : Nat))).heap[s]? = some (srcO root (j + 1) true) := by
        rw [block_set _ _ _ _ _ _ ((Below.heap_setCell _ _ _ _ (Ne.symm sj)).trans q2s.out)]; rfl
      have a2 : ((W2.setCell ⟨bj, 0, none⟩ (.int .i64 (j + 1 : Nat))).setCell ⟨s, 6, none⟩ (.int .i64 (j + 1 : Nat))).heap[bj]? = some (.cells #[.int .i64 (j + 1 : Nat)] 3) := by
        rw [Below.heap_setCell _ _ _ _ sj, block_set _ _ _ _ _ _ q2j.out]; rfl
      have a3 : ((W2.setCell ⟨bj, 0, none⟩ (.int .i64 (j + 1 : Nat))).setCell ⟨s, 6, none⟩ (.int .i64 (j + 1 : Nat))).heap[l]? = some (.loop { r with state := .busy }) := by
        rw [Below.heap_setCell _ _ _ _ (Ne.symm nq), Below.heap_setCell _ _ _ _ (Ne.symm nj)]; exact q2L.out
      have a4 : Led B d sr (bb ++ [112, 48]) ((W2.setCell ⟨bj, 0, none⟩ (.int .i64 (j + 1 : Nat))).setCell ⟨s, 6, none⟩ (.int .i64 (j + 1 : Nat))) :=
        (HL2.out.setCell bj 0 _ dj _ q2j.out rfl).setCell s 6 _ ds _ ((Below.heap_setCell _ _ _ _ (Ne.symm sj)).trans q2s.out) rfl
      have a5 : MvX B [d, bj, s, l] W ((W2.setCell ⟨bj, 0, none⟩ (.int .i64 (j + 1 : Nat))).setCell ⟨s, 6, none⟩ (.int .i64 (j + 1 : Nat))) := (HM2.out.setCell (by simp) hBj _ _).setCell (by simp) hBs _ _
      obtain ⟨fn, tmps, assign, body, hy, hRd⟩ := HY.out _ a4 a2 a1 a5 a3
      rw [← JJ.out] at hy hRd
      clear a1 a2 a3 a4 a5 HY HL2 HM2 q2s q2j q2b q2y q2L
      gi_wp2_with fail
      refine ⟨depW _, RoundIn.mono (F := Fence.wide.inRound l) hRd ?_⟩
      clear hRd hy cj fj cs cm fm cy
      rintro e W4 (⟨b, rfl, hp, h1, h2, h3⟩ | ⟨ch, rfl, hr⟩)
      · have cs : W4.cell? ⟨bs, 0, none⟩ = some (.pointer (some ⟨s, 0, none⟩)) := by rw [cell_at _ _ _ _ _ h1]; rfl
        have cf : W4.cell? ⟨s, 1, none⟩ = some (.int .i64 1) := by rw [cell_at _ _ _ _ _ h2]; rfl
        have fin : Hid _ := HR.out W4 hp h3
        have H3 : Hid _ := h3
        clear h1 h2 h3 HR
        cases b
        · gi_wp2
          exact ⟨H3.out, fin.out⟩
        · gi_wp2
          exact ⟨H3.out, fin.out⟩
      · exact ⟨rfl, hr⟩
end Go.Proofs.Qxb6500382a
