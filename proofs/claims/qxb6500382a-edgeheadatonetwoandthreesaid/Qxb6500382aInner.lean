import Derived.Test.Qxb6500382aTree
import Derived.Test.Qxb6500382aGot
namespace Go.Proofs.Qxb6500382a
open Go.RowKit Go.Shelf
attribute [local go_sem] Oper.semAt_some
attribute [local go_sem ↓] Go.wp_at_zero Go.wp_at_succ

/-- The assignment and the body of the first range over a function in a code. -/
def rangeParts : Code → Option (Code × Code)
  | .seq a b => match rangeParts a with
    | some x => some x
    | none => rangeParts b
  | .block _ c => rangeParts c
  | .cond _ a b => match rangeParts a with
    | some x => some x
    | none => rangeParts b
  | .rangeFunc _ _ x y => some (x, y)
  | _ => none

/-- From W to W': new blocks; of the old ones only rows of bytes and the blocks of X may have turned; below B nothing. -/
structure MvX (B : Nat) (X : List Nat) (W W' : World) : Prop where
  os : W'.os = W.os
  tape : W'.tape = W.tape
  output : W'.output = W.output
  size : W.heap.size ≤ W'.heap.size
  low : ∀ k, k < B → W'.heap[k]? = W.heap[k]?
  keep : ∀ (k : Nat) (o : Obj), k ∉ X → W.heap[k]? = some o → isRow o = false → W'.heap[k]? = some o
theorem Mv.x {B d : Nat} {W W' : World} (h : Mv B d W W') {X : List Nat} (hd : d ∈ X) : MvX B X W W' :=
  ⟨h.os, h.tape, h.output, h.size, h.low, fun k o hk ho hr => h.keep k o (fun e => hk (e ▸ hd)) ho hr⟩
theorem MvX.refl (B : Nat) (X : List Nat) (W : World) : MvX B X W W := ⟨rfl, rfl, rfl, Nat.le_refl _, fun _ _ => rfl, fun _ _ _ h _ => h⟩
theorem MvX.trans {B : Nat} {X : List Nat} {W W1 W2 : World} (h : MvX B X W W1) (k : MvX B X W1 W2) : MvX B X W W2 :=
  ⟨k.os.trans h.os, k.tape.trans h.tape, k.output.trans h.output, Nat.le_trans h.size k.size, fun i hi => (k.low i hi).trans (h.low i hi), fun i o hd ho hr => k.keep i o hd (h.keep i o hd ho hr) hr⟩
theorem MvX.mono {B : Nat} {X X' : List Nat} {W W' : World} (h : MvX B X W W') (hx : ∀ k, k ∈ X → k ∈ X') : MvX B X' W W' :=
  ⟨h.os, h.tape, h.output, h.size, h.low, fun k o hk => h.keep k o (fun e => hk (hx k e))⟩
theorem MvX.alloc {B : Nat} {X : List Nat} {W W1 : World} (h : MvX B X W W1) (hB : B ≤ W1.heap.size) (o : Obj) : MvX B X W (W1.alloc o) :=
  h.trans ⟨rfl, rfl, rfl, by simp, fun k hk => Below.heap_alloc _ _ _ (by omega), fun k o' _ ho _ => (Below.heap_alloc _ _ _ (Array.getElem?_eq_some_iff.1 ho).1).trans ho⟩
theorem MvX.drew {B : Nat} {X : List Nat} {W W1 : World} (h : MvX B X W W1) : MvX B X W W1.drew := ⟨h.os, h.tape, h.output, h.size, h.low, h.keep⟩
theorem MvX.drewN {B : Nat} {X : List Nat} {W W1 : World} (h : MvX B X W W1) (n : Nat) : MvX B X W (W1.drewN n) := ⟨h.os, h.tape, h.output, h.size, h.low, h.keep⟩
theorem MvX.setCell {B : Nat} {X : List Nat} {W W1 : World} (h : MvX B X W W1) {b : Nat} (hb : b ∈ X) (hB : B ≤ b) (j : Nat) (v : Value) : MvX B X W (W1.setCell ⟨b, j, none⟩ v) :=
  h.trans ⟨rfl, rfl, rfl, by simp, fun k hk => Below.heap_setCell _ _ _ _ (by show k ≠ b; omega), fun k o hd ho _ => (Below.heap_setCell _ _ _ _ (by show k ≠ b; intro e; exact hd (e ▸ hb))).trans ho⟩
theorem MvX.putObj {B : Nat} {X : List Nat} {W W1 : World} (h : MvX B X W W1) {b : Nat} (hb : b ∈ X) (hB : B ≤ b) (o : Obj) : MvX B X W (W1.putObj b o) :=
  h.trans ⟨rfl, rfl, rfl, by simp [World.putObj], fun k hk => World.putObj_heap_other (by omega), fun k o hd ho _ => (World.putObj_heap_other (by intro e; exact hd (e ▸ hb))).trans ho⟩
theorem Led.putObj {B d : Nat} {sr : Value} {bs : List UInt8} {W : World} (h : Led B d sr bs W) (b : Nat) (o o' : Obj) (hb : b ≠ d) (ho : W.heap[b]? = some o) (hr : isRow o = false) : Led B d sr bs (W.putObj b o') :=
  h.obj b o hb ho hr (fun _ hk => World.putObj_heap_other hk)

theorem depW (m : Nat) : Fence.wide.depth.isSome = true → 1 ≤ m := fun h => by simp [Fence.wide] at h
theorem mixed : Try.prog.follows .mixedOrders = true := by kernel_rfl
theorem cells_ne_loop {W : World} {a b : Nat} {c : Array Value} {t : TypeId} {f : Nat × Nat} {r : Loop} (h : W.heap[a]? = some (.cells c t f)) (h' : W.heap[b]? = some (.loop r)) : a ≠ b := by
  intro e
  rw [e, h'] at h
  cases h

set_option maxRecDepth 100000 in
set_option maxHeartbeats 2000000 in
/-- ONE ROUND OF Head's LOOP, its record ready: the value reaches the ledger; behind the n-th it breaks. -/
theorem inner_go (r : Loop) (hst : r.state = .ready) (hps : r.params = #[41]) (hfn : r.fn = 9) (u0 u1 u2 u7 u8 u9 u10 u11 u12 u13 u14 u15 u16 u17 u18 u19 u20 u21 u22 u23 u24 u25 u26 u27 u28 u29 u30 u31 u32 u33 u34 u35 u36 u37 u38 u39 u40 u41 u42 u43 u44 u45 u46 u47 u48 u49 u50 u51 u52 u53 u54 u55 u56 : Value) (bd bi bn ba : Nat) (htm : r.tmps = #[u0, u1, u2, .pointer (some ⟨bd, 0, none⟩), .pointer (some ⟨bi, 0, none⟩), .pointer (some ⟨bn, 0, none⟩), .pointer (some ⟨ba, 0, none⟩), u7, u8, u9, u10, u11, u12, u13, u14, u15, u16, u17, u18, u19, u20, u21, u22, u23, u24, u25, u26, u27, u28, u29, u30, u31, u32, u33, u34, u35, u36, u37, u38, u39, u40, u41, u42, u43, u44, u45, u46, u47, u48, u49, u50, u51, u52, u53, u54, u55, u56]) (hAB : Try.f9.body.bind rangeParts = some (r.assign, r.body))
    (B d l : Nat) (sr : Value) (bs : List UInt8) (x : Int) (s : ByteArray) (hs : s.size ≤ 10) (C : ∀ W, Calls Try.prog 24 #[.int .i64 x, .int .i64 0] W fun e W' => e = .returned (.string s) ∧ Below W.heap.size W W')
    (n N : Nat) (hN : N ≤ 10) (hn : n ≤ 10) (hl : bs.length ≤ 1000) (W : World) (hL : W.heap[l]? = some (.loop r))
    (hbd : W.heap[bd]? = some (.cells #[.pointer (some ⟨d, 0, none⟩)] 22)) (hbi : W.heap[bi]? = some (.cells #[.int .i64 0] 3)) (hbn : W.heap[bn]? = some (.cells #[.int .i64 n] 3))
    (hba : W.heap[ba]? = some (.cells #[.int .i64 0, .int .i64 N, .int .i64 0, .string { data := #[] }] 26)) (hled : Led B d sr bs W) (hBl : B ≤ l) (hBa : B ≤ ba) (m : Nat) (R : Ending → World → Prop)
    (hR : ∀ W', Led B d sr (bs ++ s.data.toList) W' → W'.heap[ba]? = some (.cells #[.int .i64 0, .int .i64 (N + 1 : Nat), .int .i64 0, .string { data := #[] }] 26) →
      W'.heap[l]? = some (.loop { r with state := if N + 1 = n then .done else .ready, pending := if N + 1 = n then some (.exit 0) else none }) → MvX B [d, ba, l] W W' → R (.returned (.bool (decide (N + 1 ≠ n)))) W') :
    YieldAt Fence.wide m Try.prog l #[.int .i64 x] W R := by
  simp only [Try.f9, Option.bind_some, rangeParts, Option.some.injEq, Prod.mk.injEq] at hAB
  obtain ⟨hA, hBd⟩ := hAB
  have nd : bd ≠ l := cells_ne_loop hbd hL
  have ni : bi ≠ l := cells_ne_loop hbi hL
  have nn : bn ≠ l := cells_ne_loop hbn hL
  have na : ba ≠ l := cells_ne_loop hba hL
  have ndl : d ≠ l := by obtain ⟨v, hv, _⟩ := hled; exact cells_ne_loop hv hL
  have nda : d ≠ ba := by obtain ⟨v, hv, _⟩ := hled; intro e; rw [e, hba] at hv; cases hv
  refine yield_ready hL hst (by rw [hps]; rfl) (by rw [hfn]; exact ⟨_, Try.func9⟩) ⟨#[u0, u1, u2, .pointer (some ⟨bd, 0, none⟩), .pointer (some ⟨bi, 0, none⟩), .pointer (some ⟨bn, 0, none⟩), .pointer (some ⟨ba, 0, none⟩), .int .i64 x, u8, u9, u10, u11, u12, u13, u14, u15, u16, u17, u18, u19, u20, u21, u22, u23, u24, u25, u26, u27, u28, u29, u30, u31, u32, u33, u34, u35, u36, u37, u38, u39, u40, .int .i64 x, u42, u43, u44, u45, u46, u47, u48, u49, u50, u51, u52, u53, u54, u55, u56], []⟩ ?_ ?_
  · intro K hK
    rw [hps, htm, ← hA]
    clear hA hBd hL hR hps htm C
    gi_wp2
    exact hK
  · have hled1 : Hid (Led B d sr bs (W.putObj l (.loop { r with state := .busy }))) := hled.putObj l _ _ (Ne.symm ndl) hL rfl
    have hm1 : Hid (MvX B [d, ba, l] W (W.putObj l (.loop { r with state := .busy }))) := (MvX.refl B _ W).putObj (by simp) hBl _
    have hL1 : Hid ((W.putObj l (.loop { r with state := .busy })).heap[l]? = some (.loop { r with state := .busy })) := World.putObj_heap_same (Array.getElem?_eq_some_iff.1 hL).1
    have cd : (W.putObj l (.loop { r with state := .busy })).cell? ⟨bd, 0, none⟩ = some (.pointer (some ⟨d, 0, none⟩)) := by rw [cell_at _ _ _ _ _ ((World.putObj_heap_other nd).trans hbd)]; rfl
    have ci : (W.putObj l (.loop { r with state := .busy })).cell? ⟨bi, 0, none⟩ = some (.int .i64 0) := by rw [cell_at _ _ _ _ _ ((World.putObj_heap_other ni).trans hbi)]; rfl
    have hn1 : Hid _ := (World.putObj_heap_other (o := .loop { r with state := .busy }) nn).trans hbn
    have ha1 : Hid _ := (World.putObj_heap_other (o := .loop { r with state := .busy }) na).trans hba
    have HR : Hid _ := hR
    clear hL hbd hbi hbn hba hA hst hps hfn htm hled hR
    revert hled1 hm1 hL1 cd ci hn1 ha1
    generalize W.putObj l (.loop { r with state := .busy }) = W1
    intro hled1 hm1 hL1 cd ci hn1 ha1
    rw [← hBd]
    clear hBd
    have KEY : Hid _ := fun k => got_any B d sr bs x s hs C (W1.drewN k) (hled1.out.drewN k) hl
    clear C
    have hmix := mixed
    gi_wp2_with fail
    refine wpIn_mono (Q := fun e a' w' => e = .normal ∧ a' = ⟨#[u0, u1, u2, .pointer (some ⟨bd, 0, none⟩), .pointer (some ⟨bi, 0, none⟩), .pointer (some ⟨bn, 0, none⟩), .pointer (some ⟨ba, 0, none⟩), .int .i64 x, u8, u9, u10, u11, u12, u13, u14, u15, u16, u17, u18, u19, u20, u21, u22, u23, u24, u25, u26, u27, u28, u29, u30, u31, u32, u33, u34, u35, u36, u37, u38, u39, u40, .int .i64 x, .pointer (some ⟨d, 0, none⟩), .pointer (some ⟨d, 0, none⟩), .pointer (some ⟨d, 1, none⟩), .int .i64 x, .int .i64 0, .tuple #[], u48, u49, u50, u51, u52, u53, u54, u55, u56], []⟩ ∧ Led B d sr (bs ++ s.data.toList) w' ∧ Mv B d W1 w') ?_ ?_
    · gi_region_with_o (refine ⟨trivial, depW _, ?_⟩; gi_at_call 16; refine (CallsIn.inRound l (callsIn_wide.2 (KEY.out 1))).mono ?_; rintro e W2 ⟨rfl, hl2, hm2⟩)
      all_goals exact ⟨rfl, rfl, hl2, ⟨hm2.os, hm2.tape, hm2.output, hm2.size, hm2.low, hm2.keep⟩⟩
    · rintro e a' W2 ⟨rfl, rfl, hl2, hm2⟩
      have ha2 := hm2.keep ba _ (Ne.symm nda) ha1.out rfl
      have hn2 := hm2.keep bn _ (by obtain ⟨v, hv, _⟩ := hled1.out; intro e; rw [← e, hn1.out] at hv; cases hv) hn1.out rfl
      have hL2 : Hid (W2.heap[l]? = _) := hm2.keep l _ (Ne.symm ndl) hL1.out rfl
      have ca : W2.cell? ⟨ba, 1, none⟩ = some (.int .i64 N) := by rw [cell_at _ _ _ _ _ ha2]; rfl
      have fa : W2.frozen? ⟨ba, 1, none⟩ = false := frozen_at _ _ _ _ _ ha2
      have cn : W2.cell? ⟨bn, 0, none⟩ = some (.int .i64 n) := by rw [cell_at _ _ _ _ _ hn2]; rfl
      have HA2 : Hid _ := ha2
      have HL2 : Hid (Led B d sr (bs ++ s.data.toList) W2) := hl2
      have HM2 : Hid _ := hm2
      have nan : ba ≠ bn := by intro e; rw [e, hn2] at ha2; cases ha2
      clear ha2 hn2 hl2 hm2 KEY cd ci hn1 ha1 hL1 hled1
      have fin : ∀ (o : Obj), Led B d sr (bs ++ s.data.toList) ((W2.setCell ⟨ba, 1, none⟩ (.int .i64 (N + 1 : Nat))).putObj l o) ∧
          ((W2.setCell ⟨ba, 1, none⟩ (.int .i64 (N + 1 : Nat))).putObj l o).heap[ba]? = some (.cells #[.int .i64 0, .int .i64 (N + 1 : Nat), .int .i64 0, .string { data := #[] }] 26) ∧
          ((W2.setCell ⟨ba, 1, none⟩ (.int .i64 (N + 1 : Nat))).putObj l o).heap[l]? = some o ∧ MvX B [d, ba, l] W ((W2.setCell ⟨ba, 1, none⟩ (.int .i64 (N + 1 : Nat))).putObj l o) ∧
          (W2.setCell ⟨ba, 1, none⟩ (.int .i64 (N + 1 : Nat))).heap[l]? = some (.loop { r with state := .busy }) := by
        intro o
        have h1 : (W2.setCell ⟨ba, 1, none⟩ (.int .i64 (N + 1 : Nat))).heap[l]? = some (.loop { r with state := .busy }) := (Below.heap_setCell _ _ _ _ (Ne.symm na)).trans hL2.out
        refine ⟨(HL2.out.setCell ba 1 _ (Ne.symm nda) _ HA2.out rfl).putObj l _ _ (Ne.symm ndl) h1 rfl, ?_, World.putObj_heap_same (Array.getElem?_eq_some_iff.1 h1).1, ?_, h1⟩
        · rw [World.putObj_heap_other na, block_set _ _ _ _ _ _ HA2.out]; rfl
        · exact ((hm1.out.trans (HM2.out.x (by simp))).setCell (by simp) hBa _ _).putObj (by simp) hBl _
      have FIN : Hid _ := fin
      clear fin
      by_cases hbr : N + 1 = n
      · have ht : ((N : Int) + 1 == (n : Int)) = true := by simp; omega
        gi_wp2
        have e : (N : Int) + 1 = ((N + 1 : Nat) : Int) := by omega
        rw [e]
        obtain ⟨f1, f2, f3, f4, f5⟩ := FIN.out (.loop { r with state := .done, pending := some (.exit 0) })
        have hR' := HR.out _ f1 f2 (by rw [if_pos hbr, if_pos hbr]; exact f3) f4
        rw [show decide (N + 1 ≠ n) = false by simp [hbr]] at hR'
        exact ⟨f5, hR'⟩
      · have ht : ((N : Int) + 1 == (n : Int)) = false := by simp; omega
        gi_wp2
        have e : (N : Int) + 1 = ((N + 1 : Nat) : Int) := by omega
        rw [e]
        obtain ⟨f1, f2, f3, f4, f5⟩ := FIN.out (.loop { r with state := .ready, pending := none })
        have hR' := HR.out _ f1 f2 (by rw [if_neg hbr, if_neg hbr]; exact f3) f4
        rw [show decide (N + 1 ≠ n) = true by simp [hbr]] at hR'
        exact ⟨f5, hR'⟩
end Go.Proofs.Qxb6500382a
