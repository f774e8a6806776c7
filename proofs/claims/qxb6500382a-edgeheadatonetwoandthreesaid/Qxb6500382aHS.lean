import Derived.Test.Qxb6500382aRescue
namespace Go.Proofs.Qxb6500382a
open Go.RowKit Go.Shelf
attribute [local go_sem] Oper.semAt_some

/-- What is fixed of the record of Head's loop. -/
def Rec1 (bd bi bn ba : Nat) (r : Loop) : Prop :=
  r.params = #[41] ∧ r.fn = 9 ∧ Try.f9.body.bind rangeParts = some (r.assign, r.body) ∧ ∃ u0 u1 u2 u7 u8 u9 u10 u11 u12 u13 u14 u15 u16 u17 u18 u19 u20 u21 u22 u23 u24 u25 u26 u27 u28 u29 u30 u31 u32 u33 u34 u35 u36 u37 u38 u39 u40 u41 u42 u43 u44 u45 u46 u47 u48 u49 u50 u51 u52 u53 u54 u55 u56 : Value, r.tmps = #[u0, u1, u2, .pointer (some ⟨bd, 0, none⟩), .pointer (some ⟨bi, 0, none⟩), .pointer (some ⟨bn, 0, none⟩), .pointer (some ⟨ba, 0, none⟩), u7, u8, u9, u10, u11, u12, u13, u14, u15, u16, u17, u18, u19, u20, u21, u22, u23, u24, u25, u26, u27, u28, u29, u30, u31, u32, u33, u34, u35, u36, u37, u38, u39, u40, u41, u42, u43, u44, u45, u46, u47, u48, u49, u50, u51, u52, u53, u54, u55, u56]
/-- What is fixed of the record of the source's loop. -/
def Rec2 (bl bi bs by_ bj : Nat) (r : Loop) : Prop :=
  r.params = #[16] ∧ r.fn = 20 ∧ Try.f20.body.bind rangeParts = some (r.assign, r.body) ∧ ∃ u0 u6 u7 u8 u9 u10 u11 u12 u13 u14 u15 u16 u17 u18 u19 u20 u21 u22 u23 u24 u25 u26 u27 u28 u29 u30 u31 u32 u33 u34 u35 u36 u37 u38 u39 u40 u41 u42 u43 u44 u45 u46 u47 u48 u49 u50 u51 u52 u53 u54 u55 u56 u57 : Value, r.tmps = #[u0, .pointer (some ⟨bl, 0, none⟩), .pointer (some ⟨bi, 0, none⟩), .pointer (some ⟨bs, 0, none⟩), .pointer (some ⟨by_, 0, none⟩), .pointer (some ⟨bj, 0, none⟩), u6, u7, u8, u9, u10, u11, u12, u13, u14, u15, u16, u17, u18, u19, u20, u21, u22, u23, u24, u25, u26, u27, u28, u29, u30, u31, u32, u33, u34, u35, u36, u37, u38, u39, u40, u41, u42, u43, u44, u45, u46, u47, u48, u49, u50, u51, u52, u53, u54, u55, u56, u57]

/-- The record of Head's loop, k values having come. -/
def st1 (r : Loop) (n k : Nat) : Loop := { r with state := if n ≤ k then .done else .ready, pending := if n ≤ k then some (.exit 0) else none }

/-- Head's side, k values having come. -/
structure HS (n k l1 bd bi bn ba d : Nat) (r1 : Loop) (W : World) : Prop where
  hbd : W.heap[bd]? = some (.cells #[.pointer (some ⟨d, 0, none⟩)] 22)
  hbi : W.heap[bi]? = some (.cells #[.int .i64 0] 3)
  hbn : W.heap[bn]? = some (.cells #[.int .i64 n] 3)
  hba : W.heap[ba]? = some (.cells #[.int .i64 0, .int .i64 k, .int .i64 0, .string { data := #[] }] 26)
  hL : W.heap[l1]? = some (.loop (st1 r1 n k))

theorem HS.mv {n k l1 bd bi bn ba d B : Nat} {r1 : Loop} {X : List Nat} {W W' : World} (h : HS n k l1 bd bi bn ba d r1 W) (m : MvX B X W W') (x1 : bd ∉ X) (x2 : bi ∉ X) (x3 : bn ∉ X) (x4 : ba ∉ X) (x5 : l1 ∉ X) : HS n k l1 bd bi bn ba d r1 W' :=
  ⟨m.keep _ _ x1 h.hbd rfl, m.keep _ _ x2 h.hbi rfl, m.keep _ _ x3 h.hbn rfl, m.keep _ _ x4 h.hba rfl, m.keep _ _ x5 h.hL rfl⟩

/-- A value reaches Head. -/
theorem HS.go {n k l1 bd bi bn ba d B : Nat} {r1 : Loop} {W : World} (h : HS n k l1 bd bi bn ba d r1 W) (hr : Rec1 bd bi bn ba r1) (hk : k < n) (hn : n ≤ 9) (sr : Value) (bb : List UInt8) (hlb : bb.length ≤ 900) (hled : Led B d sr bb W) (hBl : B ≤ l1) (hBa : B ≤ ba)
    (x : Int) (s : ByteArray) (hs : s.size ≤ 10) (C : ∀ W, Calls Try.prog 24 #[.int .i64 x, .int .i64 0] W fun e W' => e = .returned (.string s) ∧ Below W.heap.size W W') (y1 : bd ∉ [d, ba, l1]) (y2 : bi ∉ [d, ba, l1]) (y3 : bn ∉ [d, ba, l1]) (m : Nat) :
    YieldAt Fence.wide m Try.prog l1 #[.int .i64 x] W fun e W' => (∃ b, e = .returned (.bool b)) ∧ HS n (k + 1) l1 bd bi bn ba d r1 W' ∧ Led B d sr (bb ++ s.data.toList) W' ∧ MvX B [d, ba, l1] W W' := by
  obtain ⟨h1, h2, h3, u0, u1, u2, u7, u8, u9, u10, u11, u12, u13, u14, u15, u16, u17, u18, u19, u20, u21, u22, u23, u24, u25, u26, u27, u28, u29, u30, u31, u32, u33, u34, u35, u36, u37, u38, u39, u40, u41, u42, u43, u44, u45, u46, u47, u48, u49, u50, u51, u52, u53, u54, u55, u56, h4⟩ := hr
  have hL := h.hL
  have e1 : st1 r1 n k = { r1 with state := .ready, pending := none } := by unfold st1; rw [if_neg (by omega), if_neg (by omega)]
  rw [e1] at hL
  refine inner_go { r1 with state := .ready, pending := none } rfl h1 h2 u0 u1 u2 u7 u8 u9 u10 u11 u12 u13 u14 u15 u16 u17 u18 u19 u20 u21 u22 u23 u24 u25 u26 u27 u28 u29 u30 u31 u32 u33 u34 u35 u36 u37 u38 u39 u40 u41 u42 u43 u44 u45 u46 u47 u48 u49 u50 u51 u52 u53 u54 u55 u56 bd bi bn ba h4 h3 B d l1 sr bb x s hs C n k (by omega) (by omega) (by omega) W hL h.hbd h.hbi h.hbn h.hba hled hBl hBa m _ ?_
  intro W' g1 g2 g3 g4
  refine ⟨⟨_, rfl⟩, ⟨g4.keep _ _ y1 h.hbd rfl, g4.keep _ _ y2 h.hbi rfl, g4.keep _ _ y3 h.hbn rfl, g2, ?_⟩, g1, g4⟩
  rw [g3]
  unfold st1
  by_cases e : k + 1 = n
  · rw [if_pos e, if_pos e, if_pos (by omega), if_pos (by omega)]
  · rw [if_neg e, if_neg e, if_neg (by omega), if_neg (by omega)]

/-- Head has had enough: a run-time error. -/
theorem HS.die {n k l1 bd bi bn ba d : Nat} {r1 : Loop} {W : World} (h : HS n k l1 bd bi bn ba d r1 W) (hr : Rec1 bd bi bn ba r1) (hk : n ≤ k) (x : Int) (m : Nat) :
    YieldAt Fence.wide m Try.prog l1 #[.int .i64 x] W fun e W' => (∃ sv, e = .panicked [{ v := .iface 10 (.string sv), recovered := false }]) ∧ ∃ o, W' = W.putObj l1 o := by
  obtain ⟨h1, h2, h3, u0, u1, u2, u7, u8, u9, u10, u11, u12, u13, u14, u15, u16, u17, u18, u19, u20, u21, u22, u23, u24, u25, u26, u27, u28, u29, u30, u31, u32, u33, u34, u35, u36, u37, u38, u39, u40, u41, u42, u43, u44, u45, u46, u47, u48, u49, u50, u51, u52, u53, u54, u55, u56, h4⟩ := hr
  have hL := h.hL
  obtain ⟨sv, hb⟩ := begin_done hL (by unfold st1; rw [if_pos hk])
  simp only [Try.f9, Option.bind_some, rangeParts, Option.some.injEq, Prod.mk.injEq] at h3
  obtain ⟨hA, _⟩ := h3
  refine yield_done hL (by unfold st1; rw [h1]; rfl) (by unfold st1; rw [h2]; exact ⟨_, Try.func9⟩) ⟨#[u0, u1, u2, .pointer (some ⟨bd, 0, none⟩), .pointer (some ⟨bi, 0, none⟩), .pointer (some ⟨bn, 0, none⟩), .pointer (some ⟨ba, 0, none⟩), .int .i64 x, u8, u9, u10, u11, u12, u13, u14, u15, u16, u17, u18, u19, u20, u21, u22, u23, u24, u25, u26, u27, u28, u29, u30, u31, u32, u33, u34, u35, u36, u37, u38, u39, u40, .int .i64 x, u42, u43, u44, u45, u46, u47, u48, u49, u50, u51, u52, u53, u54, u55, u56], []⟩ rfl ?_ hb ⟨⟨sv, rfl⟩, _, rfl⟩
  intro K hK
  unfold st1
  simp only
  rw [h1, h4, ← hA]
  clear hA hL h1 h2 h4 hb h
  gi_wp2
  exact hK
end Go.Proofs.Qxb6500382a
