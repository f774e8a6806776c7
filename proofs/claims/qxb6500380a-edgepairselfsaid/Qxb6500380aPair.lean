import Derived.Test.Qxb6500380aPairW
import Derived.Test.Qxb6500380aText
import Derived.Deep.RegionWith
namespace Go.Proofs.Qxb6500380a
open Go.RowKit

theorem add_at (g j : Nat) : (⟨g, 0, none⟩ : Addr).add j = ⟨g, j, none⟩ := by
  unfold Addr.add
  split <;> simp_all
theorem fill6 (xs : List Nat) (hn : xs.length = 6) (b cap : Nat) (w : World) (hb : b < w.heap.size)
    (hc : ∀ j, j < 6 → w.cell? ⟨b, j, none⟩ = some (.int .i64 (xs.getD j 0 : Nat))) :
    Calls Try.prog 25 #[.slice (some ⟨b, 0, none⟩) 6 cap] w fun e w' => e = .returned (.chan (some w.heap.size)) ∧ w' = w.alloc (.chan 6 (chBuf xs) false 6 0 false) := by
  have h := fill_any xs (by omega) b cap w hb (fun j hj => hc j (by omega))
  rw [hn] at h
  exact h
theorem text6 (xs : List Nat) (hx : ∀ x ∈ xs, x < 256) (hn : xs.length = 6) (b cap : Nat) (w : World)
    (hc : ∀ j, j < 6 → w.cell? ⟨b, j, none⟩ = some (.int .i64 (xs.getD j 0 : Nat))) :
    Calls Try.prog 26 #[.slice (some ⟨b, 0, none⟩) 6 cap] w fun e w' => e = .returned (.string (textBA xs)) ∧ ∃ n, w' = w.drewN n := by
  have h := text_any xs hx (by omega) b cap w (fun j hj => hc j (by omega))
  rw [hn] at h
  exact h

/-- The order of arrival as text. -/
def ordBA (bs : List Bool) : ByteArray := { data := (bs.map fun b => if b then (49 : UInt8) else 48).toArray }
theorem ordBA_false (bs : List Bool) : ordBA bs ++ { data := #[48] } = ordBA (bs ++ [false]) := by
  apply ByteArray.ext
  simp [ordBA]
theorem ordBA_true (bs : List Bool) : ordBA bs ++ { data := #[49] } = ordBA (bs ++ [true]) := by
  apply ByteArray.ext
  simp [ordBA]
theorem ordBA_size (bs : List Bool) : (ordBA bs).size = bs.length := by simp [ordBA, ByteArray.size]
theorem count_len (bs : List Bool) : bs.length = bs.count false + bs.count true := by
  induction bs with
  | nil => rfl
  | cons b bs ih => cases b <;> simp [ih] <;> omega
def psum (xs : List Nat) (k : Nat) : Nat := (xs.take k).sum
theorem psum_succ (xs : List Nat) (k : Nat) (h : k < xs.length) : psum xs (k + 1) = psum xs k + xs.getD k 0 := by
  unfold psum
  rw [List.take_succ_eq_append_getElem h, List.sum_append, List.getD_eq_getElem?_getD, List.getElem?_eq_getElem h]
  simp
theorem psum_le (xs : List Nat) (hx : ∀ x ∈ xs, x < 256) (k : Nat) : psum xs k ≤ 256 * k := by
  induction k with
  | zero => simp [psum]
  | succ k ih =>
    by_cases h : k < xs.length
    · rw [psum_succ xs k h]
      have : xs.getD k 0 < 256 := by rw [List.getD_eq_getElem?_getD, List.getElem?_eq_getElem h]; exact hx _ (List.getElem_mem h)
      omega
    · have e : psum xs (k + 1) = psum xs k := by unfold psum; rw [List.take_of_length_le (by omega), List.take_of_length_le (by omega)]
      omega

theorem len_chan {w : World} {c cap s r : Nat} {buf : Array Value} {closed : Bool} (ty : TypeId) (hc : w.heap[c]? = some (.chan cap buf closed s r false)) :
    (Builtin.len_ #[39] ty #[.chan (some c)]).run Try.prog w = .ok (goInt buf.size) w := by
  simp [Builtin.len_, run_underlying Try.underlying39, Sem.run, getObj, hc]
/-- The text that Pair answers. -/
def pairBA (xs : List Nat) (bs : List Bool) : ByteArray := textBA xs ++ { data := #[59] } ++ textBA xs ++ { data := #[59] } ++ ordBA bs

theorem pairS_start (w : World) (xs : List Nat) : PairS w xs 0 0 0 0 (.slice none 0 0) (.slice none 0 0)
    (((w.alloc (.chan 6 (chBuf xs) false 6 0 false)).alloc (.chan 6 (chBuf xs) false 6 0 false)).alloc (.cells #[.slice none 0 0, .slice none 0 0] 52)) := by
  have h2 := heap_new (w.alloc (.chan 6 (chBuf xs) false 6 0 false)) (.chan 6 (chBuf xs) false 6 0 false)
  have h3 := heap_new ((w.alloc (.chan 6 (chBuf xs) false 6 0 false)).alloc (.chan 6 (chBuf xs) false 6 0 false)) (.cells #[.slice none 0 0, .slice none 0 0] 52)
  simp only [World.size_alloc] at h2 h3
  refine ⟨?_, ?_, h3, World.ownsRow_nil _ _ _ _, World.ownsRow_nil _ _ _ _, by simp [Value.ownBlock], ?_⟩
  · rw [Below.heap_alloc _ _ _ (by simp; omega), Below.heap_alloc _ _ _ (by simp)]; exact heap_new _ _
  · rw [Below.heap_alloc _ _ _ (by simp)]; exact h2
  · exact (((Below.refl w.heap.size w).alloc (Nat.le_refl _) _).alloc (by simp) _).alloc (by simp; omega) _

theorem results_tmp4 {fn : Func} {t u v x : Tmp} (h : fn.results = #[.tmp t, .tmp u, .tmp v, .tmp x]) (tmps : Array Value) (P : Program) (w : World) :
    (results fn tmps).run P w = .ok (.tuple #[tmps.getD t undef, tmps.getD u undef, tmps.getD v undef, tmps.getD x undef]) w := by
  simp [results, h, go_sem]

set_option maxHeartbeats 400000 in
theorem pair_any (xs : List Nat) (hx : ∀ x ∈ xs, x < 256) (hn : xs.length = 6) (m b : Nat) (w : World) (hm : w.cell? ⟨m, 1, none⟩ = some (.slice (some ⟨b, 0, none⟩) 6 6)) (hml : m < w.heap.size) (hb : b < w.heap.size)
    (hc : ∀ j, j < 6 → w.cell? ⟨b, j, none⟩ = some (.int .i64 (xs.getD j 0 : Nat))) :
    Calls Try.prog 20 #[.pointer (some ⟨m, 0, none⟩), .int .i64 1, .int .i64 1] w fun e w' => ∃ bs : List Bool, bs.count false = 6 ∧ bs.count true = 6 ∧
      e = .returned (.tuple #[.int .i64 12, .int .i64 (psum xs 6 + psum xs 6 : Nat), .string (pairBA xs bs), .int .i64 0]) ∧ Below w.heap.size w w' := by
  have f1 := fill6 xs hn b 6 w hb hc
  have hb2 : b < (w.alloc (.chan 6 (chBuf xs) false 6 0 false)).heap.size := by simp; omega
  have f2 := fill6 xs hn b 6 (w.alloc (.chan 6 (chBuf xs) false 6 0 false)) hb2 (fun j hj => (((Below.refl w.heap.size w).alloc (Nat.le_refl _) _).cell (p := ⟨b, j, none⟩) hb).trans (hc j hj))
  have hla : (Builtin.len_ #[39] 3 #[.chan (some w.heap.size)]).run Try.prog ((w.alloc (.chan 6 (chBuf xs) false 6 0 false)).alloc (.chan 6 (chBuf xs) false 6 0 false)) = .ok (.int .i64 6) ((w.alloc (.chan 6 (chBuf xs) false 6 0 false)).alloc (.chan 6 (chBuf xs) false 6 0 false)) := by
    rw [len_chan 3 ((Below.heap_alloc _ _ _ (by simp)).trans (heap_new _ _)), chBuf_size, hn]; rfl
  have hlb : (Builtin.len_ #[39] 3 #[.chan (some (w.heap.size + 1))]).run Try.prog ((w.alloc (.chan 6 (chBuf xs) false 6 0 false)).alloc (.chan 6 (chBuf xs) false 6 0 false)) = .ok (.int .i64 6) ((w.alloc (.chan 6 (chBuf xs) false 6 0 false)).alloc (.chan 6 (chBuf xs) false 6 0 false)) := by
    have e : ((w.alloc (.chan 6 (chBuf xs) false 6 0 false)).alloc (.chan 6 (chBuf xs) false 6 0 false)).heap[w.heap.size + 1]? = some (.chan 6 (chBuf xs) false 6 0 false) := by
      have := heap_new (w.alloc (.chan 6 (chBuf xs) false 6 0 false)) (.chan 6 (chBuf xs) false 6 0 false)
      simpa only [World.size_alloc] using this
    rw [len_chan 3 e, chBuf_size, hn]; rfl
  have HX : Hid (∀ x ∈ xs, x < 256) := hx
  have HN : Hid (xs.length = 6) := hn
  clear hx hn hc
  go_enter Try.func20, Try.ntmps20
  go_wp2_with (first
    | (go_at_call 25; refine f1.mono ?_; rintro e w' ⟨rfl, rfl⟩)
    | (go_at_call 25; refine f2.mono ?_; rintro e w' ⟨rfl, rfl⟩))
  go_loopw [14, 15, 16] (fun s o i wr => ∃ (bs : List Bool) (v0 v1 : Value), bs.count false ≤ 6 ∧ bs.count true ≤ 6 ∧ i = .int .i64 (bs.count false + bs.count true : Nat) ∧ o = .string (ordBA bs) ∧
      s = .int .i64 (psum xs (bs.count false) + psum xs (bs.count true) : Nat) ∧ PairS w xs (bs.count false) (bs.count true) (bs.count false) (bs.count true) v0 v1 wr)
    (fun _ _ i _ => 12 - (intOf i).toNat)
  case atStart => exact ⟨[], _, _, by simp, by simp, rfl, rfl, rfl, pairS_start w xs⟩
  case round =>
    obtain ⟨bs, v0, v1, hk0, hk1, rfl, rfl, rfl, hS⟩ := hrel
    have HS : Hid (PairS w xs (bs.count false) (bs.count true) (bs.count false) (bs.count true) v0 v1 wr) := hS
    have hz := ordBA_size bs
    have hlen := count_len bs
    clear hS f1 f2 hla hlb
    obtain ⟨k0, ek0⟩ : ∃ k, bs.count false = k := ⟨_, rfl⟩
    obtain ⟨k1, ek1⟩ : ∃ k, bs.count true = k := ⟨_, rfl⟩
    have E0 : Hid (bs.count false = k0) := ek0
    have E1 : Hid (bs.count true = k1) := ek1
    have hzz : (ordBA bs).size ≤ 12 := by omega
    rw [ek0] at HS hk0 ⊢
    rw [ek1] at HS hk1 ⊢
    clear ek0 ek1 hz hlen
    by_cases hlt : k0 + k1 < 12
    · go_upto_region 14 with fail
      refine inReg_region4 ?_
      refine inReg_select (c := w.heap.size) (c' := w.heap.size + 1) (z := .int .i64 0) (z' := .int .i64 0) rfl rfl (by simp [go_sem, execOp, Act.eval]) HS.out.ca HS.out.cb ?_ ?_ ?_
      · simp only [chBuf_size, List.length_drop, HN.out]; omega
      · intro hp n
        have hk : k0 < 6 := by simp only [chBuf_size, List.length_drop, HN.out] at hp; omega
        have HS1 : Hid (PairS w xs (k0 + 1) k1 k0 k1 v0 v1 (putCh (wr.drewN n) w.heap.size (.chan 6 ((chBuf (xs.drop k0)).extract 1 (chBuf (xs.drop k0)).size) false 6 (k0 + 1) false))) := HS.out.take0 n (by rw [HN.out]; exact hk)
        refine inReg_list3 ?_
        rw [chBuf_head xs k0 (by rw [HN.out]; exact hk)]
        generalize putCh (wr.drewN n) w.heap.size (.chan 6 ((chBuf (xs.drop k0)).extract 1 (chBuf (xs.drop k0)).size) false 6 (k0 + 1) false) = w1 at HS1 ⊢
        simp only [Act.put, List.setIfInBounds_toArray, List.set_cons_zero, List.set_cons_succ, List.getElem_toArray, List.getElem_cons_zero]
        have hp0 := psum_le xs HX.out k0
        have hp1 := psum_le xs HX.out k1
        have PS : Hid (psum xs (k0 + 1) = psum xs k0 + xs.getD k0 0) := psum_succ xs k0 (by rw [HN.out]; exact hk)
        obtain ⟨hl, v', w', hr, hc2, hf2, ⟨p', n', c', rfl⟩, hS2⟩ := HS1.out.lay0 40 (by rw [HN.out]; exact hk) (by rw [HN.out]; omega)
        have HS2 : Hid _ := hS2
        clear hS2
        have hx : xs.getD k0 0 < 256 := by rw [List.getD_eq_getElem?_getD, List.getElem?_eq_getElem (by rw [HN.out]; exact hk)]; exact HX.out _ (List.getElem_mem _)
        obtain ⟨x, ex⟩ : ∃ x, xs.getD k0 0 = x := ⟨_, rfl⟩
        rw [ex] at hr hx PS ⊢
        have hl' : w1.cell? ⟨w.heap.size + 1 + 1, 0, none⟩ = some v0 := hl
        have hc2' : w'.cell? ⟨w.heap.size + 1 + 1, 0, none⟩ = some v0 := hc2
        have hf2' : w'.frozen? ⟨w.heap.size + 1 + 1, 0, none⟩ = false := hf2
        clear hl hc2 hf2 ex hp
        obtain ⟨s0, es0⟩ : ∃ s, psum xs k0 = s := ⟨_, rfl⟩
        obtain ⟨s1, es1⟩ : ∃ s, psum xs k1 = s := ⟨_, rfl⟩
        rw [es0] at hp0 PS ⊢
        rw [es1] at hp1 ⊢
        have S1 : Hid (psum xs k1 = s1) := es1
        clear es0 es1
        go_wp2_with (at_builtin; refine wpList_append_run rfl _ _ 40 rfl rfl rfl hr ?_)
        go_roundw
        case rel =>
          refine ⟨bs ++ [false], .slice p' n' c', v1, ?_⟩
          have e0 : (bs ++ [false]).count false = k0 + 1 := by simp [E0.out]
          have e1 : (bs ++ [false]).count true = k1 := by simp [E1.out]
          rw [e0, e1, PS.out, S1.out]
          exact ⟨by omega, by omega, by go_num, by rw [← ordBA_false], by go_num, HS2.out⟩
        case measure => simp [intOf]; omega
      · intro hp n
        have hk : k1 < 6 := by simp only [chBuf_size, List.length_drop, HN.out] at hp; omega
        have HS1 : Hid (PairS w xs k0 (k1 + 1) k0 k1 v0 v1 (putCh (wr.drewN n) (w.heap.size + 1) (.chan 6 ((chBuf (xs.drop k1)).extract 1 (chBuf (xs.drop k1)).size) false 6 (k1 + 1) false))) := HS.out.take1 n (by rw [HN.out]; exact hk)
        refine inReg_list3 ?_
        rw [chBuf_head xs k1 (by rw [HN.out]; exact hk)]
        generalize putCh (wr.drewN n) (w.heap.size + 1) (.chan 6 ((chBuf (xs.drop k1)).extract 1 (chBuf (xs.drop k1)).size) false 6 (k1 + 1) false) = w1 at HS1 ⊢
        simp only [Act.put, List.setIfInBounds_toArray, List.set_cons_zero, List.set_cons_succ, List.getElem_toArray, List.getElem_cons_zero]
        have hp0 := psum_le xs HX.out k0
        have hp1 := psum_le xs HX.out k1
        have PS : Hid (psum xs (k1 + 1) = psum xs k1 + xs.getD k1 0) := psum_succ xs k1 (by rw [HN.out]; exact hk)
        obtain ⟨hl, v', w', hr, hc2, hf2, ⟨p', n', c', rfl⟩, hS2⟩ := HS1.out.lay1 40 (by rw [HN.out]; exact hk) (by rw [HN.out]; omega)
        have HS2 : Hid _ := hS2
        clear hS2
        have hx : xs.getD k1 0 < 256 := by rw [List.getD_eq_getElem?_getD, List.getElem?_eq_getElem (by rw [HN.out]; exact hk)]; exact HX.out _ (List.getElem_mem _)
        obtain ⟨x, ex⟩ : ∃ x, xs.getD k1 0 = x := ⟨_, rfl⟩
        rw [ex] at hr hx PS ⊢
        have hl' : w1.cell? ⟨w.heap.size + 1 + 1, 1, none⟩ = some v1 := hl
        have hc2' : w'.cell? ⟨w.heap.size + 1 + 1, 1, none⟩ = some v1 := hc2
        have hf2' : w'.frozen? ⟨w.heap.size + 1 + 1, 1, none⟩ = false := hf2
        clear hl hc2 hf2 ex hp
        obtain ⟨s0, es0⟩ : ∃ s, psum xs k0 = s := ⟨_, rfl⟩
        obtain ⟨s1, es1⟩ : ∃ s, psum xs k1 = s := ⟨_, rfl⟩
        rw [es0] at hp0 ⊢
        rw [es1] at hp1 PS ⊢
        have S1 : Hid (psum xs k0 = s0) := es0
        clear es0 es1
        go_wp2_with (at_builtin; refine wpList_append_run rfl _ _ 40 rfl rfl rfl hr ?_)
        go_roundw
        case rel =>
          refine ⟨bs ++ [true], v0, .slice p' n' c', ?_⟩
          have e0 : (bs ++ [true]).count false = k0 := by simp [E0.out]
          have e1 : (bs ++ [true]).count true = k1 + 1 := by simp [E1.out]
          rw [e0, e1, PS.out, S1.out]
          exact ⟨by omega, by omega, by go_num, by rw [← ordBA_true], by go_num, HS2.out⟩
        case measure => simp [intOf]; omega
    · have e0 : k0 = 6 := by omega
      have e1 : k1 = 6 := by omega
      subst e0 e1
      have hT : xs.take 6 = xs := List.take_of_length_le (by rw [HN.out]; omega)
      obtain ⟨g0, cap0, cur0, rfl, hg0⟩ : ∃ g cap cur, v0 = .slice (some ⟨g, 0, none⟩) 6 cap ∧ wr.heap[g]? = some (.cells cur 3) := by
        rcases HS.out.own0.2 with ⟨_, h⟩ | ⟨g, cap, cur, h, _, h2, _⟩
        · omega
        · exact ⟨g, cap, cur, h, h2⟩
      obtain ⟨g1, cap1, cur1, rfl, hg1⟩ : ∃ g cap cur, v1 = .slice (some ⟨g, 0, none⟩) 6 cap ∧ wr.heap[g]? = some (.cells cur 3) := by
        rcases HS.out.own1.2 with ⟨_, h⟩ | ⟨g, cap, cur, h, _, h2, _⟩
        · omega
        · exact ⟨g, cap, cur, h, h2⟩
      have hc0 : ∀ j, j < 6 → wr.cell? ⟨g0, j, none⟩ = some (.int .i64 (xs.getD j 0 : Nat)) := by
        intro j hj
        have := HS.out.own0.cells (g := g0) rfl j (.int .i64 (xs.getD j 0 : Nat)) (by
          have hj' : j < xs.length := by rw [HN.out]; exact hj
          rw [hT, ints, List.getElem?_map, List.getElem?_eq_getElem hj', List.getD_eq_getElem?_getD, List.getElem?_eq_getElem hj']; rfl)
        rw [add_at] at this; exact this
      have hc1 : ∀ j, j < 6 → wr.cell? ⟨g1, j, none⟩ = some (.int .i64 (xs.getD j 0 : Nat)) := by
        intro j hj
        have := HS.out.own1.cells (g := g1) rfl j (.int .i64 (xs.getD j 0 : Nat)) (by
          have hj' : j < xs.length := by rw [HN.out]; exact hj
          rw [hT, ints, List.getElem?_map, List.getElem?_eq_getElem hj', List.getD_eq_getElem?_getD, List.getElem?_eq_getElem hj']; rfl)
        rw [add_at] at this; exact this
      have hl0 : wr.cell? ⟨w.heap.size + 1 + 1, 0, none⟩ = some (.slice (some ⟨g0, 0, none⟩) 6 cap0) := by rw [show w.heap.size + 1 + 1 = w.heap.size + 2 from rfl, cell_at _ _ _ _ _ HS.out.got]; rfl
      have hl1 : wr.cell? ⟨w.heap.size + 1 + 1, 1, none⟩ = some (.slice (some ⟨g1, 0, none⟩) 6 cap1) := by rw [show w.heap.size + 1 + 1 = w.heap.size + 2 from rfl, cell_at _ _ _ _ _ HS.out.got]; rfl
      have t0 := text6 xs HX.out HN.out g0 cap0 wr hc0
      have t1 := fun n => text6 xs HX.out HN.out g1 cap1 (wr.drewN n) hc1
      have hts : (textBA xs).size ≤ 12 := by rw [textBA_size xs HX.out, HN.out]; omega
      have hB : Hid (Below w.heap.size w wr) := HS.out.below
      clear hc0 hc1 hT hg0 hg1
      go_wp2_with (first
        | (go_at_call_of 26 g0; refine t0.mono ?_; rintro e w' ⟨rfl, n, rfl⟩)
        | (go_at_call_of 26 g1; refine (t1 _).mono ?_; rintro e w' ⟨rfl, n, rfl⟩))
      refine bodyPost_ret (results_tmp4 Try.results20 _ _ _) rfl ⟨bs, E0.out, E1.out, ?_, ?_⟩
      · rw [Int.natCast_add]; rfl
      exact ⟨hB.out.os, hB.out.tape, hB.out.output, hB.out.size, hB.out.block⟩
end Go.Proofs.Qxb6500380a
