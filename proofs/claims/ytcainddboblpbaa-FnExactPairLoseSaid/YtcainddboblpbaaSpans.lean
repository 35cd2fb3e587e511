/- The program's spansOf: of each block the least and the greatest number of its records. -/
import Derived.Test.YtcainddboblpbaaEach
import Derived.Test.YtcainddboblpbaaImplG
set_option linter.unusedVariables false
set_option linter.unusedSimpArgs false
namespace Go.Bu
open Go Go.RowKit Go.Plan Go.Proofs Go.Shelf
attribute [local go_sem] Oper.semAt_some

abbrev Span := Int × Int
def spanC (s : Span) : List Value := [.int .i64 s.1, .int .i64 s.2]
def spanStep (s : Span) (p : Page) : Span := if p.state = 1 then (if s.1 = 0 ∨ p.r.seq < s.1 then p.r.seq else s.1, if s.2 < p.r.seq then p.r.seq else s.2) else s
def spanAt (ss : List Span) (x : Spot) : List Span := ss.set x.1 (spanStep (ss.getD x.1 (0, 0)) x.2.2)
def spansL (xs : List Spot) : List Span := xs.foldl spanAt [(0, 0), (0, 0), (0, 0), (0, 0)]
theorem spansL_snoc (xs : List Spot) (x : Spot) : spansL (xs ++ [x]) = spanAt (spansL xs) x := by unfold spansL; rw [List.foldl_append]; rfl
theorem spansL_len (xs : List Spot) : (spansL xs).length = 4 := by
  have : ∀ (xs : List Spot) (s : List Span), (xs.foldl spanAt s).length = s.length := by
    intro xs; induction xs with
    | nil => exact fun _ => rfl
    | cons x xs ih => intro s; rw [List.foldl_cons, ih]; simp [spanAt]
  exact this _ _
def spansOf (f : List Block) : List Span := spansL (spF f f.length)

theorem cells_own {X Y : World} {row : Option Nat} {b T : Nat} {c : Array Value} {fr : Nat × Nat} {B : Nat} (h : X.heap[b]? = some (.cells c T fr)) (hg : X.grownBy Y row) (hr : ∀ r, row = some r → B ≤ r ∧ ∃ o : Obj, X.heap[r]? = some o ∧ o.isCells = false) : Y.heap[b]? = some (.cells c T fr) := by
  rw [hg.block b (heap_lt h) fun e => ?_]
  · exact h
  · obtain ⟨o, ho, hc⟩ := (hr b e.symm).2
    rw [h] at ho; cases ho; cases hc
theorem OwnAt.two' {T : TypeId} {w : World} {B o : Nat} {xs : List Span} (h : OwnAt 2 spanC T w B o xs) {k : Nat} (hk : k < xs.length) :
    w.cell? ⟨B, o + k * 2, none⟩ = some (.int .i64 xs[k].1) ∧ w.cell? ⟨B, o + k * 2 + 1, none⟩ = some (.int .i64 xs[k].2) :=
  ⟨h.cell (List.getElem?_eq_getElem hk) (j := 0) rfl, h.cell (List.getElem?_eq_getElem hk) (j := 1) rfl⟩

theorem KeepsFrom.of_chg {B : Nat} {L : List Nat} {W W' : World} (h : Chg L W W') (hL : ∀ b ∈ L, b < B) : KeepsFrom B W W' :=
  ⟨h.size, fun k o hB hk _ => h.keep hk fun hm => by have := hL k hm; omega⟩
theorem frozen_ext {w w' : World} (h : Ext w w') {b : Nat} (hb : b < w.heap.size) (j : Nat) : w'.frozen? ⟨b, j, none⟩ = w.frozen? ⟨b, j, none⟩ := (bcell h).2 b j hb
def SpansΦ (w : World) (ss : List Span) (e : Ending) (w' : World) : Prop := ∃ b, e = .returned (.slice (some ⟨b, 0, none⟩) 4 4) ∧ Ext w w' ∧ w.heap.size ≤ b ∧ OwnAt 2 spanC 103 w' b 0 ss

set_option maxRecDepth 20000 in
set_option maxHeartbeats 4000000 in
theorem spansOf_c (v : Value) (f : List Block) (w : World) (h : Flash (Old w) w v f) (h4 : f.length = 4) (hp : ∀ b ∈ f, b.pages.length ≤ 1048576) (hs : ∀ b ∈ f, ∀ p ∈ b.pages, 0 ≤ p.r.seq ∧ p.r.seq ≤ 600) :
    Calls Try.prog 77 #[v] w (SpansΦ w (spansOf f)) := by
  obtain ⟨a, cap, rfl⟩ := h.form
  rw [h4] at h ⊢
  have H4 := Lib.hid h4
  have HP := Lib.hid hp
  have HS := Lib.hid hs
  clear hp hs h4
  have hmk : ∀ w : World, (Instr.makeSlice 100 (.int .i64 4) (.int .i64 4)).run Try.prog w = .ok (.slice (some ⟨w.heap.size, 0, none⟩) 4 4) (w.alloc (.cells #[.int .i64 0, .int .i64 0, .int .i64 0, .int .i64 0, .int .i64 0, .int .i64 0, .int .i64 0, .int .i64 0] 103)) := fun w => by kernel_rfl
  refine (callsIn_wide (n := 9)).1 ?_
  refine callsIn_of_wp_marks Try.func77 rfl trivial ?_ rfl
  simp only [Try.ntmps77, List.size_toArray, List.length_cons, List.length_nil, Nat.reduceAdd, Nat.reduceSub, Array.replicate_succ, Array.replicate_zero, List.push_toArray, List.append_toArray, List.nil_append, List.cons_append]
  gi_wp2_with (refine ⟨trivial, ?_⟩; gi_at_call 75; refine (callsIn_wide.2 (eachPage_c _ _ _ _)).mono ?_; rintro e w' ⟨rfl, rfl⟩)
  clear hmk
  have XW : Ext w (((w.alloc (.cells #[.int .i64 0, .int .i64 0, .int .i64 0, .int .i64 0, .int .i64 0, .int .i64 0, .int .i64 0, .int .i64 0] 103)).alloc (.cells #[.slice (some ⟨w.heap.size, 0, none⟩) 4 4] 100)).alloc (.cells #[.slice a 4 cap] 30)) := ext_alloc (ext_alloc (ext_alloc (ext_refl _) _) _) _
  obtain ⟨W0, hW0⟩ : ∃ W0, ((w.alloc (.cells #[.int .i64 0, .int .i64 0, .int .i64 0, .int .i64 0, .int .i64 0, .int .i64 0, .int .i64 0, .int .i64 0] 103)).alloc (.cells #[.slice (some ⟨w.heap.size, 0, none⟩) 4 4] 100)).alloc (.cells #[.slice a 4 cap] 30) = W0 := ⟨_, rfl⟩
  have G0 : W0.heap[w.heap.size]? = some (.cells #[.int .i64 0, .int .i64 0, .int .i64 0, .int .i64 0, .int .i64 0, .int .i64 0, .int .i64 0, .int .i64 0] 103 (0, 0)) := by rw [← hW0]; exact hg_alloc (hg_alloc (hg_new rfl))
  have G1 : W0.heap[w.heap.size + 1]? = some (.cells #[.slice (some ⟨w.heap.size, 0, none⟩) 4 4] 100 (0, 0)) := by rw [← hW0]; exact hg_alloc (hg_new (by simp))
  have G2 : W0.heap[w.heap.size + 2]? = some (.cells #[.slice a 4 cap] 30 (0, 0)) := by rw [← hW0]; exact hg_new (by simp)
  have hs0 : W0.heap.size = w.heap.size + 3 := by rw [← hW0]; simp
  rw [hW0] at XW ⊢
  have HD : ∀ i, (i < w.heap.size ∨ i = w.heap.size + 2) → i < W0.heap.size := fun i hi => by omega
  have HS0 := Lib.hid hs0
  clear hs0 hW0
  refine wpIn_rangeFunc_ownH rfl (by omega) (gf := 97) (lb := #[.pointer (some ⟨w.heap.size + 2, 0, none⟩)]) rfl trivial (enters_of Try.func97 (by kernel_rfl) rfl)
    (each_stops 8 (by omega) (fun i => i < w.heap.size ∨ i = w.heap.size + 2) (w.heap.size + 2) (.slice a 4 cap) f W0 (cell_block G2 0) (.inr rfl) HD (Sl.same blockE_kept h (same_old XW) (fun b hb => .inl hb)) (by rw [H4.out]; omega) HP.out)
    (fun h k => h.trans k) (fun W l o o' hl _ _ _ => KpD.put HD W l o o' hl) (Below.refl _ _) (fun _ => rfl)
    (fun pre W => OwnAt 2 spanC 103 W w.heap.size 0 (spansL (pre.map (·.1))) ∧ W.heap[w.heap.size + 1]? = some (.cells #[.slice (some ⟨w.heap.size, 0, none⟩) 4 4] 100 (0, 0)) ∧ Ext w W ∧ W0.heap.size ≤ W.heap.size)
    (fun _ _ _ => False) ?hI (fun _ _ _ _ _ h _ _ => h.elim) ?h0
    (fun x a' W => ∃ Bx By, W0.heap.size ≤ Bx ∧ W0.heap.size ≤ By ∧ W.heap[Bx]? = some (.cells #[.int .i64 x.1.1, .int .i64 x.1.2.1] 97 (0, 0)) ∧ W.heap[By]? = some (.cells (pageC x.1.2.2).toArray 99 (0, 0)) ∧
      a' = { tmps := #[.slice a 4 cap, undef, .slice none 0 0, .pointer (some ⟨w.heap.size + 1, 0, none⟩), .pointer (some ⟨Bx, 0, none⟩), .pointer (some ⟨By, 0, none⟩), undef, .slice a 4 cap, .int .i64 4, .slice (some ⟨w.heap.size, 0, none⟩) 4 4, .slice a 4 cap, .func (.func 97) #[] #[.pointer (some ⟨w.heap.size + 2, 0, none⟩)], .agg #[.int .i64 x.1.1, .int .i64 x.1.2.1], pageA x.1.2.2, undef, undef, undef, undef, undef, undef, undef, undef, undef, undef, undef, undef, undef, undef, undef, undef, undef, undef, undef, undef, undef, undef, undef, undef, undef, undef, undef, undef, undef, undef, undef, undef, undef, undef, undef, undef, undef, undef, undef, undef], defers := [] })
    ?hAx ?assign ?body ?done ?stop
  case hI =>
    rintro s X Y row ⟨h1, h2, h3, h4⟩ hg hr
    have hx := grown_ext h3 (fun g hg' => by have := (hr g hg').1; have := XW.size; omega) hg
    exact ⟨h1.keep (hg.block _ h1.lt fun e => by have := (hr _ e.symm).1; have := HS0.out; omega), cells_own h2 hg hr, hx, Nat.le_trans h4 hg.size⟩
  case h0 =>
    refine ⟨⟨_, G0, ?_⟩, G1, XW, Nat.le_refl _⟩
    intro i x hi j u hu
    have hx : x = (0, 0) := by
      have := List.mem_of_getElem? hi
      simp [spansL] at this; exact this
    subst hx
    have hi4 : i < 4 := (List.getElem?_eq_some_iff.1 hi).1
    have hj2 : j < 2 := (List.getElem?_eq_some_iff.1 hu).1
    match i, hi4, j, hj2 with
    | 0, _, 0, _ => exact hu
    | 0, _, 1, _ => exact hu
    | 1, _, 0, _ => exact hu
    | 1, _, 1, _ => exact hu
    | 2, _, 0, _ => exact hu
    | 2, _, 1, _ => exact hu
    | 3, _, 0, _ => exact hu
    | 3, _, 1, _ => exact hu
  case hAx =>
    rintro x a' s X Y row ⟨Bx, By, h1, h2, h3, h4, h5⟩ hg hr
    exact ⟨Bx, By, h1, h2, cells_own h3 hg hr, cells_own h4 hg hr, h5⟩
  case stop => rintro D c pre W _ _ h; exact h.elim
  case assign =>
    rintro l pre ⟨⟨i, j, p⟩, hin⟩ W K ⟨h1, h2, h3, h4⟩ hK
    simp only [encS]
    gi_wp2
    have hx : Ext W ((W.alloc (.cells #[.int .i64 i, .int .i64 j] 97)).alloc (.cells (pageC p).toArray 99)) := ext_alloc (ext_alloc (ext_refl _) _) _
    exact hK _ _ (((KeepsOthers.alloc _ _).trans (KeepsOthers.alloc _ _)).from _) (KpD.of_below hx fun b hb => Nat.lt_of_lt_of_le (HD b hb) h4) ⟨h1.ext hx, keep_ext hx h2, ext_trans h3 hx, Nat.le_trans h4 hx.size⟩
      ⟨W.heap.size, W.heap.size + 1, h4, by omega, hg_alloc (hg_new rfl), hg_new (by simp), rfl⟩
  case done =>
    rintro D xs W hD hS ⟨h1, h2, h3, h4⟩ hK
    obtain ⟨g3, gf3⟩ := cellsK h2
    gi_wp2
    refine ⟨by simp, .inl ⟨_, _, rfl, run_takeDeferred hK, ?_⟩⟩
    refine ⟨_, results_tmp rfl _ _ _, w.heap.size, rfl, ?_, Nat.le_refl _, ?_⟩
    · exact grown_ext h3 (fun g hg => by cases hg; have := HS0.out; omega) (grownBy_putObj' W D _)
    · rw [spansOf, ← hS]; exact h1.keep (World.putObj_heap_other (by have := HS0.out; omega))
  case body =>
    rintro l pre ⟨⟨i, j, p⟩, hin⟩ a' W hl ⟨r, hr⟩ ⟨h1, h2, h3, h4⟩ ⟨Bx, By, hB1, hB2, g4, g5, rfl⟩ hlt
    have hi4 : i < 4 := by
      obtain ⟨b, hb, _⟩ := hin
      have := (List.getElem?_eq_some_iff.1 hb).1
      have := H4.out; omega
    have hsq : 0 ≤ p.r.seq ∧ p.r.seq ≤ 600 := by
      obtain ⟨b, hb, hp⟩ := hin
      exact HS.out b (List.mem_of_getElem? hb) p (List.mem_of_getElem? hp)
    have hss := spansL_len (pre.map (·.1))
    have hsn := spansL_snoc (pre.map (·.1)) (i, j, p)
    have HSN : Hid (spansL ((pre ++ [⟨(i, j, p), hin⟩] : List (SpotIn f)).map (·.1)) = spanAt (spansL (pre.map (·.1))) (i, j, p)) := Lib.hid (by rw [List.map_append]; exact hsn)
    clear hsn
    generalize spansL (pre.map (·.1)) = ss at *
    dsimp only at g4 g5
    obtain ⟨q4, qf4⟩ := cellsK g4
    obtain ⟨q5, qf5⟩ := cellsK g5
    obtain ⟨q3, qf3⟩ := cellsK h2
    have lB := h1.lt
    by_cases hst : p.state = 1
    · obtain ⟨lo, hi, he⟩ : ∃ lo hi, ss[i]? = some (lo, hi) := ⟨ss[i].1, ss[i].2, by rw [List.getElem?_eq_getElem (by omega)]⟩
      have c0 : W.cell? ⟨w.heap.size, i * 2, none⟩ = some (.int .i64 lo) := by simpa using h1.cell he (j := 0) rfl
      have c1 : W.cell? ⟨w.heap.size, i * 2 + 1, none⟩ = some (.int .i64 hi) := by simpa using h1.cell he (j := 1) rfl
      have cf := h1.frozen
      have hin4 : Hid (InF f (i, j, p)) := Lib.hid hin
      have hneB : By ≠ w.heap.size := by have := HS0.out; omega
      have hset := h1
      have H1 := Lib.hid h1
      have HSS := Lib.hid hss
      clear h1 hset hss
      have hspan : spanAt ss (i, j, p) = ss.set i (if lo = 0 ∨ p.r.seq < lo then p.r.seq else lo, if hi < p.r.seq then p.r.seq else hi) := by
        unfold spanAt spanStep; rw [if_pos hst, List.getD_eq_getElem?_getD, he]; rfl
      have HSPAN := Lib.hid hspan
      clear hspan
      by_cases hz : lo = 0
      · have hz' : (lo == 0) = true := by simpa using hz
        gi_wp2
        refine wpIn_region_ext [] [0, 1, 2, 3, 4, 5, 6, 7, 8, 9, 10, 11, 12, 13, 14] [] [] (by kernel_rfl) (by kernel_rfl) (by kernel_rfl) ?late ?_
        case late => exact fun f hf => absurd hf List.not_mem_nil
        refine Rob.y (v := ?_) rfl rfl (fun w1 hx hH => ?_) ?_; rotate_left
        · go_simp; first | done | rfl | exact (Bool.not_not _).symm
        simp only [Act.put, List.setIfInBounds_toArray, List.set_cons_succ, List.set_cons_zero]
        refine Rob.y (v := ?_) rfl rfl (fun w1 hx hH => ?_) ?_; rotate_left
        · (obtain ⟨q5, qf5⟩ := cellsK (keep_ext hx g5); have d0 := cell_ext hx c0; have d1 := cell_ext hx c1); go_simp; first | done | rfl
        simp only [Act.put, List.setIfInBounds_toArray, List.set_cons_succ, List.set_cons_zero]
        refine Rob.y (v := ?_) rfl rfl (fun w1 hx hH => ?_) ?_; rotate_left
        · go_simp; first | done | rfl | exact (Bool.not_not _).symm
        simp only [Act.put, List.setIfInBounds_toArray, List.set_cons_succ, List.set_cons_zero]
        refine Rob.y (v := ?_) rfl rfl (fun w1 hx hH => ?_) ?_; rotate_left
        · (obtain ⟨q5, qf5⟩ := cellsK (keep_ext hx g5); have d0 := cell_ext hx c0; have d1 := cell_ext hx c1); go_simp; first | done | rfl
        simp only [Act.put, List.setIfInBounds_toArray, List.set_cons_succ, List.set_cons_zero]
        iterate 2
          refine Rob.y (v := ?_) rfl rfl (fun w1 hx hH => ?_) ?_; rotate_left
          · go_simp; first | done | rfl | exact (Bool.not_not _).symm
          simp only [Act.put, List.setIfInBounds_toArray, List.set_cons_succ, List.set_cons_zero]
        iterate 8
          refine Rob.no rfl rfl ?_
          simp only [Act.put, List.setIfInBounds_toArray, List.set_cons_succ, List.set_cons_zero]
        refine Rob.y (v := ?_) rfl rfl (fun w1 hx hH => ?_) ?_; rotate_left
        · go_simp; first | done | rfl | exact (Bool.not_not _).symm
        simp only [Act.put, List.setIfInBounds_toArray, List.set_cons_succ, List.set_cons_zero]
        refine fin_nil (fun w1 hx _ => ?_)
        refine qn_mk ?_
        obtain ⟨q5, qf5⟩ := cellsK (keep_ext hx g5)
        have d0 := cell_ext hx c0
        have df := fun j => (frozen_ext hx H1.out.lt j).trans (cf j)
        gi_wp2
        obtain ⟨w2, hw2⟩ : ∃ w2, (w1.setCell ⟨w.heap.size, i * 2, none⟩ (.int .i64 p.r.seq)) = w2 := ⟨_, rfl⟩
        obtain ⟨lo2, hlo2⟩ : ∃ lo2, p.r.seq = lo2 := ⟨_, rfl⟩
        have HSN2 : Hid (spanAt ss (i, j, p) = ss.set i (lo2, if hi < p.r.seq then p.r.seq else hi)) := Lib.hid (by rw [HSPAN.out, if_pos (show lo = 0 ∨ p.r.seq < lo by omega), hlo2])
        have H2 : OwnAt 2 spanC 103 w2 w.heap.size 0 (ss.set i (lo2, hi)) := by
          obtain ⟨hil, he'⟩ := List.getElem?_eq_some_iff.1 he
          have := OwnAt.set1 (n := 2) (enc := spanC) (fun _ => rfl) (H1.out.ext hx) (k := i) hil (j := 0) (by omega) (.int .i64 p.r.seq) (p.r.seq, hi) (by rw [he']; rfl)
          rw [Nat.zero_add, Nat.add_zero, hw2, hlo2] at this
          exact this
        have hC2 : Chg [w.heap.size] W w2 := by rw [← hw2]; exact (Chg.of_ext hx).set (p := ⟨w.heap.size, i * 2, none⟩) (.inl (by simp)) _
        rw [hw2]
        clear hw2 hx hlo2 d0 df HSPAN H1
        have GP : w2.heap[By]? = some (.cells (pageC p).toArray 99 (0, 0)) := hC2.keep g5 (by simp; omega)
        have C1 : w2.cell? ⟨w.heap.size, i * 2 + 1, none⟩ = some (.int .i64 hi) := by simpa using H2.cell (x := (lo2, hi)) (List.getElem?_set_self (by rw [HSS.out]; exact hi4)) (j := 1) rfl
        have CF := H2.frozen
        have HH2 := Lib.hid H2
        clear H2 c0 c1 cf q3 qf3 q4 qf4 q5 qf5 hsq
        gi_wp2
        refine wpIn_region_ext [] [0, 1, 2, 3, 4, 5, 6, 7, 8, 9, 10] [] [11] (by kernel_rfl) (by kernel_rfl) (by kernel_rfl) ?late ?_
        case late => exact fun f hf => absurd hf List.not_mem_nil
        iterate 2
          refine Rob.y (v := ?_) rfl rfl (fun w1 hx hH => ?_) ?_; rotate_left
          · go_simp; first | done | rfl | exact (Bool.not_not _).symm
          simp only [Act.put, List.setIfInBounds_toArray, List.set_cons_succ, List.set_cons_zero]
        refine Rob.y (v := ?_) rfl rfl (fun w1 hx hH => ?_) ?_; rotate_left
        · (obtain ⟨q5, qf5⟩ := cellsK (keep_ext hx GP); have d1 := cell_ext hx C1); go_simp; first | done | rfl
        simp only [Act.put, List.setIfInBounds_toArray, List.set_cons_succ, List.set_cons_zero]
        refine Rob.y (v := ?_) rfl rfl (fun w1 hx hH => ?_) ?_; rotate_left
        · go_simp; first | done | rfl | exact (Bool.not_not _).symm
        simp only [Act.put, List.setIfInBounds_toArray, List.set_cons_succ, List.set_cons_zero]
        refine Rob.y (v := ?_) rfl rfl (fun w1 hx hH => ?_) ?_; rotate_left
        · (obtain ⟨q5, qf5⟩ := cellsK (keep_ext hx GP); have d1 := cell_ext hx C1); go_simp; first | done | rfl
        simp only [Act.put, List.setIfInBounds_toArray, List.set_cons_succ, List.set_cons_zero]
        iterate 2
          refine Rob.y (v := ?_) rfl rfl (fun w1 hx hH => ?_) ?_; rotate_left
          · go_simp; first | done | rfl | exact (Bool.not_not _).symm
          simp only [Act.put, List.setIfInBounds_toArray, List.set_cons_succ, List.set_cons_zero]
        refine Rob.y (v := ?_) rfl rfl (fun w1 hx hH => ?_) ?_; rotate_left
        · (obtain ⟨q5, qf5⟩ := cellsK (keep_ext hx GP); have d1 := cell_ext hx C1); go_simp; first | done | rfl
        simp only [Act.put, List.setIfInBounds_toArray, List.set_cons_succ, List.set_cons_zero]
        refine Rob.y (v := ?_) rfl rfl (fun w1 hx hH => ?_) ?_; rotate_left
        · go_simp; first | done | rfl | exact (Bool.not_not _).symm
        simp only [Act.put, List.setIfInBounds_toArray, List.set_cons_succ, List.set_cons_zero]
        refine Rob.y (v := ?_) rfl rfl (fun w1 hx hH => ?_) ?_; rotate_left
        · (obtain ⟨q5, qf5⟩ := cellsK (keep_ext hx GP); have d1 := cell_ext hx C1); go_simp; first | done | rfl
        simp only [Act.put, List.setIfInBounds_toArray, List.set_cons_succ, List.set_cons_zero]
        refine Rob.y (v := ?_) rfl rfl (fun w1 hx hH => ?_) ?_; rotate_left
        · go_simp; first | done | rfl | exact (Bool.not_not _).symm
        simp only [Act.put, List.setIfInBounds_toArray, List.set_cons_succ, List.set_cons_zero]
        refine fin_tail (fun w3 hx3 _ => ?_)
        simp only [dstOf, List.getElem?_cons_succ, List.getElem?_cons_zero, Option.bind_some, Act.put, List.setIfInBounds_toArray, List.set_cons_succ, List.set_cons_zero, List.filterMap_cons, List.filterMap_nil]
        have CF3 := fun j => (frozen_ext hx3 HH2.out.lt j).trans (CF j)
        have c3 := cell_ext hx3 C1
        refine wpList_plain rfl (fun K hK => ?_)
        go_simp
        refine hK _ _ ?_
        clear hK K
        refine wpList_nil ?_
        refine qn_mk ?_
        have H3 := HH2.out.ext hx3
        obtain ⟨hi2, hhi2⟩ : ∃ hi2, (if hi < p.r.seq then p.r.seq else hi) = hi2 := ⟨_, rfl⟩
        rw [hhi2] at HSN2 ⊢
        have hC3 := (hC2.trans (Chg.of_ext hx3)).set (p := ⟨w.heap.size, i * 2 + 1, none⟩) (.inl (by simp)) (.int .i64 hi2)
        clear hhi2
        gi_wp2
        refine ⟨KeepsFrom.of_chg hC3 (by have := HS0.out; simp; omega), KpD.of_chg hC3 (fun b hb => ⟨Nat.lt_of_lt_of_le (HD b hb) h4, by simp; omega⟩), ?_, hC3.keep h2 (by simp), Chg.ext h3 hC3 (by simp), Nat.le_trans h4 hC3.size⟩
        rw [HSN.out]
        have hS := OwnAt.set1 (n := 2) (enc := spanC) (fun _ => rfl) H3 (k := i) (by simp; rw [HSS.out]; exact hi4) (j := 1) (by omega) (.int .i64 hi2) (lo2, hi2) (by simp [spanC])
        rw [Nat.zero_add, List.set_set] at hS
        rw [HSN2.out]; exact hS
      · have hz' : (lo == 0) = false := by simpa using hz
        by_cases hlt2 : p.r.seq < lo
        · gi_wp2
          refine wpIn_region_ext [] [0, 1, 2, 3, 4, 5, 6, 7, 8, 9, 10, 11, 12, 13, 14] [] [] (by kernel_rfl) (by kernel_rfl) (by kernel_rfl) ?late ?_
          case late => exact fun f hf => absurd hf List.not_mem_nil
          refine Rob.y (v := ?_) rfl rfl (fun w1 hx hH => ?_) ?_; rotate_left
          · go_simp; first | done | rfl | exact (Bool.not_not _).symm
          simp only [Act.put, List.setIfInBounds_toArray, List.set_cons_succ, List.set_cons_zero]
          refine Rob.y (v := ?_) rfl rfl (fun w1 hx hH => ?_) ?_; rotate_left
          · (obtain ⟨q5, qf5⟩ := cellsK (keep_ext hx g5); have d0 := cell_ext hx c0; have d1 := cell_ext hx c1); go_simp; first | done | rfl
          simp only [Act.put, List.setIfInBounds_toArray, List.set_cons_succ, List.set_cons_zero]
          refine Rob.y (v := ?_) rfl rfl (fun w1 hx hH => ?_) ?_; rotate_left
          · go_simp; first | done | rfl | exact (Bool.not_not _).symm
          simp only [Act.put, List.setIfInBounds_toArray, List.set_cons_succ, List.set_cons_zero]
          refine Rob.y (v := ?_) rfl rfl (fun w1 hx hH => ?_) ?_; rotate_left
          · (obtain ⟨q5, qf5⟩ := cellsK (keep_ext hx g5); have d0 := cell_ext hx c0; have d1 := cell_ext hx c1); go_simp; first | done | rfl
          simp only [Act.put, List.setIfInBounds_toArray, List.set_cons_succ, List.set_cons_zero]
          iterate 2
            refine Rob.y (v := ?_) rfl rfl (fun w1 hx hH => ?_) ?_; rotate_left
            · go_simp; first | done | rfl | exact (Bool.not_not _).symm
            simp only [Act.put, List.setIfInBounds_toArray, List.set_cons_succ, List.set_cons_zero]
          iterate 2
            refine Rob.yg (v := ?_) rfl rfl (fun w1 hx hH => ?_) ?_; rotate_left
            · go_simp; first | done | rfl | exact (Bool.not_not _).symm
            simp only [Act.put, List.setIfInBounds_toArray, List.set_cons_succ, List.set_cons_zero]
          refine Rob.yg (v := ?_) rfl rfl (fun w1 hx hH => ?_) ?_; rotate_left
          · (obtain ⟨q5, qf5⟩ := cellsK (keep_ext hx g5); have d0 := cell_ext hx c0; have d1 := cell_ext hx c1); go_simp; first | done | rfl
          simp only [Act.put, List.setIfInBounds_toArray, List.set_cons_succ, List.set_cons_zero]
          refine Rob.yg (v := ?_) rfl rfl (fun w1 hx hH => ?_) ?_; rotate_left
          · go_simp; first | done | rfl | exact (Bool.not_not _).symm
          simp only [Act.put, List.setIfInBounds_toArray, List.set_cons_succ, List.set_cons_zero]
          refine Rob.yg (v := ?_) rfl rfl (fun w1 hx hH => ?_) ?_; rotate_left
          · (obtain ⟨q5, qf5⟩ := cellsK (keep_ext hx g5); have d0 := cell_ext hx c0; have d1 := cell_ext hx c1); go_simp; first | done | rfl
          simp only [Act.put, List.setIfInBounds_toArray, List.set_cons_succ, List.set_cons_zero]
          refine Rob.yg (v := ?_) rfl rfl (fun w1 hx hH => ?_) ?_; rotate_left
          · go_simp; first | done | rfl | exact (Bool.not_not _).symm
          simp only [Act.put, List.setIfInBounds_toArray, List.set_cons_succ, List.set_cons_zero]
          refine Rob.yg (v := ?_) rfl rfl (fun w1 hx hH => ?_) ?_; rotate_left
          · (obtain ⟨q5, qf5⟩ := cellsK (keep_ext hx g5); have d0 := cell_ext hx c0; have d1 := cell_ext hx c1); go_simp; first | done | rfl
          simp only [Act.put, List.setIfInBounds_toArray, List.set_cons_succ, List.set_cons_zero]
          refine Rob.yg (v := ?_) rfl rfl (fun w1 hx hH => ?_) ?_; rotate_left
          · go_simp; first | done | rfl | exact (Bool.not_not _).symm
          simp only [Act.put, List.setIfInBounds_toArray, List.set_cons_succ, List.set_cons_zero]
          refine Rob.y (v := ?_) rfl rfl (fun w1 hx hH => ?_) ?_; rotate_left
          · go_simp; first | done | rfl | exact (Bool.not_not _).symm
          simp only [Act.put, List.setIfInBounds_toArray, List.set_cons_succ, List.set_cons_zero]
          refine fin_nil (fun w1 hx _ => ?_)
          refine qn_mk ?_
          obtain ⟨q5, qf5⟩ := cellsK (keep_ext hx g5)
          have d0 := cell_ext hx c0
          have df := fun j => (frozen_ext hx H1.out.lt j).trans (cf j)
          gi_wp2
          obtain ⟨w2, hw2⟩ : ∃ w2, (w1.setCell ⟨w.heap.size, i * 2, none⟩ (.int .i64 p.r.seq)) = w2 := ⟨_, rfl⟩
          obtain ⟨lo2, hlo2⟩ : ∃ lo2, p.r.seq = lo2 := ⟨_, rfl⟩
          have HSN2 : Hid (spanAt ss (i, j, p) = ss.set i (lo2, if hi < p.r.seq then p.r.seq else hi)) := Lib.hid (by rw [HSPAN.out, if_pos (show lo = 0 ∨ p.r.seq < lo by omega), hlo2])
          have H2 : OwnAt 2 spanC 103 w2 w.heap.size 0 (ss.set i (lo2, hi)) := by
            obtain ⟨hil, he'⟩ := List.getElem?_eq_some_iff.1 he
            have := OwnAt.set1 (n := 2) (enc := spanC) (fun _ => rfl) (H1.out.ext hx) (k := i) hil (j := 0) (by omega) (.int .i64 p.r.seq) (p.r.seq, hi) (by rw [he']; rfl)
            rw [Nat.zero_add, Nat.add_zero, hw2, hlo2] at this
            exact this
          have hC2 : Chg [w.heap.size] W w2 := by rw [← hw2]; exact (Chg.of_ext hx).set (p := ⟨w.heap.size, i * 2, none⟩) (.inl (by simp)) _
          rw [hw2]
          clear hw2 hx hlo2 d0 df HSPAN H1
          have GP : w2.heap[By]? = some (.cells (pageC p).toArray 99 (0, 0)) := hC2.keep g5 (by simp; omega)
          have C1 : w2.cell? ⟨w.heap.size, i * 2 + 1, none⟩ = some (.int .i64 hi) := by simpa using H2.cell (x := (lo2, hi)) (List.getElem?_set_self (by rw [HSS.out]; exact hi4)) (j := 1) rfl
          have CF := H2.frozen
          have HH2 := Lib.hid H2
          clear H2 c0 c1 cf q3 qf3 q4 qf4 q5 qf5 hsq
          gi_wp2
          refine wpIn_region_ext [] [0, 1, 2, 3, 4, 5, 6, 7, 8, 9, 10] [] [11] (by kernel_rfl) (by kernel_rfl) (by kernel_rfl) ?late ?_
          case late => exact fun f hf => absurd hf List.not_mem_nil
          iterate 2
            refine Rob.y (v := ?_) rfl rfl (fun w1 hx hH => ?_) ?_; rotate_left
            · go_simp; first | done | rfl | exact (Bool.not_not _).symm
            simp only [Act.put, List.setIfInBounds_toArray, List.set_cons_succ, List.set_cons_zero]
          refine Rob.y (v := ?_) rfl rfl (fun w1 hx hH => ?_) ?_; rotate_left
          · (obtain ⟨q5, qf5⟩ := cellsK (keep_ext hx GP); have d1 := cell_ext hx C1); go_simp; first | done | rfl
          simp only [Act.put, List.setIfInBounds_toArray, List.set_cons_succ, List.set_cons_zero]
          refine Rob.y (v := ?_) rfl rfl (fun w1 hx hH => ?_) ?_; rotate_left
          · go_simp; first | done | rfl | exact (Bool.not_not _).symm
          simp only [Act.put, List.setIfInBounds_toArray, List.set_cons_succ, List.set_cons_zero]
          refine Rob.y (v := ?_) rfl rfl (fun w1 hx hH => ?_) ?_; rotate_left
          · (obtain ⟨q5, qf5⟩ := cellsK (keep_ext hx GP); have d1 := cell_ext hx C1); go_simp; first | done | rfl
          simp only [Act.put, List.setIfInBounds_toArray, List.set_cons_succ, List.set_cons_zero]
          iterate 2
            refine Rob.y (v := ?_) rfl rfl (fun w1 hx hH => ?_) ?_; rotate_left
            · go_simp; first | done | rfl | exact (Bool.not_not _).symm
            simp only [Act.put, List.setIfInBounds_toArray, List.set_cons_succ, List.set_cons_zero]
          refine Rob.y (v := ?_) rfl rfl (fun w1 hx hH => ?_) ?_; rotate_left
          · (obtain ⟨q5, qf5⟩ := cellsK (keep_ext hx GP); have d1 := cell_ext hx C1); go_simp; first | done | rfl
          simp only [Act.put, List.setIfInBounds_toArray, List.set_cons_succ, List.set_cons_zero]
          refine Rob.y (v := ?_) rfl rfl (fun w1 hx hH => ?_) ?_; rotate_left
          · go_simp; first | done | rfl | exact (Bool.not_not _).symm
          simp only [Act.put, List.setIfInBounds_toArray, List.set_cons_succ, List.set_cons_zero]
          refine Rob.y (v := ?_) rfl rfl (fun w1 hx hH => ?_) ?_; rotate_left
          · (obtain ⟨q5, qf5⟩ := cellsK (keep_ext hx GP); have d1 := cell_ext hx C1); go_simp; first | done | rfl
          simp only [Act.put, List.setIfInBounds_toArray, List.set_cons_succ, List.set_cons_zero]
          refine Rob.y (v := ?_) rfl rfl (fun w1 hx hH => ?_) ?_; rotate_left
          · go_simp; first | done | rfl | exact (Bool.not_not _).symm
          simp only [Act.put, List.setIfInBounds_toArray, List.set_cons_succ, List.set_cons_zero]
          refine fin_tail (fun w3 hx3 _ => ?_)
          simp only [dstOf, List.getElem?_cons_succ, List.getElem?_cons_zero, Option.bind_some, Act.put, List.setIfInBounds_toArray, List.set_cons_succ, List.set_cons_zero, List.filterMap_cons, List.filterMap_nil]
          have CF3 := fun j => (frozen_ext hx3 HH2.out.lt j).trans (CF j)
          have c3 := cell_ext hx3 C1
          refine wpList_plain rfl (fun K hK => ?_)
          go_simp
          refine hK _ _ ?_
          clear hK K
          refine wpList_nil ?_
          refine qn_mk ?_
          have H3 := HH2.out.ext hx3
          obtain ⟨hi2, hhi2⟩ : ∃ hi2, (if hi < p.r.seq then p.r.seq else hi) = hi2 := ⟨_, rfl⟩
          rw [hhi2] at HSN2 ⊢
          have hC3 := (hC2.trans (Chg.of_ext hx3)).set (p := ⟨w.heap.size, i * 2 + 1, none⟩) (.inl (by simp)) (.int .i64 hi2)
          clear hhi2
          gi_wp2
          refine ⟨KeepsFrom.of_chg hC3 (by have := HS0.out; simp; omega), KpD.of_chg hC3 (fun b hb => ⟨Nat.lt_of_lt_of_le (HD b hb) h4, by simp; omega⟩), ?_, hC3.keep h2 (by simp), Chg.ext h3 hC3 (by simp), Nat.le_trans h4 hC3.size⟩
          rw [HSN.out]
          have hS := OwnAt.set1 (n := 2) (enc := spanC) (fun _ => rfl) H3 (k := i) (by simp; rw [HSS.out]; exact hi4) (j := 1) (by omega) (.int .i64 hi2) (lo2, hi2) (by simp [spanC])
          rw [Nat.zero_add, List.set_set] at hS
          rw [HSN2.out]; exact hS
        · gi_wp2
          refine wpIn_region_ext [] [0, 1, 2, 3, 4, 5, 6, 7, 8, 9, 10, 11, 12, 13, 14] [] [] (by kernel_rfl) (by kernel_rfl) (by kernel_rfl) ?late ?_
          case late => exact fun f hf => absurd hf List.not_mem_nil
          refine Rob.y (v := ?_) rfl rfl (fun w1 hx hH => ?_) ?_; rotate_left
          · go_simp; first | done | rfl | exact (Bool.not_not _).symm
          simp only [Act.put, List.setIfInBounds_toArray, List.set_cons_succ, List.set_cons_zero]
          refine Rob.y (v := ?_) rfl rfl (fun w1 hx hH => ?_) ?_; rotate_left
          · (obtain ⟨q5, qf5⟩ := cellsK (keep_ext hx g5); have d0 := cell_ext hx c0; have d1 := cell_ext hx c1); go_simp; first | done | rfl
          simp only [Act.put, List.setIfInBounds_toArray, List.set_cons_succ, List.set_cons_zero]
          refine Rob.y (v := ?_) rfl rfl (fun w1 hx hH => ?_) ?_; rotate_left
          · go_simp; first | done | rfl | exact (Bool.not_not _).symm
          simp only [Act.put, List.setIfInBounds_toArray, List.set_cons_succ, List.set_cons_zero]
          refine Rob.y (v := ?_) rfl rfl (fun w1 hx hH => ?_) ?_; rotate_left
          · (obtain ⟨q5, qf5⟩ := cellsK (keep_ext hx g5); have d0 := cell_ext hx c0; have d1 := cell_ext hx c1); go_simp; first | done | rfl
          simp only [Act.put, List.setIfInBounds_toArray, List.set_cons_succ, List.set_cons_zero]
          iterate 2
            refine Rob.y (v := ?_) rfl rfl (fun w1 hx hH => ?_) ?_; rotate_left
            · go_simp; first | done | rfl | exact (Bool.not_not _).symm
            simp only [Act.put, List.setIfInBounds_toArray, List.set_cons_succ, List.set_cons_zero]
          iterate 2
            refine Rob.yg (v := ?_) rfl rfl (fun w1 hx hH => ?_) ?_; rotate_left
            · go_simp; first | done | rfl | exact (Bool.not_not _).symm
            simp only [Act.put, List.setIfInBounds_toArray, List.set_cons_succ, List.set_cons_zero]
          refine Rob.yg (v := ?_) rfl rfl (fun w1 hx hH => ?_) ?_; rotate_left
          · (obtain ⟨q5, qf5⟩ := cellsK (keep_ext hx g5); have d0 := cell_ext hx c0; have d1 := cell_ext hx c1); go_simp; first | done | rfl
          simp only [Act.put, List.setIfInBounds_toArray, List.set_cons_succ, List.set_cons_zero]
          refine Rob.yg (v := ?_) rfl rfl (fun w1 hx hH => ?_) ?_; rotate_left
          · go_simp; first | done | rfl | exact (Bool.not_not _).symm
          simp only [Act.put, List.setIfInBounds_toArray, List.set_cons_succ, List.set_cons_zero]
          refine Rob.yg (v := ?_) rfl rfl (fun w1 hx hH => ?_) ?_; rotate_left
          · (obtain ⟨q5, qf5⟩ := cellsK (keep_ext hx g5); have d0 := cell_ext hx c0; have d1 := cell_ext hx c1); go_simp; first | done | rfl
          simp only [Act.put, List.setIfInBounds_toArray, List.set_cons_succ, List.set_cons_zero]
          refine Rob.yg (v := ?_) rfl rfl (fun w1 hx hH => ?_) ?_; rotate_left
          · go_simp; first | done | rfl | exact (Bool.not_not _).symm
          simp only [Act.put, List.setIfInBounds_toArray, List.set_cons_succ, List.set_cons_zero]
          refine Rob.yg (v := ?_) rfl rfl (fun w1 hx hH => ?_) ?_; rotate_left
          · (obtain ⟨q5, qf5⟩ := cellsK (keep_ext hx g5); have d0 := cell_ext hx c0; have d1 := cell_ext hx c1); go_simp; first | done | rfl
          simp only [Act.put, List.setIfInBounds_toArray, List.set_cons_succ, List.set_cons_zero]
          refine Rob.yg (v := ?_) rfl rfl (fun w1 hx hH => ?_) ?_; rotate_left
          · go_simp; first | done | rfl | exact (Bool.not_not _).symm
          simp only [Act.put, List.setIfInBounds_toArray, List.set_cons_succ, List.set_cons_zero]
          refine Rob.y (v := ?_) rfl rfl (fun w1 hx hH => ?_) ?_; rotate_left
          · go_simp; first | done | rfl | exact (Bool.not_not _).symm
          simp only [Act.put, List.setIfInBounds_toArray, List.set_cons_succ, List.set_cons_zero]
          refine fin_nil (fun w1 hx _ => ?_)
          refine qn_mk ?_
          obtain ⟨w2, hw2⟩ : ∃ w2, w1 = w2 := ⟨_, rfl⟩
          obtain ⟨lo2, hlo2⟩ : ∃ lo2, lo = lo2 := ⟨_, rfl⟩
          have HSN2 : Hid (spanAt ss (i, j, p) = ss.set i (lo2, if hi < p.r.seq then p.r.seq else hi)) := Lib.hid (by rw [HSPAN.out, if_neg (show ¬ (lo = 0 ∨ p.r.seq < lo) by omega), hlo2])
          have H2 : OwnAt 2 spanC 103 w2 w.heap.size 0 (ss.set i (lo2, hi)) := by
            rw [← hw2, ← hlo2, show ss.set i (lo, hi) = ss by
              obtain ⟨hl, he'⟩ := List.getElem?_eq_some_iff.1 he
              rw [← he']; simp]
            exact H1.out.ext hx
          have hC2 : Chg [w.heap.size] W w2 := by rw [← hw2]; exact Chg.of_ext hx
          gi_wp2
          rw [hw2]
          clear hw2 hx hlo2 HSPAN H1
          have GP : w2.heap[By]? = some (.cells (pageC p).toArray 99 (0, 0)) := hC2.keep g5 (by simp; omega)
          have C1 : w2.cell? ⟨w.heap.size, i * 2 + 1, none⟩ = some (.int .i64 hi) := by simpa using H2.cell (x := (lo2, hi)) (List.getElem?_set_self (by rw [HSS.out]; exact hi4)) (j := 1) rfl
          have CF := H2.frozen
          have HH2 := Lib.hid H2
          clear H2 c0 c1 cf q3 qf3 q4 qf4 q5 qf5 hsq
          gi_wp2
          refine wpIn_region_ext [] [0, 1, 2, 3, 4, 5, 6, 7, 8, 9, 10] [] [11] (by kernel_rfl) (by kernel_rfl) (by kernel_rfl) ?late ?_
          case late => exact fun f hf => absurd hf List.not_mem_nil
          iterate 2
            refine Rob.y (v := ?_) rfl rfl (fun w1 hx hH => ?_) ?_; rotate_left
            · go_simp; first | done | rfl | exact (Bool.not_not _).symm
            simp only [Act.put, List.setIfInBounds_toArray, List.set_cons_succ, List.set_cons_zero]
          refine Rob.y (v := ?_) rfl rfl (fun w1 hx hH => ?_) ?_; rotate_left
          · (obtain ⟨q5, qf5⟩ := cellsK (keep_ext hx GP); have d1 := cell_ext hx C1); go_simp; first | done | rfl
          simp only [Act.put, List.setIfInBounds_toArray, List.set_cons_succ, List.set_cons_zero]
          refine Rob.y (v := ?_) rfl rfl (fun w1 hx hH => ?_) ?_; rotate_left
          · go_simp; first | done | rfl | exact (Bool.not_not _).symm
          simp only [Act.put, List.setIfInBounds_toArray, List.set_cons_succ, List.set_cons_zero]
          refine Rob.y (v := ?_) rfl rfl (fun w1 hx hH => ?_) ?_; rotate_left
          · (obtain ⟨q5, qf5⟩ := cellsK (keep_ext hx GP); have d1 := cell_ext hx C1); go_simp; first | done | rfl
          simp only [Act.put, List.setIfInBounds_toArray, List.set_cons_succ, List.set_cons_zero]
          iterate 2
            refine Rob.y (v := ?_) rfl rfl (fun w1 hx hH => ?_) ?_; rotate_left
            · go_simp; first | done | rfl | exact (Bool.not_not _).symm
            simp only [Act.put, List.setIfInBounds_toArray, List.set_cons_succ, List.set_cons_zero]
          refine Rob.y (v := ?_) rfl rfl (fun w1 hx hH => ?_) ?_; rotate_left
          · (obtain ⟨q5, qf5⟩ := cellsK (keep_ext hx GP); have d1 := cell_ext hx C1); go_simp; first | done | rfl
          simp only [Act.put, List.setIfInBounds_toArray, List.set_cons_succ, List.set_cons_zero]
          refine Rob.y (v := ?_) rfl rfl (fun w1 hx hH => ?_) ?_; rotate_left
          · go_simp; first | done | rfl | exact (Bool.not_not _).symm
          simp only [Act.put, List.setIfInBounds_toArray, List.set_cons_succ, List.set_cons_zero]
          refine Rob.y (v := ?_) rfl rfl (fun w1 hx hH => ?_) ?_; rotate_left
          · (obtain ⟨q5, qf5⟩ := cellsK (keep_ext hx GP); have d1 := cell_ext hx C1); go_simp; first | done | rfl
          simp only [Act.put, List.setIfInBounds_toArray, List.set_cons_succ, List.set_cons_zero]
          refine Rob.y (v := ?_) rfl rfl (fun w1 hx hH => ?_) ?_; rotate_left
          · go_simp; first | done | rfl | exact (Bool.not_not _).symm
          simp only [Act.put, List.setIfInBounds_toArray, List.set_cons_succ, List.set_cons_zero]
          refine fin_tail (fun w3 hx3 _ => ?_)
          simp only [dstOf, List.getElem?_cons_succ, List.getElem?_cons_zero, Option.bind_some, Act.put, List.setIfInBounds_toArray, List.set_cons_succ, List.set_cons_zero, List.filterMap_cons, List.filterMap_nil]
          have CF3 := fun j => (frozen_ext hx3 HH2.out.lt j).trans (CF j)
          have c3 := cell_ext hx3 C1
          refine wpList_plain rfl (fun K hK => ?_)
          go_simp
          refine hK _ _ ?_
          clear hK K
          refine wpList_nil ?_
          refine qn_mk ?_
          have H3 := HH2.out.ext hx3
          obtain ⟨hi2, hhi2⟩ : ∃ hi2, (if hi < p.r.seq then p.r.seq else hi) = hi2 := ⟨_, rfl⟩
          rw [hhi2] at HSN2 ⊢
          have hC3 := (hC2.trans (Chg.of_ext hx3)).set (p := ⟨w.heap.size, i * 2 + 1, none⟩) (.inl (by simp)) (.int .i64 hi2)
          clear hhi2
          gi_wp2
          refine ⟨KeepsFrom.of_chg hC3 (by have := HS0.out; simp; omega), KpD.of_chg hC3 (fun b hb => ⟨Nat.lt_of_lt_of_le (HD b hb) h4, by simp; omega⟩), ?_, hC3.keep h2 (by simp), Chg.ext h3 hC3 (by simp), Nat.le_trans h4 hC3.size⟩
          rw [HSN.out]
          have hS := OwnAt.set1 (n := 2) (enc := spanC) (fun _ => rfl) H3 (k := i) (by simp; rw [HSS.out]; exact hi4) (j := 1) (by omega) (.int .i64 hi2) (lo2, hi2) (by simp [spanC])
          rw [Nat.zero_add, List.set_set] at hS
          rw [HSN2.out]; exact hS
    · gi_wp2
      refine ⟨(KeepsOthers.refl _).from _, ⟨Nat.le_refl _, fun _ _ => rfl⟩, ?_, h2, h3, h4⟩
      rw [HSN.out]
      unfold spanAt spanStep
      rw [if_neg hst]
      rw [show ss.set i (ss.getD i (0, 0)) = ss by rw [List.getD_eq_getElem?_getD, List.getElem?_eq_getElem (by omega)]; simp]
      exact h1
end Go.Bu
