/- The law FnExactPlayDo holds of every input. -/
import Derived.Test.YtemhiidceckeoaaGreatZ4
import Derived.Test.YtemhiidceckeoaaGreatZ8
import Derived.Test.YtemhiidceckeoaaGreatZ7
set_option linter.unusedVariables false
set_option linter.unusedSimpArgs false
namespace Go.Bu
open Go Go.RowKit Go.Plan Go.Proofs

theorem int_at' {P : Program} {H : Type} {enc : TypeId × Value → H} {w : World} {spare : Nat → Bool} {held : Bool} {t : TypeId} {fs : Array Field} {fuel : Nat} {cs : List Value} {x : DataW H × List MemPlace}
    (ht : P.underlying t = some (.struct fs)) (h : DataW.trod enc P w 0 spare held fuel t cs = some x) (i : Nat) {ft off : Nat} (hi : (fs[i]?).map (fun f => (f.type, f.offset)) = some (ft, off)) (hc : P.cellsOf ft = 1) (hu : P.underlying ft = some (.int .i64)) :
    ∃ n : Int, (cs.drop off).take 1 = [.int .i64 n] ∧ (Lit.int .i64 n).wf = true := by
  obtain ⟨m, y, hy⟩ := field_at ht h i hi hc
  obtain ⟨n, hn, _, hw⟩ := DataW.trod_int hu hy
  exact ⟨n, hn, hw⟩
theorem bool_at {P : Program} {H : Type} {enc : TypeId × Value → H} {w : World} {spare : Nat → Bool} {held : Bool} {t : TypeId} {fs : Array Field} {fuel : Nat} {cs : List Value} {x : DataW H × List MemPlace}
    (ht : P.underlying t = some (.struct fs)) (h : DataW.trod enc P w 0 spare held fuel t cs = some x) (i : Nat) {ft off : Nat} (hi : (fs[i]?).map (fun f => (f.type, f.offset)) = some (ft, off)) (hc : P.cellsOf ft = 1) (hu : P.underlying ft = some .bool) :
    ∃ b : Bool, (cs.drop off).take 1 = [.bool b] := by
  obtain ⟨m, y, hy⟩ := field_at ht h i hi hc
  obtain ⟨n, hn, _⟩ := DataW.trod_bool hu hy
  exact ⟨n, hn⟩
set_option maxRecDepth 100000 in
theorem is_event {H : Type} {enc : TypeId × Value → H} {w : World} {r : Reach} {base : Nat} {v : Value} {d : DataW H} {ps : List MemPlace} (hv : Value.okWide Tryz.prog w r base 42 v) (h : DataW.Trod enc Tryz.prog w 0 (fun _ => true) true 42 v d ps) :
    ∃ e : Event, v = eventA e ∧ -9223372036854775808 ≤ e.c ∧ e.c ≤ 9223372036854775807 := by
  obtain ⟨fuel, hf⟩ := h
  obtain ⟨cs, rfl, _⟩ := WideShapes.okWide_struct Tryz.underlying42 hv
  have hf : DataW.trod enc Tryz.prog w 0 (fun _ => true) true fuel 42 cs.toList = some (d, ps) := hf
  have hl := len_at Tryz.underlying42 hf (n := 5) (by kernel_rfl)
  obtain ⟨a, ha, _⟩ := int_at' Tryz.underlying42 hf 0 rfl cellsInt Tryz.underlying3
  obtain ⟨b, hb, _⟩ := int_at' Tryz.underlying42 hf 1 rfl cellsInt Tryz.underlying3
  obtain ⟨c, hc, _⟩ := int_at' Tryz.underlying42 hf 2 rfl cellsInt Tryz.underlying3
  obtain ⟨e, he, hw⟩ := int_at' Tryz.underlying42 hf 3 rfl cellsInt Tryz.underlying3
  obtain ⟨t, ht⟩ := bool_at Tryz.underlying42 hf 4 rfl (by kernel_rfl) Tryz.underlying4
  obtain ⟨xs⟩ := cs
  match xs, hl with
  | [c0, c1, c2, c3, c4], _ =>
    simp at ha hb hc he ht
    subst ha hb hc he ht
    exact ⟨⟨a, b, c, e, t⟩, rfl, wf_i64 hw⟩

theorem new_blk {W w1 : World} {p : Nat} {c : Array Value} {T : TypeId} (xs : List Value) (hx : Ext W w1) (hp : W.heap.size ≤ p) (ho : w1.heap[p]? = some (.cells c T (0, 0))) (hl : xs.length = c.size) :
    ∃ w2, setAll w1 p 0 xs = w2 ∧ Ext W w2 ∧ w2.heap[p]? = some (.cells xs.toArray T (0, 0)) ∧ Chg [p] w1 w2 := by
  obtain ⟨c', h1, h2, h3⟩ := setAll_block xs w1 0 c ho (by omega)
  have : c' = xs.toArray := Array.ext_getElem? fun j => by rw [h3 j]; simp
  subst this
  have hC : Chg [p] w1 (setAll w1 p 0 xs) := setAll_chg (Chg.refl _ _) (by simp) xs
  exact ⟨_, rfl, hC.ext hx (by simpa using hp), h1, hC⟩

def StoreB (s : Store) (lo hi : Nat) (v : Value) (w : World) : Prop := ∃ M, StoreL w v s M ∧ ∀ b ∈ M, lo ≤ b ∧ b < hi
theorem StoreB.ext {s : Store} {lo hi : Nat} {v : Value} {w w' : World} (h : StoreB s lo hi v w) (hx : Ext w w') : StoreB s lo hi v w' := let ⟨M, h1, h2⟩ := h; ⟨M, h1.ext hx, h2⟩
theorem StoreΦ.to {w w' : World} {s : Store} {e : Ending} (h : StoreΦ w s e w') : ∃ v, e = .returned v ∧ RetC w (StoreB s) v w' := by
  obtain ⟨v, M, rfl, hx, hS, hb⟩ := h
  exact ⟨v, rfl, hx, M, hS, fun b hm => ⟨hb b hm, hS.lt b hm⟩⟩
theorem StoreM.v {s : Store} {lo hi : Nat} {f d : Value} {w : World} (h : StoreM s lo hi (.agg #[f, d]) w) : StoreV w f d s := by
  obtain ⟨L, h1, _⟩ := h.own
  exact ⟨h1.flash, h1.disk⟩

set_option maxRecDepth 20000 in
set_option maxHeartbeats 4000000 in
theorem exactPlayDo (v : Value) (s : Store) (ev : Event) (w : World) (h : StoreIn w v s) (hc : -9223372036854775808 ≤ ev.c ∧ ev.c ≤ 9223372036854775807) : Calls Tryz.prog 5 #[v, eventA ev] w (Ret w (.bool true)) := by
  obtain ⟨f, d, rfl, hA, hFA⟩ := h
  have hSz := fun (w' : World) (hx : Ext w w') => szStore_c f d s 1048576 w' (hA.ext hx) hFA ⟨by omega, by omega⟩
  have hTo := fun (w' : World) (hx : Ext w w') (h1 : Small s) => toStore_c f d s w' (hA.ext hx) h1
  have hEv := fun (w' : World) => toEvent_c ev w'
  have hSP := fun (f d : Value) (w' : World) (q : StoreV w' f d s) (hs : Small s) => specPlayDo_c f d s ev w' q hs
  have hIP := fun (f d : Value) (w' : World) (q : StoreV w' f d s) (hs : Small s) => implPlayDo_c f d s ev w' q hs hc
  have HE := Lib.hid (storeEq_refl s)
  obtain ⟨a1, n1, rfl⟩ := hA.1.form
  obtain ⟨a2, n2, rfl⟩ := hA.2.form
  generalize doV s ev = an at hSP hIP
  obtain ⟨k, ea, eb, ec, et⟩ := ev
  dsimp only [eventA] at *
  clear hA hFA hc
  go_enter Tryz.func5, Tryz.ntmps5
  go_wp2_with fail
  refine (hSz _ (ext_alloc (ext_alloc (ext_refl _) _) _)).mono ?_; rintro e1 wA ⟨v1, rfl, hx1, r, rfl, hr⟩
  have X1 := ext_trans (ext_alloc (ext_alloc (ext_refl w) _) _) hx1
  have G2 := keep_ext hx1 (hg_alloc (hg_new (w := w) (b := w.heap.size) (x := .cells #[.slice a1 s.flash.length n1, .slice a2 s.disk.length n2] 25) rfl))
  have G3 := keep_ext hx1 (hg_new (b := w.heap.size + 1) (by simp))
  obtain ⟨g2, gf2⟩ := cellsK G2
  obtain ⟨g3, gf3⟩ := cellsK G3
  clear hSz hx1
  by_cases hr0 : r < 0
  · go_wp2_with fail
    go_ret
    exact ⟨rfl, X1⟩
  · obtain ⟨_, _, hs⟩ := hr.resolve_left hr0
    have HS := Lib.hid hs
    have hTO := fun (w' : World) (hx : Ext w w') => hTo w' hx hs
    have hsp := fun (f d : Value) (w' : World) (q : StoreV w' f d s) => hSP f d w' q hs
    have hip := fun (f d : Value) (w' : World) (q : StoreV w' f d s) => hIP f d w' q hs
    clear hTo hr hs hSP hIP
    go_wp2_with fail
    -- what the reference answers
    refine wp_region_ext [1, 3, 4] [0, 2, 1, 3, 4] [(5, .cells #[.slice none 0 0, .slice none 0 0] 31, fun b => .pointer (some ⟨b, 0, none⟩))] [6] (by kernel_rfl) (by kernel_rfl) ?late ?_
    case late =>
      intro f hf
      obtain rfl := List.mem_singleton.1 hf
      refine ⟨_, rfl, fun a w => ?_⟩
      go_simp
    iterate 2
      refine Rob.y (v := ?_) rfl rfl (fun w1 hx hH => ?_) ?_; rotate_left
      · (have hE : Ext wA w1 := (by first | exact hx | exact hx.1 | exact hx.1.1); obtain ⟨z2, zf2⟩ := cellsK (keep_ext hE G2); obtain ⟨z3, zf3⟩ := cellsK (keep_ext hE G3)); go_simp; first | done | rfl
      simp only [Act.put, List.setIfInBounds_toArray, List.set_cons_succ, List.set_cons_zero]
    refine Rob.c (StoreM s) rfl rfl rfl (fun _ _ => (by (first | exact ext_trans | exact fun h k => ⟨ext_trans h.1 k, h.2.ext k⟩))) (fun _ _ _ _ _ => fun h hx => h.ext hx) (fun w1 hx hH => ?_) (fun lo1 hi1 v1 hlo1 hhi1 hv1 => ?_)
    · unfold RunTo; go_simp; exact ((hTO _ (ext_trans X1 hx))).mono fun e w' h => h.to
    simp only [Act.put, List.setIfInBounds_toArray, List.set_cons_succ, List.set_cons_zero]
    obtain ⟨_, hv1⟩ := hv1
    obtain ⟨b1, m1, c1, b2, m2, c2, rfl⟩ := hv1.forms
    refine Rob.cv (.agg #[.int .i64 k, .int .i64 ea, .int .i64 eb, .int .i64 ec, .bool et]) rfl rfl rfl (fun _ _ => (by (first | exact ext_trans | exact fun h k => ⟨ext_trans h.1 k, h.2.ext k⟩))) (fun w1 hx hH => ?_) (fun lo3 hi3 hlo3 hhi3 => ?_)
    · unfold RunTo; go_simp; exact (hEv _).mono fun e w' h => h.to
    simp only [Act.put, List.setIfInBounds_toArray, List.set_cons_succ, List.set_cons_zero]
    refine Rob.c (StoreB an) rfl rfl rfl (fun _ _ => (by (first | exact ext_trans | exact fun h k => ⟨ext_trans h.1 k, h.2.ext k⟩))) (fun _ _ _ _ _ => fun h hx => h.ext hx) (fun w1 hx hH => ?_) (fun lo4 hi4 v4 hlo4 hhi4 hv4 => ?_)
    · unfold RunTo; go_simp; exact ((hsp _ _ _ hx.2.v)).mono fun e w' h => h.to
    simp only [Act.put, List.setIfInBounds_toArray, List.set_cons_succ, List.set_cons_zero]
    obtain ⟨_, hv4⟩ := hv4
    obtain ⟨_, hv4, _⟩ := hv4
    obtain ⟨o1, o2, o3, o4, o5, o6, rfl⟩ := hv4.forms
    refine fin_one (fun w2 bw hx2 _ hbw hlt hob hout => ?_)
    simp only [dstOf, List.getElem?_cons_succ, List.getElem?_cons_zero, Option.bind_some, Act.put, List.setIfInBounds_toArray, List.set_cons_succ, List.set_cons_zero, List.filterMap_cons, List.filterMap_nil]
    obtain ⟨⟨hx2, -⟩, MW, hW, hMW⟩ := hx2
    have X2 := ext_trans X1 hx2
    obtain ⟨wB, hwB, hXB, G6, hCB⟩ := new_blk [.slice o1 o2 o3, .slice o4 o5 o6] hx2 hbw hob rfl
    have X3 := ext_trans X1 hXB
    have hwA := X1.size
    have sA : w.heap.size + 1 + 1 ≤ wA.heap.size := by have := heap_lt G3; have := heap_lt G2; omega
    replace G2 := keep_ext hXB G2
    replace G3 := keep_ext hXB G3
    have lb := hout (lo4, hi4) (by simp)
    dsimp only at lb
    have HW := Lib.hid (hW.chg hCB fun b hm hm2 => by simp at hm2; have := hMW b hm; omega)
    have HMW : Hid (∀ b ∈ MW, w.heap.size + 1 < b ∧ b < wB.heap.size) := Lib.hid fun b hm => ⟨by have := hMW b hm; omega, HW.out.lt b hm⟩
    have q0 := cell_block hob
    have qf0 := frozen_block hob
    clear hW hMW hx2 hCB hob hout lb X2 g2 gf2 g3 gf3
    refine wpList_plain rfl (fun K hK => ?_)
    go_simp
    refine hK _ _ ?_
    clear hK K
    refine wpList_nil ?_
    change Exit.then _ _ _ _ (setAll w2 bw 0 [.slice o1 o2 o3, .slice o4 o5 o6])
    rw [hwB]
    clear hwB q0 qf0
    obtain ⟨g2, gf2⟩ := cellsK G2
    obtain ⟨g3, gf3⟩ := cellsK G3
    go_wp2_with fail
    -- the argument
    refine (hTO _ X3).mono ?_; rintro e4 w4 ⟨f1, d1, L, rfl, hx4, hO1, hn, hb⟩
    have G7 : (w4.alloc (.cells #[f1, d1] 31)).heap[w4.heap.size]? = some (.cells #[f1, d1] 31 (0, 0)) := hg_new rfl
    obtain ⟨b1, m1, c1, b2, m2, c2, rfl, rfl⟩ := hO1.forms
    have X4' : Ext wB (w4.alloc (.cells #[.slice b1 m1 c1, .slice b2 m2 c2] 31)) := ext_trans hx4 (ext_alloc (ext_refl _) _)
    have HLK : Hid (∀ b ∈ L, wB.heap.size ≤ b ∧ b < w4.heap.size) := Lib.hid fun b hm => ⟨hb b hm, hO1.lt b hm⟩
    have HO := Lib.hid (hO1.ext (ext_alloc (ext_refl _) (.cells #[.slice b1 m1 c1, .slice b2 m2 c2] 31)))
    have lbB := heap_lt G6
    have s4 := hx4.size
    have HN := Lib.hid hn
    replace HW := Lib.hid (HW.out.ext X4')
    have X5 := ext_trans X3 X4'
    replace G2 := keep_ext X4' G2
    replace G3 := keep_ext X4' G3
    replace G6 := keep_ext X4' G6
    obtain ⟨P, hP⟩ : ∃ P, w4.heap.size = P := ⟨_, rfl⟩
    clear hO1 hn hb hx4 X4' X3 g2 gf2 g3 gf3
    go_wp2_with fail
    rw [hP] at G7 HLK s4
    try rw [hP]
    generalize hW5 : w4.alloc (.cells #[.slice b1 m1 c1, .slice b2 m2 c2] 31) = w5 at *
    have s5 : w5.heap.size = P + 1 := by rw [← hW5]; simp [hP]
    clear hP hW5
    refine wp_region_ext [2, 3] [0, 1, 2, 3] [(4, .cells #[.slice none 0 0, .slice none 0 0] 31, fun b => .pointer (some ⟨b, 0, none⟩))] [5] (by kernel_rfl) (by kernel_rfl) ?late ?_
    case late =>
      intro f hf
      obtain rfl := List.mem_singleton.1 hf
      refine ⟨_, rfl, fun a w => ?_⟩
      go_simp
    iterate 2
      refine Rob.y (v := ?_) rfl rfl (fun w1 hx hH => ?_) ?_; rotate_left
      · (have hE : Ext w5 w1 := (by first | exact hx | exact hx.1 | exact hx.1.1); obtain ⟨z3, zf3⟩ := cellsK (keep_ext hE G3); obtain ⟨z7, zf7⟩ := cellsK (keep_ext hE G7)); go_simp; first | done | rfl
      simp only [Act.put, List.setIfInBounds_toArray, List.set_cons_succ, List.set_cons_zero]
    refine Rob.cv (.agg #[.int .i64 k, .int .i64 ea, .int .i64 eb, .int .i64 ec, .bool et]) rfl rfl rfl (fun _ _ => (by (first | exact ext_trans | exact fun h k => ⟨ext_trans h.1 k, h.2.ext k⟩))) (fun w1 hx hH => ?_) (fun lo2 hi2 hlo2 hhi2 => ?_)
    · unfold RunTo; go_simp; exact (hEv _).mono fun e w' h => h.to
    simp only [Act.put, List.setIfInBounds_toArray, List.set_cons_succ, List.set_cons_zero]
    refine Rob.c (StoreB an) rfl rfl rfl (fun _ _ => (by (first | exact ext_trans | exact fun h k => ⟨ext_trans h.1 k, h.2.ext k⟩))) (fun _ _ _ _ _ => fun h hx => h.ext hx) (fun w1 hx hH => ?_) (fun lo3 hi3 v3 hlo3 hhi3 hv3 => ?_)
    · unfold RunTo; go_simp; exact ((hip _ _ _ ⟨HO.out.flash.ext hx, HO.out.disk.ext hx⟩)).mono fun e w' h => h.to
    simp only [Act.put, List.setIfInBounds_toArray, List.set_cons_succ, List.set_cons_zero]
    obtain ⟨_, hv3⟩ := hv3
    obtain ⟨_, hv3, _⟩ := hv3
    obtain ⟨y1, y2, y3, y4, y5, y6, rfl⟩ := hv3.forms
    refine fin_one (fun w6 bg hx6 _ hbg hlg hob hout => ?_)
    simp only [dstOf, List.getElem?_cons_succ, List.getElem?_cons_zero, Option.bind_some, Act.put, List.setIfInBounds_toArray, List.set_cons_succ, List.set_cons_zero, List.filterMap_cons, List.filterMap_nil]
    obtain ⟨hx6, MG, hG, hMG⟩ := hx6
    obtain ⟨w7, hw7, hX7, G8, hC7⟩ := new_blk [.slice y1 y2 y3, .slice y4 y5 y6] hx6 hbg hob rfl
    have X7 := ext_trans X5 hX7
    replace G2 := keep_ext hX7 G2
    replace G3 := keep_ext hX7 G3
    replace G6 := keep_ext hX7 G6
    replace G7 := keep_ext hX7 G7
    have lb := hout (lo3, hi3) (by simp)
    dsimp only at lb
    have HGS := Lib.hid (hG.chg hC7 fun b hm hm2 => by simp at hm2; have := hMG b hm; omega)
    have HMG : Hid (∀ b ∈ MG, P < b ∧ b < w7.heap.size ∧ b ≠ bg) := Lib.hid fun b hm => ⟨by have := hMG b hm; omega, HGS.out.lt b hm, fun e => by have := hMG b hm; omega⟩
    replace HO := Lib.hid (HO.out.ext hX7)
    replace HW := Lib.hid (HW.out.ext hX7)
    have hbP : P < bg := by omega
    have q0 := cell_block hob
    have qf0 := frozen_block hob
    clear hG hMG hx6 hC7 hob hout lb hX7 hv3
    refine wpList_plain rfl (fun K hK => ?_)
    go_simp
    refine hK _ _ ?_
    clear hK K
    refine wpList_nil ?_
    change Exit.then _ _ _ _ (setAll w6 bg 0 [.slice y1 y2 y3, .slice y4 y5 y6])
    rw [hw7]
    clear hw7 q0 qf0
    obtain ⟨g6, gf6⟩ := cellsK G6
    obtain ⟨g8, gf8⟩ := cellsK G8
    have hqI := fun (w' : World) (hx : Ext w7 w') => eqStore_l _ _ _ _ _ _ _ w' (HGS.out.ext hx) (HW.out.ext hx)
    go_wp2_with fail
    refine (hqI _ (ext_refl _)).mono ?_; rintro e8 w8 ⟨rfl, hx8⟩
    clear g6 gf6 g8 gf8 hqI
    go_wp2_with fail
    have hEq := fun (w' : World) (f' d' : Value) (hx : Ext w7 w') (q : StoreV w' f' d' s) => eqStore_c _ f' _ d' s s w' (HO.out.flash.ext hx) q.1 (HO.out.disk.ext hx) q.2 (HS.out.fits _) (HS.out.fitsI _)
    rw [HE.out] at hEq
    refine wp_region_ext [2, 3] [0, 1, 2, 3, 4] [] [] (by kernel_rfl) (by kernel_rfl) ?late ?_
    case late => exact fun f hf => absurd hf List.not_mem_nil
    iterate 2
      refine Rob.y (v := ?_) rfl rfl (fun w1 hx hH => ?_) ?_; rotate_left
      · (have hE : Ext w8 w1 := (by first | exact hx | exact hx.1 | exact hx.1.1); obtain ⟨z2, zf2⟩ := cellsK (keep_ext (ext_trans hx8 hE) G2); obtain ⟨z7, zf7⟩ := cellsK (keep_ext (ext_trans hx8 hE) G7)); go_simp; first | done | rfl
      simp only [Act.put, List.setIfInBounds_toArray, List.set_cons_succ, List.set_cons_zero]
    refine Rob.c (StoreM s) rfl rfl rfl (fun _ _ => (by (first | exact ext_trans | exact fun h k => ⟨ext_trans h.1 k, h.2.ext k⟩))) (fun _ _ _ _ _ => fun h hx => h.ext hx) (fun w1 hx hH => ?_) (fun lo2 hi2 v2 hlo2 hhi2 hv2 => ?_)
    · unfold RunTo; go_simp; exact ((hTO _ (ext_trans X7 (ext_trans hx8 hx)))).mono fun e w' h => h.to
    simp only [Act.put, List.setIfInBounds_toArray, List.set_cons_succ, List.set_cons_zero]
    obtain ⟨_, hv2⟩ := hv2
    obtain ⟨r1, r2, r3, r4, r5, r6, rfl⟩ := hv2.forms
    refine Rob.cv (.bool true) rfl rfl rfl (fun _ _ => (by (first | exact ext_trans | exact fun h k => ⟨ext_trans h.1 k, h.2.ext k⟩))) (fun w1 hx hH => ?_) (fun lo3 hi3 hlo3 hhi3 => ?_)
    · unfold RunTo; go_simp; exact ((hEq _ _ _ (ext_trans hx8 hx.1) hx.2.v)).mono fun e w' h => h.to
    simp only [Act.put, List.setIfInBounds_toArray, List.set_cons_succ, List.set_cons_zero]
    refine Rob.y (v := ?_) rfl rfl (fun w1 hx hH => ?_) ?_; rotate_left
    · go_simp; first | done | rfl | exact (Bool.not_not _).symm
    simp only [Act.put, List.setIfInBounds_toArray, List.set_cons_succ, List.set_cons_zero]
    refine fin_nil (fun w9 hx9 _ => ?_)
    have X79 := ext_trans hx8 hx9.1
    have X9 := ext_trans X7 X79
    replace G2 := keep_ext X79 G2
    replace G3 := keep_ext X79 G3
    replace G6 := keep_ext X79 G6
    replace G7 := keep_ext X79 G7
    replace G8 := keep_ext X79 G8
    replace HGS := Lib.hid (HGS.out.ext X79)
    replace HO := Lib.hid (HO.out.ext X79)
    replace HW := Lib.hid (HW.out.ext X79)
    have s9 := X79.size
    replace HMG : Hid (∀ b ∈ MG, P < b ∧ b < w9.heap.size ∧ b ≠ bg) := Lib.hid fun b hm => by have := HMG.out b hm; omega
    clear hEq hx8 hx9 X7 X79 hv2
    obtain ⟨g7, gf7⟩ := cellsK G7
    go_wp2_with fail
    -- marks in the argument
    refine (markStore_g _ _ s L 1 _ HO.out HN.out HS.out (by omega) (by omega)).mono ?_; rintro e10 w10 ⟨k1, rfl, hk0, hk1, C10⟩
    have X10 := C10.ext X9 fun b hm => by have := HLK.out b hm; omega
    have hbwL : bw ∉ L := fun hm => by have := HLK.out _ hm; omega
    have hbgL : bg ∉ L := fun hm => by have := HLK.out _ hm; omega
    replace G2 := C10.keep G2 fun hm => by have := HLK.out _ hm; omega
    replace G3 := C10.keep G3 fun hm => by have := HLK.out _ hm; omega
    replace G6 := C10.keep G6 hbwL
    replace G8 := C10.keep G8 hbgL
    replace HGS := Lib.hid (HGS.out.chg C10 fun b hm hm2 => by have := HMG.out b hm; have := HLK.out b hm2; omega)
    replace HW := Lib.hid (HW.out.chg C10 fun b hm hm2 => by have := HMW.out b hm; have := HLK.out b hm2; omega)
    have s10 := C10.size
    clear g7 gf7 C10 X9 HO hbwL hbgL G7
    have hkf : decide (k1 < 0) = false := by simp; omega
    obtain ⟨g6, gf6⟩ := cellsK G6
    obtain ⟨g8, gf8⟩ := cellsK G8
    have hqI := fun (w' : World) (hx : Ext w10 w') => eqStore_l _ _ _ _ _ _ _ w' (HGS.out.ext hx) (HW.out.ext hx)
    go_wp2_with fail
    refine (hqI _ (ext_refl _)).mono ?_; rintro e11 w11 ⟨rfl, hx11⟩
    have X11 := ext_trans X10 hx11
    replace G2 := keep_ext hx11 G2
    replace G3 := keep_ext hx11 G3
    replace G6 := keep_ext hx11 G6
    replace G8 := keep_ext hx11 G8
    replace HGS := Lib.hid (HGS.out.ext hx11)
    replace HW := Lib.hid (HW.out.ext hx11)
    have s11 := hx11.size
    clear g6 gf6 g8 gf8 hqI hx11 X10
    obtain ⟨g8, gf8⟩ := cellsK G8
    go_wp2_with fail
    -- marks in the answer
    refine (markStore_l _ _ MG _ HGS.out).mono ?_; rintro e12 w12 ⟨m, rfl, C12, hH⟩
    have X12 : Ext w w12 := C12.ext X11 fun b hm => by have := HMG.out b hm; omega
    have hbgG : bg ∉ MG := fun hm => (HMG.out _ hm).2.2 rfl
    have hbwG : bw ∉ MG := fun hm => by have := (HMG.out _ hm).1; omega
    replace G2 := C12.keep G2 fun hm => by have := HMG.out _ hm; omega
    replace G3 := C12.keep G3 fun hm => by have := HMG.out _ hm; omega
    replace G6 := C12.keep G6 hbwG
    replace G8 := C12.keep G8 hbgG
    replace HW := Lib.hid (HW.out.chg C12 fun b hm hm2 => by have := HMG.out b hm2; have := HMW.out b hm; omega)
    have hkm := hH.k
    have hmf : decide (m < 0) = false := by simp; omega
    have hh1 := fun (w' : World) (hx : Ext w12 w') => heldStore_l _ MG m w' (hH.ext hx)
    clear C12 HGS hH g8 gf8 X11 hbgG hbwG
    obtain ⟨g8, gf8⟩ := cellsK G8
    go_wp2_with fail
    refine (hh1 _ (ext_refl _)).mono ?_; rintro e13 w13 ⟨rfl, hx13⟩
    have X13 := ext_trans X12 hx13
    replace G2 := keep_ext hx13 G2
    replace G3 := keep_ext hx13 G3
    replace G6 := keep_ext hx13 G6
    replace G8 := keep_ext hx13 G8
    replace HW := Lib.hid (HW.out.ext hx13)
    clear g8 gf8 X12
    go_wp2_with fail
    -- once more
    refine wp_region_ext [1, 3, 4] [0, 2, 1, 3, 4] [(5, .cells #[.slice none 0 0, .slice none 0 0] 31, fun b => .pointer (some ⟨b, 0, none⟩))] [6] (by kernel_rfl) (by kernel_rfl) ?late ?_
    case late =>
      intro f hf
      obtain rfl := List.mem_singleton.1 hf
      refine ⟨_, rfl, fun a w => ?_⟩
      go_simp
    iterate 2
      refine Rob.y (v := ?_) rfl rfl (fun w1 hx hH => ?_) ?_; rotate_left
      · (have hE : Ext w13 w1 := (by first | exact hx | exact hx.1 | exact hx.1.1); obtain ⟨z2, zf2⟩ := cellsK (keep_ext hE G2); obtain ⟨z3, zf3⟩ := cellsK (keep_ext hE G3)); go_simp; first | done | rfl
      simp only [Act.put, List.setIfInBounds_toArray, List.set_cons_succ, List.set_cons_zero]
    refine Rob.c (StoreM s) rfl rfl rfl (fun _ _ => (by (first | exact ext_trans | exact fun h k => ⟨ext_trans h.1 k, h.2.ext k⟩))) (fun _ _ _ _ _ => fun h hx => h.ext hx) (fun w1 hx hH => ?_) (fun lo1 hi1 v1 hlo1 hhi1 hv1 => ?_)
    · unfold RunTo; go_simp; exact ((hTO _ (ext_trans X13 hx))).mono fun e w' h => h.to
    simp only [Act.put, List.setIfInBounds_toArray, List.set_cons_succ, List.set_cons_zero]
    obtain ⟨_, hv1⟩ := hv1
    obtain ⟨b3, m3, c3, b4, m4, c4, rfl⟩ := hv1.forms
    refine Rob.cv (.agg #[.int .i64 k, .int .i64 ea, .int .i64 eb, .int .i64 ec, .bool et]) rfl rfl rfl (fun _ _ => (by (first | exact ext_trans | exact fun h k => ⟨ext_trans h.1 k, h.2.ext k⟩))) (fun w1 hx hH => ?_) (fun lo3 hi3 hlo3 hhi3 => ?_)
    · unfold RunTo; go_simp; exact (hEv _).mono fun e w' h => h.to
    simp only [Act.put, List.setIfInBounds_toArray, List.set_cons_succ, List.set_cons_zero]
    refine Rob.c (StoreB an) rfl rfl rfl (fun _ _ => (by (first | exact ext_trans | exact fun h k => ⟨ext_trans h.1 k, h.2.ext k⟩))) (fun _ _ _ _ _ => fun h hx => h.ext hx) (fun w1 hx hH => ?_) (fun lo4 hi4 v4 hlo4 hhi4 hv4 => ?_)
    · unfold RunTo; go_simp; exact ((hip _ _ _ hx.2.v)).mono fun e w' h => h.to
    simp only [Act.put, List.setIfInBounds_toArray, List.set_cons_succ, List.set_cons_zero]
    obtain ⟨_, hv4⟩ := hv4
    obtain ⟨_, hv4, _⟩ := hv4
    obtain ⟨u1, u2, u3, u4, u5, u6, rfl⟩ := hv4.forms
    refine fin_one (fun w14 bh hx14 _ hbh hlh hob hout => ?_)
    simp only [dstOf, List.getElem?_cons_succ, List.getElem?_cons_zero, Option.bind_some, Act.put, List.setIfInBounds_toArray, List.set_cons_succ, List.set_cons_zero, List.filterMap_cons, List.filterMap_nil]
    obtain ⟨⟨hx14, -⟩, MH, hH, hMH⟩ := hx14
    obtain ⟨w15, hw15, hX15, G9, hC15⟩ := new_blk [.slice u1 u2 u3, .slice u4 u5 u6] hx14 hbh hob rfl
    have X15 := ext_trans X13 hX15
    replace G6 := keep_ext hX15 G6
    replace G8 := keep_ext hX15 G8
    have lb := hout (lo4, hi4) (by simp)
    dsimp only at lb
    have HH := Lib.hid (hH.chg hC15 fun b hm hm2 => by simp at hm2; have := hMH b hm; omega)
    replace HW := Lib.hid (HW.out.ext hX15)
    have X1215 := ext_trans hx13 hX15
    have q0 := cell_block hob
    have qf0 := frozen_block hob
    clear hH hMH hx14 hC15 hob hout lb hX15 hv1 hv4 X13 hx13
    refine wpList_plain rfl (fun K hK => ?_)
    go_simp
    refine hK _ _ ?_
    clear hK K
    refine wpList_nil ?_
    change Exit.then _ _ _ _ (setAll w14 bh 0 [.slice u1 u2 u3, .slice u4 u5 u6])
    rw [hw15]
    clear hw15 q0 qf0
    obtain ⟨g6, gf6⟩ := cellsK G6
    obtain ⟨g9, gf9⟩ := cellsK G9
    have hqI := fun (w' : World) (hx : Ext w15 w') => eqStore_l _ _ _ _ _ _ _ w' (HH.out.ext hx) (HW.out.ext hx)
    go_wp2_with fail
    refine (hqI _ (ext_refl _)).mono ?_; rintro e16 w16 ⟨rfl, hx16⟩
    replace G8 := keep_ext hx16 G8
    clear g6 gf6 g9 gf9 hqI
    obtain ⟨g8, gf8⟩ := cellsK G8
    go_wp2_with fail
    refine (hh1 _ (ext_trans X1215 hx16)).mono ?_; rintro e17 w17 ⟨rfl, hx17⟩
    go_wp2_with fail
    go_ret
    exact ⟨rfl, ext_trans X15 (ext_trans hx16 hx17)⟩
end Go.Bu
