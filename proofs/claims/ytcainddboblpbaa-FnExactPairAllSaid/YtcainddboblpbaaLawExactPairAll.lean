/- The law FnExactPairAll holds of every input. -/
import Derived.Test.YtcainddboblpbaaLawExactPairOk
import Derived.Test.YtcainddboblpbaaMarks3
set_option linter.unusedVariables false
set_option linter.unusedSimpArgs false
namespace Go.Bu
open Go Go.RowKit Go.Plan Go.Proofs

theorem ints_refl (xs : List Int) : listEq intEq xs xs = true := listEq_refl' (fun x => by simp [intEq]) xs
theorem pairAllV_len (p : Pair) : (pairAllV p).length ≤ 6 := by
  unfold pairAllV; split
  · split <;> rw [allS_len] <;> omega
  · simp

set_option maxRecDepth 20000 in
set_option maxHeartbeats 4000000 in
theorem exactPairAll (v : Value) (p : Pair) (w : World) (h : PairIn w v p) : Calls Try.prog 3 #[v] w (Ret w (.bool true)) := by
  have hTo := fun (w' : World) (hx : Ext w w') (h1 : Small p.A) (h2 : Small p.B) => toPair_c v p w' (by obtain ⟨f, d, g, e, rfl, ⟨hA, hFA⟩, hB, hFB⟩ := h; exact ⟨f, d, g, e, rfl, ⟨hA.ext hx, hFA⟩, hB.ext hx, hFB⟩) h1 h2
  obtain ⟨f, d, g, e, rfl, ⟨hA, hFA⟩, hB, hFB⟩ := h
  have hSz := fun (w' : World) (hx : Ext w w') => szPair_c f d g e p 1048576 w' (hA.ext hx) hFA (hB.ext hx) hFB ⟨by omega, by omega⟩
  obtain ⟨a1, n1, rfl⟩ := hA.1.form
  obtain ⟨a2, n2, rfl⟩ := hA.2.form
  obtain ⟨a3, n3, rfl⟩ := hB.1.form
  obtain ⟨a4, n4, rfl⟩ := hB.2.form
  clear hA hB hFA hFB
  go_enter Try.func3, Try.ntmps3
  go_wp2_with fail
  refine (hSz _ (ext_alloc (ext_refl _) _)).mono ?_; rintro e1 w1 ⟨v1, rfl, hx1, r, rfl, hr⟩
  have G0 := keep_ext hx1 (hg_new (b := w.heap.size) rfl)
  obtain ⟨g0, gf0⟩ := cellsK G0
  have l0 := heap_lt G0
  have X1 := ext_trans (ext_alloc (ext_refl w) _) hx1
  clear hSz
  by_cases hr0 : r < 0
  · go_wp2_with fail
    go_ret
    exact ⟨rfl, X1⟩
  · obtain ⟨_, _, hsA, hsB⟩ := hr.resolve_left hr0
    have HA := Lib.hid hsA
    have HB := Lib.hid hsB
    have hTO := fun (w' : World) (hx : Ext w w') => hTo w' hx hsA hsB
    have HE := Lib.hid (pairEq_refl p)
    have HI := Lib.hid (ints_refl (pairAllV p))
    have HL := Lib.hid (pairAllV_len p)
    clear hTo hr hsA hsB
    go_wp2_with fail
    -- what the reference answers
    refine (hTO _ X1).mono ?_; rintro e2 w2 ⟨f1, d1, g1, h1, L, K, rfl, hx2, hO1, hO2, hn, hb⟩
    have X2 := ext_trans X1 hx2
    obtain ⟨b1, m1, c1, b2, m2, c2, rfl, rfl⟩ := hO1.forms
    obtain ⟨b3, m3, c3, b4, m4, c4, rfl, rfl⟩ := hO2.forms
    have hSP := specPairAll_c _ _ _ _ p w2 ⟨hO1.flash, hO1.disk⟩ ⟨hO2.flash, hO2.disk⟩ HA.out HB.out
    replace G0 := keep_ext hx2 G0
    clear g0 gf0 l0 hO1 hO2 hn hb hx2
    obtain ⟨g0, gf0⟩ := cellsK G0
    have l0 := heap_lt G0
    go_wp2_with fail
    refine hSP.mono ?_; rintro e3 w3 ⟨vw, BW, rfl, hx3, hBW, hW⟩
    have X3 := ext_trans X2 hx3
    replace G0 := keep_ext hx3 G0
    have lW := hW.lt
    have sW := X2.size
    have HW := Lib.hid hW
    obtain ⟨oW, cW, rfl⟩ := hW.slf
    clear g0 gf0 l0 hSP hx3 X2 hW
    obtain ⟨g0, gf0⟩ := cellsK G0
    have l0 := heap_lt G0
    go_wp2_with fail
    -- the argument
    refine (hTO _ X3).mono ?_; rintro e4 w4 ⟨f1, d1, g1, h1, L, K, rfl, hx4, hO1, hO2, hn, hb⟩
    have X4 := ext_trans X3 hx4
    obtain ⟨b1, m1, c1, b2, m2, c2, rfl, rfl⟩ := hO1.forms
    obtain ⟨b3, m3, c3, b4, m4, c4, rfl, rfl⟩ := hO2.forms
    have hIP := fun (w' : World) (hx : Ext w4 w') => implPairAll_c _ _ _ _ p w' ⟨hO1.flash.ext hx, hO1.disk.ext hx⟩ ⟨hO2.flash.ext hx, hO2.disk.ext hx⟩ HA.out HB.out
    have HLK : Hid (∀ b ∈ L ++ K, w3.heap.size ≤ b ∧ b < w4.heap.size) := Lib.hid (fun b hm => ⟨hb b hm, by rcases List.mem_append.1 hm with hm | hm; exact hO1.lt b hm; exact hO2.lt b hm⟩)
    replace G0 := keep_ext hx4 G0
    replace HW := Lib.hid (HW.out.ext hx4)
    have HO1 := Lib.hid hO1
    have HO2 := Lib.hid hO2
    have HN := Lib.hid hn
    have s4 := hx4.size
    have l0 := heap_lt G0
    have s3 := X3.size
    clear g0 gf0 hn hb hx4 X3 hO1 hO2
    go_wp2_with fail
    refine (hIP _ (ext_alloc (ext_refl _) _)).mono ?_; rintro e5 w5 ⟨vg, rfl, hx5, hG⟩
    have X45 : Ext w4 w5 := ext_trans (ext_alloc (ext_refl _) _) hx5
    have X5 := ext_trans X4 X45
    obtain ⟨L0, hG, hL0⟩ := hG.l
    have HG0 : Hid (∀ b ∈ L0, w4.heap.size < b) := Lib.hid (fun b hm => by have := hL0 b hm; simp at this; omega)
    replace G0 := keep_ext X45 G0
    have G5 := keep_ext hx5 (hg_new (b := w4.heap.size) rfl)
    replace HW := Lib.hid (HW.out.ext X45)
    have hO1 := HO1.out.ext X45
    have hO2 := HO2.out.ext X45
    have HOa := Lib.hid hO1
    have HOb := Lib.hid hO2
    have HGv := Lib.hid hG
    obtain ⟨aG, cG, rfl⟩ := hG.ints.form
    have hEq := fun (w' : World) (f' d' g' e' : Value) (hx : Ext w5 w') (q : PairV p (.agg #[f', d', g', e', .int .i64 p.lost]) w') => let ⟨L', K', q1, q2⟩ := q.own; eqPair_c _ f' _ d' _ g' _ e' p p w' (hO1.flash.ext hx) q1.flash (hO1.disk.ext hx) q1.disk (HA.out.fits _) (HA.out.fitsI _) (hO2.flash.ext hx) q2.flash (hO2.disk.ext hx) q2.disk (HB.out.fits _) (HB.out.fitsI _)
    rw [HE.out] at hEq
    have hqI := eqIntS_c _ _ _ _ w5 hG.ints HW.out.old (.inl (by have := HL.out; omega))
    rw [HI.out] at hqI
    clear hIP hx5 HO1 HO2 hO1 hO2 X45 hG hL0
    obtain ⟨g0, gf0⟩ := cellsK G0
    obtain ⟨g5, gf5⟩ := cellsK G5
    have l0 := heap_lt G0
    have l5 := heap_lt G5
    go_wp2_with fail
    refine hqI.mono ?_; rintro e6 w6 ⟨rfl, hx6⟩
    have X6 := ext_trans X5 hx6
    clear hqI g0 gf0 g5 gf5
    go_wp2_with fail
    refine wp_region_ext [2, 3] [0, 1, 2, 3, 4] [] [] (by kernel_rfl) (by kernel_rfl) ?late ?_
    case late => exact fun f hf => absurd hf List.not_mem_nil
    iterate 2
      refine Rob.y (v := ?_) rfl rfl (fun w1 hx hH => ?_) ?_; rotate_left
      · (obtain ⟨p0, pf0⟩ := cellsK (keep_ext (ext_trans hx6 hx) G0); obtain ⟨p5, pf5⟩ := cellsK (keep_ext (ext_trans hx6 hx) G5)); go_simp; first | done | rfl
      simp only [Act.put, List.setIfInBounds_toArray, List.set_cons_succ, List.set_cons_zero]
    refine Rob.c (fun _ _ v w' => PairV p v w') rfl rfl rfl (fun _ _ => (by (try exact ext_trans); all_goals exact fun h k => ⟨ext_trans h.1 k, h.2.stab k⟩)) (fun _ _ _ _ _ => fun hh hx => hh.stab hx) (fun w1 hx hH => ?_) (fun lo2 hi2 v2 hlo2 hhi2 hv2 => ?_)
    · unfold RunTo; go_simp; exact ((hTO _ (ext_trans X6 hx)).mono (fun e w' hh => hh.ret)).mono fun e w' h => h.to
    simp only [Act.put, List.setIfInBounds_toArray, List.set_cons_succ, List.set_cons_zero]
    obtain ⟨_, f', d', g', e', L', K', rfl, _, _⟩ := hv2
    refine Rob.cv (.bool true) rfl rfl rfl (fun _ _ => (by (try exact ext_trans); all_goals exact fun h k => ⟨ext_trans h.1 k, h.2.stab k⟩)) (fun w1 hx hH => ?_) (fun lo3 hi3 hlo3 hhi3 => ?_)
    · unfold RunTo; go_simp; exact (hEq _ _ _ _ _ (ext_trans hx6 hx.1) hx.2).mono fun e w' h => h.to
    simp only [Act.put, List.setIfInBounds_toArray, List.set_cons_succ, List.set_cons_zero]
    refine Rob.y (v := ?_) rfl rfl (fun w1 hx hH => ?_) ?_; rotate_left
    · go_simp; first | done | rfl | exact (Bool.not_not _).symm
    simp only [Act.put, List.setIfInBounds_toArray, List.set_cons_succ, List.set_cons_zero]
    refine fin_nil (fun w7 hx7 _ => ?_)
    have X57 := ext_trans hx6 hx7.1
    have X7 := ext_trans X6 hx7.1
    clear hEq X6 hx6 hx7
    replace G0 := keep_ext X57 G0
    replace G5 := keep_ext X57 G5
    obtain ⟨g0, gf0⟩ := cellsK G0
    obtain ⟨g5, gf5⟩ := cellsK G5
    replace HW := Lib.hid (HW.out.ext X57)
    replace HGv := Lib.hid (HGv.out.ext X57)
    go_wp2_with fail
    -- marks in the argument
    refine (markPair_g _ _ _ _ p.lost p.A p.B L K _ (HOa.out.ext X57) (HOb.out.ext X57) HN.out HA.out HB.out).mono ?_; rintro e8 w8 ⟨k, rfl, hk, C8⟩
    have X8 : Ext w w8 := C8.ext X7 fun b hm => by have := (HLK.out b hm).1; omega
    replace G0 := C8.keep G0 (fun hm => by have := (HLK.out _ hm).1; have := l0; omega)
    replace HW := Lib.hid (HW.out.chg C8 (fun hm => by have := (HLK.out _ hm).1; omega))
    replace HGv := Lib.hid (HGv.out.chg C8 (fun b hm hm2 => by have := (HLK.out _ hm2).2; have := HG0.out b hm; omega))
    clear C8 HOa HOb G5 g0 gf0 g5 gf5 l5 HLK HN X57
    have hkf : decide (k < 0) = false := by simp; omega
    have hqI := eqIntS_c _ _ _ _ w8 HGv.out.ints HW.out.old (.inl (by have := HL.out; omega))
    rw [HI.out] at hqI
    obtain ⟨g0, gf0⟩ := cellsK G0
    have l0 := heap_lt G0
    go_wp2_with fail
    refine hqI.mono ?_; rintro e9 w9 ⟨rfl, hx9⟩
    replace G0 := keep_ext hx9 G0
    replace HW := Lib.hid (HW.out.ext hx9)
    replace HGv := Lib.hid (HGv.out.ext hx9)
    have X9 := ext_trans X8 hx9
    clear hqI g0 gf0 l0
    obtain ⟨g0, gf0⟩ := cellsK G0
    have l0 := heap_lt G0
    go_wp2_with fail
    -- marks in the answer
    refine (markIntS_l _ _ L0 _ HGv.out (by have := HL.out; omega)).mono ?_; rintro e10 w10 ⟨rfl, C10, qs, hQ, hql, hqm⟩
    have X10 : Ext w w10 := C10.ext X9 fun b hm => by have := HG0.out b hm; omega
    replace G0 := C10.keep G0 (fun hm => by have := HG0.out _ hm; have := X4.size; omega)
    replace HW := Lib.hid (HW.out.chg C10 (fun hm => by have := HG0.out _ hm; omega))
    have hlq : qs.length ≤ 6 := by rw [hql]; exact HL.out
    have hh1 := fun (w' : World) (hx : Ext w10 w') => heldIntS_l _ qs L0 w' (hQ.ext hx) (by omega) hqm
    rw [hql] at hh1
    clear C10 HGv hQ g0 gf0
    obtain ⟨g0, gf0⟩ := cellsK G0
    have l0 := heap_lt G0
    go_wp2_with fail
    refine (hh1 _ (ext_refl _)).mono ?_; rintro e11 w11 ⟨rfl, hx11⟩
    have X11 := ext_trans X10 hx11
    replace G0 := keep_ext hx11 G0
    clear g0 gf0 l0
    obtain ⟨g0, gf0⟩ := cellsK G0
    have l0 := heap_lt G0
    go_wp2_with fail
    -- once more
    refine (hTO _ X11).mono ?_; rintro e12 w12 ⟨f1, d1, g1, h1, L2, K2, rfl, hx12, hO1, hO2, hn, hb⟩
    have X12 := ext_trans X11 hx12
    obtain ⟨b5, m5, c5, b6, m6, c6, rfl, rfl⟩ := hO1.forms
    obtain ⟨b7, m7, c7, b8, m8, c8, rfl, rfl⟩ := hO2.forms
    have hIP := implPairAll_c _ _ _ _ p w12 ⟨hO1.flash, hO1.disk⟩ ⟨hO2.flash, hO2.disk⟩ HA.out HB.out
    clear hO1 hO2 hn hb g0 gf0 l0
    go_wp2_with fail
    refine hIP.mono ?_; rintro e13 w13 ⟨vh, rfl, hx13, hG⟩
    have X1113 := ext_trans hx12 hx13
    have X1013 := ext_trans hx11 X1113
    have X13 := ext_trans X11 X1113
    obtain ⟨aH, cH, rfl⟩ := hG.ints.form
    have hqI := eqIntS_c _ _ _ _ w13 hG.ints (HW.out.ext X1013).old (.inl (by have := HL.out; omega))
    rw [HI.out] at hqI
    clear hIP hG hx12 hx13 X12
    go_wp2_with fail
    refine hqI.mono ?_; rintro e14 w14 ⟨rfl, hx14⟩
    go_wp2_with fail
    refine (hh1 _ (ext_trans X1013 hx14)).mono ?_; rintro e15 w15 ⟨rfl, hx15⟩
    go_wp2_with fail
    go_ret
    exact ⟨rfl, ext_trans X13 (ext_trans hx14 hx15)⟩
end Go.Bu
