/- The law FnExactPairBack holds of every input. -/
import Derived.Test.YtemhiidceckeoaaGreatZ4
import Derived.Test.YtemhiidceckeoaaGreatZ5
import Derived.Test.YtemhiidceckeoaaGreatZ7
set_option linter.unusedVariables false
set_option linter.unusedSimpArgs false
namespace Go.Bu
open Go Go.RowKit Go.Plan Go.Proofs

set_option maxRecDepth 20000 in
set_option maxHeartbeats 4000000 in
theorem exactPairBack (v : Value) (p : Pair) (w : World) (h : PairIn w v p) : Calls Tryz.prog 6 #[v] w (Ret w (.bool true)) := by
  have hTo := fun (w' : World) (hx : Ext w w') (h1 : Small p.A) (h2 : Small p.B) => toPair_c v p w' (by obtain ⟨f, d, g, e, rfl, ⟨hA, hFA⟩, hB, hFB⟩ := h; exact ⟨f, d, g, e, rfl, ⟨hA.ext hx, hFA⟩, hB.ext hx, hFB⟩) h1 h2
  obtain ⟨f, d, g, e, rfl, ⟨hA, hFA⟩, hB, hFB⟩ := h
  have hSz := fun (w' : World) (hx : Ext w w') => szPair_c f d g e p 1048576 w' (hA.ext hx) hFA (hB.ext hx) hFB ⟨by omega, by omega⟩
  obtain ⟨a1, n1, rfl⟩ := hA.1.form
  obtain ⟨a2, n2, rfl⟩ := hA.2.form
  obtain ⟨a3, n3, rfl⟩ := hB.1.form
  obtain ⟨a4, n4, rfl⟩ := hB.2.form
  clear hA hB hFA hFB
  go_enter Tryz.func6, Tryz.ntmps6
  go_wp2_with fail
  refine (hSz _ (ext_alloc (ext_refl _) _)).mono ?_; rintro e1 w1 ⟨v1, rfl, hx1, r, rfl, hr⟩
  have G0 := keep_ext hx1 (hg_new (b := w.heap.size) rfl)
  obtain ⟨g0, gf0⟩ := cellsK G0
  have l0 := heap_lt G0
  have X1 := ext_trans (ext_alloc (ext_refl w) _) hx1
  clear hSz
  by_cases hr0 : r < 0
  · go_wp2_with fail
    go_ret
    exact ⟨rfl, X1⟩
  · obtain ⟨_, _, hsA, hsB⟩ := hr.resolve_left hr0
    have HA := Lib.hid hsA
    have HB := Lib.hid hsB
    have hTO := fun (w' : World) (hx : Ext w w') => hTo w' hx hsA hsB
    have HE := Lib.hid (pairEq_refl p)
    clear hTo hr hsA hsB
    go_wp2_with fail
    -- what the reference answers
    refine (hTO _ X1).mono ?_; rintro e2 w2 ⟨f1, d1, g1, h1, L, K, rfl, hx2, hO1, hO2, hn, hb⟩
    have X2 := ext_trans X1 hx2
    obtain ⟨b1, m1, c1, b2, m2, c2, rfl, rfl⟩ := hO1.forms
    obtain ⟨b3, m3, c3, b4, m4, c4, rfl, rfl⟩ := hO2.forms
    have hSP := specPairBack_c _ _ _ _ p w2 ⟨hO1.flash, hO1.disk⟩ ⟨hO2.flash, hO2.disk⟩ HA.out HB.out
    have hIP := fun (f d g e : Value) (w' : World) (q : StoreV w' f d p.A) (q' : StoreV w' g e p.B) => implPairBack_c f d g e p w' q q' HA.out HB.out
    generalize (backV p) = an at hSP hIP
    replace G0 := keep_ext hx2 G0
    clear g0 gf0 l0 hO1 hO2 hn hb hx2
    obtain ⟨g0, gf0⟩ := cellsK G0
    have l0 := heap_lt G0
    go_wp2_with fail
    refine hSP.mono ?_; rintro e3 w3 ⟨vw, rfl, hx3, hW⟩
    have X3 := ext_trans X2 hx3
    replace G0 := keep_ext hx3 G0
    obtain ⟨MW, hW, hMW⟩ := hW.l
    have hlW := hW.lt
    have sW := X2.size
    obtain ⟨o1, o2, o3, o4, o5, o6, o7, o8, o9, o10, o11, o12, rfl⟩ := hW.forms
    have HW := Lib.hid hW
    have HMW : Hid (∀ b ∈ MW, w.heap.size < b ∧ b < w3.heap.size) := Lib.hid (fun b hb => ⟨by have := hMW b hb; omega, hlW b hb⟩)
    clear g0 gf0 l0 hSP hx3 X2 hW hMW hlW
    obtain ⟨g0, gf0⟩ := cellsK G0
    have l0 := heap_lt G0
    go_wp2_with fail
    -- the argument
    have XA3 : Ext w3 (w3.alloc (.cells #[.slice o1 o2 o3, .slice o4 o5 o6, .slice o7 o8 o9, .slice o10 o11 o12, .int .i64 an.lost] 33)) := ext_alloc (ext_refl _) _
    refine (hTO _ (ext_trans X3 XA3)).mono ?_; rintro e4 w4 ⟨f1, d1, g1, h1, L, K, rfl, hx4, hO1, hO2, hn, hb⟩
    have G6 := keep_ext hx4 (hg_new (b := w3.heap.size) rfl)
    have X34 := ext_trans XA3 hx4
    have X4 := ext_trans X3 X34
    obtain ⟨b1, m1, c1, b2, m2, c2, rfl, rfl⟩ := hO1.forms
    obtain ⟨b3, m3, c3, b4, m4, c4, rfl, rfl⟩ := hO2.forms
    have hIq := fun (w' : World) (hx : Ext w4 w') => hIP _ _ _ _ w' ⟨hO1.flash.ext hx, hO1.disk.ext hx⟩ ⟨hO2.flash.ext hx, hO2.disk.ext hx⟩
    simp at hb
    have HLK : Hid (∀ b ∈ L ++ K, w3.heap.size < b ∧ b < w4.heap.size) := Lib.hid (fun b hm => ⟨by have := hb b (List.mem_append.1 hm); omega, by rcases List.mem_append.1 hm with hm | hm; exact hO1.lt b hm; exact hO2.lt b hm⟩)
    replace G0 := keep_ext X34 G0
    replace HW := Lib.hid (HW.out.ext X34)
    have HO1 := Lib.hid hO1
    have HO2 := Lib.hid hO2
    have HN := Lib.hid hn
    have l0 := heap_lt G0
    have l6 := heap_lt G6
    have s3 := X3.size
    have s34 := X34.size
    clear g0 gf0 hn hb hx4 X3 XA3 X34 hO1 hO2
    obtain ⟨g6, gf6⟩ := cellsK G6
    go_wp2_with fail
    refine (hIq _ (ext_alloc (ext_refl _) _)).mono ?_; rintro e5 w5 ⟨vg, rfl, hx5, hG⟩
    have X45 : Ext w4 w5 := ext_trans (ext_alloc (ext_refl _) _) hx5
    have X5 := ext_trans X4 X45
    obtain ⟨MG, hG, hMG⟩ := hG.l
    have HMG : Hid (∀ b ∈ MG, w4.heap.size < b ∧ b < w5.heap.size) := Lib.hid (fun b hm => ⟨by have := hMG b hm; simp at this; omega, hG.lt b hm⟩)
    replace G0 := keep_ext X45 G0
    replace G6 := keep_ext X45 G6
    have G7 := keep_ext hx5 (hg_new (b := w4.heap.size) rfl)
    replace HW := Lib.hid (HW.out.ext X45)
    have hO1 := HO1.out.ext X45
    have hO2 := HO2.out.ext X45
    have HOa := Lib.hid hO1
    have HOb := Lib.hid hO2
    have HGv := Lib.hid hG
    obtain ⟨y1, y2, y3, y4, y5, y6, y7, y8, y9, y10, y11, y12, rfl⟩ := hG.forms
    have hEq := fun (w' : World) (f' d' g' e' : Value) (hx : Ext w5 w') (q : PairV p (.agg #[f', d', g', e', .int .i64 p.lost]) w') => let ⟨L', K', q1, q2⟩ := q.own; eqPair_c _ f' _ d' _ g' _ e' p p w' (hO1.flash.ext hx) q1.flash (hO1.disk.ext hx) q1.disk (HA.out.fits _) (HA.out.fitsI _) (hO2.flash.ext hx) q2.flash (hO2.disk.ext hx) q2.disk (HB.out.fits _) (HB.out.fitsI _)
    rw [HE.out] at hEq
    have hqI := fun (w' : World) (hx : Ext w5 w') => eqPair_l _ _ _ _ _ _ _ _ _ _ _ _ _ w' (HGv.out.ext hx) (HW.out.ext hx)
    clear hIq hx5 HO1 HO2 hO1 hO2 X45 hG hMG g6 gf6 l6
    obtain ⟨g0, gf0⟩ := cellsK G0
    obtain ⟨g6, gf6⟩ := cellsK G6
    obtain ⟨g7, gf7⟩ := cellsK G7
    have l0 := heap_lt G0
    have l6 := heap_lt G6
    have l7 := heap_lt G7
    go_wp2_with fail
    refine (hqI _ (ext_alloc (ext_refl _) _)).mono ?_; rintro e6 w6 ⟨rfl, hx6⟩
    have G8 := keep_ext hx6 (hg_new (b := w5.heap.size) rfl)
    have X56 := ext_trans (ext_alloc (ext_refl _) _) hx6
    have X6 := ext_trans X5 X56
    clear hqI g0 gf0 g6 gf6 g7 gf7 hx6
    go_wp2_with fail
    refine wp_region_ext [2, 3] [0, 1, 2, 3, 4] [] [] (by kernel_rfl) (by kernel_rfl) ?late ?_
    case late => exact fun f hf => absurd hf List.not_mem_nil
    iterate 2
      refine Rob.y (v := ?_) rfl rfl (fun w1 hx hH => ?_) ?_; rotate_left
      · (obtain ⟨p0, pf0⟩ := cellsK (keep_ext (ext_trans X56 hx) G0); obtain ⟨p7, pf7⟩ := cellsK (keep_ext (ext_trans X56 hx) G7)); go_simp; first | done | rfl
      simp only [Act.put, List.setIfInBounds_toArray, List.set_cons_succ, List.set_cons_zero]
    refine Rob.c (fun _ _ v w' => PairV p v w') rfl rfl rfl (fun _ _ => (by (try exact ext_trans); all_goals exact fun h k => ⟨ext_trans h.1 k, h.2.stab k⟩)) (fun _ _ _ _ _ => fun hh hx => hh.stab hx) (fun w1 hx hH => ?_) (fun lo2 hi2 v2 hlo2 hhi2 hv2 => ?_)
    · unfold RunTo; go_simp; exact ((hTO _ (ext_trans X6 hx)).mono (fun e w' hh => hh.ret)).mono fun e w' h => h.to
    simp only [Act.put, List.setIfInBounds_toArray, List.set_cons_succ, List.set_cons_zero]
    obtain ⟨_, f', d', g', e', L', K', rfl, _, _⟩ := hv2
    refine Rob.cv (.bool true) rfl rfl rfl (fun _ _ => (by (try exact ext_trans); all_goals exact fun h k => ⟨ext_trans h.1 k, h.2.stab k⟩)) (fun w1 hx hH => ?_) (fun lo3 hi3 hlo3 hhi3 => ?_)
    · unfold RunTo; go_simp; exact (hEq _ _ _ _ _ (ext_trans X56 hx.1) hx.2).mono fun e w' h => h.to
    simp only [Act.put, List.setIfInBounds_toArray, List.set_cons_succ, List.set_cons_zero]
    refine Rob.y (v := ?_) rfl rfl (fun w1 hx hH => ?_) ?_; rotate_left
    · go_simp; first | done | rfl | exact (Bool.not_not _).symm
    simp only [Act.put, List.setIfInBounds_toArray, List.set_cons_succ, List.set_cons_zero]
    refine fin_nil (fun w7 hx7 _ => ?_)
    have X57 := ext_trans X56 hx7.1
    have X7 := ext_trans X6 hx7.1
    replace G0 := keep_ext X57 G0
    replace G6 := keep_ext X57 G6
    replace G7 := keep_ext X57 G7
    replace G8 := keep_ext hx7.1 G8
    clear hEq X6 hx7
    obtain ⟨g0, gf0⟩ := cellsK G0
    obtain ⟨g7, gf7⟩ := cellsK G7
    replace HW := Lib.hid (HW.out.ext X57)
    replace HGv := Lib.hid (HGv.out.ext X57)
    go_wp2_with fail
    -- marks in the argument
    refine (markPair_g _ _ _ _ p.lost p.A p.B L K _ (HOa.out.ext X57) (HOb.out.ext X57) HN.out HA.out HB.out).mono ?_; rintro e8 w8 ⟨k, rfl, hk, C8⟩
    have X8 : Ext w w8 := C8.ext X7 fun b hm => by have := (HLK.out b hm).1; omega
    have s4 := X4.size
    have s5 := X5.size
    replace G0 := C8.keep G0 (fun hm => by have := (HLK.out _ hm).1; omega)
    replace G6 := C8.keep G6 (fun hm => by have := (HLK.out _ hm).1; omega)
    replace G8 := C8.keep G8 (fun hm => by have := (HLK.out _ hm).2; omega)
    replace HW := Lib.hid (HW.out.chg C8 (fun b hm hm2 => by have := (HLK.out _ hm2).1; have := (HMW.out _ hm).2; omega))
    replace HGv := Lib.hid (HGv.out.chg C8 (fun b hm hm2 => by have := (HLK.out _ hm2).2; have := HMG.out b hm; omega))
    clear C8 HOa HOb G7 g0 gf0 g7 gf7 HN X57
    have hkf : decide (k < 0) = false := by simp; omega
    have hqI := fun (w' : World) (hx : Ext w8 w') => eqPair_l _ _ _ _ _ _ _ _ _ _ _ _ _ w' (HGv.out.ext hx) (HW.out.ext hx)
    obtain ⟨g0, gf0⟩ := cellsK G0
    obtain ⟨g6, gf6⟩ := cellsK G6
    obtain ⟨g8, gf8⟩ := cellsK G8
    have l0 := heap_lt G0
    go_wp2_with fail
    refine (hqI _ (ext_refl _)).mono ?_; rintro e9 w9 ⟨rfl, hx9⟩
    replace G0 := keep_ext hx9 G0
    replace G6 := keep_ext hx9 G6
    replace G8 := keep_ext hx9 G8
    replace HW := Lib.hid (HW.out.ext hx9)
    replace HGv := Lib.hid (HGv.out.ext hx9)
    have X9 := ext_trans X8 hx9
    clear hqI g0 gf0 g6 gf6 g8 gf8 l0
    obtain ⟨g0, gf0⟩ := cellsK G0
    obtain ⟨g8, gf8⟩ := cellsK G8
    have l0 := heap_lt G0
    go_wp2_with fail
    -- marks in the answer
    refine (markPair_l _ _ MG _ HGv.out).mono ?_; rintro e10 w10 ⟨m, rfl, C10, hH⟩
    have X10 : Ext w w10 := C10.ext X9 fun b hm => by have := HMG.out b hm; omega
    have l5' : w5.heap.size ∉ MG := fun hm => by have := (HMG.out _ hm).2; omega
    replace G0 := C10.keep G0 (fun hm => by have := HMG.out _ hm; omega)
    replace G6 := C10.keep G6 (fun hm => by have := HMG.out _ hm; omega)
    replace G8 := C10.keep G8 l5'
    replace HW := Lib.hid (HW.out.chg C10 (fun b hm hm2 => by have := HMG.out _ hm2; have := HMW.out _ hm; omega))
    have hk10 := hH.k
    have hmf : decide (m < 0) = false := by simp; omega
    have hh1 := fun (w' : World) (hx : Ext w10 w') => heldPair_l _ MG m w' (hH.ext hx)
    clear C10 HGv hH g0 gf0 g8 gf8 HLK
    obtain ⟨g0, gf0⟩ := cellsK G0
    obtain ⟨g8, gf8⟩ := cellsK G8
    have l0 := heap_lt G0
    go_wp2_with fail
    refine (hh1 _ (ext_refl _)).mono ?_; rintro e11 w11 ⟨rfl, hx11⟩
    have X11 := ext_trans X10 hx11
    replace G0 := keep_ext hx11 G0
    replace G6 := keep_ext hx11 G6
    replace G8 := keep_ext hx11 G8
    clear g0 gf0 l0 g8 gf8
    obtain ⟨g0, gf0⟩ := cellsK G0
    have l0 := heap_lt G0
    go_wp2_with fail
    -- once more
    refine (hTO _ X11).mono ?_; rintro e12 w12 ⟨f1, d1, g1, h1, L2, K2, rfl, hx12, hO1, hO2, hn, hb⟩
    have X12 := ext_trans X11 hx12
    obtain ⟨b5, m5, c5, b6, m6, c6, rfl, rfl⟩ := hO1.forms
    obtain ⟨b7, m7, c7, b8, m8, c8, rfl, rfl⟩ := hO2.forms
    have hIq := hIP _ _ _ _ w12 ⟨hO1.flash, hO1.disk⟩ ⟨hO2.flash, hO2.disk⟩
    clear hO1 hO2 hn hb g0 gf0 l0
    go_wp2_with fail
    refine hIq.mono ?_; rintro e13 w13 ⟨vh, rfl, hx13, hG⟩
    have X1113 := ext_trans hx12 hx13
    have X1013 := ext_trans hx11 X1113
    have X13 := ext_trans X11 X1113
    obtain ⟨MH, hG, hMH⟩ := hG.l
    have HGh := Lib.hid hG
    obtain ⟨z1, z2, z3, z4, z5, z6, z7, z8, z9, z10, z11, z12, rfl⟩ := hG.forms
    replace G6 := keep_ext X1113 G6
    replace G8 := keep_ext X1113 G8
    have hqI := fun (w' : World) (hx : Ext w13 w') => eqPair_l _ _ _ _ _ _ _ _ _ _ _ _ _ w' (HGh.out.ext hx) (HW.out.ext (ext_trans X1013 hx))
    clear hIq hG hMH hx12 hx13 X12
    obtain ⟨g6, gf6⟩ := cellsK G6
    obtain ⟨g8, gf8⟩ := cellsK G8
    have l6 := heap_lt G6
    have l8 := heap_lt G8
    go_wp2_with fail
    refine (hqI _ (ext_alloc (ext_refl _) _)).mono ?_; rintro e14 w14 ⟨rfl, hx14⟩
    have X1314 := ext_trans (ext_alloc (ext_refl _) _) hx14
    replace G8 := keep_ext X1314 G8
    clear g6 gf6 g8 gf8
    obtain ⟨g8, gf8⟩ := cellsK G8
    go_wp2_with fail
    refine (hh1 _ (ext_trans X1013 X1314)).mono ?_; rintro e15 w15 ⟨rfl, hx15⟩
    go_wp2_with fail
    go_ret
    exact ⟨rfl, ext_trans X13 (ext_trans X1314 hx15)⟩
end Go.Bu
