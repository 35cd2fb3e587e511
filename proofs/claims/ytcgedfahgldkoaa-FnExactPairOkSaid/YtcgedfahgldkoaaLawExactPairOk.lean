/- The law FnExactPairOk holds of every input. -/
import Derived.Test.YtcgedfahgldkoaaToP
import Derived.Test.YtcgedfahgldkoaaPairS
import Derived.Test.YtcgedfahgldkoaaStoreI
set_option linter.unusedVariables false
set_option linter.unusedSimpArgs false
namespace Go.Bu
open Go Go.RowKit Go.Plan Go.Proofs

def PairV (p : Pair) (v : Value) (w' : World) : Prop := ∃ f' d' g' e' L' K', v = .agg #[f', d', g', e', .int .i64 p.lost] ∧ OwnStore w' f' d' p.A L' ∧ OwnStore w' g' e' p.B K'
theorem PairTo.ret {w w' : World} {p : Pair} {e : Ending} (h : PairTo w p e w') : RetP w (PairV p) e w' := by
  obtain ⟨f, d, g, h, L, K, h1, h2, h3, h4, _, _⟩ := h
  exact ⟨_, h1, h2, f, d, g, h, L, K, rfl, h3, h4⟩
theorem PairV.stab {w w' : World} {p : Pair} {v : Value} (h : PairV p v w) (hx : Ext w w') : PairV p v w' := by
  obtain ⟨f, d, g, h, L, K, h1, h3, h4⟩ := h
  exact ⟨f, d, g, h, L, K, h1, h3.ext hx, h4.ext hx⟩

theorem PairV.own {w : World} {p : Pair} {f d g e : Value} (h : PairV p (.agg #[f, d, g, e, .int .i64 p.lost]) w) : ∃ L K, OwnStore w f d p.A L ∧ OwnStore w g e p.B K := by
  obtain ⟨f2, d2, g2, e2, L, K, he, q1, q2⟩ := h
  injection he with he
  simp at he
  obtain ⟨rfl, rfl, rfl, rfl⟩ := he
  exact ⟨L, K, q1, q2⟩

set_option maxRecDepth 20000 in
set_option maxHeartbeats 2000000 in
theorem exactPairOk (v : Value) (p : Pair) (w : World) (h : PairIn w v p) : Calls Try.prog 8 #[v] w (Ret w (.bool true)) := by
  have hTo := fun (w' : World) (hx : Ext w w') (h1 : Small p.A) (h2 : Small p.B) => toPair_c v p w' (by obtain ⟨f, d, g, e, rfl, ⟨hA, hFA⟩, hB, hFB⟩ := h; exact ⟨f, d, g, e, rfl, ⟨hA.ext hx, hFA⟩, hB.ext hx, hFB⟩) h1 h2
  obtain ⟨f, d, g, e, rfl, ⟨hA, hFA⟩, hB, hFB⟩ := h
  have hSz := fun (w' : World) (hx : Ext w w') => szPair_c f d g e p 1048576 w' (hA.ext hx) hFA (hB.ext hx) hFB ⟨by omega, by omega⟩
  obtain ⟨a1, n1, rfl⟩ := hA.1.form
  obtain ⟨a2, n2, rfl⟩ := hA.2.form
  obtain ⟨a3, n3, rfl⟩ := hB.1.form
  obtain ⟨a4, n4, rfl⟩ := hB.2.form
  clear hA hB hFA hFB
  go_enter Try.func8, Try.ntmps8
  go_wp2_with fail
  refine (hSz _ (ext_alloc (ext_refl _) _)).mono ?_; rintro e1 w1 ⟨v1, rfl, hx1, r, rfl, hr⟩
  have G0 := keep_ext hx1 (hg_new (b := w.heap.size) rfl)
  obtain ⟨g0, gf0⟩ := cellsK G0
  have l0 := heap_lt G0
  have X1 := ext_trans (ext_alloc (ext_refl w) _) hx1
  clear hSz
  by_cases hr0 : r < 0
  · go_wp2_with fail
    go_ret
    exact ⟨rfl, X1⟩
  · obtain ⟨_, _, hsA, hsB⟩ := hr.resolve_left hr0
    have HA := Lib.hid hsA
    have HB := Lib.hid hsB
    have hTO := fun (w' : World) (hx : Ext w w') => hTo w' hx hsA hsB
    clear hTo hr hsA hsB
    go_wp2_with fail
    refine (hTO _ X1).mono ?_; rintro e2 w2 ⟨f1, d1, g1, h1, L, K, rfl, hx2, hO1, hO2, hn, hb⟩
    have X2 := ext_trans X1 hx2
    obtain ⟨b1, m1, c1, b2, m2, c2, rfl, rfl⟩ := hO1.forms
    obtain ⟨b3, m3, c3, b4, m4, c4, rfl, rfl⟩ := hO2.forms
    have hSP := specPairOk_c _ _ _ _ p w2 ⟨hO1.flash, hO1.disk⟩ ⟨hO2.flash, hO2.disk⟩ HA.out.1 HB.out.1
    replace G0 := keep_ext hx2 G0
    clear g0 gf0 l0 hO1 hO2 hn hb hx2
    obtain ⟨g0, gf0⟩ := cellsK G0
    have l0 := heap_lt G0
    go_wp2_with fail
    refine hSP.mono ?_; rintro e3 w3 ⟨rfl, hx3⟩
    have X3 := ext_trans X2 hx3
    replace G0 := keep_ext hx3 G0
    clear g0 gf0 l0 hSP hx3 X2
    obtain ⟨g0, gf0⟩ := cellsK G0
    have l0 := heap_lt G0
    go_wp2_with fail
    refine (hTO _ X3).mono ?_; rintro e4 w4 ⟨f1, d1, g1, h1, L, K, rfl, hx4, hO1, hO2, hn, hb⟩
    have X4 := ext_trans X3 hx4
    obtain ⟨b1, m1, c1, b2, m2, c2, rfl, rfl⟩ := hO1.forms
    obtain ⟨b3, m3, c3, b4, m4, c4, rfl, rfl⟩ := hO2.forms
    have hIP := fun (w' : World) (hx : Ext w4 w') => implPairOk_c _ _ _ _ p w' ⟨hO1.flash.ext hx, hO1.disk.ext hx⟩ ⟨hO2.flash.ext hx, hO2.disk.ext hx⟩ HA.out.2.1 HB.out.2.1 HA.out.2.2 HB.out.2.2
    rw [show (inB p.lost 0 2 && (storeOkB p.A && storeOkB p.B)) = pairOkB p from rfl] at hIP
    generalize pairOkB p = ok at *
    replace G0 := keep_ext hx4 G0
    have HO1 := Lib.hid hO1
    have HO2 := Lib.hid hO2
    have l0 := heap_lt G0
    clear g0 gf0 hn hb hx4 X3 hO1 hO2
    go_wp2_with fail
    refine (hIP _ (ext_alloc (ext_refl _) _)).mono ?_; rintro e5 w5 ⟨rfl, hx5⟩
    have X45 : Ext w4 w5 := ext_trans (ext_alloc (ext_refl _) _) hx5
    have X5 := ext_trans X4 X45
    replace G0 := keep_ext X45 G0
    have G5 := keep_ext hx5 (hg_new (b := w4.heap.size) rfl)
    have hO1 := HO1.out.ext X45
    have hO2 := HO2.out.ext X45
    have HE := Lib.hid (pairEq_refl p)
    have hEq := fun (w' : World) (f' d' g' e' : Value) (hx : Ext w5 w') (q : PairV p (.agg #[f', d', g', e', .int .i64 p.lost]) w') => let ⟨L', K', q1, q2⟩ := q.own; eqPair_c _ f' _ d' _ g' _ e' p p w' (hO1.flash.ext hx) q1.flash (hO1.disk.ext hx) q1.disk (HA.out.fits _) (HA.out.fitsI _) (hO2.flash.ext hx) q2.flash (hO2.disk.ext hx) q2.disk (HB.out.fits _) (HB.out.fitsI _)
    rw [HE.out] at hEq
    clear hIP hx5 HO1 HO2 hO1 hO2 X45
    go_wp2_with fail
    refine wp_region_ext [2, 3] [0, 1, 2, 3, 4] [] [] (by kernel_rfl) (by kernel_rfl) ?late ?_
    case late => exact fun f hf => absurd hf List.not_mem_nil
    iterate 2
      refine Rob.y (v := ?_) rfl rfl (fun w1 hx hH => ?_) ?_; rotate_left
      · (obtain ⟨p0, pf0⟩ := cellsK (keep_ext hx G0); obtain ⟨p5, pf5⟩ := cellsK (keep_ext hx G5)); go_simp; first | done | rfl
      simp only [Act.put, List.setIfInBounds_toArray, List.set_cons_succ, List.set_cons_zero]
    refine Rob.c (fun _ _ v w' => PairV p v w') rfl rfl rfl (fun _ _ => (by (try exact ext_trans); all_goals exact fun h k => ⟨ext_trans h.1 k, h.2.stab k⟩)) (fun _ _ _ _ _ => fun hh hx => hh.stab hx) (fun w1 hx hH => ?_) (fun lo2 hi2 v2 hlo2 hhi2 hv2 => ?_)
    · unfold RunTo; go_simp; exact ((hTO _ (ext_trans X5 hx)).mono (fun e w' hh => hh.ret)).mono fun e w' h => h.to
    simp only [Act.put, List.setIfInBounds_toArray, List.set_cons_succ, List.set_cons_zero]
    obtain ⟨_, f', d', g', e', L', K', rfl, _, _⟩ := hv2
    refine Rob.cv (.bool true) rfl rfl rfl (fun _ _ => (by (try exact ext_trans); all_goals exact fun h k => ⟨ext_trans h.1 k, h.2.stab k⟩)) (fun w1 hx hH => ?_) (fun lo3 hi3 hlo3 hhi3 => ?_)
    · unfold RunTo; go_simp; exact (hEq _ _ _ _ _ hx.1 hx.2).mono fun e w' h => h.to
    simp only [Act.put, List.setIfInBounds_toArray, List.set_cons_succ, List.set_cons_zero]
    refine Rob.y (v := ?_) rfl rfl (fun w1 hx hH => ?_) ?_; rotate_left
    · go_simp; first | done | rfl | exact (Bool.not_not _).symm
    simp only [Act.put, List.setIfInBounds_toArray, List.set_cons_succ, List.set_cons_zero]
    refine fin_nil (fun w6 hx6 _ => ?_)
    go_wp2_with fail
    go_ret
    exact ⟨rfl, ext_trans X5 hx6.1⟩
end Go.Bu
