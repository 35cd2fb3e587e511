/- PairLose of the reference. -/
import Derived.Test.YtcainddboblpbaaLoseI
set_option linter.unusedVariables false
set_option linter.unusedSimpArgs false
namespace Go.Bu
open Go Go.RowKit Go.Plan Go.Proofs

set_option maxRecDepth 20000 in
set_option maxHeartbeats 4000000 in
theorem specPairLose_c (f d g e : Value) (p : Pair) (which : Int) (w : World) (hA : StoreV w f d p.A) (hB : StoreV w g e p.B) (hsA : Small p.A) (hsB : Small p.B) :
    Calls Try.prog 17 #[.agg #[f, d, g, e, .int .i64 p.lost], .int .i64 which] w (PairΦ w (pairLoseV p which)) := by
  have hPO := fun (w' : World) (hx : Ext w w') => specPairOk_c f d g e p w' (hA.ext hx) (hB.ext hx) hsA.1 hsB.1
  have hTW := fun (w' : World) (hx : Ext w w') (h1 : Shape4 p.A) (h2 : Shape4 p.B) => l23Copy_c f d g e p w' (hA.ext hx) (hB.ext hx) h1.flash h1.pages h1.disk h2.flash h2.pages h2.disk
  unfold pairLoseV
  obtain ⟨a1, n1, rfl⟩ := hA.1.form
  obtain ⟨a2, n2, rfl⟩ := hA.2.form
  obtain ⟨a3, n3, rfl⟩ := hB.1.form
  obtain ⟨a4, n4, rfl⟩ := hB.2.form
  clear hA hB hsA hsB
  have hIN : inB which 1 2 = decide (1 ≤ which ∧ which ≤ 2) := by
    cases h : inB which 1 2 with
    | true => simp [inB_iff.1 h]
    | false => symm; rw [decide_eq_false_iff_not]; intro h2; rw [inB_iff.2 h2] at h; cases h
  by_cases hok : pairOkB p = true
  · obtain ⟨hl, hokA, hokB⟩ := pairOk_iff.1 hok
    have hSA := storeOk_shape hokA
    have hSB := storeOk_shape hokB
    have HSA := Lib.hid hSA
    have HSB := Lib.hid hSB
    have hTw := fun (w' : World) (hx : Ext w w') => hTW w' hx hSA hSB
    rw [hok] at hPO
    simp only [hok, true_and]
    clear hTW hok hokA hokB hSA hSB
    by_cases h1 : 1 ≤ which ∧ which ≤ 2
    · rw [if_pos h1]
      rw [decide_eq_true h1] at hIN
      obtain ⟨h1, h2⟩ := h1
      by_cases h0 : p.lost = 0
      · rw [if_pos h0]
        rw [h0] at hTw hPO ⊢
        by_cases hw1 : which = 1
        · subst hw1
          rw [if_pos rfl]
          go_enter Try.func17, Try.ntmps17
          go_wp2_with fail
          refine (hPO _ (ext_alloc (ext_alloc (ext_refl _) _) _)).mono ?_; rintro e1 w1 ⟨rfl, hx1⟩
          have X1 := ext_trans (ext_alloc (ext_alloc (ext_refl w) _) _) hx1
          have G0 := keep_ext hx1 (hg_alloc (hg_new (b := w.heap.size) rfl))
          have G1 := keep_ext hx1 (hg_new (b := w.heap.size + 1) (by simp))
          obtain ⟨g0, gf0⟩ := cellsK G0
          obtain ⟨g1, gf1⟩ := cellsK G1
          have lw2 := heap_lt G1
          clear hPO hx1
          go_wp2_with (go_at_call 36; refine (l6In_c _ _ _ _).mono ?_; rw [hIN]; rintro e w' ⟨rfl, rfl⟩)
          refine (hTw _ X1).mono ?_; rintro e2 w2 ⟨f1, d1, g2, e2, L, K, rfl, hx2, hO1, hO2, hn, hb⟩
          have X2 := ext_trans X1 hx2
          have s1 := X1.size
          have hlL := hO1.lt
          have hlK := hO2.lt
          obtain ⟨q1, m1, c1, q2, m2, c2, rfl, rfl⟩ := hO1.forms
          obtain ⟨q3, m3, c3, q4, m4, c4, rfl, rfl⟩ := hO2.forms
          replace G1 := keep_ext hx2 G1
          have HO1 := Lib.hid hO1
          have HO2 := Lib.hid hO2
          have HN := Lib.hid hn
          have HBb := Lib.hid hb
          have HlL := Lib.hid hlL
          have HlK := Lib.hid hlK
          have lw1 := heap_lt G0
          clear G0 g0 gf0 g1 gf1 hTw hx2 hO1 hO2 hn hb hlL hlK
          obtain ⟨g1, gf1⟩ := cellsK G1
          have lg1 := heap_lt G1
          go_wp2_with fail
          refine (specStoreNew_c _).mono ?_; rintro e3 w3 ⟨f3, d3, M, rfl, hx3, hOM, hnM, hbM⟩
          obtain ⟨r1, k1, j1, r2, k2, j2, rfl, rfl⟩ := hOM.forms
          have X23 : Ext w2 w3 := ext_trans (ext_alloc (ext_refl _) _) hx3
          have X3 := ext_trans X2 X23
          have G5 := keep_ext hx3 (hg_new (b := w2.heap.size) rfl)
          replace G1 := keep_ext X23 G1
          have HBM : Hid (∀ b ∈ M, w2.heap.size < b) := Lib.hid (fun b hb => by have := hbM b hb; simp at this; omega)
          have HOM := Lib.hid hOM
          have HNM := Lib.hid hnM
          have HOO := Lib.hid (HO2.out.ext X23)
          have s3 := X23.size
          clear g1 gf1 hOM hnM hbM hx3 HO1 HO2
          obtain ⟨g5, gf5⟩ := cellsK G5
          obtain ⟨g1, gf1⟩ := cellsK G1
          have l5 := heap_lt G5
          have lg3 := heap_lt G1
          have lne : ¬ (w.heap.size + 1 = w2.heap.size) := by omega
          go_wp2_with fail
          refine bodyPost_ret (v := .agg #[.slice r1 k1 j1, .slice r2 k2 j2, .slice q3 m3 c3, .slice q4 m4 c4, .int .i64 1]) (by simp [results, Try.results17, go_sem, g1, gf1]) rfl ⟨_, rfl, ?_, .inr ⟨_, _, _, _, M, K, rfl, ?_, ?_, ?_, ?_, newShape4, HSB.out⟩⟩
          · ((repeat (first | with_reducible (refine ext_set2 ?_ ?_); focus (first | exact Nat.le_refl _ | (dsimp only; omega) | (simp; omega)) | with_reducible refine ext_alloc2 ?_)); with_reducible exact X3)
          · 
            refine HOM.out.keep fun b hb => ?_
            have := HBM.out b hb
            iterate 8 rw [setCell_other (by omega)]
          · 
            refine HOO.out.keep fun b hb => ?_
            have := HBb.out b (by simp [hb])
            have := HlK.out b hb
            iterate 8 rw [setCell_other (by omega)]
          ·
            have hnd := HN.out
            rw [List.nodup_append] at hnd ⊢
            exact ⟨HNM.out, hnd.2.1, fun x hx y hy e => by have := HBM.out x hx; have := HlK.out y hy; omega⟩
          ·
            intro b hb
            rcases List.mem_append.1 hb with hb | hb
            · have := HBM.out b hb; omega
            · have := HBb.out b (by simp [hb]); omega
        · obtain rfl : which = 2 := by omega
          rw [if_neg hw1]
          go_enter Try.func17, Try.ntmps17
          go_wp2_with fail
          refine (hPO _ (ext_alloc (ext_alloc (ext_refl _) _) _)).mono ?_; rintro e1 w1 ⟨rfl, hx1⟩
          have X1 := ext_trans (ext_alloc (ext_alloc (ext_refl w) _) _) hx1
          have G0 := keep_ext hx1 (hg_alloc (hg_new (b := w.heap.size) rfl))
          have G1 := keep_ext hx1 (hg_new (b := w.heap.size + 1) (by simp))
          obtain ⟨g0, gf0⟩ := cellsK G0
          obtain ⟨g1, gf1⟩ := cellsK G1
          have lw2 := heap_lt G1
          clear hPO hx1
          go_wp2_with (go_at_call 36; refine (l6In_c _ _ _ _).mono ?_; rw [hIN]; rintro e w' ⟨rfl, rfl⟩)
          refine (hTw _ X1).mono ?_; rintro e2 w2 ⟨f1, d1, g2, e2, L, K, rfl, hx2, hO1, hO2, hn, hb⟩
          have X2 := ext_trans X1 hx2
          have s1 := X1.size
          have hlL := hO1.lt
          have hlK := hO2.lt
          obtain ⟨q1, m1, c1, q2, m2, c2, rfl, rfl⟩ := hO1.forms
          obtain ⟨q3, m3, c3, q4, m4, c4, rfl, rfl⟩ := hO2.forms
          replace G1 := keep_ext hx2 G1
          have HO1 := Lib.hid hO1
          have HO2 := Lib.hid hO2
          have HN := Lib.hid hn
          have HBb := Lib.hid hb
          have HlL := Lib.hid hlL
          have HlK := Lib.hid hlK
          have lw1 := heap_lt G0
          clear G0 g0 gf0 g1 gf1 hTw hx2 hO1 hO2 hn hb hlL hlK
          obtain ⟨g1, gf1⟩ := cellsK G1
          have lg1 := heap_lt G1
          go_wp2_with fail
          refine (specStoreNew_c _).mono ?_; rintro e3 w3 ⟨f3, d3, M, rfl, hx3, hOM, hnM, hbM⟩
          obtain ⟨r1, k1, j1, r2, k2, j2, rfl, rfl⟩ := hOM.forms
          have X23 : Ext w2 w3 := ext_trans (ext_alloc (ext_refl _) _) hx3
          have X3 := ext_trans X2 X23
          have G5 := keep_ext hx3 (hg_new (b := w2.heap.size) rfl)
          replace G1 := keep_ext X23 G1
          have HBM : Hid (∀ b ∈ M, w2.heap.size < b) := Lib.hid (fun b hb => by have := hbM b hb; simp at this; omega)
          have HOM := Lib.hid hOM
          have HNM := Lib.hid hnM
          have HOO := Lib.hid (HO1.out.ext X23)
          have s3 := X23.size
          clear g1 gf1 hOM hnM hbM hx3 HO1 HO2
          obtain ⟨g5, gf5⟩ := cellsK G5
          obtain ⟨g1, gf1⟩ := cellsK G1
          have l5 := heap_lt G5
          have lg3 := heap_lt G1
          have lne : ¬ (w.heap.size + 1 = w2.heap.size) := by omega
          go_wp2_with fail
          refine bodyPost_ret (v := .agg #[.slice q1 m1 c1, .slice q2 m2 c2, .slice r1 k1 j1, .slice r2 k2 j2, .int .i64 2]) (by simp [results, Try.results17, go_sem, g1, gf1]) rfl ⟨_, rfl, ?_, .inr ⟨_, _, _, _, L, M, rfl, ?_, ?_, ?_, ?_, HSA.out, newShape4⟩⟩
          · ((repeat (first | with_reducible (refine ext_set2 ?_ ?_); focus (first | exact Nat.le_refl _ | (dsimp only; omega) | (simp; omega)) | with_reducible refine ext_alloc2 ?_)); with_reducible exact X3)
          · 
            refine HOO.out.keep fun b hb => ?_
            have := HBb.out b (by simp [hb])
            have := HlL.out b hb
            iterate 8 rw [setCell_other (by omega)]
          · 
            refine HOM.out.keep fun b hb => ?_
            have := HBM.out b hb
            iterate 8 rw [setCell_other (by omega)]
          ·
            have hnd := HN.out
            rw [List.nodup_append] at hnd ⊢
            exact ⟨hnd.1, HNM.out, fun x hx y hy e => by have := HlL.out x hx; have := HBM.out y hy; omega⟩
          ·
            intro b hb
            rcases List.mem_append.1 hb with hb | hb
            · have := HBb.out b (by simp [hb]); omega
            · have := HBM.out b hb; omega
      · rw [if_neg h0]
        have h0p : 0 < p.lost := by omega
        go_enter Try.func17, Try.ntmps17
        go_wp2_with fail
        refine (hPO _ (ext_alloc (ext_alloc (ext_refl _) _) _)).mono ?_; rintro e1 w1 ⟨rfl, hx1⟩
        have X1 := ext_trans (ext_alloc (ext_alloc (ext_refl w) _) _) hx1
        have G0 := keep_ext hx1 (hg_alloc (hg_new (b := w.heap.size) rfl))
        have G1 := keep_ext hx1 (hg_new (b := w.heap.size + 1) (by simp))
        obtain ⟨g0, gf0⟩ := cellsK G0
        obtain ⟨g1, gf1⟩ := cellsK G1
        have lw2 := heap_lt G1
        clear hPO hx1
        go_wp2_with (go_at_call 36; refine (l6In_c _ _ _ _).mono ?_; rw [hIN]; rintro e w' ⟨rfl, rfl⟩)
        refine (hTw _ X1).mono ?_; rintro e2 w2 ⟨f1, d1, g2, e2, L, K, rfl, hx2, hO1, hO2, hn, hb⟩
        have X2 := ext_trans X1 hx2
        have s1 := X1.size
        have hlL := hO1.lt
        have hlK := hO2.lt
        obtain ⟨q1, m1, c1, q2, m2, c2, rfl, rfl⟩ := hO1.forms
        obtain ⟨q3, m3, c3, q4, m4, c4, rfl, rfl⟩ := hO2.forms
        replace G1 := keep_ext hx2 G1
        have HO1 := Lib.hid hO1
        have HO2 := Lib.hid hO2
        have HN := Lib.hid hn
        have HBb := Lib.hid hb
        have HlL := Lib.hid hlL
        have HlK := Lib.hid hlK
        have lw1 := heap_lt G0
        clear G0 g0 gf0 g1 gf1 hTw hx2 hO1 hO2 hn hb hlL hlK
        obtain ⟨g1, gf1⟩ := cellsK G1
        have lg1 := heap_lt G1
        go_wp2_with fail
        refine bodyPost_ret (v := .agg #[.slice q1 m1 c1, .slice q2 m2 c2, .slice q3 m3 c3, .slice q4 m4 c4, .int .i64 p.lost]) (by simp [results, Try.results17, go_sem, g1, gf1, lg1]) rfl ⟨_, rfl, ?_, .inr ⟨_, _, _, _, L, K, rfl, ?_, ?_, ?_, ?_, HSA.out, HSB.out⟩⟩
        · ((repeat (first | with_reducible (refine ext_set2 ?_ ?_); focus (first | exact Nat.le_refl _ | (dsimp only; omega) | (simp; omega)) | with_reducible refine ext_alloc2 ?_)); with_reducible exact X2)
        · refine HO1.out.keep fun b hb => ?_
          have := HBb.out b (by simp [hb])
          have := HlL.out b hb
          rw [alloc_get_old (by simp only [setCell_size]; omega)]
          iterate 5 rw [setCell_other (by omega)]
        · refine HO2.out.keep fun b hb => ?_
          have := HBb.out b (by simp [hb])
          have := HlK.out b hb
          rw [alloc_get_old (by simp only [setCell_size]; omega)]
          iterate 5 rw [setCell_other (by omega)]
        · exact HN.out
        · exact fun b hb => by have := HBb.out b hb; omega
    · rw [if_neg h1]
      rw [decide_eq_false h1] at hIN
      go_enter Try.func17, Try.ntmps17
      go_wp2_with fail
      refine (hPO _ (ext_alloc (ext_alloc (ext_refl _) _) _)).mono ?_; rintro e1 w1 ⟨rfl, hx1⟩
      have X1 := ext_trans (ext_alloc (ext_alloc (ext_refl w) _) _) hx1
      have G0 := keep_ext hx1 (hg_alloc (hg_new (b := w.heap.size) rfl))
      have G1 := keep_ext hx1 (hg_new (b := w.heap.size + 1) (by simp))
      obtain ⟨g0, gf0⟩ := cellsK G0
      obtain ⟨g1, gf1⟩ := cellsK G1
      have lw2 := heap_lt G1
      clear hPO hx1
      go_wp2_with (go_at_call 36; refine (l6In_c _ _ _ _).mono ?_; rw [hIN]; rintro e w' ⟨rfl, rfl⟩)
      refine bodyPost_ret (v := nilPair) (by simp [results, Try.results17, go_sem, g1, gf1, nilPair]) rfl ⟨_, rfl, ?_, .inl ⟨rfl, rfl⟩⟩
      ((repeat (first | with_reducible (refine ext_set2 ?_ ?_); focus (first | exact Nat.le_refl _ | (dsimp only; omega) | (simp; omega)) | with_reducible refine ext_alloc2 ?_)); with_reducible exact X1)
  · rw [Bool.not_eq_true] at hok
    rw [hok] at hPO
    rw [if_neg (by rw [hok]; simp)]
    go_enter Try.func17, Try.ntmps17
    go_wp2_with fail
    refine (hPO _ (ext_alloc (ext_alloc (ext_refl _) _) _)).mono ?_; rintro e1 w1 ⟨rfl, hx1⟩
    have X1 := ext_trans (ext_alloc (ext_alloc (ext_refl w) _) _) hx1
    have G0 := keep_ext hx1 (hg_alloc (hg_new (b := w.heap.size) rfl))
    have G1 := keep_ext hx1 (hg_new (b := w.heap.size + 1) (by simp))
    obtain ⟨g0, gf0⟩ := cellsK G0
    obtain ⟨g1, gf1⟩ := cellsK G1
    have lw2 := heap_lt G1
    clear hPO hx1
    go_wp2_with (go_at_call 36; refine (l6In_c _ _ _ _).mono ?_; rw [hIN]; rintro e w' ⟨rfl, rfl⟩)
    refine bodyPost_ret (v := nilPair) (by simp [results, Try.results17, go_sem, g1, gf1, nilPair]) rfl ⟨_, rfl, ?_, .inl ⟨rfl, rfl⟩⟩
    ((repeat (first | with_reducible (refine ext_set2 ?_ ?_); focus (first | exact Nat.le_refl _ | (dsimp only; omega) | (simp; omega)) | with_reducible refine ext_alloc2 ?_)); with_reducible exact X1)
end Go.Bu
