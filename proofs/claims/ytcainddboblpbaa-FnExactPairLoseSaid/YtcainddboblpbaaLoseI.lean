/- PairLose of the program. -/
import Derived.Test.YtcainddboblpbaaTwinsI
set_option linter.unusedVariables false
set_option linter.unusedSimpArgs false
namespace Go.Bu
open Go Go.RowKit Go.Plan Go.Proofs

theorem StoreNews.to {w w' : World} {e : Ending} (h : StoreNews w e w') : ∃ v, e = .returned v ∧ RetC w (StoreM newStore) v w' := by
  obtain ⟨f, d, L, he, hx, ho, hn, hb⟩ := h
  exact ⟨_, he, hx, f, d, L, rfl, ho, hn, fun b hm => ⟨hb b hm, ho.lt b hm⟩⟩
theorem newShape4 : Shape4 newStore := ⟨rfl, by decide, rfl⟩

set_option maxRecDepth 20000 in
set_option maxHeartbeats 4000000 in
theorem implPairLose_c (f d g e : Value) (p : Pair) (which : Int) (w : World) (hA : StoreV w f d p.A) (hB : StoreV w g e p.B) (hsA : Small p.A) (hsB : Small p.B) :
    Calls Try.prog 18 #[.agg #[f, d, g, e, .int .i64 p.lost], .int .i64 which] w (PairΦ w (pairLoseV p which)) := by
  have hPO := fun (w' : World) (hx : Ext w w') => implPairOk_c f d g e p w' (hA.ext hx) (hB.ext hx) hsA.2.1 hsB.2.1 hsA.2.2 hsB.2.2
  rw [show (inB p.lost 0 2 && (storeOkB p.A && storeOkB p.B)) = pairOkB p from rfl] at hPO
  have hTW := fun (w' : World) (hx : Ext w w') (h1 : Shape4 p.A) (h2 : Shape4 p.B) => twinsOf_c f d g e p w' (hA.ext hx) (hB.ext hx) h1 h2
  unfold pairLoseV
  obtain ⟨a1, n1, rfl⟩ := hA.1.form
  obtain ⟨a2, n2, rfl⟩ := hA.2.form
  obtain ⟨a3, n3, rfl⟩ := hB.1.form
  obtain ⟨a4, n4, rfl⟩ := hB.2.form
  clear hA hB hsA hsB
  by_cases hok : pairOkB p = true
  · obtain ⟨hl, hokA, hokB⟩ := pairOk_iff.1 hok
    have hSA := storeOk_shape hokA
    have hSB := storeOk_shape hokB
    have HSA := Lib.hid hSA
    have HSB := Lib.hid hSB
    have hTw := fun (w' : World) (hx : Ext w w') => hTW w' hx hSA hSB
    rw [hok] at hPO
    simp only [hok, true_and]
    clear hTW hok hokA hokB hSA hSB
    by_cases h1 : 1 ≤ which ∧ which ≤ 2
    · rw [if_pos h1]
      obtain ⟨h1, h2⟩ := h1
      by_cases h0 : p.lost = 0
      · rw [if_pos h0]
        rw [h0] at hTw hPO ⊢
        by_cases hw1 : which = 1
        · subst hw1
          rw [if_pos rfl]
          go_enter Try.func18, Try.ntmps18
          go_wp2_with fail
          refine (hPO _ (ext_alloc (ext_alloc (ext_refl _) _) _)).mono ?_; rintro e1 w1 ⟨rfl, hx1⟩
          have X1 := ext_trans (ext_alloc (ext_alloc (ext_refl w) _) _) hx1
          have G0 := keep_ext hx1 (hg_alloc (hg_new (b := w.heap.size) rfl))
          have G1 := keep_ext hx1 (hg_new (b := w.heap.size + 1) (by simp))
          obtain ⟨g0, gf0⟩ := cellsK G0
          obtain ⟨g1, gf1⟩ := cellsK G1
          have lw2 := heap_lt G1
          clear hPO hx1
          go_wp2_with fail
          refine (hTw _ X1).mono ?_; rintro e2 w2 ⟨tv, rfl, hx2, b1, b2, f1, d1, g2, e2, L, K, T1, T2, rfl, H1, H2, hO1, hO2, hn, hb⟩
          have X2 := ext_trans X1 hx2
          have s1 := X1.size
          have sb1 := hb b1 (by simp)
          have sb2 := hb b2 (by simp)
          have l1 := heap_lt H1
          have l2 := heap_lt H2
          have hlL := hO1.lt
          have hlK := hO2.lt
          obtain ⟨q1, m1, c1, q2, m2, c2, rfl, rfl⟩ := hO1.forms
          obtain ⟨q3, m3, c3, q4, m4, c4, rfl, rfl⟩ := hO2.forms
          replace G1 := keep_ext hx2 G1
          have HO1 := Lib.hid hO1
          have HO2 := Lib.hid hO2
          have HN := Lib.hid hn
          have HBb := Lib.hid hb
          have HlL := Lib.hid hlL
          have HlK := Lib.hid hlK
          have lw1 := heap_lt G0
          clear G0 g0 gf0 g1 gf1 hTw hx2 hO1 hO2 hn hb hlL hlK
          obtain ⟨g1, gf1⟩ := cellsK G1
          have lg1 := heap_lt G1
          go_wp2_with fail
          have G5 : (w2.alloc (.cells #[.pointer (some ⟨b1, 0, none⟩), .pointer (some ⟨b2, 0, none⟩), .int .i64 1] 63)).heap[w2.heap.size]? = some (.cells #[.pointer (some ⟨b1, 0, none⟩), .pointer (some ⟨b2, 0, none⟩), .int .i64 1] 63 (0, 0)) := hg_new rfl
          refine wp_region_ext [1] [0, 1] [] [2] (by kernel_rfl) (by kernel_rfl) ?late ?_
          case late => exact fun f hf => absurd hf List.not_mem_nil
          refine Rob.y (v := ?_) rfl rfl (fun w1 hx hH => ?_) ?_; rotate_left
          · (have hE : Ext _ w1 := (by first | exact hx | exact hx.1); obtain ⟨z5, zf5⟩ := cellsK (keep_ext hE G5)); go_simp; first | done | rfl
          simp only [Act.put, List.setIfInBounds_toArray, List.set_cons_succ, List.set_cons_zero]
          refine Rob.c (StoreM newStore) rfl rfl rfl (fun _ _ => ext_trans) (fun _ _ _ _ _ => fun h hx => h.ext hx) (fun w1 hx hH => ?_) (fun lo1 hi1 v1 hlo1 hhi1 hv1 => ?_)
          · unfold RunTo; go_simp; exact (implStoreNew_c _).mono fun e w' h => h.to
          simp only [Act.put, List.setIfInBounds_toArray, List.set_cons_succ, List.set_cons_zero]
          obtain ⟨_, hv1⟩ := hv1
          obtain ⟨r1, k1, j1, r2, k2, j2, rfl⟩ := hv1.forms
          refine fin_tail (fun w3 hx3 _ => ?_)
          simp only [dstOf, List.getElem?_cons_succ, List.getElem?_cons_zero, Option.bind_some, Act.put, List.setIfInBounds_toArray, List.set_cons_succ, List.set_cons_zero, List.filterMap_cons, List.filterMap_nil]
          obtain ⟨hx3, hM⟩ := hx3
          obtain ⟨M, hOM, hnM, hbM⟩ := hM.own
          have X23 : Ext w2 w3 := ext_trans (ext_alloc (ext_refl _) _) hx3
          simp at hlo1
          have hne : b1 ≠ b2 := fun e => (List.nodup_cons.1 HN.out).1 (by rw [e]; simp)
          have HBM : Hid (∀ b ∈ M, w2.heap.size < b) := Lib.hid (fun b hb => by have := hbM b hb; omega)
          have HOM := Lib.hid hOM
          have HNM := Lib.hid hnM
          replace G5 := keep_ext hx3 G5
          replace G1 := keep_ext X23 G1
          replace H1 := keep_ext X23 H1
          replace H2 := keep_ext X23 H2
          have X3 := ext_trans X2 X23
          clear g1 gf1 hM hOM hnM hbM hx3 hv1
          obtain ⟨g5, gf5⟩ := cellsK G5
          have l5 := heap_lt G5
          go_wp2_with fail
          refine (setFirst_c b1 b2 1 _ _ _ _ T1 _ ⟨_, _, _, rfl⟩ ⟨_, _, _, rfl⟩ H1).mono ?_; rintro e4 w4 ⟨rfl, hC4, H4⟩
          have X4 : Ext w w4 := hC4.ext X3 (by simp; omega)
          replace G5 := hC4.keep G5 (by simp; omega)
          replace G1 := hC4.keep G1 (by simp; omega)
          replace H2 := hC4.keep H2 (by simp; omega)
          have hOM := HOM.out.chg hC4 (fun b hb hm => by have := HBM.out b hb; simp at hm; omega)
          have hOO := (HO2.out.ext X23).chg hC4 (fun b hb hm => by
            simp at hm
            subst hm
            have hnd := HN.out
            simp [hb] at hnd)
          have HOM2 := Lib.hid hOM
          have HOO := Lib.hid hOO
          clear g5 gf5 hOM hOO HOM HO2 hC4
          obtain ⟨g5, gf5⟩ := cellsK G5
          have l5 := heap_lt G5
          go_wp2_with fail
          refine (twPair_c b1 b2 1 _ _ _ _ T1 T2 _ ⟨_, _, _, rfl⟩ ⟨_, _, _, rfl⟩ ⟨_, _, _, rfl⟩ ⟨_, _, _, rfl⟩ H4 H2).mono ?_; rintro e6 w6 ⟨rfl, hx6⟩
          have X6 := ext_trans X4 hx6
          replace G1 := keep_ext hx6 G1
          have hlM := HOM2.out.lt
          have hOM3 := HOM2.out.ext hx6
          have hOO3 := HOO.out.ext hx6
          have HOM3 := Lib.hid hOM3
          have HOO3 := Lib.hid hOO3
          clear g5 gf5 HOM2 HOO hOM3 hOO3 hlM
          obtain ⟨g1, gf1⟩ := cellsK G1
          go_wp2_with fail
          refine bodyPost_ret (v := .agg #[.slice r1 k1 j1, .slice r2 k2 j2, .slice q3 m3 c3, .slice q4 m4 c4, .int .i64 1]) (by simp [results, Try.results18, go_sem, g1, gf1]) rfl ⟨_, rfl, ?_, .inr ⟨_, _, _, _, M, K, rfl, ?_, ?_, ?_, ?_, newShape4, HSB.out⟩⟩
          · ((repeat (first | with_reducible (refine ext_set2 ?_ ?_); focus (first | exact Nat.le_refl _ | (dsimp only; omega) | (simp; omega)) | with_reducible refine ext_alloc2 ?_)); with_reducible exact X6)
          · 
            refine HOM3.out.keep fun b hb => ?_
            have := HBM.out b hb
            iterate 5 rw [setCell_other (by omega)]
          · 
            refine HOO3.out.keep fun b hb => ?_
            have := HBb.out b (by simp [hb])
            iterate 5 rw [setCell_other (by omega)]
          ·
            have hnd := (List.nodup_cons.1 (List.nodup_cons.1 HN.out).2).2
            rw [List.nodup_append] at hnd ⊢
            exact ⟨HNM.out, hnd.2.1, fun x hx y hy e => by have := HBM.out x hx; have := HlK.out y hy; omega⟩
          ·
            intro b hb
            rcases List.mem_append.1 hb with hb | hb
            · have := HBM.out b hb; omega
            · have := HBb.out b (by simp [hb]); omega
        · obtain rfl : which = 2 := by omega
          rw [if_neg hw1]
          go_enter Try.func18, Try.ntmps18
          go_wp2_with fail
          refine (hPO _ (ext_alloc (ext_alloc (ext_refl _) _) _)).mono ?_; rintro e1 w1 ⟨rfl, hx1⟩
          have X1 := ext_trans (ext_alloc (ext_alloc (ext_refl w) _) _) hx1
          have G0 := keep_ext hx1 (hg_alloc (hg_new (b := w.heap.size) rfl))
          have G1 := keep_ext hx1 (hg_new (b := w.heap.size + 1) (by simp))
          obtain ⟨g0, gf0⟩ := cellsK G0
          obtain ⟨g1, gf1⟩ := cellsK G1
          have lw2 := heap_lt G1
          clear hPO hx1
          go_wp2_with fail
          refine (hTw _ X1).mono ?_; rintro e2 w2 ⟨tv, rfl, hx2, b1, b2, f1, d1, g2, e2, L, K, T1, T2, rfl, H1, H2, hO1, hO2, hn, hb⟩
          have X2 := ext_trans X1 hx2
          have s1 := X1.size
          have sb1 := hb b1 (by simp)
          have sb2 := hb b2 (by simp)
          have l1 := heap_lt H1
          have l2 := heap_lt H2
          have hlL := hO1.lt
          have hlK := hO2.lt
          obtain ⟨q1, m1, c1, q2, m2, c2, rfl, rfl⟩ := hO1.forms
          obtain ⟨q3, m3, c3, q4, m4, c4, rfl, rfl⟩ := hO2.forms
          replace G1 := keep_ext hx2 G1
          have HO1 := Lib.hid hO1
          have HO2 := Lib.hid hO2
          have HN := Lib.hid hn
          have HBb := Lib.hid hb
          have HlL := Lib.hid hlL
          have HlK := Lib.hid hlK
          have lw1 := heap_lt G0
          clear G0 g0 gf0 g1 gf1 hTw hx2 hO1 hO2 hn hb hlL hlK
          obtain ⟨g1, gf1⟩ := cellsK G1
          have lg1 := heap_lt G1
          go_wp2_with fail
          have G5 : (w2.alloc (.cells #[.pointer (some ⟨b1, 0, none⟩), .pointer (some ⟨b2, 0, none⟩), .int .i64 2] 63)).heap[w2.heap.size]? = some (.cells #[.pointer (some ⟨b1, 0, none⟩), .pointer (some ⟨b2, 0, none⟩), .int .i64 2] 63 (0, 0)) := hg_new rfl
          refine wp_region_ext [1] [0, 1] [] [2] (by kernel_rfl) (by kernel_rfl) ?late ?_
          case late => exact fun f hf => absurd hf List.not_mem_nil
          refine Rob.y (v := ?_) rfl rfl (fun w1 hx hH => ?_) ?_; rotate_left
          · (have hE : Ext _ w1 := (by first | exact hx | exact hx.1); obtain ⟨z5, zf5⟩ := cellsK (keep_ext hE G5)); go_simp; first | done | rfl
          simp only [Act.put, List.setIfInBounds_toArray, List.set_cons_succ, List.set_cons_zero]
          refine Rob.c (StoreM newStore) rfl rfl rfl (fun _ _ => ext_trans) (fun _ _ _ _ _ => fun h hx => h.ext hx) (fun w1 hx hH => ?_) (fun lo1 hi1 v1 hlo1 hhi1 hv1 => ?_)
          · unfold RunTo; go_simp; exact (implStoreNew_c _).mono fun e w' h => h.to
          simp only [Act.put, List.setIfInBounds_toArray, List.set_cons_succ, List.set_cons_zero]
          obtain ⟨_, hv1⟩ := hv1
          obtain ⟨r1, k1, j1, r2, k2, j2, rfl⟩ := hv1.forms
          refine fin_tail (fun w3 hx3 _ => ?_)
          simp only [dstOf, List.getElem?_cons_succ, List.getElem?_cons_zero, Option.bind_some, Act.put, List.setIfInBounds_toArray, List.set_cons_succ, List.set_cons_zero, List.filterMap_cons, List.filterMap_nil]
          obtain ⟨hx3, hM⟩ := hx3
          obtain ⟨M, hOM, hnM, hbM⟩ := hM.own
          have X23 : Ext w2 w3 := ext_trans (ext_alloc (ext_refl _) _) hx3
          simp at hlo1
          have hne : b1 ≠ b2 := fun e => (List.nodup_cons.1 HN.out).1 (by rw [e]; simp)
          have HBM : Hid (∀ b ∈ M, w2.heap.size < b) := Lib.hid (fun b hb => by have := hbM b hb; omega)
          have HOM := Lib.hid hOM
          have HNM := Lib.hid hnM
          replace G5 := keep_ext hx3 G5
          replace G1 := keep_ext X23 G1
          replace H1 := keep_ext X23 H1
          replace H2 := keep_ext X23 H2
          have X3 := ext_trans X2 X23
          clear g1 gf1 hM hOM hnM hbM hx3 hv1
          obtain ⟨g5, gf5⟩ := cellsK G5
          have l5 := heap_lt G5
          go_wp2_with fail
          refine (setOther_c b1 b2 2 _ _ _ _ T2 _ ⟨_, _, _, rfl⟩ ⟨_, _, _, rfl⟩ H2).mono ?_; rintro e4 w4 ⟨rfl, hC4, H4⟩
          have X4 : Ext w w4 := hC4.ext X3 (by simp; omega)
          replace G5 := hC4.keep G5 (by simp; omega)
          replace G1 := hC4.keep G1 (by simp; omega)
          replace H1 := hC4.keep H1 (by simp; omega)
          have hOM := HOM.out.chg hC4 (fun b hb hm => by have := HBM.out b hb; simp at hm; omega)
          have hOO := (HO1.out.ext X23).chg hC4 (fun b hb hm => by
            simp at hm
            subst hm
            have hnd := HN.out
            simp [hb] at hnd)
          have HOM2 := Lib.hid hOM
          have HOO := Lib.hid hOO
          clear g5 gf5 hOM hOO HOM HO1 hC4
          obtain ⟨g5, gf5⟩ := cellsK G5
          have l5 := heap_lt G5
          go_wp2_with fail
          refine (twPair_c b1 b2 2 _ _ _ _ T1 T2 _ ⟨_, _, _, rfl⟩ ⟨_, _, _, rfl⟩ ⟨_, _, _, rfl⟩ ⟨_, _, _, rfl⟩ H1 H4).mono ?_; rintro e6 w6 ⟨rfl, hx6⟩
          have X6 := ext_trans X4 hx6
          replace G1 := keep_ext hx6 G1
          have hlM := HOM2.out.lt
          have hOM3 := HOM2.out.ext hx6
          have hOO3 := HOO.out.ext hx6
          have HOM3 := Lib.hid hOM3
          have HOO3 := Lib.hid hOO3
          clear g5 gf5 HOM2 HOO hOM3 hOO3 hlM
          obtain ⟨g1, gf1⟩ := cellsK G1
          go_wp2_with fail
          refine bodyPost_ret (v := .agg #[.slice q1 m1 c1, .slice q2 m2 c2, .slice r1 k1 j1, .slice r2 k2 j2, .int .i64 2]) (by simp [results, Try.results18, go_sem, g1, gf1]) rfl ⟨_, rfl, ?_, .inr ⟨_, _, _, _, L, M, rfl, ?_, ?_, ?_, ?_, HSA.out, newShape4⟩⟩
          · ((repeat (first | with_reducible (refine ext_set2 ?_ ?_); focus (first | exact Nat.le_refl _ | (dsimp only; omega) | (simp; omega)) | with_reducible refine ext_alloc2 ?_)); with_reducible exact X6)
          · 
            refine HOO3.out.keep fun b hb => ?_
            have := HBb.out b (by simp [hb])
            iterate 5 rw [setCell_other (by omega)]
          · 
            refine HOM3.out.keep fun b hb => ?_
            have := HBM.out b hb
            iterate 5 rw [setCell_other (by omega)]
          ·
            have hnd := (List.nodup_cons.1 (List.nodup_cons.1 HN.out).2).2
            rw [List.nodup_append] at hnd ⊢
            exact ⟨hnd.1, HNM.out, fun x hx y hy e => by have := HlL.out x hx; have := HBM.out y hy; omega⟩
          ·
            intro b hb
            rcases List.mem_append.1 hb with hb | hb
            · have := HBb.out b (by simp [hb]); omega
            · have := HBM.out b hb; omega
      · rw [if_neg h0]
        go_enter Try.func18, Try.ntmps18
        go_wp2_with fail
        refine (hPO _ (ext_alloc (ext_alloc (ext_refl _) _) _)).mono ?_; rintro e1 w1 ⟨rfl, hx1⟩
        have X1 := ext_trans (ext_alloc (ext_alloc (ext_refl w) _) _) hx1
        have G0 := keep_ext hx1 (hg_alloc (hg_new (b := w.heap.size) rfl))
        have G1 := keep_ext hx1 (hg_new (b := w.heap.size + 1) (by simp))
        obtain ⟨g0, gf0⟩ := cellsK G0
        obtain ⟨g1, gf1⟩ := cellsK G1
        have lw2 := heap_lt G1
        clear hPO hx1
        go_wp2_with fail
        refine (hTw _ X1).mono ?_; rintro e2 w2 ⟨tv, rfl, hx2, b1, b2, f1, d1, g2, e2, L, K, T1, T2, rfl, H1, H2, hO1, hO2, hn, hb⟩
        have X2 := ext_trans X1 hx2
        have s1 := X1.size
        have sb1 := hb b1 (by simp)
        have sb2 := hb b2 (by simp)
        have l1 := heap_lt H1
        have l2 := heap_lt H2
        have hlL := hO1.lt
        have hlK := hO2.lt
        obtain ⟨q1, m1, c1, q2, m2, c2, rfl, rfl⟩ := hO1.forms
        obtain ⟨q3, m3, c3, q4, m4, c4, rfl, rfl⟩ := hO2.forms
        replace G1 := keep_ext hx2 G1
        have HO1 := Lib.hid hO1
        have HO2 := Lib.hid hO2
        have HN := Lib.hid hn
        have HBb := Lib.hid hb
        have HlL := Lib.hid hlL
        have HlK := Lib.hid hlK
        have lw1 := heap_lt G0
        clear G0 g0 gf0 g1 gf1 hTw hx2 hO1 hO2 hn hb hlL hlK
        obtain ⟨g1, gf1⟩ := cellsK G1
        have lg1 := heap_lt G1
        go_wp2_with fail
        refine (twPair_c b1 b2 p.lost _ _ _ _ T1 T2 _ ⟨_, _, _, rfl⟩ ⟨_, _, _, rfl⟩ ⟨_, _, _, rfl⟩ ⟨_, _, _, rfl⟩ (hg_alloc H1) (hg_alloc H2)).mono ?_; rintro e3 w3 ⟨rfl, hx3⟩
        have X23 : Ext w2 w3 := ext_trans (ext_alloc (ext_refl _) _) hx3
        have X3 := ext_trans X2 X23
        replace G1 := keep_ext X23 G1
        clear g1 gf1
        obtain ⟨g1, gf1⟩ := cellsK G1
        go_wp2_with fail
        refine bodyPost_ret (v := .agg #[.slice q1 m1 c1, .slice q2 m2 c2, .slice q3 m3 c3, .slice q4 m4 c4, .int .i64 p.lost]) (by simp [results, Try.results18, go_sem, g1, gf1]) rfl ⟨_, rfl, ?_, .inr ⟨_, _, _, _, L, K, rfl, ?_, ?_, ?_, ?_, HSA.out, HSB.out⟩⟩
        · ((repeat (first | with_reducible (refine ext_set2 ?_ ?_); focus (first | exact Nat.le_refl _ | (dsimp only; omega) | (simp; omega)) | with_reducible refine ext_alloc2 ?_)); with_reducible exact X3)
        · refine (HO1.out.ext X23).keep fun b hb => ?_
          have := HBb.out b (by simp [hb])
          iterate 5 rw [setCell_other (by omega)]
        · refine (HO2.out.ext X23).keep fun b hb => ?_
          have := HBb.out b (by simp [hb])
          iterate 5 rw [setCell_other (by omega)]
        · exact (List.nodup_cons.1 (List.nodup_cons.1 HN.out).2).2
        · exact fun b hb => by have := HBb.out b (List.mem_cons_of_mem _ (List.mem_cons_of_mem _ hb)); omega
    · rw [if_neg h1]
      have h12 : which < 1 ∨ 2 < which := by omega
      rcases h12 with h12 | h12
      · go_enter Try.func18, Try.ntmps18
        go_wp2_with fail
        refine (hPO _ (ext_alloc (ext_alloc (ext_refl _) _) _)).mono ?_; rintro e1 w1 ⟨rfl, hx1⟩
        have X1 := ext_trans (ext_alloc (ext_alloc (ext_refl w) _) _) hx1
        have G0 := keep_ext hx1 (hg_alloc (hg_new (b := w.heap.size) rfl))
        have G1 := keep_ext hx1 (hg_new (b := w.heap.size + 1) (by simp))
        obtain ⟨g0, gf0⟩ := cellsK G0
        obtain ⟨g1, gf1⟩ := cellsK G1
        have lw2 := heap_lt G1
        clear hPO hx1
        go_wp2_with fail
        refine bodyPost_ret (v := nilPair) (by simp [results, Try.results18, go_sem, g1, gf1, nilPair]) rfl ⟨_, rfl, ?_, .inl ⟨rfl, rfl⟩⟩
        ((repeat (first | with_reducible (refine ext_set2 ?_ ?_); focus (first | exact Nat.le_refl _ | (dsimp only; omega) | (simp; omega)) | with_reducible refine ext_alloc2 ?_)); with_reducible exact X1)
      · go_enter Try.func18, Try.ntmps18
        go_wp2_with fail
        refine (hPO _ (ext_alloc (ext_alloc (ext_refl _) _) _)).mono ?_; rintro e1 w1 ⟨rfl, hx1⟩
        have X1 := ext_trans (ext_alloc (ext_alloc (ext_refl w) _) _) hx1
        have G0 := keep_ext hx1 (hg_alloc (hg_new (b := w.heap.size) rfl))
        have G1 := keep_ext hx1 (hg_new (b := w.heap.size + 1) (by simp))
        obtain ⟨g0, gf0⟩ := cellsK G0
        obtain ⟨g1, gf1⟩ := cellsK G1
        have lw2 := heap_lt G1
        clear hPO hx1
        go_wp2_with fail
        refine bodyPost_ret (v := nilPair) (by simp [results, Try.results18, go_sem, g1, gf1, nilPair]) rfl ⟨_, rfl, ?_, .inl ⟨rfl, rfl⟩⟩
        ((repeat (first | with_reducible (refine ext_set2 ?_ ?_); focus (first | exact Nat.le_refl _ | (dsimp only; omega) | (simp; omega)) | with_reducible refine ext_alloc2 ?_)); with_reducible exact X1)
  · rw [Bool.not_eq_true] at hok
    rw [hok] at hPO
    rw [if_neg (by rw [hok]; simp)]
    go_enter Try.func18, Try.ntmps18
    go_wp2_with fail
    refine (hPO _ (ext_alloc (ext_alloc (ext_refl _) _) _)).mono ?_; rintro e1 w1 ⟨rfl, hx1⟩
    have X1 := ext_trans (ext_alloc (ext_alloc (ext_refl w) _) _) hx1
    have G0 := keep_ext hx1 (hg_alloc (hg_new (b := w.heap.size) rfl))
    have G1 := keep_ext hx1 (hg_new (b := w.heap.size + 1) (by simp))
    obtain ⟨g0, gf0⟩ := cellsK G0
    obtain ⟨g1, gf1⟩ := cellsK G1
    have lw2 := heap_lt G1
    clear hPO hx1
    go_wp2_with fail
    refine bodyPost_ret (v := nilPair) (by simp [results, Try.results18, go_sem, g1, gf1, nilPair]) rfl ⟨_, rfl, ?_, .inl ⟨rfl, rfl⟩⟩
    ((repeat (first | with_reducible (refine ext_set2 ?_ ?_); focus (first | exact Nat.le_refl _ | (dsimp only; omega) | (simp; omega)) | with_reducible refine ext_alloc2 ?_)); with_reducible exact X1)
end Go.Bu
