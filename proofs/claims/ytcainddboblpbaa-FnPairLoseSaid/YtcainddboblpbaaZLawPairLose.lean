/- The law FnPairLose holds of every input. -/
import Derived.Test.YtcainddboblpbaaZ7
set_option linter.unusedVariables false
set_option linter.unusedSimpArgs false
namespace Go.Bu
open Go Go.RowKit Go.Plan Go.Proofs

theorem pairLoseV_lost {p : Pair} {which : Int} (h : pairOkB p = true) (h1 : 1 ≤ which) (h2 : which ≤ 2) (h0 : 0 < p.lost) : pairLoseV p which = p := by
  unfold pairLoseV
  rw [if_pos ⟨h, h1, h2⟩, if_neg (by omega)]
theorem pairLoseV_whole {p : Pair} {which : Int} (h : pairOkB p = true) (h1 : 1 ≤ which) (h2 : which ≤ 2) (h0 : p.lost = 0) : pairLoseV p which = if which = 1 then ⟨newStore, p.B, 1⟩ else ⟨p.A, newStore, 2⟩ := by
  unfold pairLoseV
  rw [if_pos ⟨h, h1, h2⟩, if_pos h0]
theorem pairLoseV_is {p : Pair} {which : Int} (h : pairOkB p = true) (h1 : 1 ≤ which) (h2 : which ≤ 2) (h0 : p.lost = 0) : (pairLoseV p which).lost = which := by
  rw [pairLoseV_whole h h1 h2 h0]; split <;> dsimp only <;> omega
theorem pairLoseV_all {p : Pair} {which : Int} (h : pairOkB p = true) (h1 : 1 ≤ which) (h2 : which ≤ 2) (h0 : p.lost = 0) (hs : allV p.A = allV p.B) : pairAllV (pairLoseV p which) = pairAllV p := by
  have hk := pOk_lose h ⟨h1, h2⟩
  obtain ⟨_, hA, hB⟩ := pairOk_iff.1 h
  rw [allV_ok hA, allV_ok hB] at hs
  unfold pairAllV
  rw [if_pos hk, if_pos h, pairLoseV_is h h1 h2 h0, pairLoseV_whole h h1 h2 h0, if_neg (show ¬ p.lost = 1 by omega)]
  by_cases hw : which = 1
  · rw [if_pos hw, if_pos hw]; exact hs.symm
  · rw [if_neg hw, if_neg hw]

set_option maxRecDepth 20000 in
set_option maxHeartbeats 1000000 in
theorem lawPairLose (v : Value) (xs : List Nat) (w : World) (h : Bytes (Old w) w v xs) (hs : ∀ x ∈ xs, x < 256) (hcap : ∀ a n c, v = .slice a n c → n ≤ c) :
    Calls Try.prog 7 #[v] w (Ret w (.bool true)) := by
  obtain ⟨a, cap, rfl⟩ := h.form
  by_cases hl : xs.length ≤ 1048576
  · go_enter Try.func7, Try.ntmps7
    go_wp2_with fail
    refine (drawPairLose_c _ xs _ h hs hl hcap).mono ?_; rintro e1 wa ⟨v1, u1, p, rfl, hxa, hp, which, q0, q1, rfl⟩
    obtain ⟨a1, n1, c1, b1, m1, k1, a2, n2, c2, b2, m2, k2, rfl⟩ := hp.forms
    have HP := Lib.hid hp
    clear hp
    go_wp2_with fail
    refine (implPairLose_r which (HP.out.ext (ext_alloc (ext_refl _) _))).mono ?_; rintro e2 wb ⟨v2, rfl, hxb, hq⟩
    obtain ⟨a3, n3, c3, b3, m3, k3, a4, n4, c4, b4, m4, k4, rfl⟩ := hq.forms
    have Xab := ext_trans (ext_alloc (ext_refl wa) _) hxb
    have G3 := keep_ext hxb (hg_new (b := wa.heap.size) rfl)
    replace HP := Lib.hid (HP.out.ext Xab)
    have HQ := Lib.hid hq
    have X0 : Ext w wb := ext_trans hxa Xab
    clear hxa hxb Xab hq
    obtain ⟨q, hqv⟩ : ∃ q, pairLoseV p which = q := ⟨_, rfl⟩
    have HV := Lib.hid hqv
    rw [hqv] at HQ
    rw [show (pairLoseV p which).lost = q.lost by rw [hqv]]
    clear hqv
    go_wp2_with fail
    have GE : ∀ o w', Ext (wb.alloc o) w' → Ext wb w' := fun o w' h => ext_trans (ext_alloc (ext_refl _) _) h
    have G5 := hg_new (w := wb) (x := .cells #[.slice a3 n3 c3, .slice b3 m3 k3, .slice a4 n4 c4, .slice b4 m4 k4, .int .i64 q.lost] 34) (b := wb.heap.size) rfl
    replace G3 := hg_alloc (x := .cells #[.slice a3 n3 c3, .slice b3 m3 k3, .slice a4 n4 c4, .slice b4 m4 k4, .int .i64 q.lost] 34) G3
    replace HP := Lib.hid (HP.out.ext (GE (.cells #[.slice a3 n3 c3, .slice b3 m3 k3, .slice a4 n4 c4, .slice b4 m4 k4, .int .i64 q.lost] 34) _ (ext_refl _)))
    replace HQ := Lib.hid (HQ.out.ext (GE (.cells #[.slice a3 n3 c3, .slice b3 m3 k3, .slice a4 n4 c4, .slice b4 m4 k4, .int .i64 q.lost] 34) _ (ext_refl _)))
    replace X0 := ext_alloc X0 (.cells #[.slice a3 n3 c3, .slice b3 m3 k3, .slice a4 n4 c4, .slice b4 m4 k4, .int .i64 q.lost] 34)
    clear GE
    generalize wb.alloc (.cells #[.slice a3 n3 c3, .slice b3 m3 k3, .slice a4 n4 c4, .slice b4 m4 k4, .int .i64 q.lost] 34) = wc at *
    by_cases hok : pairOkB p = true
    · by_cases hw : which ≤ 2
      · have hb1 : decide (which < 1) = false := by simp; omega
        have hb2 : decide (which > 2) = false := by simp; omega
        refine wp_region_ext [3, 4, 8] [0, 1, 2, 3, 4, 5, 6, 7, 8, 9, 10, 11, 12, 13, 14, 15, 16, 17, 18] [] [] (by kernel_rfl) (by kernel_rfl) ?late ?_
        case late => exact fun f hf => absurd hf List.not_mem_nil
        iterate 2
          refine Rob.y (v := ?_) rfl rfl (fun w1 hx hH => ?_) ?_; rotate_left
          · (have hE : Ext wc w1 := (by first | exact hx | exact hx.1 | exact hx.1.1); obtain ⟨z3, zf3⟩ := cellsK (keep_ext hE G3); obtain ⟨z5, zf5⟩ := cellsK (keep_ext hE G5)); go_simp; first | done | rfl
          simp only [Act.put, List.setIfInBounds_toArray, List.set_cons_succ, List.set_cons_zero]
        refine Rob.y (v := ?_) rfl rfl (fun w1 hx hH => ?_) ?_; rotate_left
        · go_simp; first | done | rfl | exact (Bool.not_not _).symm
        simp only [Act.put, List.setIfInBounds_toArray, List.set_cons_succ, List.set_cons_zero]
        refine Rob.c (fun _ _ v w' => PairR w' v q) rfl rfl rfl (fun _ _ => (by intro h k; first | exact ext_trans h k | exact ⟨ext_trans h.1 k, PairR.ext h.2 k⟩)) (fun _ _ _ _ _ => fun hh hx => PairR.ext hh hx) (fun w1 hx hH => ?_) (fun lo3 hi3 v3 hlo3 hhi3 hv3 => ?_)
        · unfold RunTo; go_simp; exact (HV.out ▸ specPairLose_r which (HP.out.ext hx)).mono fun e w' h => h.to
        simp only [Act.put, List.setIfInBounds_toArray, List.set_cons_succ, List.set_cons_zero]
        refine Rob.cv (.bool true) rfl rfl rfl (fun _ _ => (by intro h k; first | exact ext_trans h k | exact ⟨ext_trans h.1 k, PairR.ext h.2 k⟩)) (fun w1 hx hH => ?_) (fun lo4 hi4 hlo4 hhi4 => ?_)
        · unfold RunTo; go_simp; exact (lqPair_t (HQ.out.ext hx.1) hx.2).mono fun e w' h => h.to
        simp only [Act.put, List.setIfInBounds_toArray, List.set_cons_succ, List.set_cons_zero]
        iterate 2
          refine Rob.y (v := ?_) rfl rfl (fun w1 hx hH => ?_) ?_; rotate_left
          · go_simp; first | done | rfl | exact (Bool.not_not _).symm
          simp only [Act.put, List.setIfInBounds_toArray, List.set_cons_succ, List.set_cons_zero]
        refine Rob.yg (v := ?_) rfl rfl (fun w1 hx hH => ?_) ?_; rotate_left
        · (have hE : Ext wc w1 := (by first | exact hx | exact hx.1 | exact hx.1.1); obtain ⟨z3, zf3⟩ := cellsK (keep_ext hE G3); obtain ⟨z5, zf5⟩ := cellsK (keep_ext hE G5)); go_simp; first | done | rfl
        simp only [Act.put, List.setIfInBounds_toArray, List.set_cons_succ, List.set_cons_zero]
        refine Rob.cv (.bool true) rfl rfl rfl (fun _ _ => (by intro h k; first | exact ext_trans h k | exact ⟨ext_trans h.1 k, PairR.ext h.2 k⟩)) (fun w1 hx hH => ?_) (fun lo8 hi8 hlo8 hhi8 => ?_)
        · unfold RunTo; go_simp; exact (hok ▸ specPairOk_r (HP.out.ext hx.1)).mono fun e w' h => h.to
        simp only [Act.put, List.setIfInBounds_toArray, List.set_cons_succ, List.set_cons_zero]
        refine Rob.yg (v := ?_) rfl rfl (fun w1 hx hH => ?_) ?_; rotate_left
        · go_simp; first | done | rfl | exact (Bool.not_not _).symm
        simp only [Act.put, List.setIfInBounds_toArray, List.set_cons_succ, List.set_cons_zero]
        iterate 2
          refine Rob.y (v := ?_) rfl rfl (fun w1 hx hH => ?_) ?_; rotate_left
          · go_simp; first | done | rfl | exact (Bool.not_not _).symm
          simp only [Act.put, List.setIfInBounds_toArray, List.set_cons_succ, List.set_cons_zero]
        refine Rob.yg (v := ?_) rfl rfl (fun w1 hx hH => ?_) ?_; rotate_left
        · go_simp; first | done | rfl | exact (Bool.not_not _).symm
        simp only [Act.put, List.setIfInBounds_toArray, List.set_cons_succ, List.set_cons_zero]
        refine Rob.yg (v := .bool false) rfl rfl (fun w1 hx hH => ?_) ?_
        · go_simp; first | done | exact hb1 | simp [hb1]
        simp only [Act.put, List.setIfInBounds_toArray, List.set_cons_succ, List.set_cons_zero]
        iterate 2
          refine Rob.y (v := ?_) rfl rfl (fun w1 hx hH => ?_) ?_; rotate_left
          · go_simp; first | done | rfl | exact (Bool.not_not _).symm
          simp only [Act.put, List.setIfInBounds_toArray, List.set_cons_succ, List.set_cons_zero]
        refine Rob.yg (v := ?_) rfl rfl (fun w1 hx hH => ?_) ?_; rotate_left
        · go_simp; first | done | rfl | exact (Bool.not_not _).symm
        simp only [Act.put, List.setIfInBounds_toArray, List.set_cons_succ, List.set_cons_zero]
        refine Rob.yg (v := .bool false) rfl rfl (fun w1 hx hH => ?_) ?_
        · go_simp; first | done | exact hb2 | simp [hb2]
        simp only [Act.put, List.setIfInBounds_toArray, List.set_cons_succ, List.set_cons_zero]
        refine Rob.y (v := ?_) rfl rfl (fun w1 hx hH => ?_) ?_; rotate_left
        · go_simp; first | done | rfl | exact (Bool.not_not _).symm
        simp only [Act.put, List.setIfInBounds_toArray, List.set_cons_succ, List.set_cons_zero]
        refine fin_nil (fun wd hxd _ => ?_)
        replace hxd := hxd.1
        clear hb1 hb2
        replace HP := Lib.hid (HP.out.ext hxd)
        replace HQ := Lib.hid (HQ.out.ext hxd)
        replace G3 := keep_ext hxd G3
        replace G5 := keep_ext hxd G5
        replace X0 := ext_trans X0 hxd
        clear hxd
        (try clear g3 gf3 g5 gf5 l3 l5)
        obtain ⟨g3, gf3⟩ := cellsK G3
        obtain ⟨g5, gf5⟩ := cellsK G5
        have l3 := heap_lt G3
        have l5 := heap_lt G5
        have HO := Lib.hid hok
        clear hok
        by_cases h0 : 0 < p.lost
        · obtain rfl : q = p := by rw [← HV.out]; exact pairLoseV_lost HO.out q0 hw h0
          have hEq := lqPair_t HQ.out HP.out
          go_wp2_with fail
          refine hEq.mono ?_; rintro e9 we ⟨rfl, hxe⟩
          go_wp2_with fail
          go_ret
          exact ⟨rfl, ext_trans X0 hxe⟩
        · have H0 : Hid (p.lost = 0) := Lib.hid (by have := (pairOk_iff.1 HO.out).1; omega)
          have HS := Lib.hid HP.out.read.2.2.2
          have HQO : Hid (pairOkB q = true) := Lib.hid (by rw [← HV.out]; exact pOk_lose HO.out ⟨q0, hw⟩)
          have HQL : Hid (q.lost = which) := Lib.hid (by rw [← HV.out]; exact pairLoseV_is HO.out q0 hw H0.out)
          have HLL : Hid (pairLoseV q (3 - which) = q) := Lib.hid (pairLoseV_lost HQO.out (by omega) (by omega) (by rw [HQL.out]; omega))
          have HLC : Hid (∀ (w' : World) (v : Value), PairR w' v q → Calls Try.prog 18 #[v, .int .i64 (3 - which)] w' (PairRet w' q)) := Lib.hid fun w' v hv => by
            have := implPairLose_r (3 - which) hv
            rwa [HLL.out] at this
          clear HLL
          by_cases hsame : allV p.A = allV p.B
          · have HSAME : Hid (decide (allV p.A = allV p.B) = true) := Lib.hid (decide_eq_true hsame)
            have HA : Hid (pairAllV q = pairAllV p) := Lib.hid (by rw [← HV.out]; exact pairLoseV_all HO.out q0 hw H0.out hsame)
            clear hsame
            go_wp2_with fail
            refine wp_region_ext [2, 5, 6] [0, 1, 3, 4, 2, 5, 6, 7] [] [] (by kernel_rfl) (by kernel_rfl) ?late ?_
            case late => exact fun f hf => absurd hf List.not_mem_nil
            refine Rob.y (v := ?_) rfl rfl (fun w1 hx hH => ?_) ?_; rotate_left
            · go_simp; first | done | rfl | exact (Bool.not_not _).symm
            simp only [Act.put, List.setIfInBounds_toArray, List.set_cons_succ, List.set_cons_zero]
            refine Rob.y (v := ?_) rfl rfl (fun w1 hx hH => ?_) ?_; rotate_left
            · (have hE : Ext wd w1 := (by first | exact hx | exact hx.1 | exact hx.1.1 | exact hx.1.1.1); obtain ⟨z3, zf3⟩ := cellsK (keep_ext hE G3)); go_simp; first | done | rfl
            simp only [Act.put, List.setIfInBounds_toArray, List.set_cons_succ, List.set_cons_zero]
            refine Rob.y (v := ?_) rfl rfl (fun w1 hx hH => ?_) ?_; rotate_left
            · go_simp; first | done | rfl | exact (Bool.not_not _).symm
            simp only [Act.put, List.setIfInBounds_toArray, List.set_cons_succ, List.set_cons_zero]
            refine Rob.y (v := ?_) rfl rfl (fun w1 hx hH => ?_) ?_; rotate_left
            · (have hE : Ext wd w1 := (by first | exact hx | exact hx.1 | exact hx.1.1 | exact hx.1.1.1); obtain ⟨z3, zf3⟩ := cellsK (keep_ext hE G3)); go_simp; first | done | rfl
            simp only [Act.put, List.setIfInBounds_toArray, List.set_cons_succ, List.set_cons_zero]
            refine Rob.c (fun _ _ v w' => Ints (Old w') w' v (allV p.A)) rfl rfl rfl (fun _ _ => (by intro h k; revert h; (repeat' (first | exact fun h => ext_trans h k | exact fun h => Ints.ext h k | exact fun h => PairR.ext h k | exact fun h => h.ext k | refine And.imp ?_ ?_)))) (fun _ _ _ _ _ => fun hh hx => by first | exact Ints.ext hh hx | exact PairR.ext hh hx | exact hh.ext hx) (fun w1 hx hH => ?_) (fun lo2 hi2 v2 hlo2 hhi2 hv2 => ?_)
            · unfold RunTo; go_simp; exact (implStoreAll_r (HP.out.ext hx).read.2.1 HS.out.1).mono fun e w' h => h.to
            simp only [Act.put, List.setIfInBounds_toArray, List.set_cons_succ, List.set_cons_zero]
            refine Rob.c (fun _ _ v w' => Ints (Old w') w' v (allV p.B)) rfl rfl rfl (fun _ _ => (by intro h k; revert h; (repeat' (first | exact fun h => ext_trans h k | exact fun h => Ints.ext h k | exact fun h => PairR.ext h k | exact fun h => h.ext k | refine And.imp ?_ ?_)))) (fun _ _ _ _ _ => fun hh hx => by first | exact Ints.ext hh hx | exact PairR.ext hh hx | exact hh.ext hx) (fun w1 hx hH => ?_) (fun lo5 hi5 v5 hlo5 hhi5 hv5 => ?_)
            · unfold RunTo; go_simp; exact (implStoreAll_r (HP.out.ext hx.1).read.2.2.1 HS.out.2).mono fun e w' h => h.to
            simp only [Act.put, List.setIfInBounds_toArray, List.set_cons_succ, List.set_cons_zero]
            refine Rob.cv (.bool true) rfl rfl rfl (fun _ _ => (by intro h k; revert h; (repeat' (first | exact fun h => ext_trans h k | exact fun h => Ints.ext h k | exact fun h => PairR.ext h k | exact fun h => h.ext k | refine And.imp ?_ ?_)))) (fun w1 hx hH => ?_) (fun lo6 hi6 hlo6 hhi6 => ?_)
            · unfold RunTo; go_simp; exact (HSAME.out ▸ lqInts_r hx.1.2 hx.2 (allV_len _)).mono fun e w' h => h.to
            simp only [Act.put, List.setIfInBounds_toArray, List.set_cons_succ, List.set_cons_zero]
            refine Rob.y (v := ?_) rfl rfl (fun w1 hx hH => ?_) ?_; rotate_left
            · go_simp; first | done | rfl | exact (Bool.not_not _).symm
            simp only [Act.put, List.setIfInBounds_toArray, List.set_cons_succ, List.set_cons_zero]
            refine fin_nil (fun we hxe _ => ?_)
            replace hxe := hxe.1.1
            replace HP := Lib.hid (HP.out.ext hxe)
            replace HQ := Lib.hid (HQ.out.ext hxe)
            replace G3 := keep_ext hxe G3
            replace G5 := keep_ext hxe G5
            replace X0 := ext_trans X0 hxe
            clear hxe
            (try clear g3 gf3 g5 gf5 l3 l5)
            obtain ⟨g3, gf3⟩ := cellsK G3
            obtain ⟨g5, gf5⟩ := cellsK G5
            have l3 := heap_lt G3
            have l5 := heap_lt G5
            go_wp2_with fail
            refine wp_region_ext [6, 13, 15, 16, 23, 25] [0, 1, 2, 3, 4, 5, 6, 7, 8, 9, 10, 11, 12, 14, 13, 15, 16, 17, 18, 19, 20, 21, 22, 24, 23, 25, 26, 27] [] [] (by kernel_rfl) (by kernel_rfl) ?late ?_
            case late => exact fun f hf => absurd hf List.not_mem_nil
            refine Rob.y (v := ?_) rfl rfl (fun w1 hx hH => ?_) ?_; rotate_left
            · go_simp; first | done | rfl | exact (Bool.not_not _).symm
            simp only [Act.put, List.setIfInBounds_toArray, List.set_cons_succ, List.set_cons_zero]
            refine Rob.y (v := ?_) rfl rfl (fun w1 hx hH => ?_) ?_; rotate_left
            · (have hE : Ext we w1 := (by first | exact hx | exact hx.1 | exact hx.1.1 | exact hx.1.1.1); obtain ⟨z3, zf3⟩ := cellsK (keep_ext hE G3); obtain ⟨z5, zf5⟩ := cellsK (keep_ext hE G5)); go_simp; first | done | rfl
            simp only [Act.put, List.setIfInBounds_toArray, List.set_cons_succ, List.set_cons_zero]
            refine Rob.y (v := ?_) rfl rfl (fun w1 hx hH => ?_) ?_; rotate_left
            · go_simp; first | done | rfl | exact (Bool.not_not _).symm
            simp only [Act.put, List.setIfInBounds_toArray, List.set_cons_succ, List.set_cons_zero]
            refine Rob.y (v := .bool true) rfl rfl (fun w1 hx hH => ?_) ?_
            · go_simp; simp [HQL.out]
            simp only [Act.put, List.setIfInBounds_toArray, List.set_cons_succ, List.set_cons_zero]
            refine Rob.y (v := ?_) rfl rfl (fun w1 hx hH => ?_) ?_; rotate_left
            · go_simp; first | done | rfl | exact (Bool.not_not _).symm
            simp only [Act.put, List.setIfInBounds_toArray, List.set_cons_succ, List.set_cons_zero]
            refine Rob.yg (v := ?_) rfl rfl (fun w1 hx hH => ?_) ?_; rotate_left
            · (have hE : Ext we w1 := (by first | exact hx | exact hx.1 | exact hx.1.1 | exact hx.1.1.1); obtain ⟨z3, zf3⟩ := cellsK (keep_ext hE G3); obtain ⟨z5, zf5⟩ := cellsK (keep_ext hE G5)); go_simp; first | done | rfl
            simp only [Act.put, List.setIfInBounds_toArray, List.set_cons_succ, List.set_cons_zero]
            refine Rob.cv (.bool true) rfl rfl rfl (fun _ _ => (by intro h k; revert h; (repeat' (first | exact fun h => ext_trans h k | exact fun h => Ints.ext h k | exact fun h => PairR.ext h k | exact fun h => h.ext k | refine And.imp ?_ ?_)))) (fun w1 hx hH => ?_) (fun lo6 hi6 hlo6 hhi6 => ?_)
            · unfold RunTo; go_simp; exact (HQO.out ▸ implPairOk_r (HQ.out.ext hx)).mono fun e w' h => h.to
            simp only [Act.put, List.setIfInBounds_toArray, List.set_cons_succ, List.set_cons_zero]
            iterate 2
              refine Rob.y (v := ?_) rfl rfl (fun w1 hx hH => ?_) ?_; rotate_left
              · go_simp; first | done | rfl | exact (Bool.not_not _).symm
              simp only [Act.put, List.setIfInBounds_toArray, List.set_cons_succ, List.set_cons_zero]
            iterate 3
              refine Rob.yg (v := ?_) rfl rfl (fun w1 hx hH => ?_) ?_; rotate_left
              · go_simp; first | done | rfl | exact (Bool.not_not _).symm
              simp only [Act.put, List.setIfInBounds_toArray, List.set_cons_succ, List.set_cons_zero]
            iterate 2
              refine Rob.yg (v := ?_) rfl rfl (fun w1 hx hH => ?_) ?_; rotate_left
              · (have hE : Ext we w1 := (by first | exact hx | exact hx.1 | exact hx.1.1 | exact hx.1.1.1); obtain ⟨z3, zf3⟩ := cellsK (keep_ext hE G3); obtain ⟨z5, zf5⟩ := cellsK (keep_ext hE G5)); go_simp; first | done | rfl
              simp only [Act.put, List.setIfInBounds_toArray, List.set_cons_succ, List.set_cons_zero]
            refine Rob.c (fun _ _ v w' => Ints (Old w') w' v (pairAllV p)) rfl rfl rfl (fun _ _ => (by intro h k; revert h; (repeat' (first | exact fun h => ext_trans h k | exact fun h => Ints.ext h k | exact fun h => PairR.ext h k | exact fun h => h.ext k | refine And.imp ?_ ?_)))) (fun _ _ _ _ _ => fun hh hx => by first | exact Ints.ext hh hx | exact PairR.ext hh hx | exact hh.ext hx) (fun w1 hx hH => ?_) (fun lo13 hi13 v13 hlo13 hhi13 hv13 => ?_)
            · unfold RunTo; go_simp; exact (HA.out ▸ implPairAll_r (HQ.out.ext hx)).mono fun e w' h => h.to
            simp only [Act.put, List.setIfInBounds_toArray, List.set_cons_succ, List.set_cons_zero]
            refine Rob.c (fun _ _ v w' => Ints (Old w') w' v (pairAllV p)) rfl rfl rfl (fun _ _ => (by intro h k; revert h; (repeat' (first | exact fun h => ext_trans h k | exact fun h => Ints.ext h k | exact fun h => PairR.ext h k | exact fun h => h.ext k | refine And.imp ?_ ?_)))) (fun _ _ _ _ _ => fun hh hx => by first | exact Ints.ext hh hx | exact PairR.ext hh hx | exact hh.ext hx) (fun w1 hx hH => ?_) (fun lo15 hi15 v15 hlo15 hhi15 hv15 => ?_)
            · unfold RunTo; go_simp; exact (implPairAll_r (HP.out.ext hx.1)).mono fun e w' h => h.to
            simp only [Act.put, List.setIfInBounds_toArray, List.set_cons_succ, List.set_cons_zero]
            refine Rob.cv (.bool true) rfl rfl rfl (fun _ _ => (by intro h k; revert h; (repeat' (first | exact fun h => ext_trans h k | exact fun h => Ints.ext h k | exact fun h => PairR.ext h k | exact fun h => h.ext k | refine And.imp ?_ ?_)))) (fun w1 hx hH => ?_) (fun lo16 hi16 hlo16 hhi16 => ?_)
            · unfold RunTo; go_simp; exact (lqInts_t hx.1.2 hx.2 (pairV_len _)).mono fun e w' h => h.to
            simp only [Act.put, List.setIfInBounds_toArray, List.set_cons_succ, List.set_cons_zero]
            refine Rob.yg (v := ?_) rfl rfl (fun w1 hx hH => ?_) ?_; rotate_left
            · go_simp; first | done | rfl | exact (Bool.not_not _).symm
            simp only [Act.put, List.setIfInBounds_toArray, List.set_cons_succ, List.set_cons_zero]
            iterate 2
              refine Rob.y (v := ?_) rfl rfl (fun w1 hx hH => ?_) ?_; rotate_left
              · go_simp; first | done | rfl | exact (Bool.not_not _).symm
              simp only [Act.put, List.setIfInBounds_toArray, List.set_cons_succ, List.set_cons_zero]
            refine Rob.yg (v := ?_) rfl rfl (fun w1 hx hH => ?_) ?_; rotate_left
            · (have hE : Ext we w1 := (by first | exact hx | exact hx.1 | exact hx.1.1 | exact hx.1.1.1); obtain ⟨z3, zf3⟩ := cellsK (keep_ext hE G3); obtain ⟨z5, zf5⟩ := cellsK (keep_ext hE G5)); go_simp; first | done | rfl
            simp only [Act.put, List.setIfInBounds_toArray, List.set_cons_succ, List.set_cons_zero]
            refine Rob.yg (v := ?_) rfl rfl (fun w1 hx hH => ?_) ?_; rotate_left
            · go_simp; first | done | rfl | exact (Bool.not_not _).symm
            simp only [Act.put, List.setIfInBounds_toArray, List.set_cons_succ, List.set_cons_zero]
            refine Rob.yg (v := .int .i64 (3 - which)) rfl rfl (fun w1 hx hH => ?_) ?_
            · (go_simp; rw [IntKind.wrap_i64]; omega)
            simp only [Act.put, List.setIfInBounds_toArray, List.set_cons_succ, List.set_cons_zero]
            refine Rob.yg (v := ?_) rfl rfl (fun w1 hx hH => ?_) ?_; rotate_left
            · (have hE : Ext we w1 := (by first | exact hx | exact hx.1 | exact hx.1.1 | exact hx.1.1.1); obtain ⟨z3, zf3⟩ := cellsK (keep_ext hE G3); obtain ⟨z5, zf5⟩ := cellsK (keep_ext hE G5)); go_simp; first | done | rfl
            simp only [Act.put, List.setIfInBounds_toArray, List.set_cons_succ, List.set_cons_zero]
            refine Rob.c (fun _ _ v w' => PairR w' v q) rfl rfl rfl (fun _ _ => (by intro h k; revert h; (repeat' (first | exact fun h => ext_trans h k | exact fun h => Ints.ext h k | exact fun h => PairR.ext h k | exact fun h => h.ext k | refine And.imp ?_ ?_)))) (fun _ _ _ _ _ => fun hh hx => by first | exact Ints.ext hh hx | exact PairR.ext hh hx | exact hh.ext hx) (fun w1 hx hH => ?_) (fun lo23 hi23 v23 hlo23 hhi23 hv23 => ?_)
            · unfold RunTo; go_simp; exact (HLC.out _ _ (HQ.out.ext hx.1.1)).mono fun e w' h => h.to
            simp only [Act.put, List.setIfInBounds_toArray, List.set_cons_succ, List.set_cons_zero]
            refine Rob.cv (.bool true) rfl rfl rfl (fun _ _ => (by intro h k; revert h; (repeat' (first | exact fun h => ext_trans h k | exact fun h => Ints.ext h k | exact fun h => PairR.ext h k | exact fun h => h.ext k | refine And.imp ?_ ?_)))) (fun w1 hx hH => ?_) (fun lo25 hi25 hlo25 hhi25 => ?_)
            · unfold RunTo; go_simp; exact (lqPair_t hx.2 (HQ.out.ext hx.1.1.1)).mono fun e w' h => h.to
            simp only [Act.put, List.setIfInBounds_toArray, List.set_cons_succ, List.set_cons_zero]
            iterate 2
              refine Rob.y (v := ?_) rfl rfl (fun w1 hx hH => ?_) ?_; rotate_left
              · go_simp; first | done | rfl | exact (Bool.not_not _).symm
              simp only [Act.put, List.setIfInBounds_toArray, List.set_cons_succ, List.set_cons_zero]
            refine fin_nil (fun wf hxf _ => ?_)
            replace hxf := hxf.1.1.1
            go_wp2_with fail
            go_ret
            exact ⟨rfl, ext_trans X0 hxf⟩
          · have HSAME : Hid (decide (allV p.A = allV p.B) = false) := Lib.hid (decide_eq_false hsame)
            clear hsame
            go_wp2_with fail
            refine wp_region_ext [2, 5, 6] [0, 1, 3, 4, 2, 5, 6, 7] [] [] (by kernel_rfl) (by kernel_rfl) ?late ?_
            case late => exact fun f hf => absurd hf List.not_mem_nil
            refine Rob.y (v := ?_) rfl rfl (fun w1 hx hH => ?_) ?_; rotate_left
            · go_simp; first | done | rfl | exact (Bool.not_not _).symm
            simp only [Act.put, List.setIfInBounds_toArray, List.set_cons_succ, List.set_cons_zero]
            refine Rob.y (v := ?_) rfl rfl (fun w1 hx hH => ?_) ?_; rotate_left
            · (have hE : Ext wd w1 := (by first | exact hx | exact hx.1 | exact hx.1.1 | exact hx.1.1.1); obtain ⟨z3, zf3⟩ := cellsK (keep_ext hE G3)); go_simp; first | done | rfl
            simp only [Act.put, List.setIfInBounds_toArray, List.set_cons_succ, List.set_cons_zero]
            refine Rob.y (v := ?_) rfl rfl (fun w1 hx hH => ?_) ?_; rotate_left
            · go_simp; first | done | rfl | exact (Bool.not_not _).symm
            simp only [Act.put, List.setIfInBounds_toArray, List.set_cons_succ, List.set_cons_zero]
            refine Rob.y (v := ?_) rfl rfl (fun w1 hx hH => ?_) ?_; rotate_left
            · (have hE : Ext wd w1 := (by first | exact hx | exact hx.1 | exact hx.1.1 | exact hx.1.1.1); obtain ⟨z3, zf3⟩ := cellsK (keep_ext hE G3)); go_simp; first | done | rfl
            simp only [Act.put, List.setIfInBounds_toArray, List.set_cons_succ, List.set_cons_zero]
            refine Rob.c (fun _ _ v w' => Ints (Old w') w' v (allV p.A)) rfl rfl rfl (fun _ _ => (by intro h k; revert h; (repeat' (first | exact fun h => ext_trans h k | exact fun h => Ints.ext h k | exact fun h => PairR.ext h k | exact fun h => h.ext k | refine And.imp ?_ ?_)))) (fun _ _ _ _ _ => fun hh hx => by first | exact Ints.ext hh hx | exact PairR.ext hh hx | exact hh.ext hx) (fun w1 hx hH => ?_) (fun lo2 hi2 v2 hlo2 hhi2 hv2 => ?_)
            · unfold RunTo; go_simp; exact (implStoreAll_r (HP.out.ext hx).read.2.1 HS.out.1).mono fun e w' h => h.to
            simp only [Act.put, List.setIfInBounds_toArray, List.set_cons_succ, List.set_cons_zero]
            refine Rob.c (fun _ _ v w' => Ints (Old w') w' v (allV p.B)) rfl rfl rfl (fun _ _ => (by intro h k; revert h; (repeat' (first | exact fun h => ext_trans h k | exact fun h => Ints.ext h k | exact fun h => PairR.ext h k | exact fun h => h.ext k | refine And.imp ?_ ?_)))) (fun _ _ _ _ _ => fun hh hx => by first | exact Ints.ext hh hx | exact PairR.ext hh hx | exact hh.ext hx) (fun w1 hx hH => ?_) (fun lo5 hi5 v5 hlo5 hhi5 hv5 => ?_)
            · unfold RunTo; go_simp; exact (implStoreAll_r (HP.out.ext hx.1).read.2.2.1 HS.out.2).mono fun e w' h => h.to
            simp only [Act.put, List.setIfInBounds_toArray, List.set_cons_succ, List.set_cons_zero]
            refine Rob.cv (.bool false) rfl rfl rfl (fun _ _ => (by intro h k; revert h; (repeat' (first | exact fun h => ext_trans h k | exact fun h => Ints.ext h k | exact fun h => PairR.ext h k | exact fun h => h.ext k | refine And.imp ?_ ?_)))) (fun w1 hx hH => ?_) (fun lo6 hi6 hlo6 hhi6 => ?_)
            · unfold RunTo; go_simp; exact (HSAME.out ▸ lqInts_r hx.1.2 hx.2 (allV_len _)).mono fun e w' h => h.to
            simp only [Act.put, List.setIfInBounds_toArray, List.set_cons_succ, List.set_cons_zero]
            refine Rob.y (v := ?_) rfl rfl (fun w1 hx hH => ?_) ?_; rotate_left
            · go_simp; first | done | rfl | exact (Bool.not_not _).symm
            simp only [Act.put, List.setIfInBounds_toArray, List.set_cons_succ, List.set_cons_zero]
            refine fin_nil (fun we hxe _ => ?_)
            replace hxe := hxe.1.1
            replace HP := Lib.hid (HP.out.ext hxe)
            replace HQ := Lib.hid (HQ.out.ext hxe)
            replace G3 := keep_ext hxe G3
            replace G5 := keep_ext hxe G5
            replace X0 := ext_trans X0 hxe
            clear hxe
            (try clear g3 gf3 g5 gf5 l3 l5)
            obtain ⟨g3, gf3⟩ := cellsK G3
            obtain ⟨g5, gf5⟩ := cellsK G5
            have l3 := heap_lt G3
            have l5 := heap_lt G5
            go_wp2_with fail
            refine wp_region_ext [6, 13, 15, 16, 23, 25] [0, 1, 2, 3, 4, 5, 6, 7, 8, 9, 10, 11, 12, 14, 13, 15, 16, 17, 18, 19, 20, 21, 22, 24, 23, 25, 26, 27] [] [] (by kernel_rfl) (by kernel_rfl) ?late ?_
            case late => exact fun f hf => absurd hf List.not_mem_nil
            refine Rob.y (v := ?_) rfl rfl (fun w1 hx hH => ?_) ?_; rotate_left
            · go_simp; first | done | rfl | exact (Bool.not_not _).symm
            simp only [Act.put, List.setIfInBounds_toArray, List.set_cons_succ, List.set_cons_zero]
            refine Rob.y (v := ?_) rfl rfl (fun w1 hx hH => ?_) ?_; rotate_left
            · (have hE : Ext we w1 := (by first | exact hx | exact hx.1 | exact hx.1.1 | exact hx.1.1.1); obtain ⟨z3, zf3⟩ := cellsK (keep_ext hE G3); obtain ⟨z5, zf5⟩ := cellsK (keep_ext hE G5)); go_simp; first | done | rfl
            simp only [Act.put, List.setIfInBounds_toArray, List.set_cons_succ, List.set_cons_zero]
            refine Rob.y (v := ?_) rfl rfl (fun w1 hx hH => ?_) ?_; rotate_left
            · go_simp; first | done | rfl | exact (Bool.not_not _).symm
            simp only [Act.put, List.setIfInBounds_toArray, List.set_cons_succ, List.set_cons_zero]
            refine Rob.y (v := .bool true) rfl rfl (fun w1 hx hH => ?_) ?_
            · go_simp; simp [HQL.out]
            simp only [Act.put, List.setIfInBounds_toArray, List.set_cons_succ, List.set_cons_zero]
            refine Rob.y (v := ?_) rfl rfl (fun w1 hx hH => ?_) ?_; rotate_left
            · go_simp; first | done | rfl | exact (Bool.not_not _).symm
            simp only [Act.put, List.setIfInBounds_toArray, List.set_cons_succ, List.set_cons_zero]
            refine Rob.yg (v := ?_) rfl rfl (fun w1 hx hH => ?_) ?_; rotate_left
            · (have hE : Ext we w1 := (by first | exact hx | exact hx.1 | exact hx.1.1 | exact hx.1.1.1); obtain ⟨z3, zf3⟩ := cellsK (keep_ext hE G3); obtain ⟨z5, zf5⟩ := cellsK (keep_ext hE G5)); go_simp; first | done | rfl
            simp only [Act.put, List.setIfInBounds_toArray, List.set_cons_succ, List.set_cons_zero]
            refine Rob.cv (.bool true) rfl rfl rfl (fun _ _ => (by intro h k; revert h; (repeat' (first | exact fun h => ext_trans h k | exact fun h => Ints.ext h k | exact fun h => PairR.ext h k | exact fun h => h.ext k | refine And.imp ?_ ?_)))) (fun w1 hx hH => ?_) (fun lo6 hi6 hlo6 hhi6 => ?_)
            · unfold RunTo; go_simp; exact (HQO.out ▸ implPairOk_r (HQ.out.ext hx)).mono fun e w' h => h.to
            simp only [Act.put, List.setIfInBounds_toArray, List.set_cons_succ, List.set_cons_zero]
            iterate 2
              refine Rob.y (v := ?_) rfl rfl (fun w1 hx hH => ?_) ?_; rotate_left
              · go_simp; first | done | rfl | exact (Bool.not_not _).symm
              simp only [Act.put, List.setIfInBounds_toArray, List.set_cons_succ, List.set_cons_zero]
            iterate 3
              refine Rob.yg (v := ?_) rfl rfl (fun w1 hx hH => ?_) ?_; rotate_left
              · go_simp; first | done | rfl | exact (Bool.not_not _).symm
              simp only [Act.put, List.setIfInBounds_toArray, List.set_cons_succ, List.set_cons_zero]
            iterate 5
              refine Rob.no rfl rfl ?_
              simp only [Act.put, List.setIfInBounds_toArray, List.set_cons_succ, List.set_cons_zero]
            refine Rob.yg (v := ?_) rfl rfl (fun w1 hx hH => ?_) ?_; rotate_left
            · go_simp; first | done | rfl | exact (Bool.not_not _).symm
            simp only [Act.put, List.setIfInBounds_toArray, List.set_cons_succ, List.set_cons_zero]
            iterate 2
              refine Rob.y (v := ?_) rfl rfl (fun w1 hx hH => ?_) ?_; rotate_left
              · go_simp; first | done | rfl | exact (Bool.not_not _).symm
              simp only [Act.put, List.setIfInBounds_toArray, List.set_cons_succ, List.set_cons_zero]
            refine Rob.yg (v := ?_) rfl rfl (fun w1 hx hH => ?_) ?_; rotate_left
            · (have hE : Ext we w1 := (by first | exact hx | exact hx.1 | exact hx.1.1 | exact hx.1.1.1); obtain ⟨z3, zf3⟩ := cellsK (keep_ext hE G3); obtain ⟨z5, zf5⟩ := cellsK (keep_ext hE G5)); go_simp; first | done | rfl
            simp only [Act.put, List.setIfInBounds_toArray, List.set_cons_succ, List.set_cons_zero]
            refine Rob.yg (v := ?_) rfl rfl (fun w1 hx hH => ?_) ?_; rotate_left
            · go_simp; first | done | rfl | exact (Bool.not_not _).symm
            simp only [Act.put, List.setIfInBounds_toArray, List.set_cons_succ, List.set_cons_zero]
            refine Rob.yg (v := .int .i64 (3 - which)) rfl rfl (fun w1 hx hH => ?_) ?_
            · (go_simp; rw [IntKind.wrap_i64]; omega)
            simp only [Act.put, List.setIfInBounds_toArray, List.set_cons_succ, List.set_cons_zero]
            refine Rob.yg (v := ?_) rfl rfl (fun w1 hx hH => ?_) ?_; rotate_left
            · (have hE : Ext we w1 := (by first | exact hx | exact hx.1 | exact hx.1.1 | exact hx.1.1.1); obtain ⟨z3, zf3⟩ := cellsK (keep_ext hE G3); obtain ⟨z5, zf5⟩ := cellsK (keep_ext hE G5)); go_simp; first | done | rfl
            simp only [Act.put, List.setIfInBounds_toArray, List.set_cons_succ, List.set_cons_zero]
            refine Rob.c (fun _ _ v w' => PairR w' v q) rfl rfl rfl (fun _ _ => (by intro h k; revert h; (repeat' (first | exact fun h => ext_trans h k | exact fun h => Ints.ext h k | exact fun h => PairR.ext h k | exact fun h => h.ext k | refine And.imp ?_ ?_)))) (fun _ _ _ _ _ => fun hh hx => by first | exact Ints.ext hh hx | exact PairR.ext hh hx | exact hh.ext hx) (fun w1 hx hH => ?_) (fun lo23 hi23 v23 hlo23 hhi23 hv23 => ?_)
            · unfold RunTo; go_simp; exact (HLC.out _ _ (HQ.out.ext hx)).mono fun e w' h => h.to
            simp only [Act.put, List.setIfInBounds_toArray, List.set_cons_succ, List.set_cons_zero]
            refine Rob.cv (.bool true) rfl rfl rfl (fun _ _ => (by intro h k; revert h; (repeat' (first | exact fun h => ext_trans h k | exact fun h => Ints.ext h k | exact fun h => PairR.ext h k | exact fun h => h.ext k | refine And.imp ?_ ?_)))) (fun w1 hx hH => ?_) (fun lo25 hi25 hlo25 hhi25 => ?_)
            · unfold RunTo; go_simp; exact (lqPair_t hx.2 (HQ.out.ext hx.1)).mono fun e w' h => h.to
            simp only [Act.put, List.setIfInBounds_toArray, List.set_cons_succ, List.set_cons_zero]
            iterate 2
              refine Rob.y (v := ?_) rfl rfl (fun w1 hx hH => ?_) ?_; rotate_left
              · go_simp; first | done | rfl | exact (Bool.not_not _).symm
              simp only [Act.put, List.setIfInBounds_toArray, List.set_cons_succ, List.set_cons_zero]
            refine fin_nil (fun wf hxf _ => ?_)
            replace hxf := hxf.1
            go_wp2_with fail
            go_ret
            exact ⟨rfl, ext_trans X0 hxf⟩
      · have hb1 : decide (which < 1) = false := by simp; omega
        have hb2 : decide (which > 2) = true := by simp; omega
        refine wp_region_ext [3, 4, 8] [0, 1, 2, 3, 4, 5, 6, 7, 8, 9, 10, 11, 12, 13, 14, 15, 16, 17, 18] [] [] (by kernel_rfl) (by kernel_rfl) ?late ?_
        case late => exact fun f hf => absurd hf List.not_mem_nil
        iterate 2
          refine Rob.y (v := ?_) rfl rfl (fun w1 hx hH => ?_) ?_; rotate_left
          · (have hE : Ext wc w1 := (by first | exact hx | exact hx.1 | exact hx.1.1); obtain ⟨z3, zf3⟩ := cellsK (keep_ext hE G3); obtain ⟨z5, zf5⟩ := cellsK (keep_ext hE G5)); go_simp; first | done | rfl
          simp only [Act.put, List.setIfInBounds_toArray, List.set_cons_succ, List.set_cons_zero]
        refine Rob.y (v := ?_) rfl rfl (fun w1 hx hH => ?_) ?_; rotate_left
        · go_simp; first | done | rfl | exact (Bool.not_not _).symm
        simp only [Act.put, List.setIfInBounds_toArray, List.set_cons_succ, List.set_cons_zero]
        refine Rob.c (fun _ _ v w' => PairR w' v q) rfl rfl rfl (fun _ _ => (by intro h k; revert h; (repeat' (first | exact fun h => ext_trans h k | exact fun h => Ints.ext h k | exact fun h => PairR.ext h k | exact fun h => h.ext k | refine And.imp ?_ ?_)))) (fun _ _ _ _ _ => fun hh hx => by first | exact Ints.ext hh hx | exact PairR.ext hh hx | exact hh.ext hx) (fun w1 hx hH => ?_) (fun lo3 hi3 v3 hlo3 hhi3 hv3 => ?_)
        · unfold RunTo; go_simp; exact (HV.out ▸ specPairLose_r which (HP.out.ext hx)).mono fun e w' h => h.to
        simp only [Act.put, List.setIfInBounds_toArray, List.set_cons_succ, List.set_cons_zero]
        refine Rob.cv (.bool true) rfl rfl rfl (fun _ _ => (by intro h k; revert h; (repeat' (first | exact fun h => ext_trans h k | exact fun h => Ints.ext h k | exact fun h => PairR.ext h k | exact fun h => h.ext k | refine And.imp ?_ ?_)))) (fun w1 hx hH => ?_) (fun lo4 hi4 hlo4 hhi4 => ?_)
        · unfold RunTo; go_simp; exact (lqPair_t (HQ.out.ext hx.1) hx.2).mono fun e w' h => h.to
        simp only [Act.put, List.setIfInBounds_toArray, List.set_cons_succ, List.set_cons_zero]
        iterate 2
          refine Rob.y (v := ?_) rfl rfl (fun w1 hx hH => ?_) ?_; rotate_left
          · go_simp; first | done | rfl | exact (Bool.not_not _).symm
          simp only [Act.put, List.setIfInBounds_toArray, List.set_cons_succ, List.set_cons_zero]
        refine Rob.yg (v := ?_) rfl rfl (fun w1 hx hH => ?_) ?_; rotate_left
        · (have hE : Ext wc w1 := (by first | exact hx | exact hx.1 | exact hx.1.1); obtain ⟨z3, zf3⟩ := cellsK (keep_ext hE G3); obtain ⟨z5, zf5⟩ := cellsK (keep_ext hE G5)); go_simp; first | done | rfl
        simp only [Act.put, List.setIfInBounds_toArray, List.set_cons_succ, List.set_cons_zero]
        refine Rob.cv (.bool true) rfl rfl rfl (fun _ _ => (by intro h k; revert h; (repeat' (first | exact fun h => ext_trans h k | exact fun h => Ints.ext h k | exact fun h => PairR.ext h k | exact fun h => h.ext k | refine And.imp ?_ ?_)))) (fun w1 hx hH => ?_) (fun lo8 hi8 hlo8 hhi8 => ?_)
        · unfold RunTo; go_simp; exact (hok ▸ specPairOk_r (HP.out.ext hx.1)).mono fun e w' h => h.to
        simp only [Act.put, List.setIfInBounds_toArray, List.set_cons_succ, List.set_cons_zero]
        refine Rob.yg (v := ?_) rfl rfl (fun w1 hx hH => ?_) ?_; rotate_left
        · go_simp; first | done | rfl | exact (Bool.not_not _).symm
        simp only [Act.put, List.setIfInBounds_toArray, List.set_cons_succ, List.set_cons_zero]
        iterate 2
          refine Rob.y (v := ?_) rfl rfl (fun w1 hx hH => ?_) ?_; rotate_left
          · go_simp; first | done | rfl | exact (Bool.not_not _).symm
          simp only [Act.put, List.setIfInBounds_toArray, List.set_cons_succ, List.set_cons_zero]
        refine Rob.yg (v := ?_) rfl rfl (fun w1 hx hH => ?_) ?_; rotate_left
        · go_simp; first | done | rfl | exact (Bool.not_not _).symm
        simp only [Act.put, List.setIfInBounds_toArray, List.set_cons_succ, List.set_cons_zero]
        refine Rob.yg (v := .bool false) rfl rfl (fun w1 hx hH => ?_) ?_
        · go_simp; first | done | exact hb1 | simp [hb1]
        simp only [Act.put, List.setIfInBounds_toArray, List.set_cons_succ, List.set_cons_zero]
        iterate 2
          refine Rob.y (v := ?_) rfl rfl (fun w1 hx hH => ?_) ?_; rotate_left
          · go_simp; first | done | rfl | exact (Bool.not_not _).symm
          simp only [Act.put, List.setIfInBounds_toArray, List.set_cons_succ, List.set_cons_zero]
        refine Rob.yg (v := ?_) rfl rfl (fun w1 hx hH => ?_) ?_; rotate_left
        · go_simp; first | done | rfl | exact (Bool.not_not _).symm
        simp only [Act.put, List.setIfInBounds_toArray, List.set_cons_succ, List.set_cons_zero]
        refine Rob.yg (v := .bool true) rfl rfl (fun w1 hx hH => ?_) ?_
        · go_simp; first | done | exact hb2 | simp [hb2] | (simp; omega)
        simp only [Act.put, List.setIfInBounds_toArray, List.set_cons_succ, List.set_cons_zero]
        refine Rob.y (v := ?_) rfl rfl (fun w1 hx hH => ?_) ?_; rotate_left
        · go_simp; first | done | rfl | exact (Bool.not_not _).symm
        simp only [Act.put, List.setIfInBounds_toArray, List.set_cons_succ, List.set_cons_zero]
        refine fin_nil (fun wd hxd _ => ?_)
        replace hxd := hxd.1
        clear hb1 hb2
        replace HP := Lib.hid (HP.out.ext hxd)
        replace HQ := Lib.hid (HQ.out.ext hxd)
        replace G3 := keep_ext hxd G3
        replace G5 := keep_ext hxd G5
        replace X0 := ext_trans X0 hxd
        clear hxd
        (try clear g3 gf3 g5 gf5 l3 l5)
        obtain ⟨g3, gf3⟩ := cellsK G3
        obtain ⟨g5, gf5⟩ := cellsK G5
        have l3 := heap_lt G3
        have l5 := heap_lt G5
        go_wp2_with fail
        refine wp_region_ext [3, 4] [0, 1, 2, 3, 4, 5] [] [] (by kernel_rfl) (by kernel_rfl) ?late ?_
        case late => exact fun f hf => absurd hf List.not_mem_nil
        iterate 2
          refine Rob.y (v := ?_) rfl rfl (fun w1 hx hH => ?_) ?_; rotate_left
          · (have hE : Ext wd w1 := (by first | exact hx | exact hx.1 | exact hx.1.1); obtain ⟨z3, zf3⟩ := cellsK (keep_ext hE G3); obtain ⟨z5, zf5⟩ := cellsK (keep_ext hE G5)); go_simp; first | done | rfl
          simp only [Act.put, List.setIfInBounds_toArray, List.set_cons_succ, List.set_cons_zero]
        refine Rob.y (v := ?_) rfl rfl (fun w1 hx hH => ?_) ?_; rotate_left
        · go_simp; first | done | rfl | exact (Bool.not_not _).symm
        simp only [Act.put, List.setIfInBounds_toArray, List.set_cons_succ, List.set_cons_zero]
        refine Rob.c (fun _ _ v w' => PairR w' v q) rfl rfl rfl (fun _ _ => (by intro h k; revert h; (repeat' (first | exact fun h => ext_trans h k | exact fun h => Ints.ext h k | exact fun h => PairR.ext h k | exact fun h => h.ext k | refine And.imp ?_ ?_)))) (fun _ _ _ _ _ => fun hh hx => by first | exact Ints.ext hh hx | exact PairR.ext hh hx | exact hh.ext hx) (fun w1 hx hH => ?_) (fun lo3 hi3 v3 hlo3 hhi3 hv3 => ?_)
        · unfold RunTo; go_simp; exact (HV.out ▸ specPairLose_r which (HP.out.ext hx)).mono fun e w' h => h.to
        simp only [Act.put, List.setIfInBounds_toArray, List.set_cons_succ, List.set_cons_zero]
        refine Rob.cv (.bool true) rfl rfl rfl (fun _ _ => (by intro h k; revert h; (repeat' (first | exact fun h => ext_trans h k | exact fun h => Ints.ext h k | exact fun h => PairR.ext h k | exact fun h => h.ext k | refine And.imp ?_ ?_)))) (fun w1 hx hH => ?_) (fun lo4 hi4 hlo4 hhi4 => ?_)
        · unfold RunTo; go_simp; exact (lqPair_t (HQ.out.ext hx.1) hx.2).mono fun e w' h => h.to
        simp only [Act.put, List.setIfInBounds_toArray, List.set_cons_succ, List.set_cons_zero]
        refine Rob.y (v := ?_) rfl rfl (fun w1 hx hH => ?_) ?_; rotate_left
        · go_simp; first | done | rfl | exact (Bool.not_not _).symm
        simp only [Act.put, List.setIfInBounds_toArray, List.set_cons_succ, List.set_cons_zero]
        refine fin_nil (fun we hxe _ => ?_)
        replace hxe := hxe.1
        go_wp2_with fail
        go_ret
        exact ⟨rfl, ext_trans X0 hxe⟩
    · rw [Bool.not_eq_true] at hok
      refine wp_region_ext [3, 4, 8] [0, 1, 2, 3, 4, 5, 6, 7, 8, 9, 10, 11, 12, 13, 14, 15, 16, 17, 18] [] [] (by kernel_rfl) (by kernel_rfl) ?late ?_
      case late => exact fun f hf => absurd hf List.not_mem_nil
      iterate 2
        refine Rob.y (v := ?_) rfl rfl (fun w1 hx hH => ?_) ?_; rotate_left
        · (have hE : Ext wc w1 := (by first | exact hx | exact hx.1 | exact hx.1.1); obtain ⟨z3, zf3⟩ := cellsK (keep_ext hE G3); obtain ⟨z5, zf5⟩ := cellsK (keep_ext hE G5)); go_simp; first | done | rfl
        simp only [Act.put, List.setIfInBounds_toArray, List.set_cons_succ, List.set_cons_zero]
      refine Rob.y (v := ?_) rfl rfl (fun w1 hx hH => ?_) ?_; rotate_left
      · go_simp; first | done | rfl | exact (Bool.not_not _).symm
      simp only [Act.put, List.setIfInBounds_toArray, List.set_cons_succ, List.set_cons_zero]
      refine Rob.c (fun _ _ v w' => PairR w' v q) rfl rfl rfl (fun _ _ => (by intro h k; revert h; (repeat' (first | exact fun h => ext_trans h k | exact fun h => Ints.ext h k | exact fun h => PairR.ext h k | exact fun h => h.ext k | refine And.imp ?_ ?_)))) (fun _ _ _ _ _ => fun hh hx => by first | exact Ints.ext hh hx | exact PairR.ext hh hx | exact hh.ext hx) (fun w1 hx hH => ?_) (fun lo3 hi3 v3 hlo3 hhi3 hv3 => ?_)
      · unfold RunTo; go_simp; exact (HV.out ▸ specPairLose_r which (HP.out.ext hx)).mono fun e w' h => h.to
      simp only [Act.put, List.setIfInBounds_toArray, List.set_cons_succ, List.set_cons_zero]
      refine Rob.cv (.bool true) rfl rfl rfl (fun _ _ => (by intro h k; revert h; (repeat' (first | exact fun h => ext_trans h k | exact fun h => Ints.ext h k | exact fun h => PairR.ext h k | exact fun h => h.ext k | refine And.imp ?_ ?_)))) (fun w1 hx hH => ?_) (fun lo4 hi4 hlo4 hhi4 => ?_)
      · unfold RunTo; go_simp; exact (lqPair_t (HQ.out.ext hx.1) hx.2).mono fun e w' h => h.to
      simp only [Act.put, List.setIfInBounds_toArray, List.set_cons_succ, List.set_cons_zero]
      iterate 2
        refine Rob.y (v := ?_) rfl rfl (fun w1 hx hH => ?_) ?_; rotate_left
        · go_simp; first | done | rfl | exact (Bool.not_not _).symm
        simp only [Act.put, List.setIfInBounds_toArray, List.set_cons_succ, List.set_cons_zero]
      refine Rob.yg (v := ?_) rfl rfl (fun w1 hx hH => ?_) ?_; rotate_left
      · (have hE : Ext wc w1 := (by first | exact hx | exact hx.1 | exact hx.1.1); obtain ⟨z3, zf3⟩ := cellsK (keep_ext hE G3); obtain ⟨z5, zf5⟩ := cellsK (keep_ext hE G5)); go_simp; first | done | rfl
      simp only [Act.put, List.setIfInBounds_toArray, List.set_cons_succ, List.set_cons_zero]
      refine Rob.cv (.bool false) rfl rfl rfl (fun _ _ => (by intro h k; revert h; (repeat' (first | exact fun h => ext_trans h k | exact fun h => Ints.ext h k | exact fun h => PairR.ext h k | exact fun h => h.ext k | refine And.imp ?_ ?_)))) (fun w1 hx hH => ?_) (fun lo8 hi8 hlo8 hhi8 => ?_)
      · unfold RunTo; go_simp; exact (hok ▸ specPairOk_r (HP.out.ext hx.1)).mono fun e w' h => h.to
      simp only [Act.put, List.setIfInBounds_toArray, List.set_cons_succ, List.set_cons_zero]
      refine Rob.yg (v := ?_) rfl rfl (fun w1 hx hH => ?_) ?_; rotate_left
      · go_simp; first | done | rfl | exact (Bool.not_not _).symm
      simp only [Act.put, List.setIfInBounds_toArray, List.set_cons_succ, List.set_cons_zero]
      iterate 2
        refine Rob.y (v := ?_) rfl rfl (fun w1 hx hH => ?_) ?_; rotate_left
        · go_simp; first | done | rfl | exact (Bool.not_not _).symm
        simp only [Act.put, List.setIfInBounds_toArray, List.set_cons_succ, List.set_cons_zero]
      iterate 2
        refine Rob.no rfl rfl ?_
        simp only [Act.put, List.setIfInBounds_toArray, List.set_cons_succ, List.set_cons_zero]
      iterate 2
        refine Rob.y (v := ?_) rfl rfl (fun w1 hx hH => ?_) ?_; rotate_left
        · go_simp; first | done | rfl | exact (Bool.not_not _).symm
        simp only [Act.put, List.setIfInBounds_toArray, List.set_cons_succ, List.set_cons_zero]
      iterate 2
        refine Rob.no rfl rfl ?_
        simp only [Act.put, List.setIfInBounds_toArray, List.set_cons_succ, List.set_cons_zero]
      refine Rob.y (v := ?_) rfl rfl (fun w1 hx hH => ?_) ?_; rotate_left
      · go_simp; first | done | rfl | exact (Bool.not_not _).symm
      simp only [Act.put, List.setIfInBounds_toArray, List.set_cons_succ, List.set_cons_zero]
      refine fin_nil (fun wd hxd _ => ?_)
      replace hxd := hxd.1
      replace HP := Lib.hid (HP.out.ext hxd)
      replace HQ := Lib.hid (HQ.out.ext hxd)
      replace G3 := keep_ext hxd G3
      replace G5 := keep_ext hxd G5
      replace X0 := ext_trans X0 hxd
      clear hxd
      (try clear g3 gf3 g5 gf5 l3 l5)
      obtain ⟨g3, gf3⟩ := cellsK G3
      obtain ⟨g5, gf5⟩ := cellsK G5
      have l3 := heap_lt G3
      have l5 := heap_lt G5
      go_wp2_with fail
      refine wp_region_ext [3, 4] [0, 1, 2, 3, 4, 5] [] [] (by kernel_rfl) (by kernel_rfl) ?late ?_
      case late => exact fun f hf => absurd hf List.not_mem_nil
      iterate 2
        refine Rob.y (v := ?_) rfl rfl (fun w1 hx hH => ?_) ?_; rotate_left
        · (have hE : Ext wd w1 := (by first | exact hx | exact hx.1 | exact hx.1.1); obtain ⟨z3, zf3⟩ := cellsK (keep_ext hE G3); obtain ⟨z5, zf5⟩ := cellsK (keep_ext hE G5)); go_simp; first | done | rfl
        simp only [Act.put, List.setIfInBounds_toArray, List.set_cons_succ, List.set_cons_zero]
      refine Rob.y (v := ?_) rfl rfl (fun w1 hx hH => ?_) ?_; rotate_left
      · go_simp; first | done | rfl | exact (Bool.not_not _).symm
      simp only [Act.put, List.setIfInBounds_toArray, List.set_cons_succ, List.set_cons_zero]
      refine Rob.c (fun _ _ v w' => PairR w' v q) rfl rfl rfl (fun _ _ => (by intro h k; revert h; (repeat' (first | exact fun h => ext_trans h k | exact fun h => Ints.ext h k | exact fun h => PairR.ext h k | exact fun h => h.ext k | refine And.imp ?_ ?_)))) (fun _ _ _ _ _ => fun hh hx => by first | exact Ints.ext hh hx | exact PairR.ext hh hx | exact hh.ext hx) (fun w1 hx hH => ?_) (fun lo3 hi3 v3 hlo3 hhi3 hv3 => ?_)
      · unfold RunTo; go_simp; exact (HV.out ▸ specPairLose_r which (HP.out.ext hx)).mono fun e w' h => h.to
      simp only [Act.put, List.setIfInBounds_toArray, List.set_cons_succ, List.set_cons_zero]
      refine Rob.cv (.bool true) rfl rfl rfl (fun _ _ => (by intro h k; revert h; (repeat' (first | exact fun h => ext_trans h k | exact fun h => Ints.ext h k | exact fun h => PairR.ext h k | exact fun h => h.ext k | refine And.imp ?_ ?_)))) (fun w1 hx hH => ?_) (fun lo4 hi4 hlo4 hhi4 => ?_)
      · unfold RunTo; go_simp; exact (lqPair_t (HQ.out.ext hx.1) hx.2).mono fun e w' h => h.to
      simp only [Act.put, List.setIfInBounds_toArray, List.set_cons_succ, List.set_cons_zero]
      refine Rob.y (v := ?_) rfl rfl (fun w1 hx hH => ?_) ?_; rotate_left
      · go_simp; first | done | rfl | exact (Bool.not_not _).symm
      simp only [Act.put, List.setIfInBounds_toArray, List.set_cons_succ, List.set_cons_zero]
      refine fin_nil (fun we hxe _ => ?_)
      replace hxe := hxe.1
      go_wp2_with fail
      go_ret
      exact ⟨rfl, ext_trans X0 hxe⟩
  · go_enter Try.func7, Try.ntmps7
    go_wp2_with fail
    all_goals
      go_ret
      exact ⟨rfl, ext_refl _⟩
end Go.Bu
