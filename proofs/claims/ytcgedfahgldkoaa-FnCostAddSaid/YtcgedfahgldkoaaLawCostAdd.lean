/- The law FnCostAdd holds of every input. -/
import Derived.Test.YtcgedfahgldkoaaKit
import Derived.Test.YtcgedfahgldkoaaCostA
set_option linter.unusedVariables false
set_option linter.unusedSimpArgs false
namespace Go.Bu
open Go Go.RowKit Go.Plan Go.Proofs

theorem drawCostAdd_c (v : Value) (xs : List Nat) (w : World) (h : Bytes (Old w) w v xs) (hs : ∀ x ∈ xs, x < 256) (hn : xs.length ≤ 1048576) (hcap : ∀ a n c, v = .slice a n c → n ≤ c) :
    Calls Try.prog 13 #[v] w (fun e w' => ∃ a b : Cost, e = .returned (.tuple #[costA a, costA b]) ∧ Ext w w' ∧ 0 ≤ a.wipes ∧ a.wipes ≤ 9999) := by
  go_enter Try.func13, Try.ntmps13
  go_wp2_with fail
  refine (l6Open_c v xs _ (Sl.same (plain_kept _) h (fun b hb => (ext_alloc (ext_alloc (ext_refl w) _) _).block b hb) (fun b hb => by have hb : b < w.heap.size := hb; show b < _; simp; omega)) hs hn hcap).mono ?_
  rintro e1 w1 ⟨R, bv, ys, rfl, hR, hx, hr⟩
  have G0 := keep_ext hx (keep_ext (ext_alloc (ext_refl _) _) (alloc_get_new (w := w) rfl))
  have G1 := keep_ext hx (alloc_get_new rfl)
  have X1 : Ext w w1 := ext_trans (ext_alloc (ext_alloc (ext_refl _) _) _) hx
  simp at hR G0 G1
  have n0 : w.heap.size ∉ [R] := by simp; omega
  have n1 : w.heap.size + 1 ∉ [R] := by simp; omega
  clear hx
  go_wp2_with fail
  refine (l72Cost_c R bv ys 0 _ hr (by omega)).mono ?_; rintro e2 w2 ⟨v2, q2, rfl, g2, h2, hq2, ⟨c2, rfl, wl, wh⟩⟩
  replace G0 := g2.keep G0 n0
  replace G1 := g2.keep G1 n1
  have X2 : Ext w w2 := g2.ext X1 (by simp; omega)
  clear g2 hr X1
  go_wp2_with fail
  refine (l72Cost_c R bv ys _ _ h2 (by omega)).mono ?_; rintro e3 w3 ⟨v3, q3, rfl, g3, h3, hq3, ⟨c3, rfl, _⟩⟩
  replace G0 := g3.keep G0 n0
  replace G1 := g3.keep G1 n1
  have X3 : Ext w w3 := g3.ext X2 (by simp; omega)
  clear g3 h2 X2
  obtain ⟨d0, d1, d2, df⟩ := cellsC G0
  obtain ⟨e0, e1, e2, ef⟩ := cellsC G1
  go_wp2_with fail
  refine bodyPost_ret (v := .tuple #[costA c2, costA c3]) ?_ rfl ⟨c2, c3, rfl, ?_, wl, wh⟩
  · simp [results, Try.results13, go_sem, d0, d1, d2, df, e0, e1, e2, ef]
  · ((repeat (first | with_reducible (refine ext_set2 ?_ ?_); focus (first | exact Nat.le_refl _ | (dsimp only; omega) | (simp; omega)) | with_reducible refine ext_alloc2 ?_)); with_reducible exact X3)

theorem costAdd_comm (a b : Cost) : costAdd a b = costAdd b a := by
  unfold costAdd costSum
  by_cases ha : costOkB a = true <;> by_cases hb : costOkB b = true <;> simp [ha, hb, Int.add_comm]
theorem costEq_self (a : Cost) : costEq a a = true := by simp [costEq]

set_option maxHeartbeats 1000000 in
theorem lawCostAdd (v : Value) (xs : List Nat) (w : World) (h : Bytes (Old w) w v xs) (hs : ∀ x ∈ xs, x < 256) (hcap : ∀ a n c, v = .slice a n c → n ≤ c) : Calls Try.prog 4 #[v] w (Ret w (.bool true)) := by
  obtain ⟨a, cap, rfl⟩ := h.form
  by_cases hl : xs.length ≤ 1048576
  · go_enter Try.func4, Try.ntmps4
    go_wp2_with fail
    refine (drawCostAdd_c _ xs _ h hs hl hcap).mono ?_; rintro e1 w1 ⟨a1, b1, rfl, hx1, wl, wh⟩
    go_wp2_with fail
    refine (implCostAdd_c a1 b1 _).mono ?_; rintro e2 w2 ⟨rfl, hx2⟩
    have G3 := keep_ext hx2 (keep_ext (ext_alloc (ext_refl _) _) (alloc_get_new (w := w1) rfl))
    have G4 := keep_ext hx2 (alloc_get_new rfl)
    have X2 : Ext w w2 := ext_trans hx1 (ext_trans (ext_alloc (ext_alloc (ext_refl _) _) _) hx2)
    have G5 : ∀ T, (w2.alloc (.cells #[.int .i64 (costAdd a1 b1).writes, .int .i64 (costAdd a1 b1).wipes, .int .i64 (costAdd a1 b1).disks] T)).heap[w2.heap.size]? = some (.cells #[.int .i64 (costAdd a1 b1).writes, .int .i64 (costAdd a1 b1).wipes, .int .i64 (costAdd a1 b1).disks] T) := fun T => alloc_get_new rfl
    simp at G4
    clear hx2
    have hE : ∀ c, costEq c c = true := costEq_self
    have HE := Lib.hid hE; clear hE
    go_wp2_with fail
    refine wp_region_ext [3, 4] [0, 1, 2, 3, 4, 5] [] [] (by kernel_rfl) (by kernel_rfl) ?late ?_
    case late => exact fun f hf => absurd hf List.not_mem_nil
    iterate 3
      refine Rob.y (v := ?_) rfl rfl (fun w1 hx hH => ?_) ?_; rotate_left
      · (obtain ⟨p0, p1, p2, pf⟩ := cellsC (keep_ext hx (keep_ext (ext_alloc (ext_refl _) _) G3)); obtain ⟨q0, q1, q2, qf⟩ := cellsC (keep_ext hx (keep_ext (ext_alloc (ext_refl _) _) G4)); obtain ⟨r0, r1, r2, rf⟩ := cellsC (keep_ext hx (G5 _))); go_simp; first | done | rfl
      simp only [Act.put, List.setIfInBounds_toArray, List.set_cons_succ, List.set_cons_zero]
    refine Rob.cv (costA (costAdd a1 b1)) rfl rfl rfl (fun _ _ => ext_trans) (fun w1 hx hH => ?_) (fun lo3 hi3 hlo3 hhi3 => ?_)
    · unfold RunTo; go_simp; exact (specCostAdd_c a1 b1 _).mono fun e w' h => h.to
    simp only [Act.put, List.setIfInBounds_toArray, List.set_cons_succ, List.set_cons_zero]
    refine Rob.cv (.bool (costEq (costAdd a1 b1) (costAdd a1 b1))) rfl rfl rfl (fun _ _ => ext_trans) (fun w1 hx hH => ?_) (fun lo4 hi4 hlo4 hhi4 => ?_)
    · unfold RunTo; go_simp; exact (lqCost_c _ _ _).mono fun e w' h => h.to
    simp only [Act.put, List.setIfInBounds_toArray, List.set_cons_succ, List.set_cons_zero]
    refine Rob.y (v := ?_) rfl rfl (fun w1 hx hH => ?_) ?_; rotate_left
    · go_simp; first | done | rfl | exact (Bool.not_not _).symm
    simp only [Act.put, List.setIfInBounds_toArray, List.set_cons_succ, List.set_cons_zero]
    refine fin_nil (fun w3 hx3 _ => ?_)
    replace G3 := keep_ext hx3 (keep_ext (ext_alloc (ext_refl _) _) G3)
    replace G4 := keep_ext hx3 (keep_ext (ext_alloc (ext_refl _) _) G4)
    replace G5 := keep_ext hx3 (G5 _)
    have X3 : Ext w w3 := ext_trans (ext_alloc X2 _) hx3
    clear hx3
    rw [HE.out]
    obtain ⟨p0, p1, p2, pf⟩ := cellsC G3; obtain ⟨q0, q1, q2, qf⟩ := cellsC G4; obtain ⟨r0, r1, r2, rf⟩ := cellsC G5
    by_cases hok : 0 ≤ a1.writes ∧ a1.writes ≤ 9999 ∧ 0 ≤ a1.disks ∧ a1.disks ≤ 9999
    · obtain ⟨k1, k2, k3, k4⟩ := hok
      have hz : costAdd a1 cost0 = a1 := by
        have h1 : costOkB a1 = true := by simp [costOkB, inB, *]
        have h2 : costOkB cost0 = true := rfl
        unfold costAdd; rw [h1, h2]; simp [costSum, cost0]
      have HZ := Lib.hid hz; clear hz
      go_wp2_with fail
      refine wp_region_ext [2, 4, 8, 10] [0, 1, 3, 2, 4, 5, 6, 7, 9, 8, 10, 11, 12] [] [] (by kernel_rfl) (by kernel_rfl) ?late ?_
      case late => exact fun f hf => absurd hf List.not_mem_nil
      iterate 3
        refine Rob.y (v := ?_) rfl rfl (fun w1 hx hH => ?_) ?_; rotate_left
        · (obtain ⟨p0, p1, p2, pf⟩ := cellsC (keep_ext hx G3); obtain ⟨q0, q1, q2, qf⟩ := cellsC (keep_ext hx G4); obtain ⟨r0, r1, r2, rf⟩ := cellsC (keep_ext hx G5)); go_simp; first | done | rfl
        simp only [Act.put, List.setIfInBounds_toArray, List.set_cons_succ, List.set_cons_zero]
      refine Rob.cv (costA (costAdd a1 b1)) rfl rfl rfl (fun _ _ => ext_trans) (fun w1 hx hH => ?_) (fun lo2 hi2 hlo2 hhi2 => ?_)
      · unfold RunTo; go_simp; exact (costAdd_comm b1 a1 ▸ implCostAdd_c b1 a1 _).mono fun e w' h => h.to
      simp only [Act.put, List.setIfInBounds_toArray, List.set_cons_succ, List.set_cons_zero]
      refine Rob.cv (.bool true) rfl rfl rfl (fun _ _ => ext_trans) (fun w1 hx hH => ?_) (fun lo4 hi4 hlo4 hhi4 => ?_)
      · unfold RunTo; go_simp; exact (HE.out (costAdd a1 b1) ▸ lqCost_c (costAdd a1 b1) (costAdd a1 b1) _).mono fun e w' h => h.to
      simp only [Act.put, List.setIfInBounds_toArray, List.set_cons_succ, List.set_cons_zero]
      refine Rob.yB (b := ?_) rfl rfl (fun w1 hx hH => ?_) (fun hb5 => ?_) (fun hb5 => ?_); rotate_left
      · go_simp; first | done | rfl | exact (Bool.not_not _).symm
      focus
        try contradiction
        all_goals
          simp only [Act.put, List.setIfInBounds_toArray, List.set_cons_succ, List.set_cons_zero]
          refine Rob.yg (v := ?_) rfl rfl (fun w1 hx hH => ?_) ?_; rotate_left
          · (obtain ⟨p0, p1, p2, pf⟩ := cellsC (keep_ext hx G3); obtain ⟨q0, q1, q2, qf⟩ := cellsC (keep_ext hx G4); obtain ⟨r0, r1, r2, rf⟩ := cellsC (keep_ext hx G5)); go_simp; first | done | rfl
          simp only [Act.put, List.setIfInBounds_toArray, List.set_cons_succ, List.set_cons_zero]
          refine Rob.yg (v := ?_) rfl rfl (fun w1 hx hH => ?_) ?_; rotate_left
          · go_simp; first | done | rfl | exact (Bool.not_not _).symm
          simp only [Act.put, List.setIfInBounds_toArray, List.set_cons_succ, List.set_cons_zero]
          refine Rob.yg (v := ?_) rfl rfl (fun w1 hx hH => ?_) ?_; rotate_left
          · (obtain ⟨p0, p1, p2, pf⟩ := cellsC (keep_ext hx G3); obtain ⟨q0, q1, q2, qf⟩ := cellsC (keep_ext hx G4); obtain ⟨r0, r1, r2, rf⟩ := cellsC (keep_ext hx G5)); go_simp; first | done | rfl
          simp only [Act.put, List.setIfInBounds_toArray, List.set_cons_succ, List.set_cons_zero]
          refine Rob.cv (costA a1) rfl rfl rfl (fun _ _ => ext_trans) (fun w1 hx hH => ?_) (fun lo8 hi8 hlo8 hhi8 => ?_)
          · unfold RunTo; go_simp; exact (HZ.out ▸ implCostAdd_c a1 cost0 _).mono fun e w' h => h.to
          simp only [Act.put, List.setIfInBounds_toArray, List.set_cons_succ, List.set_cons_zero]
          refine Rob.cv (.bool true) rfl rfl rfl (fun _ _ => ext_trans) (fun w1 hx hH => ?_) (fun lo10 hi10 hlo10 hhi10 => ?_)
          · unfold RunTo; go_simp; exact (HE.out a1 ▸ lqCost_c a1 a1 _).mono fun e w' h => h.to
          simp only [Act.put, List.setIfInBounds_toArray, List.set_cons_succ, List.set_cons_zero]
          iterate 2
            refine Rob.y (v := ?_) rfl rfl (fun w1 hx hH => ?_) ?_; rotate_left
            · go_simp; first | done | rfl | exact (Bool.not_not _).symm
            simp only [Act.put, List.setIfInBounds_toArray, List.set_cons_succ, List.set_cons_zero]
      rotate_right
      focus
        try contradiction
        all_goals
          simp only [Act.put, List.setIfInBounds_toArray, List.set_cons_succ, List.set_cons_zero]
          iterate 5
            refine Rob.no rfl rfl ?_
            simp only [Act.put, List.setIfInBounds_toArray, List.set_cons_succ, List.set_cons_zero]
          iterate 2
            refine Rob.y (v := ?_) rfl rfl (fun w1 hx hH => ?_) ?_; rotate_left
            · go_simp; first | done | rfl | exact (Bool.not_not _).symm
            simp only [Act.put, List.setIfInBounds_toArray, List.set_cons_succ, List.set_cons_zero]
      refine fin_nil (fun w4 hx4 _ => ?_)
      go_wp2_with fail
      go_ret
      exact ⟨rfl, ext_trans X3 hx4⟩
    · have hz : costEq (costAdd a1 b1) cost0 = true := by
        have h1 : costOkB a1 = false := by
          simp only [costOkB, Bool.and_eq_false_iff, inB_no]; omega
        simp [costAdd, h1, costEq]
      have HZ := Lib.hid hz; clear hz
      go_wp2_with fail
      all_goals
        refine wp_region_ext [2, 6, 8] [0, 1, 2, 3, 4, 5, 7, 6, 8, 9, 10] [] [] (by kernel_rfl) (by kernel_rfl) ?late ?_
        case late => exact fun f hf => absurd hf List.not_mem_nil
        refine Rob.y (v := ?_) rfl rfl (fun w1 hx hH => ?_) ?_; rotate_left
        · (obtain ⟨p0, p1, p2, pf⟩ := cellsC (keep_ext hx G3); obtain ⟨q0, q1, q2, qf⟩ := cellsC (keep_ext hx G4); obtain ⟨r0, r1, r2, rf⟩ := cellsC (keep_ext hx G5)); go_simp; first | done | rfl
        simp only [Act.put, List.setIfInBounds_toArray, List.set_cons_succ, List.set_cons_zero]
        refine Rob.y (v := ?_) rfl rfl (fun w1 hx hH => ?_) ?_; rotate_left
        · go_simp; first | done | rfl | exact (Bool.not_not _).symm
        simp only [Act.put, List.setIfInBounds_toArray, List.set_cons_succ, List.set_cons_zero]
        refine Rob.cv (.bool true) rfl rfl rfl (fun _ _ => ext_trans) (fun w1 hx hH => ?_) (fun lo2 hi2 hlo2 hhi2 => ?_)
        · unfold RunTo; go_simp; exact (HZ.out ▸ lqCost_c (costAdd a1 b1) cost0 _).mono fun e w' h => h.to
        simp only [Act.put, List.setIfInBounds_toArray, List.set_cons_succ, List.set_cons_zero]
        refine Rob.yB (b := ?_) rfl rfl (fun w1 hx hH => ?_) (fun hb3 => ?_) (fun hb3 => ?_); rotate_left
        · go_simp; first | done | rfl | exact (Bool.not_not _).symm
        focus
          try contradiction
          all_goals
            simp only [Act.put, List.setIfInBounds_toArray, List.set_cons_succ, List.set_cons_zero]
            iterate 3
              refine Rob.yg (v := ?_) rfl rfl (fun w1 hx hH => ?_) ?_; rotate_left
              · (obtain ⟨p0, p1, p2, pf⟩ := cellsC (keep_ext hx G3); obtain ⟨q0, q1, q2, qf⟩ := cellsC (keep_ext hx G4); obtain ⟨r0, r1, r2, rf⟩ := cellsC (keep_ext hx G5)); go_simp; first | done | rfl
              simp only [Act.put, List.setIfInBounds_toArray, List.set_cons_succ, List.set_cons_zero]
            refine Rob.cv (costA (costAdd a1 b1)) rfl rfl rfl (fun _ _ => ext_trans) (fun w1 hx hH => ?_) (fun lo6 hi6 hlo6 hhi6 => ?_)
            · unfold RunTo; go_simp; exact (costAdd_comm b1 a1 ▸ implCostAdd_c b1 a1 _).mono fun e w' h => h.to
            simp only [Act.put, List.setIfInBounds_toArray, List.set_cons_succ, List.set_cons_zero]
            refine Rob.cv (.bool true) rfl rfl rfl (fun _ _ => ext_trans) (fun w1 hx hH => ?_) (fun lo8 hi8 hlo8 hhi8 => ?_)
            · unfold RunTo; go_simp; exact (HE.out (costAdd a1 b1) ▸ lqCost_c (costAdd a1 b1) (costAdd a1 b1) _).mono fun e w' h => h.to
            simp only [Act.put, List.setIfInBounds_toArray, List.set_cons_succ, List.set_cons_zero]
            iterate 2
              refine Rob.y (v := ?_) rfl rfl (fun w1 hx hH => ?_) ?_; rotate_left
              · go_simp; first | done | rfl | exact (Bool.not_not _).symm
              simp only [Act.put, List.setIfInBounds_toArray, List.set_cons_succ, List.set_cons_zero]
        rotate_right
        focus
          try contradiction
          all_goals
            simp only [Act.put, List.setIfInBounds_toArray, List.set_cons_succ, List.set_cons_zero]
            iterate 5
              refine Rob.no rfl rfl ?_
              simp only [Act.put, List.setIfInBounds_toArray, List.set_cons_succ, List.set_cons_zero]
            iterate 2
              refine Rob.y (v := ?_) rfl rfl (fun w1 hx hH => ?_) ?_; rotate_left
              · go_simp; first | done | rfl | exact (Bool.not_not _).symm
              simp only [Act.put, List.setIfInBounds_toArray, List.set_cons_succ, List.set_cons_zero]
        refine fin_nil (fun w4 hx4 _ => ?_)
        go_wp2_with fail
        go_ret
        exact ⟨rfl, ext_trans X3 hx4⟩
  · go_enter Try.func4, Try.ntmps4
    go_wp2_with fail
    go_ret
    exact ⟨rfl, ext_refl _⟩
end Go.Bu
