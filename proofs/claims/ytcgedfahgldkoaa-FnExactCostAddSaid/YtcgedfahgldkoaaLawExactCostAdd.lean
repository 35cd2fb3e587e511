/- The law FnExactCostAdd holds of every input. -/
import Derived.Test.YtcgedfahgldkoaaCostA
set_option linter.unusedVariables false
set_option linter.unusedSimpArgs false
namespace Go.Bu
open Go Go.RowKit Go.Plan Go.Proofs

set_option maxHeartbeats 400000 in
theorem exactCostAdd (a b : Cost) (w : World) : Calls Try.prog 3 #[costA a, costA b] w (Ret w (.bool true)) := by
  have hE : costEq (costAdd a b) (costAdd a b) = true := by simp [costEq]
  go_enter Try.func3, Try.ntmps3
  go_wp2_with fail
  refine wp_region_ext [1, 3, 4] [0, 2, 1, 3, 4] [(5, .cells #[.int .i64 0, .int .i64 0, .int .i64 0] 24, fun b => .pointer (some ⟨b, 0, none⟩))] [6] (by kernel_rfl) (by kernel_rfl) ?late ?_
  case late =>
    intro f hf
    obtain rfl := List.mem_singleton.1 hf
    refine ⟨_, rfl, fun a w => ?_⟩
    go_simp
  refine Rob.y (v := ?_) rfl rfl (fun w1 hx hH => ?_) ?_; rotate_left
  · (have hc := (bcell hx).1); go_simp; first | done | rfl
  simp only [Act.put, List.setIfInBounds_toArray, List.set_cons_succ, List.set_cons_zero]
  refine Rob.y (v := ?_) rfl rfl (fun w1 hx hH => ?_) ?_; rotate_left
  · (have hc := (bcell hx).1); go_simp; first | done | rfl
  simp only [Act.put, List.setIfInBounds_toArray, List.set_cons_succ, List.set_cons_zero]
  refine Rob.cv (costA a) rfl rfl rfl (fun _ _ => ext_trans) (fun w1 hx hH => ?_) (fun lo1 hi1 hlo1 hhi1 => ?_)
  · unfold RunTo; go_simp; exact (toCost_c a _).mono fun e w' h => h.to
  simp only [Act.put, List.setIfInBounds_toArray, List.set_cons_succ, List.set_cons_zero]
  refine Rob.cv (costA b) rfl rfl rfl (fun _ _ => ext_trans) (fun w1 hx hH => ?_) (fun lo3 hi3 hlo3 hhi3 => ?_)
  · unfold RunTo; go_simp; exact (toCost_c b _).mono fun e w' h => h.to
  simp only [Act.put, List.setIfInBounds_toArray, List.set_cons_succ, List.set_cons_zero]
  refine Rob.cv (costA (costAdd a b)) rfl rfl rfl (fun _ _ => ext_trans) (fun w1 hx hH => ?_) (fun lo4 hi4 hlo4 hhi4 => ?_)
  · unfold RunTo; go_simp; exact (specCostAdd_c a b _).mono fun e w' h => h.to
  simp only [Act.put, List.setIfInBounds_toArray, List.set_cons_succ, List.set_cons_zero]
  refine fin_one (fun w1 p1 hx1 hH1 hp1 hq1 ho1 _ => ?_)
  simp only [dstOf, List.getElem?_cons_succ, List.getElem?_cons_zero, Option.bind_some, Act.put, List.setIfInBounds_toArray, List.set_cons_succ, List.set_cons_zero, List.filterMap_cons, List.filterMap_nil]
  have q0 := cell_block ho1
  have qf0 := frozen_block ho1
  obtain ⟨w2, hw2, hX1, q, qf, hpl, _, _⟩ := new_var (costC (costAdd a b)) hx1 hp1 hq1 ho1 rfl
  clear ho1 hH1
  refine wpList_plain rfl (fun K hK => ?_)
  go_simp
  refine hK _ _ ?_
  clear hK K
  refine wpList_nil ?_
  change Exit.then _ _ _ _ (setAll w1 p1 0 (costC (costAdd a b)))
  rw [hw2]
  clear hw2 q0 qf0 hx1 hp1 hq1
  go_wp2_with fail
  refine wp_region_ext [1, 3, 4] [0, 2, 1, 3, 4] [(5, .cells #[.int .i64 0, .int .i64 0, .int .i64 0] 24, fun b => .pointer (some ⟨b, 0, none⟩))] [6] (by kernel_rfl) (by kernel_rfl) ?late ?_
  case late =>
    intro f hf
    obtain rfl := List.mem_singleton.1 hf
    refine ⟨_, rfl, fun a w => ?_⟩
    go_simp
  refine Rob.y (v := ?_) rfl rfl (fun w1 hx hH => ?_) ?_; rotate_left
  · (have hc := (bcell (ext_trans hX1 hx)).1); go_simp; first | done | rfl
  simp only [Act.put, List.setIfInBounds_toArray, List.set_cons_succ, List.set_cons_zero]
  refine Rob.y (v := ?_) rfl rfl (fun w1 hx hH => ?_) ?_; rotate_left
  · (have hc := (bcell (ext_trans hX1 hx)).1); go_simp; first | done | rfl
  simp only [Act.put, List.setIfInBounds_toArray, List.set_cons_succ, List.set_cons_zero]
  refine Rob.cv (costA a) rfl rfl rfl (fun _ _ => ext_trans) (fun w1 hx hH => ?_) (fun lo1 hi1 hlo1 hhi1 => ?_)
  · unfold RunTo; go_simp; exact (toCost_c a _).mono fun e w' h => h.to
  simp only [Act.put, List.setIfInBounds_toArray, List.set_cons_succ, List.set_cons_zero]
  refine Rob.cv (costA b) rfl rfl rfl (fun _ _ => ext_trans) (fun w1 hx hH => ?_) (fun lo3 hi3 hlo3 hhi3 => ?_)
  · unfold RunTo; go_simp; exact (toCost_c b _).mono fun e w' h => h.to
  simp only [Act.put, List.setIfInBounds_toArray, List.set_cons_succ, List.set_cons_zero]
  refine Rob.cv (costA (costAdd a b)) rfl rfl rfl (fun _ _ => ext_trans) (fun w1 hx hH => ?_) (fun lo4 hi4 hlo4 hhi4 => ?_)
  · unfold RunTo; go_simp; exact (implCostAdd_c a b _).mono fun e w' h => h.to
  simp only [Act.put, List.setIfInBounds_toArray, List.set_cons_succ, List.set_cons_zero]
  refine fin_one (fun w3 p2 hx3 hH3 hp3 hq3 ho3 _ => ?_)
  simp only [dstOf, List.getElem?_cons_succ, List.getElem?_cons_zero, Option.bind_some, Act.put, List.setIfInBounds_toArray, List.set_cons_succ, List.set_cons_zero, List.filterMap_cons, List.filterMap_nil]
  have q0 := cell_block ho3
  have qf0 := frozen_block ho3
  obtain ⟨w4, hw4, hX2, q2, qf2, hpl2, _, _⟩ := new_var (costC (costAdd a b)) hx3 hp3 hq3 ho3 rfl
  clear ho3 hH3
  refine wpList_plain rfl (fun K hK => ?_)
  go_simp
  refine hK _ _ ?_
  clear hK K
  refine wpList_nil ?_
  change Exit.then _ _ _ _ (setAll w3 p2 0 (costC (costAdd a b)))
  rw [hw4]
  have q' : ∀ j : Nat, w4.cell? ⟨p1, j, none⟩ = (costC (costAdd a b))[j]? := fun j => ((bcell hX2).1 p1 j hpl).trans (q j)
  have hX : Ext w w4 := ext_trans (ext_trans (ext_alloc (ext_alloc (ext_refl _) _) _) hX1) hX2
  clear hw4 q0 qf0 hx3 hp3 hq3 q qf
  go_wp2_with fail
  refine (eqCost_c _ _ _).mono ?_; rintro e5 w5 ⟨rfl, hx5⟩
  rw [hE]
  go_wp2_with fail
  go_ret
  exact ⟨rfl, ext_trans hX hx5⟩
end Go.Bu
