/- The law FnExactCostOf holds of every input. -/
import Derived.Test.YtcgedfahgldkoaaCostOf
import Derived.Test.YtcgedfahgldkoaaEq
set_option linter.unusedVariables false
set_option linter.unusedSimpArgs false
namespace Go.Bu
open Go Go.RowKit Go.Plan Go.Proofs

theorem listEq_refl {α : Type} {eq : α → α → Bool} (h : ∀ x, eq x x = true) : ∀ xs : List α, listEq eq xs xs = true
  | [] => rfl
  | x :: xs => by simp [listEq, h x, listEq_refl h xs]
theorem stepEq_refl (s : Step) : stepEq s s = true := by simp [stepEq, recEq]
theorem costEq_refl (s : Cost) : costEq s s = true := by simp [costEq]

theorem szStepS_c (v : Value) (xs : List Step) (b : Int) (w : World) (hp : Steps' (Old w) w v xs) (hl : xs.length ≤ 9223372036854775807) (hb : 0 ≤ b) (hb2 : b ≤ 1048576) :
    Calls Try.prog 15 #[v, .int .i64 b] w (fun e w' => ∃ r : Int, e = .returned (.int .i64 r) ∧ w = w' ∧ ((xs.length ≤ b ∧ r = b - xs.length) ∨ (b < xs.length ∧ r = -1))) := by
  obtain ⟨a, cap, rfl⟩ := hp.form
  go_enter Try.func15, Try.ntmps15
  go_wp2
  · go_ret; exact ⟨-1, rfl, rfl, .inr ⟨by omega, rfl⟩⟩
  · go_ret; exact ⟨_, rfl, rfl, .inl ⟨by omega, rfl⟩⟩

set_option maxHeartbeats 400000 in
theorem exactCostOf (v : Value) (xs : List Step) (w : World) (hp : Steps' (Old w) w v xs) (hl : xs.length ≤ 9223372036854775807) : Calls Try.prog 5 #[v] w (Ret w (.bool true)) := by
  have hE : costEq (costOf xs) (costOf xs) = true := costEq_refl _
  have hS : listEq stepEq xs xs = true := listEq_refl stepEq_refl xs
  go_enter Try.func5, Try.ntmps5
  go_wp2_with fail
  refine (szStepS_c v xs _ w hp hl (by omega) (by omega)).mono ?_; rintro e0 w0 ⟨r, rfl, rfl, hr⟩
  rcases hr with ⟨hn, rfl⟩ | ⟨hn, rfl⟩
  · have hn' : xs.length ≤ 1048576 := by omega
    go_wp2_with fail
    refine (toStepS_c v xs w hp hn').mono ?_; rintro e1 w1 ⟨v1, rfl, hX1, hO1⟩
    go_wp2_with fail
    refine (specCostOf_c v1 xs w1 hO1.old hn').mono ?_; rintro e2 w2 ⟨rfl, hx2⟩
    have hX2 : Ext w w2 := ext_trans hX1 hx2
    go_wp2_with fail
    refine (toStepS_c v xs _ (hp.ext (ext_alloc hX2 _)) hn').mono ?_; rintro e3 w3 ⟨v3, rfl, hx3, hO3⟩
    obtain ⟨hc3, hf3, hz3, hX3⟩ := after1 hx3
    have hX3' : Ext w w3 := ext_trans hX2 hX3
    go_wp2_with fail
    refine (implCostOf_c v3 xs w3 hO3.old hn').mono ?_; rintro e4 w4 ⟨rfl, hx4⟩
    obtain ⟨hc4, hf4⟩ := bcell hx4
    have hX4 : Ext w w4 := ext_trans hX3' hx4
    have hz4 : w2.heap.size < w4.heap.size := by have := hx4.size; omega
    go_wp2_with fail
    refine (eqCost_c (costOf xs) (costOf xs) _).mono ?_; rintro e5 w5 ⟨rfl, hx5⟩
    rw [hE]
    have hX5 : Ext w w5 := ext_trans (ext_alloc hX4 _) hx5
    have hX5' : Ext w3 w5 := ext_trans (ext_alloc hx4 _) hx5
    go_wp2_with fail
    refine (toStepS_c v xs _ (hp.ext hX5) hn').mono ?_; rintro e6 w6 ⟨v6, rfl, hx6, hO6⟩
    go_wp2_with fail
    refine (eqStepS_c v3 v6 xs xs _ (hO3.ext (ext_trans hX5' hx6)).old hO6.old (.inl hn')).mono ?_; rintro e7 w7 ⟨rfl, hx7⟩
    rw [hS]
    go_wp2_with fail
    go_ret
    exact ⟨rfl, ext_trans (ext_trans hX5 hx6) hx7⟩
  · go_wp2
    go_ret
    exact ⟨rfl, ext_refl _⟩
end Go.Bu
