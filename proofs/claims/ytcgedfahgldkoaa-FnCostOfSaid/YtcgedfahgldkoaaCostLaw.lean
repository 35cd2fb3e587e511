/- What steps cost, plain. -/

import Derived.Test.YtcgedfahgldkoaaCostOf
set_option linter.unusedVariables false
set_option linter.unusedSimpArgs false
namespace Go.Bu
open Go Go.RowKit Go.Plan Go.Proofs

theorem costFold_add : ∀ (xs : List Step) (c : Cost), xs.foldl costStep c = costSum c (xs.foldl costStep cost0)
  | [], c => by simp [costSum, cost0]
  | x :: xs, c => by
    rw [List.foldl_cons, List.foldl_cons, costFold_add xs (costStep c x), costFold_add xs (costStep cost0 x)]
    unfold costStep costSum cost0
    split
    · simp; omega
    · split
      · simp; omega
      · split <;> simp
        omega
theorem costOf_app (a b : List Step) : costOf (a ++ b) = costSum (costOf a) (costOf b) := by
  unfold costOf; rw [List.foldl_append, costFold_add b]
theorem costOf_bound (xs : List Step) : costBound (costOf xs) xs.length := by
  have : ∀ (xs : List Step) (c : Cost) (k : Int), costBound c k → costBound (xs.foldl costStep c) (k + xs.length) := by
    intro xs
    induction xs with
    | nil => intro c k h; simpa using h
    | cons x xs ih =>
      intro c k h
      rw [List.foldl_cons]
      have h1 : costBound (costStep c x) (k + 1) := by
        unfold costBound at *; unfold costStep
        (repeat' split) <;> (try dsimp only) <;> omega
      have := ih _ _ h1
      rw [show k + ((x :: xs).length : Int) = k + 1 + xs.length by simp; omega]
      exact this
  have h := this xs cost0 0 (by simp [costBound, cost0])
  rw [Int.zero_add] at h; exact h
theorem costOf_ok {xs : List Step} (h : xs.length ≤ 9999) : costOkB (costOf xs) = true := by
  have := costOf_bound xs
  unfold costBound at this
  simp only [costOkB, Bool.and_eq_true, inB_iff]; omega
theorem costOf_cut (xs : List Step) (k : Nat) (h : xs.length ≤ 9999) : costAdd (costOf (xs.take k)) (costOf (xs.drop k)) = costOf xs := by
  have h1 := costOf_ok (xs := xs.take k) (by rw [List.length_take]; omega)
  have h2 := costOf_ok (xs := xs.drop k) (by rw [List.length_drop]; omega)
  unfold costAdd
  rw [h1, h2, ← costOf_app, List.take_append_drop]; rfl
def costN (c : Cost) : Int := c.writes + c.wipes + c.disks
theorem costN_step (c : Cost) (x : Step) : costN (costStep c x) = costN c + if x.kind = 1 ∨ x.kind = 2 ∨ x.kind = 3 then 1 else 0 := by
  unfold costN costStep
  split
  · rw [if_pos (by omega)]; dsimp only; omega
  · split
    · rw [if_pos (by omega)]; dsimp only; omega
    · split
      · rw [if_pos (by omega)]; dsimp only; omega
      · rw [if_neg (by omega)]; omega
end Go.Bu
