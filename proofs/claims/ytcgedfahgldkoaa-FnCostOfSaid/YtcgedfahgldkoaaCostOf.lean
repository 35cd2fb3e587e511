/- What steps cost: CostOf of both sides. -/
import Derived.Test.YtcgedfahgldkoaaCostA
import Derived.Test.YtcgedfahgldkoaaTo
set_option linter.unusedVariables false
set_option linter.unusedSimpArgs false
namespace Go.Bu
open Go Go.RowKit Go.Plan Go.Proofs

def costStep (c : Cost) (s : Step) : Cost :=
  if s.kind = 3 then ⟨c.writes + 1, c.wipes, c.disks⟩ else if s.kind = 2 then ⟨c.writes, c.wipes + 1, c.disks⟩ else if s.kind = 1 then ⟨c.writes, c.wipes, c.disks + 1⟩ else c
def costOf (xs : List Step) : Cost := xs.foldl costStep cost0

def costBound (c : Cost) (k : Int) : Prop := 0 ≤ c.writes ∧ c.writes ≤ k ∧ 0 ≤ c.wipes ∧ c.wipes ≤ k ∧ 0 ≤ c.disks ∧ c.disks ≤ k

theorem costOf_take (xs : List Step) (k : Nat) (h : k < xs.length) : costOf (xs.take (k + 1)) = costStep (costOf (xs.take k)) xs[k] := by
  rw [← take_snoc xs k h, costOf, List.foldl_append]; rfl

theorem cells3 {w : World} {B T : Nat} {c : Cost} (h : w.heap[B]? = some (.cells (costC c).toArray T (0, 0))) : w.cell? ⟨B, 0, none⟩ = some (.int .i64 c.writes) ∧ w.cell? ⟨B, 1, none⟩ = some (.int .i64 c.wipes) ∧ w.cell? ⟨B, 2, none⟩ = some (.int .i64 c.disks) ∧ ∀ j, w.frozen? ⟨B, j, none⟩ = false :=
  ⟨by rw [cell_block h]; rfl, by rw [cell_block h]; rfl, by rw [cell_block h]; rfl, frozen_block h⟩

set_option maxHeartbeats 1000000 in
theorem specCostOf_c (v : Value) (xs : List Step) (w : World) (hp : Steps' (Old w) w v xs) (hn : xs.length ≤ 1048576) : Calls Try.prog 16 #[v] w (Ret w (costA (costOf xs))) := by
  obtain ⟨a, cap, rfl⟩ := hp.form
  go_enter Try.func16, Try.ntmps16
  go_wp2
  go_loopw [4] (fun i wr => ∃ (k : Nat) (c : Cost), k ≤ xs.length ∧ i = .int .i64 k ∧ Ext w wr ∧ w.heap.size + 1 < wr.heap.size ∧ c = costOf (xs.take k) ∧ costBound c k ∧
    wr.heap[w.heap.size]? = some (.cells (costC cost0).toArray 24 (0, 0)) ∧ wr.heap[w.heap.size + 1]? = some (.cells (costC c).toArray 24 (0, 0))) (fun i _ => xs.length - (intOf i).toNat)
  case atStart => 
    refine ⟨0, cost0, Nat.zero_le _, rfl, ext_alloc (ext_alloc (ext_refl _) _) _, by simp, rfl, by simp [costBound, cost0], ?_, ?_⟩
    · rw [alloc_get_old (by simp), alloc_get_new rfl]; rfl
    · rw [alloc_get_new (by simp)]; rfl
  case round =>
    obtain ⟨k, c, hk, rfl, hx, hsz, hc, ⟨b1, b2, b3, b4, b5, b6⟩, g0, g1⟩ := hrel
    obtain ⟨e0, e1, e2, ef⟩ := cells3 g1
    have HC := Lib.hid hc; clear hc
    by_cases hlt : k < xs.length
    · obtain ⟨b, o, rfl, hb, h0, h1, h2, h3, h4, h5, h6, h7⟩ := (hp.ext hx).at8 hlt
      have HT := Lib.hid (costOf_take xs k hlt)
      clear h1 h2 h3 h4 h5 h6 h7
      go_wp2
      all_goals
        clear e0 e1 e2 ef h0
        simp only [beq_iff_eq, Bool.not_eq_true, beq_eq_false_iff_ne, ne_eq] at *
        refine ⟨⟨k + 1, costStep c xs[k], by omega, by go_num, ?_, ?_, ?_, ?_, ?_, ?_⟩, by simp [intOf]; omega⟩
        · first | with_reducible exact hx | with_reducible exact ext_set hx (by dsimp only; omega) _
        · first | with_reducible exact hsz | (rw [setCell_size]; exact hsz)
        · rw [HT.out, ← HC.out]
        · unfold costStep costBound; (repeat' split) <;> (try dsimp only) <;> omega
        · first | with_reducible exact g0 | (rw [setCell_other (by omega)]; exact g0)
        · first
            | (rw [setCell_block g1]; unfold costStep; (repeat' split) <;> first | rfl | (exfalso; omega))
            | (rw [g1]; unfold costStep; (repeat' split) <;> first | rfl | (exfalso; omega))
    · obtain rfl : k = xs.length := by omega
      obtain ⟨d0, d1, d2, df⟩ := cells3 g0
      go_wp2
      refine bodyPost_ret (v := costA c) (by simp [results, Try.results16, go_sem, e0, e1, e2, ef, d0, d1, d2, df]) rfl ⟨?_, ?_⟩
      · rw [HC.out, List.take_length]
      · ((repeat (first | with_reducible (refine ext_set2 ?_ ?_); focus (first | exact Nat.le_refl _ | (dsimp only; omega) | (simp; omega)) | with_reducible refine ext_alloc2 ?_)); with_reducible exact hx)

set_option maxHeartbeats 1000000 in
theorem implCostOf_c (v : Value) (xs : List Step) (w : World) (hp : Steps' (Old w) w v xs) (hn : xs.length ≤ 1048576) : Calls Try.prog 18 #[v] w (Ret w (costA (costOf xs))) := by
  obtain ⟨a, cap, rfl⟩ := hp.form
  go_enter Try.func18, Try.ntmps18
  go_wp2
  go_loopw [8] (fun i wr => ∃ (k : Nat) (c : Cost), k ≤ xs.length ∧ i = .int .i64 k ∧ Ext w wr ∧ w.heap.size + 1 < wr.heap.size ∧ c = costOf (xs.take k) ∧ costBound c k ∧
    wr.heap[w.heap.size]? = some (.cells (costC cost0).toArray 24 (0, 0)) ∧ wr.heap[w.heap.size + 1]? = some (.cells (costC c).toArray 24 (0, 0))) (fun i _ => xs.length - (intOf i).toNat)
  case atStart => 
    refine ⟨0, cost0, Nat.zero_le _, rfl, ext_alloc (ext_alloc (ext_refl _) _) _, by simp, rfl, by simp [costBound, cost0], ?_, ?_⟩
    · rw [alloc_get_old (by simp), alloc_get_new rfl]; rfl
    · rw [alloc_get_new (by simp)]; rfl
  case round =>
    obtain ⟨k, c, hk, rfl, hx, hsz, hc, ⟨b1, b2, b3, b4, b5, b6⟩, g0, g1⟩ := hrel
    obtain ⟨e0, e1, e2, ef⟩ := cells3 g1
    have HC := Lib.hid hc; clear hc
    by_cases hlt : k < xs.length
    · obtain ⟨b, o, rfl, hb, h0, h1, h2, h3, h4, h5, h6, h7⟩ := (hp.ext hx).at8 hlt
      have HT := Lib.hid (costOf_take xs k hlt)
      go_wp2
      all_goals
        clear e0 e1 e2 ef h0 h1 h2 h3 h4 h5 h6 h7
        simp only [beq_iff_eq, Bool.not_eq_true, beq_eq_false_iff_ne, ne_eq] at *
        refine ⟨⟨k + 1, costStep c xs[k], by omega, by go_num, ?_, ?_, ?_, ?_, ?_, ?_⟩, by simp [intOf]; omega⟩
        · first | with_reducible exact ext_alloc hx _ | with_reducible exact ext_alloc (ext_set hx (by dsimp only; omega) _) _
        · first | (simp; rw [setCell_size]; omega) | (simp; omega)
        · rw [HT.out, ← HC.out]
        · unfold costStep costBound; (repeat' split) <;> (try dsimp only) <;> omega
        · rw [alloc_get_old (by first | omega | (rw [setCell_size]; omega))]; first | with_reducible exact g0 | (rw [setCell_other (by omega)]; exact g0)
        · rw [alloc_get_old (by first | omega | (rw [setCell_size]; omega))]
          first
            | (rw [setCell_block g1]; unfold costStep; (repeat' split) <;> first | rfl | (exfalso; omega))
            | (rw [g1]; unfold costStep; (repeat' split) <;> first | rfl | (exfalso; omega))
    · obtain rfl : k = xs.length := by omega
      obtain ⟨d0, d1, d2, df⟩ := cells3 g0
      go_wp2
      refine bodyPost_ret (v := costA c) (by simp [results, Try.results18, go_sem, e0, e1, e2, ef, d0, d1, d2, df]) rfl ⟨?_, ?_⟩
      · rw [HC.out, List.take_length]
      · ((repeat (first | with_reducible (refine ext_set2 ?_ ?_); focus (first | exact Nat.le_refl _ | (dsimp only; omega) | (simp; omega)) | with_reducible refine ext_alloc2 ?_)); with_reducible exact hx)

end Go.Bu
