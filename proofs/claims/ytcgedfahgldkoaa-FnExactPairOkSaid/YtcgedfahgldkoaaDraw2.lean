/- Drawn costs. -/
import Derived.Test.YtcgedfahgldkoaaDraw
set_option linter.unusedVariables false
set_option linter.unusedSimpArgs false
namespace Go.Bu
open Go Go.RowKit Go.Plan Go.Proofs

/-- what a draw leaves: a value of which something is known, the reader moved on -/
def Drawn (R : Nat) (bv : Value) (xs : List Nat) (p K : Nat) (w : World) (Φ : Value → World → Prop) (e : Ending) (w' : World) : Prop :=
  ∃ v q, e = .returned v ∧ Chg [R] w w' ∧ Rd w' R bv xs q ∧ q ≤ p + K ∧ Φ v w'

theorem Chg.keep {L : List Nat} {w w' : World} {b : Nat} {o : Obj} (h : Chg L w w') (hb : w.heap[b]? = some o) (hL : b ∉ L) : w'.heap[b]? = some o := by rw [h.block b (heap_lt hb) hL]; exact hb
theorem keep_ext {w w' : World} {b : Nat} {o : Obj} (h : Ext w w') (hb : w.heap[b]? = some o) : w'.heap[b]? = some o := by rw [h.block b (heap_lt hb)]; exact hb

/-- a variable of three cells, as the walk reads it -/
theorem cellsC {w : World} {B T : Nat} {c0 c1 c2 : Value} (h : w.heap[B]? = some (.cells #[c0, c1, c2] T (0, 0))) : w.cell? ⟨B, 0, none⟩ = some c0 ∧ w.cell? ⟨B, 1, none⟩ = some c1 ∧ w.cell? ⟨B, 2, none⟩ = some c2 ∧ ∀ j, w.frozen? ⟨B, j, none⟩ = false :=
  ⟨by rw [cell_block h]; rfl, by rw [cell_block h]; rfl, by rw [cell_block h]; rfl, frozen_block h⟩

theorem Rd.ext {w w' : World} {R : Nat} {bv : Value} {xs : List Nat} {p : Nat} (h : Rd w R bv xs p) (hx : Ext w w') : Rd w' R bv xs p :=
  ⟨by rw [hx.block R (heap_lt h.cells)]; exact h.cells, Sl.same (plain_kept _) h.bytes (fun b hb => hx.block b (Nat.lt_trans hb (heap_lt h.cells))) (fun b hb => hb), h.small, h.len⟩
theorem Rd.set {w : World} {R : Nat} {bv : Value} {xs : List Nat} {p : Nat} (h : Rd w R bv xs p) {a : Addr} (ha : R < a.block) (u : Value) : Rd (w.setCell a u) R bv xs p :=
  ⟨by rw [Below.heap_setCell _ _ _ _ (Nat.ne_of_lt ha)]; exact h.cells, Sl.same (plain_kept _) h.bytes (fun b hb => Below.heap_setCell _ _ _ _ (Nat.ne_of_lt (Nat.lt_trans hb ha))) (fun b hb => hb), h.small, h.len⟩
theorem Rd.alloc {w : World} {R : Nat} {bv : Value} {xs : List Nat} {p : Nat} (h : Rd w R bv xs p) (o : Obj) : Rd (w.alloc o) R bv xs p := h.ext (ext_alloc (ext_refl _) o)
theorem Rd.set2 {w : World} {R : Nat} {bv : Value} {xs : List Nat} {p : Nat} {a : Addr} {u : Value} (ha : R < a.block) (h : Rd w R bv xs p) : Rd (w.setCell a u) R bv xs p := h.set ha u
theorem Rd.alloc2 {w : World} {R : Nat} {bv : Value} {xs : List Nat} {p : Nat} {o : Obj} (h : Rd w R bv xs p) : Rd (w.alloc o) R bv xs p := h.alloc o
theorem Chg.set2 {L : List Nat} {a b : World} {p : Addr} {u : Value} (hp : p.block ∈ L ∨ a.heap.size ≤ p.block) (h : Chg L a b) : Chg L a (b.setCell p u) := h.set hp u
theorem Chg.alloc2 {L : List Nat} {a b : World} {o : Obj} (h : Chg L a b) : Chg L a (b.alloc o) := h.alloc o
theorem Rd.lt {w : World} {R : Nat} {bv : Value} {xs : List Nat} {p : Nat} (h : Rd w R bv xs p) : R < w.heap.size := heap_lt h.cells

set_option maxHeartbeats 1000000 in
theorem l72Cost_c (R : Nat) (bv : Value) (xs : List Nat) (p : Nat) (w : World) (h : Rd w R bv xs p) (hp : p ≤ 900000) :
    Calls Try.prog 34 #[.pointer (some ⟨R, 0, none⟩)] w (Drawn R bv xs p 5 w fun v _ => ∃ c : Cost, v = costA c ∧ 0 ≤ c.wipes ∧ c.wipes ≤ 9999) := by
  go_enter Try.func34, Try.ntmps34
  have hRl := h.lt
  have hT : ∀ w' (c : Cost) (q : Nat), Chg [R] w w' → Rd w' R bv xs q → q ≤ p + 5 → 0 ≤ c.wipes → c.wipes ≤ 9999 → Drawn R bv xs p 5 w (fun v _ => ∃ c : Cost, v = costA c ∧ 0 ≤ c.wipes ∧ c.wipes ≤ 9999) (.returned (costA c)) w' := fun w' c q hC hR hq w1 w2 => ⟨_, q, rfl, hC, hR, hq, c, rfl, w1, w2⟩
  have HT := Lib.hid hT; clear hT
  have n0 : w.heap.size ∉ [R] := by simp; omega
  go_wp2_with fail
  refine (pick_c R bv xs p 60 _ (h.ext (ext_alloc (ext_refl _) _)) (by omega) (by omega)).mono ?_; rintro e1 w1 ⟨r1, rfl, a1, b1, g1, h1⟩
  have G0 := g1.keep (alloc_get_new rfl) n0
  have C1 := (Chg.refl [R] w).alloc _ |>.trans g1
  go_wp2_with fail
  refine (pick_c R bv xs _ 20 _ h1 (by omega) (by omega)).mono ?_; rintro e2 w2 ⟨r2, rfl, a2, b2, g2, h2⟩
  replace G0 := g2.keep G0 n0
  have C2 := C1.trans g2
  clear C1 g1 h1
  go_wp2_with fail
  refine (pick_c R bv xs _ 60 _ h2 (by omega) (by omega)).mono ?_; rintro e3 w3 ⟨r3, rfl, a3, b3, g3, h3⟩
  replace G0 := g3.keep G0 n0
  have C3 := C2.trans g3
  have n3 : w3.heap.size ∉ [R] := by have := h3.lt; simp; omega
  clear C2 g2 h2
  go_wp2_with fail
  refine (pick_c R bv xs _ 16 _ (h3.ext (ext_alloc (ext_refl _) _)) (by omega) (by omega)).mono ?_; rintro e4 w4 ⟨r4, rfl, a4, b4, g4, h4⟩
  have s0 : w.heap.size < w3.heap.size := heap_lt G0
  have G3 := g4.keep (alloc_get_new rfl) n3
  replace G0 := g4.keep (keep_ext (ext_alloc (ext_refl _) _) G0) n0
  have C4 := (C3.alloc _).trans g4
  have s4 : w3.heap.size < w4.heap.size := heap_lt G3
  clear C3 g3 h3 g4
  obtain ⟨d0, d1, d2, df⟩ := cellsC G0
  obtain ⟨e0, e1, e2, ef⟩ := cellsC G3
  have n4 : w4.heap.size ∉ [R] := by have := h4.lt; simp; omega
  have m0 : w.heap.size ≠ w4.heap.size := by omega
  have m3 : w3.heap.size ≠ w4.heap.size := by omega
  go_wp2_with (go_at_call 43; refine (pick_c R bv xs _ 3 _ (h4.alloc _) (by omega) (by omega)).mono ?_; rintro e5 w5 ⟨r5, rfl, a5, b5, g5, h5⟩; replace G3 := g5.keep (keep_ext (ext_alloc (ext_refl _) _) G3) n3; replace G0 := g5.keep (keep_ext (ext_alloc (ext_refl _) _) G0) n0; have G4 := g5.keep (alloc_get_new rfl) n4; have C5 := (C4.alloc _).trans g5; clear g5 h4 C4 d0 d1 d2 df e0 e1 e2 ef; obtain ⟨d0, d1, d2, df⟩ := cellsC G0; obtain ⟨e0, e1, e2, ef⟩ := cellsC G3; obtain ⟨k0, k1, k2, kf⟩ := cellsC G4; rcases (show r5 = 0 ∨ r5 = 1 ∨ r5 = 2 by omega) with rfl | rfl | rfl)
  · refine bodyPost_ret (v := costA ⟨-1, r2, r3⟩) ?_ rfl (HT.out _ _ (p + 1 + 1 + 1 + 1 + 1) ?_ ?_ (by omega) a2 (by have := b2 (by omega); dsimp only; omega))
    · simp [results, Try.results34, go_sem, d0, d1, d2, df, n0, m0, m3]
    · ((repeat (first | with_reducible (refine Chg.set2 ?_ ?_); focus (exact Or.inr (by dsimp only; omega)) | with_reducible refine Chg.alloc2 ?_)); with_reducible exact C5)
    · ((repeat (first | with_reducible (refine Rd.set2 ?_ ?_); focus (dsimp only; omega) | with_reducible refine Rd.alloc2 ?_)); with_reducible exact h5)
  · refine bodyPost_ret (v := costA ⟨9999, r2, r3⟩) ?_ rfl (HT.out _ _ (p + 1 + 1 + 1 + 1 + 1) ?_ ?_ (by omega) a2 (by have := b2 (by omega); dsimp only; omega))
    · simp [results, Try.results34, go_sem, d0, d1, d2, df, n0, m0, m3]
    · ((repeat (first | with_reducible (refine Chg.set2 ?_ ?_); focus (exact Or.inr (by dsimp only; omega)) | with_reducible refine Chg.alloc2 ?_)); with_reducible exact C5)
    · ((repeat (first | with_reducible (refine Rd.set2 ?_ ?_); focus (dsimp only; omega) | with_reducible refine Rd.alloc2 ?_)); with_reducible exact h5)
  · refine bodyPost_ret (v := costA ⟨10000, r2, r3⟩) ?_ rfl (HT.out _ _ (p + 1 + 1 + 1 + 1 + 1) ?_ ?_ (by omega) a2 (by have := b2 (by omega); dsimp only; omega))
    · simp [results, Try.results34, go_sem, d0, d1, d2, df, n0, m0, m3]
    · ((repeat (first | with_reducible (refine Chg.set2 ?_ ?_); focus (exact Or.inr (by dsimp only; omega)) | with_reducible refine Chg.alloc2 ?_)); with_reducible exact C5)
    · ((repeat (first | with_reducible (refine Rd.set2 ?_ ?_); focus (dsimp only; omega) | with_reducible refine Rd.alloc2 ?_)); with_reducible exact h5)
  · refine bodyPost_ret (v := costA ⟨r1, r2, -1⟩) ?_ rfl (HT.out _ _ (p + 1 + 1 + 1 + 1 + 1) ?_ ?_ (by omega) a2 (by have := b2 (by omega); dsimp only; omega))
    · simp [results, Try.results34, go_sem, d0, d1, d2, df, n0, m0, m3]
    · ((repeat (first | with_reducible (refine Chg.set2 ?_ ?_); focus (exact Or.inr (by dsimp only; omega)) | with_reducible refine Chg.alloc2 ?_)); with_reducible exact C5)
    · ((repeat (first | with_reducible (refine Rd.set2 ?_ ?_); focus (dsimp only; omega) | with_reducible refine Rd.alloc2 ?_)); with_reducible exact h5)
  · refine bodyPost_ret (v := costA ⟨r1, r2, 9999⟩) ?_ rfl (HT.out _ _ (p + 1 + 1 + 1 + 1 + 1) ?_ ?_ (by omega) a2 (by have := b2 (by omega); dsimp only; omega))
    · simp [results, Try.results34, go_sem, d0, d1, d2, df, n0, m0, m3]
    · ((repeat (first | with_reducible (refine Chg.set2 ?_ ?_); focus (exact Or.inr (by dsimp only; omega)) | with_reducible refine Chg.alloc2 ?_)); with_reducible exact C5)
    · ((repeat (first | with_reducible (refine Rd.set2 ?_ ?_); focus (dsimp only; omega) | with_reducible refine Rd.alloc2 ?_)); with_reducible exact h5)
  · refine bodyPost_ret (v := costA ⟨r1, r2, 10000⟩) ?_ rfl (HT.out _ _ (p + 1 + 1 + 1 + 1 + 1) ?_ ?_ (by omega) a2 (by have := b2 (by omega); dsimp only; omega))
    · simp [results, Try.results34, go_sem, d0, d1, d2, df, n0, m0, m3]
    · ((repeat (first | with_reducible (refine Chg.set2 ?_ ?_); focus (exact Or.inr (by dsimp only; omega)) | with_reducible refine Chg.alloc2 ?_)); with_reducible exact C5)
    · ((repeat (first | with_reducible (refine Rd.set2 ?_ ?_); focus (dsimp only; omega) | with_reducible refine Rd.alloc2 ?_)); with_reducible exact h5)
  · refine bodyPost_ret (v := costA ⟨r1, r2, r3⟩) ?_ rfl (HT.out _ _ (p + 1 + 1 + 1 + 1) ?_ ?_ (by omega) a2 (by have := b2 (by omega); dsimp only; omega))
    · simp [results, Try.results34, go_sem, d0, d1, d2, df, n0, m0, m3]
    · ((repeat (first | with_reducible (refine Chg.set2 ?_ ?_); focus (exact Or.inr (by dsimp only; omega)) | with_reducible refine Chg.alloc2 ?_)); with_reducible exact C4)
    · ((repeat (first | with_reducible (refine Rd.set2 ?_ ?_); focus (dsimp only; omega) | with_reducible refine Rd.alloc2 ?_)); with_reducible exact h4)
end Go.Bu
