/- Drawn costs. -/
import Derived.Test.YtcainddboblpbaaDraw
set_option linter.unusedVariables false
set_option linter.unusedSimpArgs false
namespace Go.Bu
open Go Go.RowKit Go.Plan Go.Proofs

/-- what a draw leaves: a value of which something is known, the reader moved on -/
def Drawn (R : Nat) (bv : Value) (xs : List Nat) (p K : Nat) (w : World) (Φ : Value → World → Prop) (e : Ending) (w' : World) : Prop :=
  ∃ v q, e = .returned v ∧ Chg [R] w w' ∧ Rd w' R bv xs q ∧ q ≤ p + K ∧ Φ v w'

theorem Chg.keep {L : List Nat} {w w' : World} {b : Nat} {o : Obj} (h : Chg L w w') (hb : w.heap[b]? = some o) (hL : b ∉ L) : w'.heap[b]? = some o := by rw [h.block b (heap_lt hb) hL]; exact hb
theorem keep_ext {w w' : World} {b : Nat} {o : Obj} (h : Ext w w') (hb : w.heap[b]? = some o) : w'.heap[b]? = some o := by rw [h.block b (heap_lt hb)]; exact hb

/-- a variable of three cells, as the walk reads it -/
theorem cellsC {w : World} {B T : Nat} {c0 c1 c2 : Value} (h : w.heap[B]? = some (.cells #[c0, c1, c2] T (0, 0))) : w.cell? ⟨B, 0, none⟩ = some c0 ∧ w.cell? ⟨B, 1, none⟩ = some c1 ∧ w.cell? ⟨B, 2, none⟩ = some c2 ∧ ∀ j, w.frozen? ⟨B, j, none⟩ = false :=
  ⟨by rw [cell_block h]; rfl, by rw [cell_block h]; rfl, by rw [cell_block h]; rfl, frozen_block h⟩

theorem Rd.ext {w w' : World} {R : Nat} {bv : Value} {xs : List Nat} {p : Nat} (h : Rd w R bv xs p) (hx : Ext w w') : Rd w' R bv xs p :=
  ⟨by rw [hx.block R (heap_lt h.cells)]; exact h.cells, Sl.same (plain_kept _) h.bytes (fun b hb => hx.block b (Nat.lt_trans hb (heap_lt h.cells))) (fun b hb => hb), h.small, h.len⟩
theorem Rd.set {w : World} {R : Nat} {bv : Value} {xs : List Nat} {p : Nat} (h : Rd w R bv xs p) {a : Addr} (ha : R < a.block) (u : Value) : Rd (w.setCell a u) R bv xs p :=
  ⟨by rw [Below.heap_setCell _ _ _ _ (Nat.ne_of_lt ha)]; exact h.cells, Sl.same (plain_kept _) h.bytes (fun b hb => Below.heap_setCell _ _ _ _ (Nat.ne_of_lt (Nat.lt_trans hb ha))) (fun b hb => hb), h.small, h.len⟩
theorem Rd.alloc {w : World} {R : Nat} {bv : Value} {xs : List Nat} {p : Nat} (h : Rd w R bv xs p) (o : Obj) : Rd (w.alloc o) R bv xs p := h.ext (ext_alloc (ext_refl _) o)
theorem Rd.set2 {w : World} {R : Nat} {bv : Value} {xs : List Nat} {p : Nat} {a : Addr} {u : Value} (ha : R < a.block) (h : Rd w R bv xs p) : Rd (w.setCell a u) R bv xs p := h.set ha u
theorem Rd.alloc2 {w : World} {R : Nat} {bv : Value} {xs : List Nat} {p : Nat} {o : Obj} (h : Rd w R bv xs p) : Rd (w.alloc o) R bv xs p := h.alloc o
theorem Chg.set2 {L : List Nat} {a b : World} {p : Addr} {u : Value} (hp : p.block ∈ L ∨ a.heap.size ≤ p.block) (h : Chg L a b) : Chg L a (b.setCell p u) := h.set hp u
theorem Chg.alloc2 {L : List Nat} {a b : World} {o : Obj} (h : Chg L a b) : Chg L a (b.alloc o) := h.alloc o
theorem Rd.lt {w : World} {R : Nat} {bv : Value} {xs : List Nat} {p : Nat} (h : Rd w R bv xs p) : R < w.heap.size := heap_lt h.cells

-- (not in this seat: function spec.l72Cost)