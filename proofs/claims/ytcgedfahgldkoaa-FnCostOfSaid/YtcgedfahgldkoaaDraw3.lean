/- Readers with enough left: what the laws' draws ask of them; drawn events and records. -/
import Derived.Test.YtcgedfahgldkoaaRunS2
import Derived.Test.YtcgedfahgldkoaaDraw2
set_option linter.unusedVariables false
set_option linter.unusedSimpArgs false
namespace Go.Bu
open Go Go.RowKit Go.Plan Go.Proofs

/-- a reader from which K numbers may still be picked -/
def Rk (w : World) (R K : Nat) : Prop := ∃ bv xs p, Rd w R bv xs p ∧ p + K ≤ 1000000

theorem Rk.lt {w : World} {R K : Nat} (h : Rk w R K) : R < w.heap.size := by obtain ⟨bv, xs, p, h, _⟩ := h; exact h.lt
theorem Rk.ext {w w' : World} {R K : Nat} (h : Rk w R K) (hx : Ext w w') : Rk w' R K := by obtain ⟨bv, xs, p, h, hp⟩ := h; exact ⟨bv, xs, p, h.ext hx, hp⟩
theorem Rk.less {w : World} {R K K' : Nat} (h : Rk w R K) (hk : K' ≤ K) : Rk w R K' := by obtain ⟨bv, xs, p, h, hp⟩ := h; exact ⟨bv, xs, p, h, by omega⟩
theorem Rk.set2 {w : World} {R K : Nat} {a : Addr} {u : Value} (ha : R < a.block) (h : Rk w R K) : Rk (w.setCell a u) R K := by obtain ⟨bv, xs, p, h, hp⟩ := h; exact ⟨bv, xs, p, h.set ha u, hp⟩
theorem Rk.alloc2 {w : World} {R K : Nat} {o : Obj} (h : Rk w R K) : Rk (w.alloc o) R K := h.ext (ext_alloc (ext_refl _) _)
theorem Rk.chg {w w' : World} {R K : Nat} {L : List Nat} (h : Rk w R K) (hx : Chg L w w') (hL : ∀ b ∈ L, R < b) : Rk w' R K := by
  obtain ⟨bv, xs, p, h, hp⟩ := h
  have hk : ∀ b, b ≤ R → w'.heap[b]? = w.heap[b]? := fun b hb => hx.block b (Nat.lt_of_le_of_lt hb h.lt) fun hm => by have := hL b hm; omega
  exact ⟨bv, xs, p, ⟨by rw [hk R (Nat.le_refl _)]; exact h.cells, Sl.same (plain_kept _) h.bytes (fun b hb => hk b (Nat.le_of_lt hb)) (fun b hb => hb), h.small, h.len⟩, hp⟩

/-- a pick -/
def Pick (R K : Nat) (m : Int) (w : World) (e : Ending) (w' : World) : Prop := ∃ r : Int, e = .returned (.int .i64 r) ∧ 0 ≤ r ∧ (0 < m → r < m) ∧ Chg [R] w w' ∧ Rk w' R K
theorem pick_k (R : Nat) {K : Nat} (m : Int) (w : World) (h : Rk w R (K + 1)) (hm : m ≤ 1000 := by omega) : Calls Try.prog 43 #[.pointer (some ⟨R, 0, none⟩), .int .i64 m] w (Pick R K m w) := by
  obtain ⟨bv, xs, p, h, hp⟩ := h
  exact (pick_c R bv xs p m w h (by omega) (by omega)).mono fun e w' ⟨r, he, h0, h1, hc, hr⟩ => ⟨r, he, h0, h1, hc, bv, xs, p + 1, hr, by omega⟩

/-- what a draw leaves: a value of which something is known, the reader moved on -/
def DrawV (R K : Nat) (w : World) (Φ : Value → World → Prop) (e : Ending) (w' : World) : Prop := ∃ v, e = .returned v ∧ Chg [R] w w' ∧ Rk w' R K ∧ Φ v w'

theorem Chg.then_sets {L : List Nat} {w w1 w2 w3 : World} (h : Chg L w w1) (hc : Chg L w2 w3) (h2 : Chg L w w2) : Chg L w w3 := h2.trans hc

structure EventD (e : Event) : Prop where
  kind : 1 ≤ e.kind ∧ e.kind ≤ 4
  a : 1 ≤ e.a ∧ e.a ≤ 6
  b : 0 ≤ e.b ∧ e.b ≤ 9
  c : 0 ≤ e.c ∧ e.c ≤ 9

set_option maxHeartbeats 2000000 in
theorem l71Event_c (R K : Nat) (w : World) (h : Rk w R (K + 7)) :
    Calls Try.prog 45 #[.pointer (some ⟨R, 0, none⟩)] w (DrawV R K w fun v _ => ∃ e : Event, v = eventA e ∧ EventD e) := by
  have hR := h.lt
  have HK := h; clear h
  go_enter Try.func45, Try.ntmps45
  have C := Chg.refl [R] w
  go_wp2_with fail
  refine (pick_k R 6 _ (by ((repeat (first | (with_reducible apply Rk.set2; focus (dsimp only; omega)) | with_reducible apply Rk.alloc2)); with_reducible exact HK))).mono ?_; rintro e1 w1 ⟨r1, rfl, a1, b1, hC, HK1⟩
  replace C := C.then_sets hC (by ((repeat (first | with_reducible (refine Chg.set2 ?_ ?_); focus (exact Or.inr (by dsimp only; omega)) | with_reducible refine Chg.alloc2 ?_)); with_reducible exact C))
  have G2 := hC.keep (hg_new (b := w.heap.size) rfl) (by simp; omega)
  replace HK := HK1; clear HK1 hC
  go_wp2_with fail
  refine (pick_k R 10 _ (by ((repeat (first | (with_reducible apply Rk.set2; focus (dsimp only; omega)) | with_reducible apply Rk.alloc2)); with_reducible exact HK))).mono ?_; rintro e2 w2 ⟨r2, rfl, a2, b2, hC, HK1⟩
  replace C := C.then_sets hC (by ((repeat (first | with_reducible (refine Chg.set2 ?_ ?_); focus (exact Or.inr (by dsimp only; omega)) | with_reducible refine Chg.alloc2 ?_)); with_reducible exact C))
  replace G2 := hC.keep (by (repeat (first | with_reducible apply hg_here | (with_reducible apply hg_set; focus (dsimp only; omega)) | with_reducible apply hg_alloc)); with_reducible exact G2) (by simp; omega)
  replace HK := HK1; clear HK1 hC
  have l2 := heap_lt G2
  go_wp2_with fail
  refine (pick_k R 12 _ (by ((repeat (first | (with_reducible apply Rk.set2; focus (dsimp only; omega)) | with_reducible apply Rk.alloc2)); with_reducible exact HK))).mono ?_; rintro e3 w3 ⟨r3, rfl, a3, b3, hC, HK1⟩
  replace C := C.then_sets hC (by ((repeat (first | with_reducible (refine Chg.set2 ?_ ?_); focus (exact Or.inr (by dsimp only; omega)) | with_reducible refine Chg.alloc2 ?_)); with_reducible exact C))
  replace G2 := hC.keep (by (repeat (first | with_reducible apply hg_here | (with_reducible apply hg_set; focus (dsimp only; omega)) | with_reducible apply hg_alloc)); with_reducible exact G2) (by simp; omega)
  have G3 := hC.keep (hg_new (b := w2.heap.size) rfl) (by simp; omega)
  replace HK := HK1; clear HK1 hC
  have l2 := heap_lt G2; have l3 := heap_lt G3
  obtain ⟨g2, gf2⟩ := cellsK G2
  obtain ⟨g3, gf3⟩ := cellsK G3
  have m3 := b3 (by omega)
  go_wp2_with (go_at_call 43; ((with_reducible refine (pick_k R _ _ (by ((repeat (first | (with_reducible apply Rk.set2; focus (dsimp only; omega)) | with_reducible apply Rk.alloc2)); with_reducible exact HK))).mono ?_)); rintro e1 w1 ⟨r, rfl, hr0, hr1, hC, HK1⟩; replace C := C.then_sets hC (by ((repeat (first | with_reducible (refine Chg.set2 ?_ ?_); focus (exact Or.inr (by dsimp only; omega)) | with_reducible refine Chg.alloc2 ?_)); with_reducible exact C)); replace HK := HK1; clear HK1; replace G2 := hC.keep (b := w.heap.size) (by (repeat (first | with_reducible apply hg_here | (with_reducible apply hg_set; focus (dsimp only; omega)) | with_reducible apply hg_alloc)); with_reducible exact G2) (by simp; omega); (try clear g2 gf2); obtain ⟨g2, gf2⟩ := cellsK G2; have l2 := heap_lt G2; replace G3 := hC.keep (b := w2.heap.size) (by (repeat (first | with_reducible apply hg_here | (with_reducible apply hg_set; focus (dsimp only; omega)) | with_reducible apply hg_alloc)); with_reducible exact G3) (by simp; omega); (try clear g3 gf3); obtain ⟨g3, gf3⟩ := cellsK G3; have l3 := heap_lt G3; clear hC)
  all_goals
    try simp only [beq_iff_eq, Bool.not_eq_true, beq_eq_false_iff_ne, ne_eq, bne_iff_ne, bne_eq_false_iff_eq, decide_eq_true_eq, decide_eq_false_iff_not] at *
    refine bodyPost_ret (by simp [results, Try.results45, go_sem, g2, gf2, g3, gf3]; exact ⟨rfl, rfl, rfl, rfl, rfl⟩) rfl ⟨_, rfl, (by ((repeat (first | with_reducible (refine Chg.set2 ?_ ?_); focus (exact Or.inr (by dsimp only; omega)) | with_reducible refine Chg.alloc2 ?_)); with_reducible exact C)), Rk.less (by ((repeat (first | (with_reducible apply Rk.set2; focus (dsimp only; omega)) | with_reducible apply Rk.alloc2)); with_reducible exact HK)) (by omega), ⟨_, _, _, _, _⟩, rfl, ⟨by dsimp only; omega, by dsimp only; omega, by dsimp only; omega, by dsimp only; omega⟩⟩
end Go.Bu
