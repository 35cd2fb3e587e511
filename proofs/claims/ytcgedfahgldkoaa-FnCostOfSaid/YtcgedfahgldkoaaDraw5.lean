/- Drawn records, flashes, stores. -/
import Derived.Test.YtcgedfahgldkoaaDraw4
set_option linter.unusedVariables false
set_option linter.unusedSimpArgs false
namespace Go.Bu
open Go Go.RowKit Go.Plan Go.Proofs

/-! ### regions in which numbers are picked -/
theorem chgcell {R : Nat} {W w1 : World} (h : Chg [R] W w1) : (∀ b o, b < W.heap.size → b ≠ R → w1.cell? ⟨b, o, none⟩ = W.cell? ⟨b, o, none⟩) ∧ (∀ b o, b < W.heap.size → b ≠ R → w1.frozen? ⟨b, o, none⟩ = W.frozen? ⟨b, o, none⟩) :=
  ⟨fun b o hb hn => by unfold World.cell?; rw [h.block b hb (by simpa using hn)], fun b o hb hn => by unfold World.frozen?; rw [h.block b hb (by simpa using hn)]⟩

section
variable {P : Program} {l : List Oper} {Q : Exit → Act → World → Prop} {ch L heads : List Nat} {lates : Lates} {tail : List Nat} {B0 : Nat} {S : World → Prop} {iv : List (Nat × Nat)} {H : Nat} {a : Act}
  {fin : (World → Prop) → List (Nat × Nat) → Nat → Act → Prop} {R K K1 : Nat} {W : World}

theorem wp_region_rd (hk : Rk W R K) (ch heads : List Nat) (lates : Lates) (tail : List Nat) {id : Nat} {a : Act} (hm : P.follows .mixedOrders = true)
    (hok : okPlan l ch heads (lates.map (·.1)) tail = true)
    (hlate : ∀ f ∈ lates, ∃ o, l[f.1]? = some o ∧ ∀ (a : Act) (w : World), (execOp a.eval o).run P w = .ok (.value (f.2.2 w.heap.size)) (w.alloc f.2.1))
    (h : Rob P l ch W.heap.size (Fin P l Q W.heap.size lates tail) heads (Chg [R] W) (fun w => Rk w R K) [] W.heap.size a) : (Code.region id l.toArray true).wp P Q a W :=
  wp_region_planC ch heads lates tail hm hok hlate _ (Chg.of_ext (ext_drew W)) (fun _ _ h1 h2 => h1.trans (Chg.of_ext h2)) _ (hk.ext (ext_drew W)) (fun _ _ h1 h2 => h1.ext h2) h

theorem wp_region_rdM (hk : Rk W R K) (ch heads : List Nat) (lates : Lates) (mid tail : List Nat) {id : Nat} {a : Act} (hm : P.follows .mixedOrders = true)
    (hok : okPlanM l ch heads (lates.map (·.1)) mid tail = true)
    (hlate : ∀ f ∈ lates, ∃ o, l[f.1]? = some o ∧ ∀ (a : Act) (w : World), (execOp a.eval o).run P w = .ok (.value (f.2.2 w.heap.size)) (w.alloc f.2.1))
    (h : Rob P l ch W.heap.size (FinM P l Q W.heap.size lates mid tail) heads (Chg [R] W) (fun w => Rk w R K) [] W.heap.size a) : (Code.region id l.toArray true).wp P Q a W :=
  wp_region_planM ch heads lates mid tail hm hok hlate _ (Chg.of_ext (ext_drew W)) (fun _ _ h1 h2 => h1.trans (Chg.of_ext h2)) _ (hk.ext (ext_drew W)) (fun _ _ h1 h2 => h1.ext h2) h

theorem spare_rd {w w' : World} (hR : R < B0) (h : Chg [R] w w') : Spare B0 iv w w' := ⟨h.size, fun b hb hl _ => h.block b hl (by simp; omega)⟩
def DrawR (R K : Nat) (w : World) (Φ : Value → Prop) (v : Value) (w' : World) : Prop := Chg [R] w w' ∧ Rk w' R K ∧ Φ v
def PickΦ (m : Int) (v : Value) : Prop := ∃ r : Int, v = .int .i64 r ∧ 0 ≤ r ∧ (0 < m → r < m)
theorem Pick.run {m : Int} {w w' : World} {e : Ending} (h : Pick R K m w e w') : ∃ v, e = .returned v ∧ DrawR R K w (PickΦ m) v w' := by
  obtain ⟨r, he, h0, h1, hc, hk⟩ := h; exact ⟨_, he, hc, hk, r, rfl, h0, h1⟩
theorem DrawV.run {Φ : Value → Prop} {w w' : World} {e : Ending} (h : DrawV R K w (fun v _ => Φ v) e w') : ∃ v, e = .returned v ∧ DrawR R K w Φ v w' := by
  obtain ⟨v, he, hc, hk, hp⟩ := h; exact ⟨v, he, hc, hk, hp⟩

/-- a draw within a region -/
theorem Rob.draw0 {i : Nat} {o : Oper} (Φ : Value → Prop) (ho : l[i]? = some o) (hc : ch.contains i = true) (hg : Region.wanted o (yielded l.toArray a.tmps) = true) (hR : R < B0)
    (hS : ∀ w w', S w → Chg [R] w w' → S w') (hrun : ∀ w1, S w1 → Rk w1 R K1 → H ≤ w1.heap.size → RunTo P o a.eval w1 (DrawR R K w1 Φ))
    (h : ∀ (lo hi : Nat) (v : Value), Φ v → H ≤ lo → lo ≤ hi → Rob P l ch B0 fin L S (fun w => Rk w R K) (iv ++ [(lo, hi)]) hi (a.put o.dst v)) : Rob P l ch B0 fin (i :: L) S (fun w => Rk w R K1) iv H a := by
  refine Rob.w (fun _ _ v _ => Φ v) (fun _ _ _ w => Rk w R K) ho hc hg (fun _ _ _ _ _ h _ => h) (fun _ _ _ _ _ h hx => h.ext hx) (fun w1 hs hk hh => ?_) (fun lo hi v h1 h2 ⟨_, hv, _⟩ => ?_)
  · have := hrun w1 hs hk hh
    unfold RunTo at *
    revert this
    generalize (execOp a.eval o).run P w1 = r
    cases r with
    | ok n w' =>
      cases n <;> intro this
      case value v => exact ⟨spare_rd hR this.1, hS _ _ hs this.1, this.2.2, this.2.1⟩
      case skip => exact ⟨spare_rd hR this.1, hS _ _ hs this.1, this.2.2, this.2.1⟩
      case enter f args => exact Calls.mono this fun e w'' ⟨v, he, h1, h2, h3⟩ => ⟨v, he, spare_rd hR h1, hS _ _ hs h1, h3, h2⟩
      case row row args => exact Rows.mono this fun v w'' ⟨h1, h2, h3⟩ => ⟨spare_rd hR h1, hS _ _ hs h1, h3, h2⟩
      all_goals exact this
    | halt x w' => exact fun h => h
  · rw [show (fun w => S w ∧ Φ v) = S from funext fun w => by simp [hv]]
    exact h lo hi v hv h1 h2
theorem Rob.pick {i : Nat} {o : Oper} {m : Int} (ho : l[i]? = some o) (hc : ch.contains i = true) (hg : Region.wanted o (yielded l.toArray a.tmps) = true) (hR : R < B0)
    (hS : ∀ w w', S w → Chg [R] w w' → S w') (hrun : ∀ w1, S w1 → Rk w1 R (K + 1) → H ≤ w1.heap.size → RunTo P o a.eval w1 (DrawR R K w1 (PickΦ m)))
    (h : ∀ (lo hi : Nat) (r : Int), 0 ≤ r → (0 < m → r < m) → H ≤ lo → lo ≤ hi → Rob P l ch B0 fin L S (fun w => Rk w R K) (iv ++ [(lo, hi)]) hi (a.put o.dst (.int .i64 r))) : Rob P l ch B0 fin (i :: L) S (fun w => Rk w R (K + 1)) iv H a :=
  Rob.draw0 _ ho hc hg hR hS hrun fun lo hi v ⟨r, hv, h0, h1⟩ hl hh => by subst hv; exact h lo hi r h0 h1 hl hh
end

set_option maxHeartbeats 2000000 in
theorem l71Rec_c (R K : Nat) (w : World) (h : Rk w R (K + 6)) :
    Calls Try.prog 98 #[.pointer (some ⟨R, 0, none⟩)] w (DrawV R K w fun v _ => ∃ r : Rec, v = recA r) := by
  have hR := h.lt
  have HK := h; clear h
  go_enter Try.func98, Try.ntmps98
  have C := Chg.refl [R] w
  go_wp2_with fail
  refine (pick_k R 2 _ (by ((repeat (first | (with_reducible apply Rk.set2; focus (dsimp only; omega)) | with_reducible apply Rk.alloc2)); with_reducible exact HK))).mono ?_; rintro e1 w1 ⟨r1, rfl, a1, b1, hC, HK1⟩
  replace C := C.then_sets hC (by ((repeat (first | with_reducible (refine Chg.set2 ?_ ?_); focus (exact Or.inr (by dsimp only; omega)) | with_reducible refine Chg.alloc2 ?_)); with_reducible exact C))
  have G2 := hC.keep (hg_new (b := w.heap.size) rfl) (by simp; omega)
  replace HK := HK1; clear HK1 hC
  go_wp2_with fail
  refine (pick_k R 40 _ (by ((repeat (first | (with_reducible apply Rk.set2; focus (dsimp only; omega)) | with_reducible apply Rk.alloc2)); with_reducible exact HK))).mono ?_; rintro e2 w2 ⟨r2, rfl, a2, b2, hC, HK1⟩
  replace C := C.then_sets hC (by ((repeat (first | with_reducible (refine Chg.set2 ?_ ?_); focus (exact Or.inr (by dsimp only; omega)) | with_reducible refine Chg.alloc2 ?_)); with_reducible exact C))
  replace G2 := hC.keep (b := w.heap.size) (by (repeat (first | with_reducible apply hg_here | (with_reducible apply hg_set; focus (dsimp only; omega)) | with_reducible apply hg_alloc)); with_reducible exact G2) (by simp; omega)
  replace HK := HK1; clear HK1 hC
  go_wp2_with fail
  refine (pick_k R 6 _ (by ((repeat (first | (with_reducible apply Rk.set2; focus (dsimp only; omega)) | with_reducible apply Rk.alloc2)); with_reducible exact HK))).mono ?_; rintro e3 w3 ⟨r3, rfl, a3, b3, hC, HK1⟩
  replace C := C.then_sets hC (by ((repeat (first | with_reducible (refine Chg.set2 ?_ ?_); focus (exact Or.inr (by dsimp only; omega)) | with_reducible refine Chg.alloc2 ?_)); with_reducible exact C))
  replace G2 := hC.keep (b := w.heap.size) (by (repeat (first | with_reducible apply hg_here | (with_reducible apply hg_set; focus (dsimp only; omega)) | with_reducible apply hg_alloc)); with_reducible exact G2) (by simp; omega)
  replace HK := HK1; clear HK1 hC
  go_wp2_with fail
  refine (pick_k R 10 _ (by ((repeat (first | (with_reducible apply Rk.set2; focus (dsimp only; omega)) | with_reducible apply Rk.alloc2)); with_reducible exact HK))).mono ?_; rintro e4 w4 ⟨r4, rfl, a4, b4, hC, HK1⟩
  replace C := C.then_sets hC (by ((repeat (first | with_reducible (refine Chg.set2 ?_ ?_); focus (exact Or.inr (by dsimp only; omega)) | with_reducible refine Chg.alloc2 ?_)); with_reducible exact C))
  replace G2 := hC.keep (b := w.heap.size) (by (repeat (first | with_reducible apply hg_here | (with_reducible apply hg_set; focus (dsimp only; omega)) | with_reducible apply hg_alloc)); with_reducible exact G2) (by simp; omega)
  replace HK := HK1; clear HK1 hC
  have l2 := heap_lt G2
  go_wp2_with fail
  refine (pick_k R 20 _ (by ((repeat (first | (with_reducible apply Rk.set2; focus (dsimp only; omega)) | with_reducible apply Rk.alloc2)); with_reducible exact HK))).mono ?_; rintro e5 w5 ⟨r5, rfl, a5, b5, hC, HK1⟩
  replace C := C.then_sets hC (by ((repeat (first | with_reducible (refine Chg.set2 ?_ ?_); focus (exact Or.inr (by dsimp only; omega)) | with_reducible refine Chg.alloc2 ?_)); with_reducible exact C))
  replace G2 := hC.keep (b := w.heap.size) (by (repeat (first | with_reducible apply hg_here | (with_reducible apply hg_set; focus (dsimp only; omega)) | with_reducible apply hg_alloc)); with_reducible exact G2) (by simp; omega)
  have G3 := hC.keep (hg_new (b := w4.heap.size) rfl) (by simp; omega)
  replace HK := HK1; clear HK1 hC
  have l2 := heap_lt G2; have l3 := heap_lt G3
  obtain ⟨g2, gf2⟩ := cellsK G2
  obtain ⟨g3, gf3⟩ := cellsK G3
  go_wp2_with (first
    | (go_at_call 43; ((with_reducible refine (pick_k R 4 _ (by ((repeat (first | (with_reducible apply Rk.set2; focus (dsimp only; omega)) | with_reducible apply Rk.alloc2)); with_reducible exact HK))).mono ?_)); rintro e1 w1 ⟨r, rfl, hr0, hr1, hC, HK1⟩; replace C := C.then_sets hC (by ((repeat (first | with_reducible (refine Chg.set2 ?_ ?_); focus (exact Or.inr (by dsimp only; omega)) | with_reducible refine Chg.alloc2 ?_)); with_reducible exact C)); replace HK := HK1; clear HK1; replace G2 := hC.keep (b := w.heap.size) (by (repeat (first | with_reducible apply hg_here | (with_reducible apply hg_set; focus (dsimp only; omega)) | with_reducible apply hg_alloc)); with_reducible exact G2) (by simp; omega); (try clear g2 gf2); obtain ⟨g2, gf2⟩ := cellsK G2; have l2 := heap_lt G2; replace G3 := hC.keep (b := w4.heap.size) (by (repeat (first | with_reducible apply hg_here | (with_reducible apply hg_set; focus (dsimp only; omega)) | with_reducible apply hg_alloc)); with_reducible exact G3) (by simp; omega); (try clear g3 gf3); obtain ⟨g3, gf3⟩ := cellsK G3; have l3 := heap_lt G3; clear hC)
    | ((go_at_call 43; ((with_reducible refine (pick_k R 3 _ (by ((repeat (first | (with_reducible apply Rk.set2; focus (dsimp only; omega)) | with_reducible apply Rk.alloc2)); with_reducible exact HK))).mono ?_)); rintro e1 w1 ⟨r, rfl, hr0, hr1, hC, HK1⟩; replace C := C.then_sets hC (by ((repeat (first | with_reducible (refine Chg.set2 ?_ ?_); focus (exact Or.inr (by dsimp only; omega)) | with_reducible refine Chg.alloc2 ?_)); with_reducible exact C)); replace HK := HK1; clear HK1; replace G2 := hC.keep (b := w.heap.size) (by (repeat (first | with_reducible apply hg_here | (with_reducible apply hg_set; focus (dsimp only; omega)) | with_reducible apply hg_alloc)); with_reducible exact G2) (by simp; omega); (try clear g2 gf2); obtain ⟨g2, gf2⟩ := cellsK G2; have l2 := heap_lt G2; replace G3 := hC.keep (b := w4.heap.size) (by (repeat (first | with_reducible apply hg_here | (with_reducible apply hg_set; focus (dsimp only; omega)) | with_reducible apply hg_alloc)); with_reducible exact G3) (by simp; omega); (try clear g3 gf3); obtain ⟨g3, gf3⟩ := cellsK G3; have l3 := heap_lt G3; have G5 := hC.keep (b := w5.heap.size) (hg_new (by simp)) (by simp; omega); (try clear g5 gf5); obtain ⟨g5, gf5⟩ := cellsK G5; have l5 := heap_lt G5; clear hC); rcases (show r = 0 ∨ r = 1 ∨ r = 2 by have := hr1 (by omega); omega) with rfl | rfl | rfl)
    | ((go_at_call 43; ((with_reducible refine (pick_k R 2 _ (by ((repeat (first | (with_reducible apply Rk.set2; focus (dsimp only; omega)) | with_reducible apply Rk.alloc2)); with_reducible exact HK))).mono ?_)); rintro e1 w1 ⟨r, rfl, hr0, hr1, hC, HK1⟩; replace C := C.then_sets hC (by ((repeat (first | with_reducible (refine Chg.set2 ?_ ?_); focus (exact Or.inr (by dsimp only; omega)) | with_reducible refine Chg.alloc2 ?_)); with_reducible exact C)); replace HK := HK1; clear HK1; replace G2 := hC.keep (b := w.heap.size) (by (repeat (first | with_reducible apply hg_here | (with_reducible apply hg_set; focus (dsimp only; omega)) | with_reducible apply hg_alloc)); with_reducible exact G2) (by simp; omega); (try clear g2 gf2); obtain ⟨g2, gf2⟩ := cellsK G2; have l2 := heap_lt G2; replace G3 := hC.keep (b := w4.heap.size) (by (repeat (first | with_reducible apply hg_here | (with_reducible apply hg_set; focus (dsimp only; omega)) | with_reducible apply hg_alloc)); with_reducible exact G3) (by simp; omega); (try clear g3 gf3); obtain ⟨g3, gf3⟩ := cellsK G3; have l3 := heap_lt G3; have G5 := hC.keep (b := w5.heap.size) (hg_new (by simp)) (by simp; omega); (try clear g5 gf5); obtain ⟨g5, gf5⟩ := cellsK G5; have l5 := heap_lt G5; clear hC); rcases (show r = 0 ∨ r = 1 by have := hr1 (by omega); omega) with rfl | rfl))
  all_goals
    refine bodyPost_ret (by simp [results, Try.results98, go_sem, g2, gf2, g3, gf3]; exact ⟨rfl, rfl, rfl, rfl⟩) rfl ⟨_, rfl, (by ((repeat (first | with_reducible (refine Chg.set2 ?_ ?_); focus (exact Or.inr (by dsimp only; omega)) | with_reducible refine Chg.alloc2 ?_)); with_reducible exact C)), Rk.less (by ((repeat (first | (with_reducible apply Rk.set2; focus (dsimp only; omega)) | with_reducible apply Rk.alloc2)); with_reducible exact HK)) (by omega), ⟨_, _, _, _⟩, rfl⟩

theorem FlashAt.chg {c : SC} {w w' : World} {f : List Block} {L : List Nat} (h : FlashAt c w f) (hx : Chg L w w') (hL : ∀ b ∈ c.fl, b ∉ L) : FlashAt c w' f := h.keep fun b hb => hx.block b (h.lt b hb) (hL b hb)
theorem FlashAt.set2 {c : SC} {w : World} {f : List Block} {p : Addr} {u : Value} (hp : p.block ∉ c.fl) (h : FlashAt c w f) : FlashAt c (w.setCell p u) f := h.keep fun b hb => Below.heap_setCell _ _ _ _ (by rintro rfl; exact hp hb)
theorem FlashAt.alloc2 {c : SC} {w : World} {f : List Block} {o : Obj} (h : FlashAt c w f) : FlashAt c (w.alloc o) f := h.ext (ext_alloc (ext_refl _) _)
end Go.Bu
