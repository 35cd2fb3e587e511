/- Small steps of the walks: what a block holds behind allocations, stores and calls. -/
import Derived.Test.YtcainddboblpbaaOwn2
import Derived.Handy
set_option linter.unusedVariables false
set_option linter.unusedSimpArgs false
namespace Go.Bu
open Go Go.RowKit Go.Plan Go.Proofs

theorem hg_set {w : World} {a : Addr} {v : Value} {b : Nat} {o : Obj} (hb : b ≠ a.block) (h : w.heap[b]? = some o) : (w.setCell a v).heap[b]? = some o := by rw [Below.heap_setCell _ _ _ _ hb]; exact h
theorem hg_here {w : World} {b k : Nat} {v : Value} {c : Array Value} {T : TypeId} {fr : Nat × Nat} (h : w.heap[b]? = some (.cells c T fr)) : (w.setCell ⟨b, k, none⟩ v).heap[b]? = some (.cells (c.setIfInBounds k v) T fr) := setCell_block h
theorem hg_alloc {w : World} {x : Obj} {b : Nat} {o : Obj} (h : w.heap[b]? = some o) : (w.alloc x).heap[b]? = some o := keep_ext (ext_alloc (ext_refl _) _) h
theorem hg_new {w : World} {x : Obj} {b : Nat} (h : b = w.heap.size) : (w.alloc x).heap[b]? = some x := alloc_get_new h

theorem hgo {w : World} {b : Nat} {o o' : Obj} (h : w.heap[b]? = some o) (e : o = o') : w.heap[b]? = some o' := by rw [h, e]

/-- the cells of a block, as a rule for the walk -/
theorem cellsK {w : World} {b : Nat} {c : Array Value} {T : TypeId} (h : w.heap[b]? = some (.cells c T (0, 0))) : (∀ j, w.cell? ⟨b, j, none⟩ = c[j]?) ∧ (∀ j, w.frozen? ⟨b, j, none⟩ = false) :=
  ⟨fun j => cell_block h j, fun j => frozen_block h j⟩

theorem foldl_drop {α σ : Type} (g : σ → α → σ) (s : σ) (xs : List α) (k : Nat) (h : k < xs.length) : (xs.drop k).foldl g s = (xs.drop (k + 1)).foldl g (g s xs[k]) := by
  rw [List.drop_eq_getElem_cons h, List.foldl_cons]
theorem foldl_end {α σ : Type} (g : σ → α → σ) (s : σ) (xs : List α) : (xs.drop xs.length).foldl g s = s := by rw [List.drop_length]; rfl

/-! ### a region that stores into one variable of the call's own, wherever the order lays the store -/
def SB (w : World) (B : Nat) (T : TypeId) (n : Nat) (w1 : World) : Prop := Chg [B] w w1 ∧ ∃ c, w1.heap[B]? = some (.cells c T (0, 0)) ∧ c.size = n

theorem SB.stab {w w1 w2 : World} {B T n : Nat} (h : SB w B T n w1) (hx : Ext w1 w2) : SB w B T n w2 := by
  obtain ⟨h1, c, h2, h3⟩ := h
  exact ⟨h1.trans (Chg.of_ext hx), c, keep_ext hx h2, h3⟩

section
variable {P : Program} {l : List Oper} {Q : Exit → Act → World → Prop} {ch L heads : List Nat} {lates : Lates} {tail : List Nat} {B0 : Nat} {S C : World → Prop} {iv : List (Nat × Nat)} {H : Nat} {a : Act}
  {fin : (World → Prop) → List (Nat × Nat) → Nat → Act → Prop}

theorem wp_region_st {w : World} (ch : List Nat) {B T : Nat} {c : Array Value} (hB : w.heap[B]? = some (.cells c T (0, 0))) (heads : List Nat) (lates : Lates) (tail : List Nat) {id : Nat} {a : Act} (hm : P.follows .mixedOrders = true)
    (hok : okPlan l ch heads (lates.map (·.1)) tail = true)
    (hlate : ∀ f ∈ lates, ∃ o, l[f.1]? = some o ∧ ∀ (a : Act) (w : World), (execOp a.eval o).run P w = .ok (.value (f.2.2 w.heap.size)) (w.alloc f.2.1))
    (h : Rob P l ch w.heap.size (Fin P l Q w.heap.size lates tail) heads (SB w B T c.size) (fun _ => True) [] w.heap.size a) : (Code.region id l.toArray true).wp P Q a w :=
  wp_region_plan ch heads lates tail hm hok hlate (SB w B T c.size) ⟨Chg.of_ext (ext_drew w), c, hB, rfl⟩ (fun _ _ h1 h2 => h1.stab h2) h

/-- a step that yields a bool: each way for itself -/
theorem Rob.yB {i : Nat} {o : Oper} {b : Bool} (ho : l[i]? = some o) (hg : Region.wanted o (yielded l.toArray a.tmps) = true)
    (hy : ∀ w1, S w1 → H ≤ w1.heap.size → (execOp a.eval o).run P w1 = .ok (.value (.bool b)) w1) (ht : b = true → Rob P l ch B0 fin L S C iv H (a.put o.dst (.bool true))) (hf : b = false → Rob P l ch B0 fin L S C iv H (a.put o.dst (.bool false))) : Rob P l ch B0 fin (i :: L) S C iv H a := by
  cases b with
  | true => exact Rob.yg ho hg hy (ht rfl)
  | false => exact Rob.yg ho hg hy (hf rfl)

/-- the store itself -/
theorem Rob.st {w : World} {i B T n : Nat} {o : Oper} {ty : TypeId} {x y : Operand} {cells : Array Value} (ho : l[i]? = some o) (hc : ch.contains i = true) (hg : Region.wanted o (yielded l.toArray a.tmps) = true)
    (hop : o.op = .store ty x y) (hx : a.eval x = .pointer (some ⟨B, 0, none⟩)) (hy : a.eval y = .agg cells) (hi : (P.info? ty).map (·.size) = some cells.size) (h1 : cells.all (·.oneCell') = true) (hn : cells.size = n) (hB : B < B0)
    (h : ∀ lo hi, H ≤ lo → lo ≤ hi → Rob P l ch B0 fin L (fun w1 => SB w B T n w1 ∧ w1.heap[B]? = some (.cells cells T (0, 0))) (fun _ => True) (iv ++ [(lo, hi)]) hi (a.put o.dst undef)) :
    Rob P l ch B0 fin (i :: L) (SB w B T n) (fun _ => True) iv H a := by
  refine ⟨o, ho, .inr ⟨hc, hg, fun _ _ v w1 => v = undef ∧ w1.heap[B]? = some (.cells cells T (0, 0)), fun _ _ _ _ => True, ⟨fun lo hi v w1 w2 h hx => ⟨h.1, keep_ext hx h.2⟩, fun _ _ _ _ _ _ _ => trivial⟩, fun w1 hs _ hw => ?_, fun lo hi v h1 h2 ⟨_, ⟨hv, _⟩, _⟩ => ?_⟩⟩
  · obtain ⟨hC, c, hb, hcs⟩ := hs
    have hth : w1.there B 0 cells.size := fun j hj => by
      rw [Nat.zero_add, cell_block hb, frozen_block hb, Array.getElem?_eq_getElem (by omega)]; exact ⟨rfl, rfl⟩
    unfold RunTo execOp
    simp only [hop, hx, hy, Sem.run_bind, Sem.run_pure, run_storeAt_mid w1 B 0 ty cells hth hi h1, Result.andThen_ok]
    obtain ⟨c', g1, g2, g3⟩ := setAll_block cells.toList w1 0 c hb (by simp; omega)
    have hcc : c' = cells := by
      apply Array.ext_getElem?
      intro j
      rw [g3 j, if_pos (Nat.zero_le _)]; simp
    have hs2 : (w1.setCells B 0 cells.toList).heap[B]? = some (.cells cells T (0, 0)) := by subst hcc; exact g1
    have hbl := setAll_below B 0 (Nat.zero_le _) cells.toList w1 0
    refine ⟨⟨by rw [setAll_size]; exact Nat.le_refl _, fun b hb _ _ => setAll_other B (by omega) _ _ _⟩, ⟨hC.trans ⟨hbl.os, hbl.tape, hbl.output, hbl.size, fun k hk hn => setAll_other B (by simpa using hn) _ _ _⟩, cells, hs2, hn⟩, ⟨?_, hs2⟩, trivial⟩
    first | rfl | trivial
  · subst hv
    have := h lo hi h1 h2
    rw [show (fun w1 => SB w B T n w1 ∧ undef = undef ∧ w1.heap[B]? = some (.cells cells T (0, 0))) = (fun w1 => SB w B T n w1 ∧ w1.heap[B]? = some (.cells cells T (0, 0))) from funext fun w => by simp]
    exact this
end
end Go.Bu
