/- A region that draws its order, in the body of a loop over an iterator: the rule of Plan, carried over. -/
import Derived.Test.YtcainddboblpbaaPlan
import Derived.RangeFuncNested
import Derived.RangeFuncBound
import Derived.RangeFuncCalls
import Derived.RangeFuncLeaves
import Derived.OrdersIn
set_option linter.unusedVariables false
set_option linter.unusedSimpArgs false
namespace Go.Plan
open Go Go.RowKit

/-- the fence of a round of loop l, wide otherwise -/
abbrev Rnd (l : Nat) : Fence := Fence.wide.inRound l

def noDefer (ops : Array Oper) : Bool := ops.toList.all fun o => match o.op with | .defer _ => false | _ => true

theorem rows_in {P : Program} {l n : Nat} {row : String} {args : Array Value} {w : World} {R : Value → World → Prop} (h : Rows P row args w R) : RowsIn (Rnd l) n P row args w R := fun c cs _ => by
  obtain ⟨v, w', hR, hs⟩ := h c cs
  exact ⟨v, w', hR, stepsIn_wide.2 hs⟩
theorem calls_in {P : Program} {l n : Nat} {f : FuncId} {args : Array Value} {w : World} {R : Ending → World → Prop} (h : Calls P f args w R) : CallsIn (Rnd l) n P f args w R := CallsIn.inRound l (callsIn_wide.2 h)

/-- only the normal way out -/
def QN (K : Act → World → Prop) : Exit → Act → World → Prop
  | .normal, a, w => K a w
  | _, _, _ => False
theorem qn_mk {K : Act → World → Prop} {a : Act} {w : World} (h : K a w) : QN K .normal a w := h
theorem qn_out {K : Act → World → Prop} : ¬ LetsOut (QN K) := fun ⟨_, _, h⟩ => h

theorem oper_in {P : Program} {l n : Nat} {o : Oper} {a : Act} {w : World} {K K' : Act → World → Prop} {K0 : Act → World → Prop} {Q : Exit → Act → World → Prop} (hd : ∀ c, o.op ≠ .defer c) (hK : ∀ a w, K a w → K' a w)
    (h : o.wp P a w K (QN K0)) : o.wpIn (Rnd l) n P a w K' Q := by
  refine ⟨fun _ _ => trivial, ?_⟩
  rw [Oper.semAt_eq _ _ _ hd]
  unfold Oper.wp at h
  generalize (execOp a.eval o).run P w = r at *
  cases r with
  | ok x w' =>
    cases x <;> simp only [Oper.upon, Oper.uponIn] at h ⊢
    case value v => exact hK _ _ h
    case skip => exact hK _ _ h
    case defer d => exact hK _ _ h
    case enter f args => exact ⟨fun h => (by cases h), calls_in (Calls.mono h fun e w'' he => (by cases e <;> first | exact hK _ _ he | exact he.elim | exact (qn_out he).elim))⟩
    case row row args => exact ⟨fun h => (by cases h), rows_in (Rows.mono h fun _ _ he => hK _ _ he)⟩
  | halt x w' => cases x <;> simp only [Oper.upon, Oper.uponIn] at h ⊢ <;> exact h.elim

theorem any_in {P : Program} {l n : Nat} {md : Region.Mode} {ops : Array Oper} {Q : Exit → Act → World → Prop} (hd : noDefer ops = true) :
    ∀ (fuel : Nat) (listed : Array Bool) (a : Act) (w : World), wpAny P md ops (QN (Q .normal)) fuel listed a w → wpAnyIn (Rnd l) n P md ops Q fuel listed a w := by
  intro fuel
  induction fuel with
  | zero => exact fun _ _ _ h => h
  | succ fuel ih =>
    intro listed a w h
    refine ⟨h.1, fun i hi => ?_⟩
    have h1 := h.2 i hi
    unfold wpOp at h1
    unfold wpOpIn
    cases ho : ops[i]? with
    | none => rw [ho] at h1; exact ih _ _ _ h1
    | some o =>
      simp only [ho] at h1 ⊢
      have hdo : ∀ c, o.op ≠ .defer c := fun c e => by
        have hm : o ∈ ops.toList := by
          obtain ⟨hl, rfl⟩ := Array.getElem?_eq_some_iff.1 ho
          simp
        have := List.all_eq_true.1 hd o hm
        rw [e] at this; cases this
      by_cases hw : Region.wanted o (yielded ops a.tmps) = true
      · rw [if_pos hw] at h1 ⊢
        exact oper_in hdo (fun a w h => ih _ _ _ h) (h1.resolve_right fun h => qn_out h.2)
      · rw [if_neg hw] at h1 ⊢
        exact ⟨fun _ _ => trivial, ih _ _ _ h1⟩

section
variable {P : Program} {l : List Oper} {Q : Exit → Act → World → Prop} {lp n : Nat}

theorem wpIn_region_planM (ch heads : List Nat) (lates : Lates) (mid tail : List Nat) {id : Nat} {a : Act} {w : World} (hm : P.follows .mixedOrders = true)
    (hok : okPlanM l ch heads (lates.map (·.1)) mid tail = true) (hdf : noDefer l.toArray = true)
    (hlate : ∀ f ∈ lates, ∃ o, l[f.1]? = some o ∧ ∀ (a : Act) (w : World), (execOp a.eval o).run P w = .ok (.value (f.2.2 w.heap.size)) (w.alloc f.2.1))
    (S : World → Prop) (hS : S w.drew) (hst : ∀ w w', S w → Ext w w' → S w') (C : World → Prop) (hC : C w.drew) (hstC : ∀ w w', C w → Ext w w' → C w')
    (h : Rob P l ch w.heap.size (FinM P l (QN (Q .normal)) w.heap.size lates mid tail) heads S C [] w.heap.size a) : (Code.region id l.toArray true).wpIn (Rnd lp) n P Q a w := by
  obtain ⟨st, hSl, hT, hTo, hD⟩ := Static.of hok
  refine wpIn_region_any hm (any_in hdf _ _ _ _ ?_)
  have hun : ∀ i, ¬ On (Array.replicate l.toArray.size false) i := fun i => by
    unfold On; simp [Array.getD_eq_getD_getElem?, Array.getElem?_replicate]; split <;> simp
  refine rob_sound st hSl hT hTo hD hlate _ _ a w.drew [] heads S C [] w.heap.size a (fun _ => 0) ?_ ⟨rfl, h, by simp, fun i o _ hi => absurd hi (hun i), fun i hi => (by cases hi), fun i _ => hun i, fun i _ => hun i, hst, hS, hstC, hC, Nat.le_refl _, Nat.le_refl _, fun p hp => (by cases hp), rfl, rfl, fun t _ => rfl, fun f _ hf => absurd hf (hun _), fun f _ g _ hf => absurd hf (hun _)⟩
  unfold unl
  exact Nat.le_trans (List.length_filter_le _ _) (by simp)

theorem wpIn_region_ext (ch heads : List Nat) (lates : Lates) (tail : List Nat) {id : Nat} {a : Act} {w : World} (hm : P.follows .mixedOrders = true)
    (hok : okPlan l ch heads (lates.map (·.1)) tail = true) (hdf : noDefer l.toArray = true)
    (hlate : ∀ f ∈ lates, ∃ o, l[f.1]? = some o ∧ ∀ (a : Act) (w : World), (execOp a.eval o).run P w = .ok (.value (f.2.2 w.heap.size)) (w.alloc f.2.1))
    (h : Rob P l ch w.heap.size (Fin P l (QN (Q .normal)) w.heap.size lates tail) heads (Ext w) (fun _ => True) [] w.heap.size a) : (Code.region id l.toArray true).wpIn (Rnd lp) n P Q a w :=
  wpIn_region_planM ch heads lates [] tail hm hok hdf hlate (Ext w) (Below.refl _ _).drew (fun _ _ h1 h2 => ext_trans h1 h2) (fun _ => True) trivial (fun _ _ _ _ => trivial) h
end
end Go.Plan
