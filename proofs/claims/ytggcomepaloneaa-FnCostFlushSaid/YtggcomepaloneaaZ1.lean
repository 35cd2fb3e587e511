/- What lies in memory: slices of whatever elements, blocks of pages, stores; what stays as the world grows. An argument that can be read as data, opened: what lies in memory, in this family's own words. Memory that a call has made itself: slices whose blocks are known whole, so that they may be written; what is apart from what. The readers of bytes that the laws' inputs are drawn by: l6Open, pick; a world in which some blocks have turned. Drawn costs. Memory of a call's own that it writes in place: rows of plain elements, blocks of pages, stores; each write turns one block. Small steps of the walks: what a block holds behind allocations, stores and calls. Stores of a call's own, all their addresses named: what is read, and what each write in place leaves. The laws' own comparisons: eqRec, eqPage, eqPageS, eqBlock, eqBlockS, eqIntS, eqStore, eqStep, eqStepS, eqCost, eqEvent, eqEventS, eqPair, lqPages, lqFlash, lqInts, lqStore, lqPair, lqCost. -/
import Derived.OrdersHeld
import Derived.Below
import Derived.Tactics
import Derived.WalkKit
import Derived.Test.YtggcomepaloneaaProg
import Derived.ChangeArms
import Derived.ProofKit
import Derived.KernelRfl
import Derived.Deep.MidRow
import Derived.Laws.MakeOwn
import Derived.Lib.Hide
import Derived.Handy
set_option maxHeartbeats 2000000
set_option linter.unusedVariables false
set_option linter.unusedSimpArgs false
namespace Go.Plan
open Go.RowKit

/-- the world may only have grown: whatever stood is as it was -/
abbrev Ext (w w' : World) : Prop := Below w.heap.size w w'

/-- direct predecessors of an operation -/
def deps (o : Oper) : List Nat := (o.after.toList.filter (Region.binds .any)).map (·.on)

/-- the mask of all predecessors, given the masks of the operations before -/
def mask (acc : List Nat) (o : Oper) : Nat := (deps o).foldl (fun s j => s ||| (2 ^ j ||| acc.getD j 0)) 0

def masksFrom : List Nat → List Oper → List Nat
  | acc, [] => acc
  | acc, o :: l => masksFrom (acc ++ [mask acc o]) l

def masks (l : List Oper) : List Nat := masksFrom [] l

/-- D is closed under predecessors (of the operations of l) -/
def Closed (l : List Oper) (D : Nat → Prop) : Prop := ∀ i o, l[i]? = some o → D i → ∀ j ∈ deps o, D j

theorem fold_bit (acc : List Nat) (js : List Nat) : ∀ (s k : Nat), (js.foldl (fun s j => s ||| (2 ^ j ||| acc.getD j 0)) s).testBit k = true →
    s.testBit k = true ∨ ∃ j ∈ js, k = j ∨ (acc.getD j 0).testBit k = true := by
  induction js with
  | nil => intro s k h; exact .inl h
  | cons j js ih =>
    intro s k h
    rcases ih _ _ h with h | ⟨j', hj', h⟩
    · simp only [Nat.testBit_or, Bool.or_eq_true] at h
      rcases h with h | h | h
      · exact .inl h
      · rw [Nat.testBit_two_pow] at h
        exact .inr ⟨j, by simp, .inl (by have := of_decide_eq_true h; omega)⟩
      · exact .inr ⟨j, by simp, .inr h⟩
    · exact .inr ⟨j', by simp [hj'], h⟩

theorem masksFrom_ok (l : List Oper) (D : Nat → Prop) (hD : Closed l D) : ∀ (rest : List Oper) (acc : List Nat), acc.length + rest.length = l.length →
    (∀ k, rest[k]? = l[acc.length + k]?) →
    (∀ i o, i < acc.length → l[i]? = some o → (∀ j ∈ deps o, D j) → ∀ k, (acc.getD i 0).testBit k = true → D k) →
    ∀ i o, l[i]? = some o → (∀ j ∈ deps o, D j) → ∀ k, ((masksFrom acc rest).getD i 0).testBit k = true → D k := by
  intro rest
  induction rest with
  | nil =>
    intro acc hlen _ hacc i o ho
    have hi : i < l.length := (List.getElem?_eq_some_iff.1 ho).1
    exact hacc i o (by simp at hlen; omega) ho
  | cons r rest ih =>
    intro acc hlen hget hacc
    refine ih (acc ++ [mask acc r]) (by simp at hlen ⊢; omega) (fun k => by have := hget (k + 1); simp at this; rw [this]; congr 1; simp; omega) ?_
    intro i o hi ho hd k hk
    by_cases hia : i < acc.length
    · rw [List.getD_eq_getElem?_getD, List.getElem?_append_left hia, ← List.getD_eq_getElem?_getD] at hk
      exact hacc i o hia ho hd k hk
    · have hie : i = acc.length := by simp at hi; omega
      subst hie
      have hr : l[acc.length]? = some r := by have := hget 0; simpa using this.symm
      rw [hr] at ho
      obtain rfl := Option.some.inj ho
      simp only [List.getD_eq_getElem?_getD, List.getElem?_append_right (Nat.le_refl _), Nat.sub_self, List.getElem?_cons_zero, Option.getD_some] at hk
      rcases fold_bit acc (deps r) 0 k hk with h | ⟨j, hj, h⟩
      · simp at h
      · rcases h with rfl | h
        · exact hd _ hj
        · have hDj := hd j hj
          by_cases hja : j < acc.length
          · have hjl : j < l.length := by omega
            obtain ⟨oj, hoj⟩ : ∃ oj, l[j]? = some oj := ⟨l[j], List.getElem?_eq_getElem hjl⟩
            exact hacc j oj hja hoj (hD j oj hoj hDj) k h
          · rw [List.getD_eq_getElem?_getD, List.getElem?_eq_none (by omega)] at h
            simp at h

/-- what stands in the mask of a ready operation is in every closed set that holds the operation's direct predecessors -/
theorem masks_spec {l : List Oper} {D : Nat → Prop} (hD : Closed l D) {i : Nat} {o : Oper} (ho : l[i]? = some o) (hd : ∀ j ∈ deps o, D j) {k : Nat}
    (hk : ((masks l).getD i 0).testBit k = true) : D k :=
  masksFrom_ok l D hD l [] (by simp) (by simp) (by intro i o hi; simp at hi) i o ho hd k hk

section plan
variable {P : Program} {l : List Oper} {Q : Exit → Act → World → Prop}

/-- running one operation to a value and a world -/
def RunTo (P : Program) (o : Oper) (ρ : Operand → Value) (w : World) (R : Value → World → Prop) : Prop :=
  match (execOp ρ o).run P w with
  | .ok (.value v) w' => R v w'
  | .ok .skip w' => R undef w'
  | .ok (.enter f args) w' => Calls P f args w' fun e w'' => ∃ v, e = .returned v ∧ R v w''
  | .ok (.row row args) w' => Rows P row args w' R
  | _ => False

theorem RunTo.congr {o : Oper} {ρ ρ' : Operand → Value} {w : World} {R : Value → World → Prop} (e : execOp ρ o = execOp ρ' o) (h : RunTo P o ρ w R) : RunTo P o ρ' w R := by
  unfold RunTo at *; rw [← e]; exact h

theorem RunTo.wp {o : Oper} {a : Act} {w : World} {R : Value → World → Prop} {K : Act → World → Prop}
    (h : RunTo P o a.eval w R) (hK : ∀ v w', R v w' → K (a.put o.dst v) w') : o.wp P a w K Q := by
  unfold RunTo at h
  unfold Oper.wp
  generalize (execOp a.eval o).run P w = r at *
  cases r with
  | ok n w' =>
    cases n <;> simp only [Oper.upon] at h ⊢
    case value v => exact hK _ _ h
    case skip => exact hK _ _ h
    case enter f args => exact Calls.mono h fun e w'' ⟨v, he, hr⟩ => by subst he; exact hK _ _ hr
    case row row args => exact Rows.mono h fun v w'' hr => hK _ _ hr
  | halt x w' => exact h.elim

/-- the blocks that late operations may have made are left alone -/
structure Spare (B0 : Nat) (iv : List (Nat × Nat)) (w w' : World) : Prop where
  size : w.heap.size ≤ w'.heap.size
  same : ∀ b, B0 ≤ b → b < w.heap.size → (∀ p ∈ iv, b < p.1 ∨ p.2 ≤ b) → w'.heap[b]? = w.heap[b]?

theorem Spare.of_ext {B0 : Nat} {iv : List (Nat × Nat)} {w w' : World} (h : Ext w w') : Spare B0 iv w w' :=
  ⟨h.size, fun b _ hb _ => h.block b hb⟩

/-- the head operations, in an order in which each finds all that it needs -/
def Rob (P : Program) (l : List Oper) (ch : List Nat) (B0 : Nat) (fin : (World → Prop) → List (Nat × Nat) → Nat → Act → Prop) :
    List Nat → (World → Prop) → (World → Prop) → List (Nat × Nat) → Nat → Act → Prop
  | [], S, C, iv, H, a => fin (fun w => S w ∧ C w) iv H a
  | i :: L, S, C, iv, H, a => ∃ o, l[i]? = some o ∧
      ((∃ v, YieldsIf P l.toArray (fun w => S w ∧ H ≤ w.heap.size) o v a ∧ Rob P l ch B0 fin L S C iv H (a.put o.dst v)) ∨
       (ch.contains i = true ∧ Region.wanted o (yielded l.toArray a.tmps) = true ∧ ∃ Ψ C' : Nat → Nat → Value → World → Prop,
          ((∀ lo hi v w w', Ψ lo hi v w → Ext w w' → Ψ lo hi v w') ∧ (∀ lo hi v w w', C' lo hi v w → Ext w w' → C' lo hi v w')) ∧
          (∀ w, S w → C w → H ≤ w.heap.size → RunTo P o a.eval w fun v w' => Spare B0 iv w w' ∧ S w' ∧ Ψ w.heap.size w'.heap.size v w' ∧ C' w.heap.size w'.heap.size v w') ∧
          (∀ lo hi v, H ≤ lo → lo ≤ hi → (∃ w', Ψ lo hi v w' ∧ C' lo hi v w') → Rob P l ch B0 fin L (fun w => S w ∧ Ψ lo hi v w) (C' lo hi v) (iv ++ [(lo, hi)]) hi (a.put o.dst v))))

/-- a late operation: its number, the object that it lays, the value at its block's number -/
abbrev Lates := List (Nat × Obj × (Nat → Value))

def dstOf (l : List Oper) (i : Nat) : Option Tmp := (l[i]?).bind (·.dst)

def putLates (l : List Oper) (bl : Nat → Nat) : Lates → Act → Act
  | [], a => a
  | f :: fs, a => putLates l bl fs (a.put (dstOf l f.1) (f.2.2 (bl f.1)))

/-- a late operation that is there: where its block lies -/
structure LateAt (B0 : Nat) (iv : List (Nat × Nat)) (bl : Nat → Nat) (w : World) (f : Nat × Obj × (Nat → Value)) : Prop where
  ge : B0 ≤ bl f.1
  lt : bl f.1 < w.heap.size
  obj : w.heap[bl f.1]? = some f.2.1
  out : ∀ p ∈ iv, bl f.1 < p.1 ∨ p.2 ≤ bl f.1

def Fin (P : Program) (l : List Oper) (Q : Exit → Act → World → Prop) (B0 : Nat) (lates : Lates) (tail : List Nat) (S : World → Prop) (iv : List (Nat × Nat)) (H : Nat) (a : Act) : Prop :=
  ∀ w, S w → H ≤ w.heap.size → ∀ bl : Nat → Nat, (∀ f ∈ lates, LateAt B0 iv bl w f) → (∀ f ∈ lates, ∀ g ∈ lates, f.1 ≠ g.1 → bl f.1 ≠ bl g.1) →
    wpList P l.toArray Q (tail.filterMap (l[·]?)) (putLates l bl lates a) w

/-- behind the heads and the late ones: operations that yield where they stand, then the tail -/
def Mid (P : Program) (l : List Oper) (Q : Exit → Act → World → Prop) (tail : List Nat) : List Nat → Act → World → Prop
  | [], a, w => wpList P l.toArray Q (tail.filterMap (l[·]?)) a w
  | i :: M, a, w => ∃ o v, l[i]? = some o ∧ YieldsIf P l.toArray (· = w) o v a ∧ Mid P l Q tail M (a.put o.dst v) w

def FinM (P : Program) (l : List Oper) (Q : Exit → Act → World → Prop) (B0 : Nat) (lates : Lates) (mid tail : List Nat) (S : World → Prop) (iv : List (Nat × Nat)) (H : Nat) (a : Act) : Prop :=
  ∀ w, S w → H ≤ w.heap.size → ∀ bl : Nat → Nat, (∀ f ∈ lates, LateAt B0 iv bl w f) → (∀ f ∈ lates, ∀ g ∈ lates, f.1 ≠ g.1 → bl f.1 ≠ bl g.1) →
    Mid P l Q tail mid (putLates l bl lates a) w

/-- looked at by operation number i -/
def looks (l : List Oper) (i : Nat) : List Tmp := match l[i]? with | some o => o.looksAt l.toArray | none => []

def okHeads (l : List Oper) (ch : List Nat) : List Nat → List Nat → Bool
  | _, [] => true
  | pre, i :: L =>
    (match l[i]? with
     | some o => (deps o).all pre.contains && pre.all (fun c => !ch.contains c || ((masks l).getD i 0).testBit c)
     | none => false) && okHeads l ch (pre ++ [i]) L

def okTail (l : List Oper) : List Nat → List Nat → Bool
  | _, [] => true
  | pre, i :: L =>
    (match l[i]? with
     | some o => (deps o).all pre.contains && pre.all (fun c => ((masks l).getD i 0).testBit c)
     | none => false) && okTail l (pre ++ [i]) L

def okLates (l : List Oper) (heads : List Nat) : List Nat → Bool
  | [] => true
  | i :: L =>
    (match l[i]? with
     | some o => (deps o).all heads.contains && o.guard.isNone && (looks l i).isEmpty
     | none => false) && okLates l heads L

def okSlots (l : List Oper) (tl : List Nat) : Bool :=
  (List.range l.length).all fun i => (List.range l.length).all fun j =>
    match dstOf l j with
    | some d => (i == j || dstOf l i != some d) && (!(looks l i).contains d || ((masks l).getD i 0).testBit j || tl.contains j)
    | none => true

/-- what comes behind the heads and the late ones waits for all that may turn the world, and for the late ones -/
def okMid (l : List Oper) (ch heads lates rest : List Nat) : Bool := rest.all fun i => (heads.filter ch.contains ++ lates).all fun c => ((masks l).getD i 0).testBit c

def okTopo (l : List Oper) : List Nat → List Nat → Bool
  | _, [] => true
  | pre, i :: L => (match l[i]? with | some o => (deps o).all pre.contains | none => false) && okTopo l (pre ++ [i]) L

def okDeps (l : List Oper) : Bool := (List.range l.length).all fun i => match l[i]? with | some o => (deps o).all (· < i) | none => true

def okPlanM (l : List Oper) (ch heads lates mid tail : List Nat) : Bool :=
  let all := heads ++ lates ++ (mid ++ tail)
  (List.range l.length).all all.contains && all.all (· < l.length) && decide all.Nodup && okHeads l ch [] heads && okLates l heads lates && okMid l ch heads lates (mid ++ tail) &&
    okSlots l tail && Region.noSelect l.toArray && (okTail l (heads ++ lates ++ mid) tail && okTopo l (heads ++ lates) mid && okDeps l)

def okPlan (l : List Oper) (ch heads lates tail : List Nat) : Bool := okPlanM l ch heads lates [] tail
end plan

section sound
variable {P : Program} {l : List Oper} {Q : Exit → Act → World → Prop}

theorem okHeads_split {ch : List Nat} : ∀ {L pre : List Nat}, okHeads l ch pre L = true → ∀ L1 i L2, L = L1 ++ i :: L2 →
    ∃ o, l[i]? = some o ∧ (∀ j ∈ deps o, j ∈ pre ++ L1) ∧ ∀ c ∈ pre ++ L1, ch.contains c = true → ((masks l).getD i 0).testBit c = true := by
  intro L
  induction L with
  | nil => intro pre _ L1 i L2 h; simp at h
  | cons x L ih =>
    intro pre h L1 i L2 he
    simp only [okHeads, Bool.and_eq_true] at h
    cases L1 with
    | nil =>
      simp only [List.nil_append, List.cons.injEq] at he
      obtain ⟨rfl, rfl⟩ := he
      have h1 := h.1
      cases ho : l[x]? with
      | none => rw [ho] at h1; cases h1
      | some o =>
        rw [ho] at h1
        simp only [Bool.and_eq_true, List.all_eq_true, List.contains_eq_mem, decide_eq_true_eq, Bool.or_eq_true, Bool.not_eq_true', decide_eq_false_iff_not] at h1
        refine ⟨o, rfl, by simpa using h1.1, fun c hc hch => ?_⟩
        rcases h1.2 c (by simpa using hc) with h | h
        · simp at hch; exact absurd hch h
        · exact h
    | cons y L1 =>
      simp only [List.cons_append, List.cons.injEq] at he
      obtain ⟨rfl, rfl⟩ := he
      obtain ⟨o, ho, h1, h2⟩ := ih h.2 L1 i L2 rfl
      exact ⟨o, ho, by simpa [List.append_assoc] using h1, by simpa [List.append_assoc] using h2⟩

theorem okTail_split : ∀ {L pre : List Nat}, okTail l pre L = true → ∀ L1 i L2, L = L1 ++ i :: L2 →
    ∃ o, l[i]? = some o ∧ (∀ j ∈ deps o, j ∈ pre ++ L1) ∧ ∀ c ∈ pre ++ L1, ((masks l).getD i 0).testBit c = true := by
  intro L
  induction L with
  | nil => intro pre _ L1 i L2 h; simp at h
  | cons x L ih =>
    intro pre h L1 i L2 he
    simp only [okTail, Bool.and_eq_true] at h
    cases L1 with
    | nil =>
      simp only [List.nil_append, List.cons.injEq] at he
      obtain ⟨rfl, rfl⟩ := he
      have h1 := h.1
      cases ho : l[x]? with
      | none => rw [ho] at h1; cases h1
      | some o =>
        rw [ho] at h1
        simp only [Bool.and_eq_true, List.all_eq_true, List.contains_eq_mem, decide_eq_true_eq] at h1
        exact ⟨o, rfl, by simpa using h1.1, by simpa using h1.2⟩
    | cons y L1 =>
      simp only [List.cons_append, List.cons.injEq] at he
      obtain ⟨rfl, rfl⟩ := he
      obtain ⟨o, ho, h1, h2⟩ := ih h.2 L1 i L2 rfl
      exact ⟨o, ho, by simpa [List.append_assoc] using h1, by simpa [List.append_assoc] using h2⟩

theorem okLates_mem {heads : List Nat} : ∀ {L : List Nat}, okLates l heads L = true → ∀ i ∈ L, ∃ o, l[i]? = some o ∧ (∀ j ∈ deps o, j ∈ heads) ∧ o.guard = none ∧ looks l i = [] := by
  intro L
  induction L with
  | nil => intro _ i hi; cases hi
  | cons x L ih =>
    intro h i hi
    simp only [okLates, Bool.and_eq_true] at h
    rcases List.mem_cons.1 hi with rfl | hi
    · have h1 := h.1
      cases ho : l[i]? with
      | none => rw [ho] at h1; cases h1
      | some o =>
        rw [ho] at h1
        simp only [Bool.and_eq_true, List.all_eq_true, List.contains_eq_mem, decide_eq_true_eq, Option.isNone_iff_eq_none, List.isEmpty_iff] at h1
        exact ⟨o, rfl, h1.1.1, h1.1.2, h1.2⟩
    · exact ih h.2 i hi

/-- what is listed -/
def On (listed : Array Bool) (i : Nat) : Prop := listed.getD i false = true

theorem on_set {listed : Array Bool} {i j : Nat} (hi : i < listed.size) : On (listed.setIfInBounds i true) j ↔ (j = i ∨ On listed j) := by
  unfold On
  by_cases h : i = j
  · subst h; simp [Array.getD_eq_getD_getElem?, hi]
  · rw [getD_set_ne false h]
    constructor
    · exact .inr
    · rintro (rfl | h'); exact absurd rfl h; exact h'

theorem on_iff {listed : Array Bool} {i : Nat} (hi : i < listed.size) : listed.getD i true = false ↔ ¬ On listed i := by
  unfold On
  simp only [Array.getD_eq_getD_getElem?, Array.getElem?_eq_getElem hi, Option.getD_some]
  cases listed[i] <;> simp

/-- the number of operations that are still to come -/
def unl (l : List Oper) (listed : Array Bool) : Nat := ((List.range l.length).filter fun i => !listed.getD i false).length

theorem filter_lt {p q : Nat → Bool} (hpq : ∀ x, q x = true → p x = true) : ∀ (L : List Nat) (i : Nat), i ∈ L → p i = true → q i = false → (L.filter q).length < (L.filter p).length := by
  intro L
  have hle : ∀ L : List Nat, (L.filter q).length ≤ (L.filter p).length := by
    intro L
    induction L with
    | nil => simp
    | cons x L ih =>
      simp only [List.filter_cons]
      by_cases hq : q x = true
      · simp [hq, hpq x hq, ih]
      · simp only [hq, if_false, Bool.false_eq_true]
        by_cases hp : p x = true
        · simp only [hp, if_true, List.length_cons]; omega
        · simp only [hp, if_false, Bool.false_eq_true]; exact ih
  induction L with
  | nil => intro i hi; cases hi
  | cons x L ih =>
    intro i hi hp hq
    simp only [List.filter_cons]
    rcases List.mem_cons.1 hi with rfl | hi
    · simp only [hp, hq, if_true, Bool.false_eq_true, if_false, List.length_cons]
      have := hle L
      omega
    · have := ih i hi hp hq
      by_cases hq : q x = true
      · simp [hq, hpq x hq, this]
      · simp only [hq, if_false, Bool.false_eq_true]
        by_cases hp' : p x = true
        · simp only [hp', if_true, List.length_cons]; omega
        · simp only [hp', if_false, Bool.false_eq_true]; exact this

theorem unl_set {listed : Array Bool} (hs : listed.size = l.length) {i : Nat} (hi : i < l.length) (hn : ¬ On listed i) : unl l (listed.setIfInBounds i true) < unl l listed := by
  unfold unl
  have hil : i < listed.size := by omega
  refine filter_lt (fun x hx => ?_) _ i (List.mem_range.2 hi) ?_ ?_
  · have hx' : ¬ On (listed.setIfInBounds i true) x := by unfold On; simpa using hx
    rw [on_set hil] at hx'
    have : ¬ On listed x := fun h => hx' (.inr h)
    unfold On at this; simpa using this
  · unfold On at hn; simpa using hn
  · have : On (listed.setIfInBounds i true) i := (on_set hil).2 (.inl rfl)
    unfold On at this; simp at this ⊢; exact this

theorem unl_zero {listed : Array Bool} (h : unl l listed = 0) {i : Nat} (hi : i < l.length) : On listed i := by
  unfold unl at h
  rw [List.length_eq_zero_iff, List.filter_eq_nil_iff] at h
  have := h i (List.mem_range.2 hi)
  unfold On
  simpa using this

theorem ready_iff {listed : Array Bool} (hs : listed.size = l.length) {i : Nat} : i ∈ Region.ready .any l.toArray listed ↔ ¬ On listed i ∧ ∃ o, l[i]? = some o ∧ ∀ j ∈ deps o, On listed j := by
  rw [mem_ready]
  simp only [List.getElem?_toArray]
  constructor
  · rintro ⟨h0, o, ho, h⟩
    have hi : i < l.length := (List.getElem?_eq_some_iff.1 ho).1
    refine ⟨(on_iff (by omega)).1 h0, o, ho, fun j hj => ?_⟩
    unfold deps at hj
    obtain ⟨e, he, rfl⟩ := List.mem_map.1 hj
    obtain ⟨he1, he2⟩ := List.mem_filter.1 he
    exact h e (by simpa using he1) he2
  · rintro ⟨h0, o, ho, h⟩
    have hi : i < l.length := (List.getElem?_eq_some_iff.1 ho).1
    refine ⟨(on_iff (by omega)).2 h0, o, ho, fun e he hb => h e.on ?_⟩
    unfold deps
    exact List.mem_map.2 ⟨e, List.mem_filter.2 ⟨by simpa using he, hb⟩, rfl⟩

theorem closed_set {listed : Array Bool} (hs : listed.size = l.length) (hc : Closed l (On listed)) {i : Nat} {o : Oper} (ho : l[i]? = some o) (hd : ∀ j ∈ deps o, On listed j) :
    Closed l (On (listed.setIfInBounds i true)) := by
  have hi : i < l.length := (List.getElem?_eq_some_iff.1 ho).1
  intro k ok hk hon j hj
  rw [on_set (by omega)] at hon ⊢
  rcases hon with rfl | hon
  · rw [ho] at hk; obtain rfl := Option.some.inj hk; exact .inr (hd j hj)
  · exact .inr (hc k ok hk hon j hj)

/-- the tail: one way -/
theorem tail_run : ∀ (tl pre : List Nat) (fuel : Nat) (listed : Array Bool) (a : Act) (w : World),
    okTail l pre tl = true → listed.size = l.length → Closed l (On listed) → (∀ i, i < l.length → i ∈ pre ∨ i ∈ tl) → (∀ i ∈ pre, On listed i) → (∀ i ∈ tl, ¬ On listed i) → tl.Nodup → unl l listed ≤ fuel →
    wpList P l.toArray Q (tl.filterMap (l[·]?)) a w → wpAny P .any l.toArray Q fuel listed a w := by
  intro tl
  induction tl with
  | nil =>
    intro pre fuel listed a w _ hs _ hall hpre _ _ _ h
    have hr : Region.ready .any l.toArray listed = [] := by
      rw [List.eq_nil_iff_forall_not_mem]
      intro i hi
      rw [ready_iff hs] at hi
      obtain ⟨h0, o, ho, _⟩ := hi
      have hl := (List.getElem?_eq_some_iff.1 ho).1
      rcases hall i hl with h | h
      · exact h0 (hpre i h)
      · cases h
    exact wpAny_done hr h fuel
  | cons t tl ih =>
    intro pre fuel listed a w hok hs hc hall hpre hun hnd hu h
    obtain ⟨o, ho, hd, _⟩ := okTail_split hok [] t tl rfl
    have htl : t < l.length := (List.getElem?_eq_some_iff.1 ho).1
    have hnt := hun t (by simp)
    have hdl : ∀ j ∈ deps o, On listed j := fun j hj => hpre j (by simpa using hd j hj)
    have hready : t ∈ Region.ready .any l.toArray listed := (ready_iff hs).2 ⟨hnt, o, ho, hdl⟩
    have honly : ∀ i ∈ Region.ready .any l.toArray listed, i = t := by
      intro i hi
      obtain ⟨h0, oi, hoi, hdi⟩ := (ready_iff hs).1 hi
      have hil := (List.getElem?_eq_some_iff.1 hoi).1
      rcases hall i hil with h | h
      · exact absurd (hpre i h) h0
      · rcases List.mem_cons.1 h with h | h
        · exact h
        · obtain ⟨L1, L2, rfl⟩ := List.append_of_mem h
          obtain ⟨o', ho', _, hm⟩ := okTail_split hok (t :: L1) i L2 rfl
          rw [hoi] at ho'; obtain rfl := Option.some.inj ho'
          exact absurd (masks_spec hc hoi hdi (hm t (by simp))) hnt
    cases fuel with
    | zero =>
      have := unl_zero (l := l) (listed := listed) (by omega) htl
      exact absurd this hnt
    | succ fuel =>
      refine ⟨fun h0 => absurd (h0 ▸ hready) (List.not_mem_nil), fun i hi => ?_⟩
      obtain rfl := honly i hi
      have hnext : ∀ a w, wpList P l.toArray Q (tl.filterMap (l[·]?)) a w → wpAny P .any l.toArray Q fuel (listed.setIfInBounds i true) a w := by
        intro a w h
        have hil : i < listed.size := by omega
        simp only [okTail, Bool.and_eq_true] at hok
        refine ih (pre ++ [i]) fuel _ a w hok.2 (by simpa using hs) (closed_set hs hc ho hdl) ?_ ?_ ?_ (List.nodup_cons.1 hnd).2 ?_ h
        · intro k hk
          rcases hall k hk with h | h
          · exact .inl (by simp [h])
          · rcases List.mem_cons.1 h with rfl | h
            · exact .inl (by simp)
            · exact .inr h
        · intro k hk
          rw [on_set hil]
          rcases List.mem_append.1 hk with h | h
          · exact .inr (hpre k h)
          · exact .inl (by simpa using h)
        · intro k hk
          rw [on_set hil]
          rintro (rfl | h')
          · exact (List.nodup_cons.1 hnd).1 hk
          · exact hun k (by simp [hk]) h'
        · have := unl_set (l := l) hs htl hnt; omega
      have hfm : (i :: tl).filterMap (l[·]?) = o :: tl.filterMap (l[·]?) := by simp [ho]
      rw [hfm] at h
      unfold wpOp
      simp only [List.getElem?_toArray, ho]
      unfold wpList at h
      split
      · rename_i hw; rw [if_pos hw] at h
        exact h.imp (Oper.wp_mono hnext) id
      · rename_i hw; rw [if_neg hw] at h
        exact hnext _ _ h
end sound

section main
variable {P : Program} {l : List Oper} {Q : Exit → Act → World → Prop} {ch heads tail : List Nat} {lates : Lates} {B0 : Nat}

theorem okSlots_ne {tl : List Nat} (h : okSlots l tl = true) {i j : Nat} (hi : i < l.length) (hj : j < l.length) (hij : i ≠ j) {d : Tmp} (hd : dstOf l j = some d) : dstOf l i ≠ some d := by
  unfold okSlots at h
  rw [List.all_eq_true] at h
  have h1 := h i (List.mem_range.2 hi)
  rw [List.all_eq_true] at h1
  have h2 := h1 j (List.mem_range.2 hj)
  rw [hd] at h2
  simp only [Bool.and_eq_true, Bool.or_eq_true, beq_iff_eq, hij, false_or, bne_iff_ne] at h2
  exact h2.1

theorem okSlots_looks {tl : List Nat} (h : okSlots l tl = true) {i j : Nat} (hi : i < l.length) (hj : j < l.length) {d : Tmp} (hd : dstOf l j = some d) (hl : d ∈ looks l i) : ((masks l).getD i 0).testBit j = true ∨ j ∈ tl := by
  unfold okSlots at h
  rw [List.all_eq_true] at h
  have h1 := h i (List.mem_range.2 hi)
  rw [List.all_eq_true] at h1
  have h2 := h1 j (List.mem_range.2 hj)
  rw [hd] at h2
  simp only [Bool.and_eq_true, Bool.or_eq_true, Bool.not_eq_true', List.contains_eq_mem, decide_eq_false_iff_not, decide_eq_true_eq] at h2
  exact (or_assoc.1 h2.2).resolve_left (fun h => h hl)

/-- two acts that agree on all that the operation looks at -/
theorem same_on {o : Oper} (hs : ∀ cs b, o.op ≠ .select cs b) {a a' : Act} (h : ∀ t ∈ o.looksAt l.toArray, a'.tmps[t]? = a.tmps[t]?) :
    execOp a'.eval o = execOp a.eval o ∧ Region.wanted o (yielded l.toArray a'.tmps) = Region.wanted o (yielded l.toArray a.tmps) := by
  refine ⟨execOp_congr o hs fun x hx => ?_, ?_⟩
  · cases x with
    | tmp t =>
      have ht : t ∈ o.looksAt l.toArray := List.mem_append_left _ (List.mem_filterMap.2 ⟨.tmp t, by simpa using hx, rfl⟩)
      have := h t ht
      simp only [Act.eval, Array.getD_eq_getD_getElem?, this]
    | _ => rfl
  · unfold Region.wanted
    cases hg : o.guard with
    | none => rfl
    | some gw =>
      obtain ⟨g, want⟩ := gw
      have hy : yielded l.toArray a'.tmps g = yielded l.toArray a.tmps g := by
        unfold yielded
        cases ht : (l.toArray[g]?).bind (·.dst) with
        | none => rfl
        | some t =>
          have hm : t ∈ o.looksAt l.toArray := by
            refine List.mem_append_right _ ?_
            simp only [hg, ht, Option.toList_some, List.mem_singleton]
          simp only [Option.bind_some, h t hm]
      simp only [hy]

theorem put_get (a : Act) (d t : Tmp) (v : Value) : (a.put (some d) v).tmps[t]? = if t = d then (if d < a.tmps.size then some v else none) else a.tmps[t]? := by
  simp only [Act.put, Array.getElem?_setIfInBounds]
  by_cases h : d = t
  · subst h; simp
  · simp [h, Ne.symm h]

theorem put_size (a : Act) (d : Option Tmp) (v : Value) : (a.put d v).tmps.size = a.tmps.size := by
  cases d <;> simp [Act.put]

theorem put_defers' (a : Act) (d : Option Tmp) (v : Value) : (a.put d v).defers = a.defers := by
  cases d <;> rfl

structure Static (l : List Oper) (ch heads : List Nat) (lates : Lates) (tail : List Nat) : Prop where
  all : ∀ i, i < l.length → i ∈ heads ∨ i ∈ lates.map (·.1) ∨ i ∈ tail
  lt : ∀ i, i ∈ heads ∨ i ∈ lates.map (·.1) ∨ i ∈ tail → i < l.length
  nd : (heads ++ lates.map (·.1) ++ tail).Nodup
  okH : okHeads l ch [] heads = true
  okL : okLates l heads (lates.map (·.1)) = true
  okM : okMid l ch heads (lates.map (·.1)) tail = true
  okN : ∀ {i j : Nat}, i < l.length → j < l.length → i ≠ j → ∀ {d : Tmp}, dstOf l j = some d → dstOf l i ≠ some d
  okK : ∀ {i j : Nat}, i < l.length → j < l.length → ∀ {d : Tmp}, dstOf l j = some d → d ∈ looks l i → ((masks l).getD i 0).testBit j = true ∨ j ∈ tail
  sel : ∀ (j : Nat) (o : Oper) cs b, l[j]? = some o → o.op ≠ .select cs b

theorem Static.of {mid : List Nat} (h : okPlanM l ch heads (lates.map (·.1)) mid tail = true) :
    Static l ch heads lates (mid ++ tail) ∧ okSlots l tail = true ∧ okTail l (heads ++ lates.map (·.1) ++ mid) tail = true ∧ okTopo l (heads ++ lates.map (·.1)) mid = true ∧ okDeps l = true := by
  simp only [okPlanM, Bool.and_eq_true, List.all_eq_true, List.contains_eq_mem, decide_eq_true_eq, List.mem_range] at h
  obtain ⟨⟨⟨⟨⟨⟨⟨⟨h1, h2⟩, h3⟩, h4⟩, h5⟩, h6⟩, h7⟩, h8⟩, ⟨h9, h10⟩, h11⟩ := h
  exact ⟨⟨fun i hi => or_assoc.1 ((List.mem_append.1 (h1 i hi)).imp List.mem_append.1 id), fun i hi => h2 i (List.mem_append.2 ((or_assoc.2 hi).imp List.mem_append.2 id)), h3, h4, h5, h6, fun hi hj hij _ hd => okSlots_ne h7 hi hj hij hd, fun hi hj _ hd hl => (okSlots_looks h7 hi hj hd hl).imp id (List.mem_append_right _),
    fun j o cs b hj => Region.noSelect_spec h8 j o cs b (by simpa using hj)⟩, h7, h9, h10, h11⟩

/-- the state of a run somewhere in the region -/
structure Inv (P : Program) (l : List Oper) (ch heads : List Nat) (lates : Lates) (tail : List Nat) (B0 : Nat) (fin : (World → Prop) → List (Nat × Nat) → Nat → Act → Prop)
    (listed : Array Bool) (a' : Act) (w' : World) (pre rest : List Nat) (S C : World → Prop) (iv : List (Nat × Nat)) (H : Nat) (a : Act) (bl : Nat → Nat) : Prop where
  split : heads = pre ++ rest
  rob : Rob P l ch B0 fin rest S C iv H a
  siz : listed.size = l.length
  cl : Closed l (On listed)
  yld : ∀ i ∈ pre, ¬ On listed i → ∃ o v, l[i]? = some o ∧ YieldsIf P l.toArray (fun w => S w ∧ H ≤ w.heap.size) o v a ∧ ∀ d, o.dst = some d → d < a.tmps.size → a.tmps[d]? = some v
  restUn : ∀ i ∈ rest, ¬ On listed i
  tailUn : ∀ i ∈ tail, ¬ On listed i
  stab : ∀ w w', S w → Ext w w' → S w'
  hS : S w'
  stabC : ∀ w w', C w → Ext w w' → C w'
  hC : C w'
  hH : H ≤ w'.heap.size
  hB : B0 ≤ H
  hiv : ∀ p ∈ iv, p.2 ≤ H
  dfr : a'.defers = a.defers
  tsz : a'.tmps.size = a.tmps.size
  agree : ∀ t, (∀ j, j < l.length → dstOf l j = some t → (On listed j ∧ j ∈ heads) ∨ j ∈ tail) → a'.tmps[t]? = a.tmps[t]?
  late : ∀ f ∈ lates, On listed f.1 → LateAt B0 iv bl w' f ∧ ∀ d, dstOf l f.1 = some d → d < a'.tmps.size → a'.tmps[d]? = some (f.2.2 (bl f.1))
  lateNe : ∀ f ∈ lates, ∀ g ∈ lates, On listed f.1 → On listed g.1 → f.1 ≠ g.1 → bl f.1 ≠ bl g.1

variable {fin : (World → Prop) → List (Nat × Nat) → Nat → Act → Prop}

/-- the head operations up to some place are closed under predecessors -/
theorem Static.closed_pre (st : Static l ch heads lates tail) {pre rest : List Nat} (hs : heads = pre ++ rest) : ∀ i ∈ pre, ∃ o, l[i]? = some o ∧ ∀ j ∈ deps o, j ∈ pre := by
  intro i hi
  obtain ⟨L1, L2, rfl⟩ := List.append_of_mem hi
  obtain ⟨o, ho, hd, _⟩ := okHeads_split st.okH L1 i (L2 ++ rest) (by rw [hs]; simp)
  exact ⟨o, ho, fun j hj => by have := hd j hj; simp at this; simp [this]⟩

theorem Static.closedP (st : Static l ch heads lates tail) {pre rest : List Nat} (hs : heads = pre ++ rest) : Closed l (· ∈ pre) := by
  intro i o ho hi j hj
  obtain ⟨o', ho', hd⟩ := st.closed_pre hs i hi
  rw [ho] at ho'; obtain rfl := Option.some.inj ho'
  exact hd j hj

/-- what a head operation looks at is no slot of the region, or that of a head operation before it -/
theorem Static.looks_pre (st : Static l ch heads lates tail) {pre rest : List Nat} {i : Nat} (hs : heads = pre ++ i :: rest) {o : Oper} (ho : l[i]? = some o) {t : Tmp} (ht : t ∈ o.looksAt l.toArray)
    {j : Nat} (hj : j < l.length) (hd : dstOf l j = some t) (hjt : j ∉ tail) : j ∈ pre := by
  have hil := (List.getElem?_eq_some_iff.1 ho).1
  have hm := (st.okK hil hj hd (by unfold looks; rw [ho]; exact ht)).resolve_right hjt
  obtain ⟨o', ho', hdep, _⟩ := okHeads_split st.okH pre i rest (by rw [hs])
  rw [ho] at ho'; obtain rfl := Option.some.inj ho'
  exact masks_spec (st.closedP hs) ho (fun j hj => by simpa using hdep j hj) hm

/-- past the operations that yield whatever the world: what comes next is none, or one that may turn the world -/
def AtChain (P : Program) (l : List Oper) (ch : List Nat) (B0 : Nat) (fin : (World → Prop) → List (Nat × Nat) → Nat → Act → Prop) : List Nat → (World → Prop) → (World → Prop) → List (Nat × Nat) → Nat → Act → Prop
  | [], _, _, _, _, _ => True
  | i :: L, S, C, iv, H, a => ∃ o, l[i]? = some o ∧ ch.contains i = true ∧ Region.wanted o (yielded l.toArray a.tmps) = true ∧ ∃ Ψ C' : Nat → Nat → Value → World → Prop,
          ((∀ lo hi v w w', Ψ lo hi v w → Ext w w' → Ψ lo hi v w') ∧ (∀ lo hi v w w', C' lo hi v w → Ext w w' → C' lo hi v w')) ∧
          (∀ w, S w → C w → H ≤ w.heap.size → RunTo P o a.eval w fun v w' => Spare B0 iv w w' ∧ S w' ∧ Ψ w.heap.size w'.heap.size v w' ∧ C' w.heap.size w'.heap.size v w') ∧
          (∀ lo hi v, H ≤ lo → lo ≤ hi → (∃ w', Ψ lo hi v w' ∧ C' lo hi v w') → Rob P l ch B0 fin L (fun w => S w ∧ Ψ lo hi v w) (C' lo hi v) (iv ++ [(lo, hi)]) hi (a.put o.dst v))

theorem Static.head_tail (st : Static l ch heads lates tail) {i : Nat} (hi : i ∈ heads) : i ∉ tail := fun h =>
  (List.nodup_append.1 st.nd).2.2 i (by simp [hi]) i h rfl

theorem Static.head_late (st : Static l ch heads lates tail) {i : Nat} (hi : i ∈ heads) : i ∉ lates.map (·.1) := fun h =>
  (List.nodup_append.1 (List.nodup_append.1 st.nd).1).2.2 i hi i h rfl

theorem Static.late_tail (st : Static l ch heads lates tail) {i : Nat} (hi : i ∈ lates.map (·.1)) : i ∉ tail := fun h =>
  (List.nodup_append.1 st.nd).2.2 i (List.mem_append_right _ hi) i h rfl

theorem Static.not_mem (st : Static l ch heads lates tail) {pre rest : List Nat} {i : Nat} (hs : heads = pre ++ i :: rest) : i ∉ pre ∧ i ∉ rest := by
  have h1 : heads.Nodup := (List.nodup_append.1 (List.nodup_append.1 st.nd).1).1
  rw [hs] at h1
  have h2 := List.nodup_append.1 h1
  exact ⟨fun h => h2.2.2 i h i (by simp) rfl, (List.nodup_cons.1 h2.2.1).1⟩

/-- a yield stays one behind a put that it does not look at -/
theorem YieldsIf.put {S : World → Prop} {o : Oper} {v u : Value} {a : Act} {d : Option Tmp} (hs : ∀ cs b, o.op ≠ .select cs b) (h : YieldsIf P l.toArray S o v a)
    (hd : ∀ t, d = some t → t ∉ o.looksAt l.toArray) : YieldsIf P l.toArray S o v (a.put d u) := by
  have := same_on (l := l) hs (a := a) (a' := a.put d u) (fun t ht => by
    cases d with
    | none => rfl
    | some d => rw [put_get, if_neg (fun (e : t = d) => hd d rfl (e ▸ ht))])
  exact h.of_same this.1 this.2

theorem Inv.advance (st : Static l ch heads lates tail) {listed : Array Bool} {a' : Act} {w' : World} {bl : Nat → Nat} :
    ∀ (rest pre : List Nat) (S C : World → Prop) (iv : List (Nat × Nat)) (H : Nat) (a : Act), Inv P l ch heads lates tail B0 fin listed a' w' pre rest S C iv H a bl →
      ∃ pre rest a, Inv P l ch heads lates tail B0 fin listed a' w' pre rest S C iv H a bl ∧ AtChain P l ch B0 fin rest S C iv H a := by
  intro rest
  induction rest with
  | nil => exact fun pre S C iv H a h => ⟨pre, [], a, h, trivial⟩
  | cons i L ih =>
    intro pre S C iv H a h
    obtain ⟨o, ho, hr⟩ := h.rob
    rcases hr with ⟨v, hy, hrob⟩ | hr
    · have hil := (List.getElem?_eq_some_iff.1 ho).1
      have hnm := st.not_mem h.split
      have hdst : ∀ d, o.dst = some d → dstOf l i = some d := fun d hd => by unfold dstOf; rw [ho]; exact hd
      have hself : ∀ t, o.dst = some t → t ∉ o.looksAt l.toArray := fun t hd ht => hnm.1 (st.looks_pre h.split ho ht hil (hdst t hd) (st.head_tail (by rw [h.split]; simp)))
      refine ih (pre ++ [i]) S C iv H (a.put o.dst v) { h with split := by rw [h.split]; simp, rob := hrob, yld := ?_, restUn := fun k hk => h.restUn k (by simp [hk]), dfr := by rw [put_defers']; exact h.dfr, tsz := by rw [put_size]; exact h.tsz, agree := ?_ }
      · intro k hk hun
        rcases List.mem_append.1 hk with hk | hk
        · obtain ⟨ok, vk, hok, hyk, hvk⟩ := h.yld k hk hun
          have hkl := (List.getElem?_eq_some_iff.1 hok).1
          have hki : k ≠ i := fun e => hnm.1 (e ▸ hk)
          refine ⟨ok, vk, hok, YieldsIf.put (fun cs b => st.sel k ok cs b hok) hyk ?_, ?_⟩
          · intro t hd ht
            obtain ⟨L1, L2, hsp⟩ := List.append_of_mem hk
            have := st.looks_pre (pre := L1) (rest := L2 ++ i :: L) (by rw [h.split, hsp]; simp) hok ht hil (hdst t hd) (st.head_tail (by rw [h.split]; simp))
            exact hnm.1 (by rw [hsp]; simp [this])
          · intro d hd hlt
            rw [put_size] at hlt
            cases hod : o.dst with
            | none => exact hvk d hd hlt
            | some e =>
              rw [put_get, if_neg]
              · exact hvk d hd hlt
              · rintro rfl
                exact st.okN hkl hil hki (hdst _ hod) (by unfold dstOf; rw [hok]; exact hd)
        · obtain rfl : k = i := by simpa using hk
          refine ⟨o, v, ho, YieldsIf.put (fun cs b => st.sel k o cs b ho) hy hself, ?_⟩
          intro d hd hlt
          rw [put_size] at hlt
          rw [hd, put_get, if_pos rfl, if_pos hlt]
      · intro t ht
        rw [h.agree t ht]
        cases hod : o.dst with
        | none => rfl
        | some e =>
          rw [put_get, if_neg]
          rintro rfl
          rcases ht i hil (hdst _ hod) with h' | h'
          · exact h.restUn i (by simp) h'.1
          · exact st.head_tail (by rw [h.split]; simp) h'
    · exact ⟨pre, i :: L, a, h, o, ho, hr⟩
end main

section main2
variable {P : Program} {l : List Oper} {Q : Exit → Act → World → Prop} {ch heads tail : List Nat} {lates : Lates} {B0 : Nat}

theorem putLates_defers (bl : Nat → Nat) : ∀ (fs : Lates) (a : Act), (putLates l bl fs a).defers = a.defers
  | [], _ => rfl
  | f :: fs, a => by rw [putLates, putLates_defers bl fs, put_defers']

theorem putLates_size (bl : Nat → Nat) : ∀ (fs : Lates) (a : Act), (putLates l bl fs a).tmps.size = a.tmps.size
  | [], _ => rfl
  | f :: fs, a => by rw [putLates, putLates_size bl fs, put_size]

theorem putLates_get (bl : Nat → Nat) (hne : ∀ {i j : Nat}, i < l.length → j < l.length → i ≠ j → ∀ {d : Tmp}, dstOf l j = some d → dstOf l i ≠ some d) : ∀ (fs : Lates) (a : Act) (t : Tmp), (∀ f ∈ fs, f.1 < l.length) → (fs.map (·.1)).Nodup →
    ((∀ f ∈ fs, dstOf l f.1 ≠ some t) → (putLates l bl fs a).tmps[t]? = a.tmps[t]?) ∧
    (∀ f ∈ fs, dstOf l f.1 = some t → (putLates l bl fs a).tmps[t]? = if t < a.tmps.size then some (f.2.2 (bl f.1)) else none)
  | [], a, t, _, _ => ⟨fun _ => rfl, fun f hf => by cases hf⟩
  | f :: fs, a, t, hl, hnd => by
    have hnd' := List.nodup_cons.1 hnd
    obtain ⟨h1, h2⟩ := putLates_get bl hne fs (a.put (dstOf l f.1) (f.2.2 (bl f.1))) t (fun g hg => hl g (by simp [hg])) hnd'.2
    have hne' : dstOf l f.1 = some t → ∀ g ∈ fs, dstOf l g.1 ≠ some t := fun hd g hg =>
      hne (hl g (by simp [hg])) (hl f (by simp)) (fun e => hnd'.1 (List.mem_map.2 ⟨g, hg, e⟩)) hd
    refine ⟨fun h => ?_, fun g hg hd => ?_⟩
    · rw [putLates, h1 (fun g hg => h g (by simp [hg]))]
      cases hd : dstOf l f.1 with
      | none => rfl
      | some d => rw [put_get, if_neg (fun (e : t = d) => h f (by simp) (e ▸ hd))]
    · rw [putLates]
      rcases List.mem_cons.1 hg with rfl | hg
      · rw [h1 (hne' hd), hd, put_get, if_pos rfl]
      · rw [h2 g hg hd, put_size]

theorem act_ext {a b : Act} (h : a.defers = b.defers) (hs : a.tmps.size = b.tmps.size) (hg : ∀ t : Nat, a.tmps[t]? = b.tmps[t]?) : a = b := by
  obtain ⟨x, d⟩ := a
  obtain ⟨y, e⟩ := b
  simp only at h hs hg
  subst h
  have : x = y := Array.ext_getElem? hg
  subst this
  rfl

theorem exists_ready {listed : Array Bool} : ∀ (L pre : List Nat), (∀ L1 i L2, L = L1 ++ i :: L2 → ∃ o, l[i]? = some o ∧ ∀ j ∈ deps o, j ∈ pre ++ L1) → (∀ i ∈ pre, On listed i) → (∃ i ∈ L, ¬ On listed i) →
    ∃ i ∈ L, ¬ On listed i ∧ ∃ o, l[i]? = some o ∧ ∀ j ∈ deps o, On listed j := by
  intro L
  induction L with
  | nil => rintro pre _ _ ⟨i, hi, _⟩; cases hi
  | cons x L ih =>
    intro pre h hp he
    by_cases hx : On listed x
    · obtain ⟨i, hi, hn⟩ := he
      have hiL : i ∈ L := by
        rcases List.mem_cons.1 hi with rfl | h
        · exact absurd hx hn
        · exact h
      obtain ⟨k, hk, h1, h2⟩ := ih (pre ++ [x]) (fun L1 i L2 e => by
        obtain ⟨o, ho, hd⟩ := h (x :: L1) i L2 (by rw [e]; rfl)
        exact ⟨o, ho, fun j hj => by have := hd j hj; simp at this ⊢; exact this⟩) (fun i hi => by
        rcases List.mem_append.1 hi with hi | hi
        · exact hp i hi
        · obtain rfl : i = x := by simpa using hi
          exact hx) ⟨i, hiL, hn⟩
      exact ⟨k, by simp [hk], h1, h2⟩
    · obtain ⟨o, ho, hd⟩ := h [] x L rfl
      exact ⟨x, by simp, hx, o, ho, fun j hj => hp j (by simpa using hd j hj)⟩

theorem okTopo_split : ∀ {L pre : List Nat}, okTopo l pre L = true → ∀ L1 i L2, L = L1 ++ i :: L2 → ∃ o, l[i]? = some o ∧ ∀ j ∈ deps o, j ∈ pre ++ L1 := by
  intro L
  induction L with
  | nil => intro pre _ L1 i L2 h; simp at h
  | cons x L ih =>
    intro pre h L1 i L2 he
    simp only [okTopo, Bool.and_eq_true] at h
    cases L1 with
    | nil =>
      simp only [List.nil_append, List.cons.injEq] at he
      obtain ⟨rfl, rfl⟩ := he
      have h1 := h.1
      cases ho : l[x]? with
      | none => rw [ho] at h1; cases h1
      | some o =>
        rw [ho] at h1
        simp only [List.all_eq_true, List.contains_eq_mem, decide_eq_true_eq] at h1
        exact ⟨o, rfl, by simpa using h1⟩
    | cons y L1 =>
      simp only [List.cons_append, List.cons.injEq] at he
      obtain ⟨rfl, rfl⟩ := he
      obtain ⟨o, ho, h1⟩ := ih h.2 L1 i L2 rfl
      exact ⟨o, ho, by simpa [List.append_assoc] using h1⟩

theorem some_ready (hD : okDeps l = true) {listed : Array Bool} (hs : listed.size = l.length) : ∀ i, i < l.length → ¬ On listed i → Region.ready .any l.toArray listed ≠ [] := by
  intro i
  induction i using Nat.strongRecOn with
  | ind i ih =>
    intro hi hn
    by_cases hd : ∀ j ∈ deps l[i], On listed j
    · intro he
      have := (ready_iff hs).2 ⟨hn, l[i], List.getElem?_eq_getElem hi, hd⟩
      rw [he] at this; cases this
    · obtain ⟨j, hj⟩ := Classical.not_forall.1 hd
      obtain ⟨hj, hjn⟩ := Classical.not_imp.1 hj
      have h1 : j < i := by
        unfold okDeps at hD
        rw [List.all_eq_true] at hD
        have := hD i (List.mem_range.2 hi)
        rw [List.getElem?_eq_getElem hi] at this
        exact of_decide_eq_true (List.all_eq_true.1 this j hj)
      exact ih j h1 (by omega) hjn

/-- all that may turn the world has come; what is still to come, but for the tail, yields where it stands -/
structure Pend (P : Program) (l : List Oper) (tl : List Nat) (w : World) (listed : Array Bool) (a' A : Act) : Prop where
  siz : listed.size = l.length
  cl : Closed l (On listed)
  yld : ∀ i o, l[i]? = some o → i ∉ tl → ¬ On listed i → ∃ v, YieldsIf P l.toArray (· = w) o v A ∧ ∀ d, o.dst = some d → d < A.tmps.size → A.tmps[d]? = some v
  tailUn : ∀ i ∈ tl, ¬ On listed i
  dfr : a'.defers = A.defers
  tsz : a'.tmps.size = A.tmps.size
  agree : ∀ t, (∀ j, j < l.length → dstOf l j = some t → On listed j ∨ j ∈ tl) → a'.tmps[t]? = A.tmps[t]?

theorem pend_run {tl : List Nat} (hS : okSlots l tl = true) (hD : okDeps l = true) (hsel : ∀ (j : Nat) (o : Oper) cs b, l[j]? = some o → o.op ≠ .select cs b) {pre : List Nat} (hT : okTail l pre tl = true)
    (hall : ∀ i, i < l.length → i ∈ pre ∨ i ∈ tl) (hlt : ∀ i ∈ pre, i < l.length) (hnd : tl.Nodup) :
    ∀ (fuel : Nat) (listed : Array Bool) (a' A : Act) (w : World), unl l listed ≤ fuel → Pend P l tl w listed a' A → wpList P l.toArray Q (tl.filterMap (l[·]?)) A w → wpAny P .any l.toArray Q fuel listed a' w := by
  have hend : ∀ (fuel : Nat) (listed : Array Bool) (a' A : Act) (w : World), unl l listed ≤ fuel → Pend P l tl w listed a' A → wpList P l.toArray Q (tl.filterMap (l[·]?)) A w → (∀ i ∈ pre, On listed i) → wpAny P .any l.toArray Q fuel listed a' w := by
    intro fuel listed a' A w hu h hw hd
    have ha : a' = A := act_ext h.dfr h.tsz fun t => h.agree t fun j hj _ => (hall j hj).imp (hd j) id
    subst ha
    exact tail_run tl pre fuel listed _ w hT h.siz h.cl hall hd h.tailUn hnd hu hw
  intro fuel
  induction fuel with
  | zero =>
    intro listed a' A w hu h hw
    exact hend _ _ _ _ _ hu h hw fun i hi => unl_zero (by omega) (hlt i hi)
  | succ fuel ih =>
    intro listed a' A w hu h hw
    by_cases hd : ∀ i ∈ pre, On listed i
    · exact hend _ _ _ _ _ hu h hw hd
    have hready : Region.ready .any l.toArray listed ≠ [] := by
      obtain ⟨i, hi⟩ := Classical.not_forall.1 hd
      obtain ⟨hi, hn⟩ := Classical.not_imp.1 hi
      exact some_ready hD h.siz i (hlt i hi) hn
    refine ⟨fun h0 => absurd h0 hready, fun i hi => ?_⟩
    obtain ⟨hun, o, ho, hdeps⟩ := (ready_iff h.siz).1 hi
    have hil := (List.getElem?_eq_some_iff.1 ho).1
    have hsz : i < listed.size := by rw [h.siz]; exact hil
    have hdst : ∀ d, o.dst = some d → dstOf l i = some d := fun d hd => by unfold dstOf; rw [ho]; exact hd
    by_cases hit : i ∈ tl
    · obtain ⟨L1, L2, hsp⟩ := List.append_of_mem hit
      obtain ⟨o', ho', _, hm⟩ := okTail_split hT L1 i L2 hsp
      rw [ho] at ho'; obtain rfl := Option.some.inj ho'
      exact absurd (fun k hk => masks_spec h.cl ho hdeps (hm k (by simp [hk]))) hd
    · have hlook : ∀ t ∈ o.looksAt l.toArray, a'.tmps[t]? = A.tmps[t]? := fun t ht => h.agree t fun j hj hdj =>
        (okSlots_looks hS hil hj hdj (by unfold looks; rw [ho]; exact ht)).imp (masks_spec h.cl ho hdeps) id
      obtain ⟨hex, hwt⟩ := same_on (fun cs b => hsel i o cs b ho) hlook
      obtain ⟨v, hy, hv⟩ := h.yld i o ho hit hun
      refine YieldsIf.wpOp (P := P) (ops := l.toArray) (S := (· = w)) (by simpa using ho) (hy.of_same hex hwt) rfl ?_
      have hu' : unl l (listed.setIfInBounds i true) ≤ fuel := by have := unl_set (l := l) h.siz hil hun; omega
      refine ih _ _ A w hu' ⟨by simpa using h.siz, closed_set h.siz h.cl ho hdeps, fun k ok hok hk hn => h.yld k ok hok hk fun hon => hn ((on_set hsz).2 (.inr hon)), ?_, by rw [put_defers']; exact h.dfr, by rw [put_size]; exact h.tsz, ?_⟩ hw
      · intro k hk hon
        rcases (on_set hsz).1 hon with rfl | hon
        · exact hit hk
        · exact h.tailUn k hk hon
      · intro t ht
        cases hod : o.dst with
        | none =>
          refine h.agree t fun j hj hd => ?_
          rcases ht j hj hd with h1 | h1
          · rcases (on_set hsz).1 h1 with rfl | h1
            · have : dstOf l j = none := by unfold dstOf; rw [ho]; exact hod
              rw [this] at hd; cases hd
            · exact .inl h1
          · exact .inr h1
        | some d =>
          rw [put_get]
          by_cases htd : t = d
          · subst htd
            rw [if_pos rfl]
            by_cases hlt : t < a'.tmps.size
            · rw [if_pos hlt, hv t hod (by rw [← h.tsz]; exact hlt)]
            · have hge : A.tmps.size ≤ t := by rw [← h.tsz]; exact Nat.not_lt.1 hlt
              rw [if_neg hlt, Array.getElem?_eq_none hge]
          · rw [if_neg htd]
            refine h.agree t fun j hj hd => ?_
            rcases ht j hj hd with h1 | h1
            · rcases (on_set hsz).1 h1 with rfl | h1
              · rw [hdst d hod] at hd; exact absurd (Option.some.inj hd).symm htd
              · exact .inl h1
            · exact .inr h1

theorem mid_adv {tl : List Nat} (hS : okSlots l tl = true) (hsel : ∀ (j : Nat) (o : Oper) cs b, l[j]? = some o → o.op ≠ .select cs b) {w : World} {listed : Array Bool} {a' : Act} :
    ∀ (M pre : List Nat) (A : Act), okTopo l pre M = true → Closed l (· ∈ pre) → (∀ i, i < l.length → i ∈ pre ∨ i ∈ M ++ tl) → (∀ i ∈ pre, i ∉ M ++ tl) → (M ++ tl).Nodup → Mid P l Q tl M A w → Pend P l (M ++ tl) w listed a' A →
      ∃ A', Pend P l tl w listed a' A' ∧ wpList P l.toArray Q (tl.filterMap (l[·]?)) A' w := by
  intro M
  induction M with
  | nil => exact fun pre A _ _ _ _ _ hm h => ⟨A, h, hm⟩
  | cons i M ih =>
    intro pre A htopo hcl hall hdis hnd hm h
    obtain ⟨o, v, ho, hy, hm⟩ := hm
    have hil := (List.getElem?_eq_some_iff.1 ho).1
    obtain ⟨o', ho', hdeps⟩ := okTopo_split htopo [] i M rfl
    rw [ho] at ho'; obtain rfl := Option.some.inj ho'
    rw [List.append_nil] at hdeps
    have hip : i ∉ pre := fun hi => hdis i hi (by simp)
    have hnd' := List.nodup_cons.1 (show (i :: (M ++ tl)).Nodup from hnd)
    have hdst : ∀ d, o.dst = some d → dstOf l i = some d := fun d hd => by unfold dstOf; rw [ho]; exact hd
    have hno : ∀ k ok, l[k]? = some ok → (∀ j ∈ deps ok, j ∈ pre) → ∀ t, o.dst = some t → t ∉ ok.looksAt l.toArray := fun k ok hok hd t ht hl =>
      hip (masks_spec hcl hok hd ((okSlots_looks hS (List.getElem?_eq_some_iff.1 hok).1 hil (hdst t ht) (by unfold looks; rw [hok]; exact hl)).resolve_right fun h1 => hnd'.1 (List.mem_append_right _ h1)))
    simp only [okTopo, Bool.and_eq_true] at htopo
    refine ih (pre ++ [i]) (A.put o.dst v) htopo.2 ?_ ?_ ?_ hnd'.2 hm ⟨h.siz, h.cl, ?_, fun k hk => h.tailUn k (by simp only [List.cons_append]; exact List.mem_cons_of_mem _ hk), by rw [put_defers']; exact h.dfr, by rw [put_size]; exact h.tsz, ?_⟩
    · intro k ok hok hk j hj
      rcases List.mem_append.1 hk with hk | hk
      · exact List.mem_append_left _ (hcl k ok hok hk j hj)
      · obtain rfl := List.mem_singleton.1 hk
        rw [ho] at hok; obtain rfl := Option.some.inj hok
        exact List.mem_append_left _ (hdeps j hj)
    · intro k hk
      rcases hall k hk with h1 | h1
      · exact .inl (List.mem_append_left _ h1)
      · rcases List.mem_cons.1 (show k ∈ i :: (M ++ tl) from h1) with rfl | h1
        · exact .inl (by simp)
        · exact .inr h1
    · intro k hk hkm
      rcases List.mem_append.1 hk with hk | hk
      · exact hdis k hk (by simp only [List.cons_append]; exact List.mem_cons_of_mem _ hkm)
      · obtain rfl := List.mem_singleton.1 hk
        exact hnd'.1 hkm
    · intro k ok hok hk hun
      have hkl := (List.getElem?_eq_some_iff.1 hok).1
      by_cases hki : k = i
      · subst hki
        rw [ho] at hok; obtain rfl := Option.some.inj hok
        refine ⟨v, YieldsIf.put (fun cs b => hsel k o cs b ho) hy (hno k o ho hdeps), fun d hd hlt => ?_⟩
        rw [put_size] at hlt
        rw [hd, put_get, if_pos rfl, if_pos hlt]
      · have hkp : k ∈ pre := by
          rcases hall k hkl with h1 | h1
          · exact h1
          · rcases List.mem_cons.1 (show k ∈ i :: (M ++ tl) from h1) with h1 | h1
            · exact absurd h1 hki
            · exact absurd h1 hk
        obtain ⟨u, hyk, hvk⟩ := h.yld k ok hok (by simp only [List.cons_append]; exact fun h1 => (List.mem_cons.1 h1).elim hki hk) hun
        refine ⟨u, YieldsIf.put (fun cs b => hsel k ok cs b hok) hyk (hno k ok hok (hcl k ok hok hkp)), fun d hd hlt => ?_⟩
        rw [put_size] at hlt
        cases hod : o.dst with
        | none => exact hvk d hd hlt
        | some e =>
          rw [put_get, if_neg]
          · exact hvk d hd hlt
          · rintro rfl
            exact okSlots_ne hS hkl hil hki (hdst _ hod) (by unfold dstOf; rw [hok]; exact hd)
    · intro t ht
      have hia := h.tailUn i (by simp)
      have hag := h.agree t fun j hj hd => (ht j hj hd).imp id fun h1 => by simp only [List.cons_append]; exact List.mem_cons_of_mem _ h1
      cases hod : o.dst with
      | none => exact hag
      | some d =>
        rw [put_get, if_neg]
        · exact hag
        · rintro rfl
          rcases ht i hil (hdst _ hod) with h1 | h1
          · exact hia h1
          · exact hnd'.1 h1

/-- all that may turn the world has come, and the late ones have -/
theorem heads_done {mid : List Nat} (st : Static l ch heads lates (mid ++ tail)) (hS : okSlots l tail = true) (hT : okTail l (heads ++ lates.map (·.1) ++ mid) tail = true) (hTo : okTopo l (heads ++ lates.map (·.1)) mid = true) (hD : okDeps l = true)
    {fuel : Nat} {listed : Array Bool} {a' : Act} {w' : World} {pre : List Nat} {S C : World → Prop} {iv : List (Nat × Nat)} {H : Nat} {a : Act} {bl : Nat → Nat}
    (hu : unl l listed ≤ fuel) (h : Inv P l ch heads lates (mid ++ tail) B0 (FinM P l Q B0 lates mid tail) listed a' w' pre [] S C iv H a bl) (hl : ∀ f ∈ lates, On listed f.1) :
    wpAny P .any l.toArray Q fuel listed a' w' := by
  have hfin : FinM P l Q B0 lates mid tail (fun w => S w ∧ C w) iv H a := h.rob
  have hm := hfin w' ⟨h.hS, h.hC⟩ h.hH bl (fun f hf => (h.late f hf (hl f hf)).1) (fun f hf g hg hne => h.lateNe f hf g hg (hl f hf) (hl g hg) hne)
  have hpre : heads = pre := by rw [h.split, List.append_nil]
  have hnd1 := (List.nodup_append.1 st.nd)
  have hnd : (lates.map (·.1)).Nodup := (List.nodup_append.1 hnd1.1).2.1
  have hmem : ∀ f ∈ lates, f.1 ∈ lates.map (·.1) := fun f hf => List.mem_map.2 ⟨f, hf, rfl⟩
  have hclH : Closed l (· ∈ heads) := st.closedP (pre := heads) (rest := []) (by simp)
  have hpg := fun t => putLates_get (l := l) bl st.okN lates a t (fun f hf => st.lt _ (.inr (.inl (hmem f hf)))) hnd
  have hp : Pend P l (mid ++ tail) w' listed a' (putLates l bl lates a) := by
    refine ⟨h.siz, h.cl, ?_, h.tailUn, by rw [putLates_defers]; exact h.dfr, by rw [putLates_size]; exact h.tsz, ?_⟩
    · intro i o ho hit hun
      have hil := (List.getElem?_eq_some_iff.1 ho).1
      have hih : i ∈ heads := by
        rcases st.all i hil with h1 | h1 | h1
        · exact h1
        · obtain ⟨f, hf, rfl⟩ := List.mem_map.1 h1; exact absurd (hl f hf) hun
        · exact absurd h1 hit
      obtain ⟨o', v, ho', hy, hv⟩ := h.yld i (hpre ▸ hih) hun
      rw [ho] at ho'; obtain rfl := Option.some.inj ho'
      have hy' : YieldsIf P l.toArray (· = w') o v a := hy.imp (fun ⟨h1, h2⟩ => ⟨h1, fun w hw => h2 w (hw ▸ ⟨h.hS, h.hH⟩)⟩) id
      obtain ⟨hex, hwt⟩ := same_on (l := l) (fun cs b => st.sel i o cs b ho) (a := a) (a' := putLates l bl lates a) (fun t ht => (hpg t).1 fun f hf hd => by
        have := masks_spec hclH ho (hclH i o ho hih) ((st.okK hil (st.lt _ (.inr (.inl (hmem f hf)))) hd (by unfold looks; rw [ho]; exact ht)).resolve_right (st.late_tail (hmem f hf)))
        exact st.head_late this (hmem f hf))
      refine ⟨v, hy'.of_same hex hwt, fun d hd hlt => ?_⟩
      rw [putLates_size] at hlt
      rw [(hpg d).1 fun f hf hdf => ?_]
      · exact hv d hd hlt
      · exact st.okN (st.lt _ (.inr (.inl (hmem f hf)))) hil (fun e => st.head_late hih (e ▸ hmem f hf)) (by unfold dstOf; rw [ho]; exact hd) hdf
    · intro t ht
      by_cases hx : ∃ f ∈ lates, dstOf l f.1 = some t
      · obtain ⟨f, hf, hd⟩ := hx
        rw [(hpg t).2 f hf hd]
        by_cases hlt : t < a.tmps.size
        · rw [if_pos hlt]; exact (h.late f hf (hl f hf)).2 t hd (by rw [h.tsz]; exact hlt)
        · rw [if_neg hlt]; exact Array.getElem?_eq_none (by rw [h.tsz]; exact Nat.not_lt.1 hlt)
      · rw [(hpg t).1 (fun f hf hd => hx ⟨f, hf, hd⟩)]
        refine h.agree t fun j hj hd => ?_
        rcases st.all j hj with h1 | h1 | h1
        · exact (ht j hj hd).imp (fun h2 => ⟨h2, h1⟩) id
        · obtain ⟨f, hf, rfl⟩ := List.mem_map.1 h1; exact absurd ⟨f, hf, hd⟩ hx
        · exact .inr h1
  have hclL : Closed l (· ∈ heads ++ lates.map (·.1)) := by
    intro i o ho hi j hj
    rcases List.mem_append.1 hi with hi | hi
    · exact List.mem_append_left _ (hclH i o ho hi j hj)
    · obtain ⟨o', ho', hd, _⟩ := okLates_mem st.okL i hi
      rw [ho] at ho'; obtain rfl := Option.some.inj ho'
      exact List.mem_append_left _ (hd j hj)
  obtain ⟨A', hpA, hwA⟩ := mid_adv hS st.sel mid (heads ++ lates.map (·.1)) _ hTo hclL (fun i hi => by
    rcases st.all i hi with h1 | h1 | h1
    · exact .inl (List.mem_append_left _ h1)
    · exact .inl (List.mem_append_right _ h1)
    · exact .inr h1) (fun i hi hm => hnd1.2.2 i hi i hm rfl) hnd1.2.1 hm hp
  refine pend_run hS hD st.sel hT (fun i hi => ?_) (fun i hi => ?_) (List.nodup_append.1 hnd1.2.1).2.1 fuel listed a' A' w' hu hpA hwA
  · rcases st.all i hi with h1 | h1 | h1
    · exact .inl (by simp [h1])
    · exact .inl (List.mem_append_left _ (List.mem_append_right _ h1))
    · rcases List.mem_append.1 h1 with h1 | h1
      · exact .inl (List.mem_append_right _ h1)
      · exact .inr h1
  · rcases List.mem_append.1 hi with hi | hi
    · exact st.lt i (or_assoc.1 (.inl (List.mem_append.1 hi)))
    · exact st.lt i (.inr (.inr (List.mem_append_left _ hi)))

theorem rob_sound {mid : List Nat} (st : Static l ch heads lates (mid ++ tail)) (hS : okSlots l tail = true) (hT : okTail l (heads ++ lates.map (·.1) ++ mid) tail = true) (hTo : okTopo l (heads ++ lates.map (·.1)) mid = true) (hD : okDeps l = true) (hlate : ∀ f ∈ lates, ∃ o, l[f.1]? = some o ∧ ∀ (a : Act) (w : World), (execOp a.eval o).run P w = .ok (.value (f.2.2 w.heap.size)) (w.alloc f.2.1)) :
    ∀ (fuel : Nat) (listed : Array Bool) (a' : Act) (w' : World) (pre rest : List Nat) (S C : World → Prop) (iv : List (Nat × Nat)) (H : Nat) (a : Act) (bl : Nat → Nat),
      unl l listed ≤ fuel → Inv P l ch heads lates (mid ++ tail) B0 (FinM P l Q B0 lates mid tail) listed a' w' pre rest S C iv H a bl → wpAny P .any l.toArray Q fuel listed a' w' := by
  intro fuel
  induction fuel with
  | zero =>
    intro listed a' w' pre rest S C iv H a bl hu h
    have hall : ∀ i, i < l.length → On listed i := fun i hi => unl_zero (by omega) hi
    cases rest with
    | nil => exact heads_done st hS hT hTo hD hu h (fun f hf => hall _ (st.lt _ (.inr (.inl (List.mem_map.2 ⟨f, hf, rfl⟩)))))
    | cons c L => exact absurd (hall c (st.lt c (.inl (by rw [h.split]; simp)))) (h.restUn c (by simp))
  | succ fuel ih =>
    intro listed a' w' pre0 rest0 S C iv H a0 bl hu h0
    obtain ⟨pre, rest, a, h, hch⟩ := Inv.advance st rest0 pre0 S C iv H a0 h0
    clear h0 a0 pre0 rest0
    by_cases hdone : rest = [] ∧ ∀ f ∈ lates, On listed f.1
    · obtain ⟨hre, hlo⟩ := hdone
      subst hre
      exact heads_done st hS hT hTo hD hu h hlo
    -- something is ready
    have hready : Region.ready .any l.toArray listed ≠ [] := by
      have hex : ∃ i, ¬ On listed i ∧ ∃ o, l[i]? = some o ∧ ∀ j ∈ deps o, On listed j := by
        by_cases hh : ∀ i ∈ heads, On listed i
        · have : ∃ f ∈ lates, ¬ On listed f.1 := by
            by_cases hx : ∃ f ∈ lates, ¬ On listed f.1
            · exact hx
            · exact absurd ⟨by
                cases hrs : rest with
                | nil => rfl
                | cons c L => exact absurd (hh c (by rw [h.split, hrs]; simp)) (h.restUn c (by rw [hrs]; simp)), fun f hf => Classical.byContradiction fun hc => hx ⟨f, hf, hc⟩⟩ hdone
          obtain ⟨f, hf, hn⟩ := this
          obtain ⟨o, ho, hd, _⟩ := okLates_mem st.okL f.1 (List.mem_map.2 ⟨f, hf, rfl⟩)
          exact ⟨f.1, hn, o, ho, fun j hj => hh j (hd j hj)⟩
        · have : ∃ i ∈ heads, ¬ On listed i := by
            refine Classical.byContradiction fun hc => hh fun i hi => Classical.byContradiction fun hn => hc ⟨i, hi, hn⟩
          obtain ⟨i, _, h1, h2⟩ := exists_ready heads [] (fun L1 i L2 e => by
            obtain ⟨o, ho, hd, _⟩ := okHeads_split st.okH L1 i L2 e
            exact ⟨o, ho, hd⟩) (fun i hi => by cases hi) this
          exact ⟨i, h1, h2⟩
      obtain ⟨i, h1, h2⟩ := hex
      intro he
      have := (ready_iff h.siz).2 ⟨h1, h2⟩
      rw [he] at this
      cases this
    refine ⟨fun h0 => absurd h0 hready, fun i hi => ?_⟩
    obtain ⟨hun, o, ho, hdeps⟩ := (ready_iff h.siz).1 hi
    have hil := (List.getElem?_eq_some_iff.1 ho).1
    have hdst : ∀ d, o.dst = some d → dstOf l i = some d := fun d hd => by unfold dstOf; rw [ho]; exact hd
    have hsz : i < listed.size := by rw [h.siz]; exact hil
    have hu' : unl l (listed.setIfInBounds i true) ≤ fuel := by have := unl_set (l := l) h.siz hil hun; omega
    have hcl' := closed_set h.siz h.cl ho hdeps
    rcases st.all i hil with hih | hil' | hit
    · -- a head operation
      have hlook : ∀ t ∈ o.looksAt l.toArray, a'.tmps[t]? = a.tmps[t]? := by
        intro t ht
        obtain ⟨L1, L2, hsp⟩ := List.append_of_mem hih
        refine h.agree t fun j hj hd => ?_
        by_cases hjt : j ∈ mid ++ tail
        · exact .inr hjt
        have hjp := st.looks_pre hsp ho ht hj hd hjt
        have hm := (st.okK hil hj hd (by unfold looks; rw [ho]; exact ht)).resolve_right hjt
        exact .inl ⟨masks_spec h.cl ho hdeps hm, by rw [hsp]; simp [hjp]⟩
      obtain ⟨hex, hwt⟩ := same_on (fun cs b => st.sel i o cs b ho) hlook
      rw [h.split] at hih
      rcases List.mem_append.1 hih with hp | hr
      · -- one that yields
        obtain ⟨o', v, ho', hy, hv⟩ := h.yld i hp hun
        rw [ho] at ho'; obtain rfl := Option.some.inj ho'
        have hy' := hy.of_same (a' := a') hex hwt
        refine YieldsIf.wpOp (P := P) (ops := l.toArray) (S := fun w => S w ∧ H ≤ w.heap.size) (by simpa using ho) hy' ⟨h.hS, h.hH⟩ ?_
        refine ih _ _ w' pre rest S C iv H a bl hu' { h with siz := by simpa using h.siz, cl := hcl', yld := ?_, restUn := ?_, tailUn := ?_, dfr := by rw [put_defers']; exact h.dfr, tsz := by rw [put_size]; exact h.tsz, agree := ?_, late := ?_, lateNe := ?_ }
        · intro k hk hn
          exact h.yld k hk (fun hon => hn ((on_set hsz).2 (.inr hon)))
        · intro k hk hon
          rcases (on_set hsz).1 hon with rfl | hon
          · have hnd : heads.Nodup := (List.nodup_append.1 (List.nodup_append.1 st.nd).1).1
            rw [h.split] at hnd
            exact (List.nodup_append.1 hnd).2.2 k hp k hk rfl
          · exact h.restUn k hk hon
        · intro k hk hon
          rcases (on_set hsz).1 hon with rfl | hon
          · exact st.head_tail (by rw [h.split]; simp [hp]) hk
          · exact h.tailUn k hk hon
        · intro t ht
          cases hod : o.dst with
          | none =>
            refine h.agree t fun j hj hd => ?_
            rcases ht j hj hd with ⟨h1, h2⟩ | h1
            · rcases (on_set hsz).1 h1 with rfl | h1
              · have : dstOf l j = none := by unfold dstOf; rw [ho]; exact hod
                rw [this] at hd; cases hd
              · exact .inl ⟨h1, h2⟩
            · exact .inr h1
          | some d =>
            rw [put_get]
            by_cases htd : t = d
            · subst htd
              rw [if_pos rfl]
              by_cases hlt : t < a'.tmps.size
              · rw [if_pos hlt, hv t hod (by rw [← h.tsz]; exact hlt)]
              · have hge : a.tmps.size ≤ t := by rw [← h.tsz]; exact Nat.not_lt.1 hlt
                rw [if_neg hlt, Array.getElem?_eq_none hge]
            · rw [if_neg htd]
              refine h.agree t fun j hj hd => ?_
              rcases ht j hj hd with ⟨h1, h2⟩ | h1
              · rcases (on_set hsz).1 h1 with rfl | h1
                · rw [hdst d hod] at hd; exact absurd (Option.some.inj hd).symm htd
                · exact .inl ⟨h1, h2⟩
              · exact .inr h1
        · intro f hf hon
          have hfi : f.1 ≠ i := fun e => st.head_late (by rw [h.split]; simp [hp]) (List.mem_map.2 ⟨f, hf, e⟩)
          have hon' : On listed f.1 := by rcases (on_set hsz).1 hon with e | e; exact absurd e hfi; exact e
          refine ⟨(h.late f hf hon').1, fun d hd hlt => ?_⟩
          rw [put_size] at hlt
          cases hod : o.dst with
          | none => exact (h.late f hf hon').2 d hd hlt
          | some e =>
            rw [put_get, if_neg]
            · exact (h.late f hf hon').2 d hd hlt
            · rintro rfl
              exact st.okN (st.lt _ (.inr (.inl (List.mem_map.2 ⟨f, hf, rfl⟩)))) hil hfi (hdst _ hod) hd
        · intro f hf g hg hf1 hg1 hne
          have hfi : ∀ f ∈ lates, f.1 ≠ i := fun f hf e => st.head_late (by rw [h.split]; simp [hp]) (List.mem_map.2 ⟨f, hf, e⟩)
          have hon' : ∀ f ∈ lates, On (listed.setIfInBounds i true) f.1 → On listed f.1 := fun f hf hon => by rcases (on_set hsz).1 hon with e | e; exact absurd e (hfi f hf); exact e
          exact h.lateNe f hf g hg (hon' f hf hf1) (hon' g hg hg1) hne
      · -- the next one that may turn the world
        cases rest with
        | nil => cases hr
        | cons c L =>
          obtain ⟨oc, hoc, hcc, hcw, Ψ, C', ⟨hst, hstC⟩, hrun, hnext⟩ := hch
          by_cases hic : i = c
          · subst hic
            rw [ho] at hoc; obtain rfl := Option.some.inj hoc
            have hnm := st.not_mem h.split
            have hrt := (hrun w' h.hS h.hC h.hH).congr hex.symm
            unfold wpOp
            simp only [List.getElem?_toArray, ho]
            rw [if_pos (hwt.trans hcw)]
            refine .inl (hrt.wp fun v w'' hv => ?_)
            obtain ⟨hsp, hS', hΨ, hC'⟩ := hv
            have hfi : ∀ f ∈ lates, f.1 ≠ i := fun f hf e => st.head_late (by rw [h.split]; simp) (List.mem_map.2 ⟨f, hf, e⟩)
            have hon' : ∀ f ∈ lates, On (listed.setIfInBounds i true) f.1 → On listed f.1 := fun f hf hon => by rcases (on_set hsz).1 hon with e | e; exact absurd e (hfi f hf); exact e
            have hself : ∀ t, o.dst = some t → t ∉ o.looksAt l.toArray := fun t hd ht => hnm.1 (st.looks_pre h.split ho ht hil (hdst t hd) (st.head_tail (by rw [h.split]; simp)))
            refine ih _ _ w'' (pre ++ [i]) L _ _ _ w''.heap.size (a.put o.dst v) bl hu' { split := by rw [h.split]; simp, rob := hnext w'.heap.size w''.heap.size v h.hH hsp.size ⟨w'', hΨ, hC'⟩, stabC := fun w1 w2 hc he => hstC _ _ _ w1 w2 hc he, hC := hC', siz := by simpa using h.siz, cl := hcl', yld := ?_, restUn := ?_, tailUn := ?_, stab := ?_, hS := ⟨hS', hΨ⟩, hH := Nat.le_refl _, hB := ?_, hiv := ?_, dfr := by rw [put_defers', put_defers']; exact h.dfr, tsz := by rw [put_size, put_size]; exact h.tsz, agree := ?_, late := ?_, lateNe := ?_ }
            · intro k hk hn
              rcases List.mem_append.1 hk with hk | hk
              · obtain ⟨ok, vk, hok, hyk, hvk⟩ := h.yld k hk (fun hon => hn ((on_set hsz).2 (.inr hon)))
                have hkl := (List.getElem?_eq_some_iff.1 hok).1
                have hki : k ≠ i := fun e => hnm.1 (e ▸ hk)
                refine ⟨ok, vk, hok, ?_, ?_⟩
                · have hyk' : YieldsIf P l.toArray (fun w => (S w ∧ Ψ w'.heap.size w''.heap.size v w) ∧ w''.heap.size ≤ w.heap.size) ok vk a :=
                    hyk.imp (fun ⟨h1, h2⟩ => ⟨h1, fun w hw => h2 w ⟨hw.1.1, Nat.le_trans h.hH (Nat.le_trans hsp.size hw.2)⟩⟩) id
                  refine YieldsIf.put (fun cs b => st.sel k ok cs b hok) hyk' ?_
                  intro t hd ht
                  obtain ⟨L1, L2, hsp'⟩ := List.append_of_mem hk
                  have := st.looks_pre (pre := L1) (rest := L2 ++ i :: L) (by rw [h.split, hsp']; simp) hok ht hil (hdst t hd) (st.head_tail (by rw [h.split]; simp))
                  exact hnm.1 (by rw [hsp']; simp [this])
                · intro d hd hlt
                  rw [put_size] at hlt
                  cases hod : o.dst with
                  | none => exact hvk d hd hlt
                  | some e =>
                    rw [put_get, if_neg]
                    · exact hvk d hd hlt
                    · rintro rfl
                      exact st.okN hkl hil hki (hdst _ hod) (by unfold dstOf; rw [hok]; exact hd)
              · obtain rfl : k = i := by simpa using hk
                exact absurd ((on_set hsz).2 (.inl rfl)) hn
            · intro k hk hon
              rcases (on_set hsz).1 hon with rfl | hon
              · exact hnm.2 hk
              · exact h.restUn k (by simp [hk]) hon
            · intro k hk hon
              rcases (on_set hsz).1 hon with rfl | hon
              · exact st.head_tail (by rw [h.split]; simp) hk
              · exact h.tailUn k hk hon
            · exact fun w1 w2 hs he => ⟨h.stab w1 w2 hs.1 he, hst _ _ _ w1 w2 hs.2 he⟩
            · exact Nat.le_trans h.hB (Nat.le_trans h.hH hsp.size)
            · intro p hp
              rcases List.mem_append.1 hp with hp | hp
              · exact Nat.le_trans (h.hiv p hp) (Nat.le_trans h.hH hsp.size)
              · obtain rfl : p = (w'.heap.size, w''.heap.size) := by simpa using hp
                exact Nat.le_refl _
            · intro t ht
              cases hod : o.dst with
              | none =>
                refine h.agree t fun j hj hd => ?_
                rcases ht j hj hd with ⟨h1, h2⟩ | h1
                · rcases (on_set hsz).1 h1 with rfl | h1
                  · have : dstOf l j = none := by unfold dstOf; rw [ho]; exact hod
                    rw [this] at hd; cases hd
                  · exact .inl ⟨h1, h2⟩
                · exact .inr h1
              | some d =>
                rw [put_get, put_get, h.tsz]
                by_cases htd : t = d
                · rw [if_pos htd, if_pos htd]
                · rw [if_neg htd, if_neg htd]
                  refine h.agree t fun j hj hd => ?_
                  rcases ht j hj hd with ⟨h1, h2⟩ | h1
                  · rcases (on_set hsz).1 h1 with rfl | h1
                    · rw [hdst d hod] at hd; exact absurd (Option.some.inj hd).symm htd
                    · exact .inl ⟨h1, h2⟩
                  · exact .inr h1
            · intro f hf hon
              obtain ⟨hla, hlv⟩ := h.late f hf (hon' f hf hon)
              refine ⟨⟨hla.ge, Nat.lt_of_lt_of_le hla.lt hsp.size, ?_, ?_⟩, fun d hd hlt => ?_⟩
              · rw [hsp.same _ hla.ge hla.lt hla.out]; exact hla.obj
              · intro p hp
                rcases List.mem_append.1 hp with hp | hp
                · exact hla.out p hp
                · obtain rfl : p = (w'.heap.size, w''.heap.size) := by simpa using hp
                  exact .inl hla.lt
              · rw [put_size] at hlt
                cases hod : o.dst with
                | none => exact hlv d hd hlt
                | some e =>
                  rw [put_get, if_neg]
                  · exact hlv d hd hlt
                  · rintro rfl
                    exact st.okN (st.lt _ (.inr (.inl (List.mem_map.2 ⟨f, hf, rfl⟩)))) hil (hfi f hf) (hdst _ hod) hd
            · exact fun f hf g hg hf1 hg1 hne => h.lateNe f hf g hg (hon' f hf hf1) (hon' g hg hg1) hne
          · -- a later head operation waits for it
            have hr' : i ∈ L := by
              rcases List.mem_cons.1 hr with e | e
              · exact absurd e hic
              · exact e
            obtain ⟨L1, L2, rfl⟩ := List.append_of_mem hr'
            obtain ⟨o', ho', _, hm⟩ := okHeads_split st.okH (pre ++ c :: L1) i L2 (by rw [h.split]; simp)
            rw [ho] at ho'; obtain rfl := Option.some.inj ho'
            exact absurd (masks_spec h.cl ho hdeps (hm c (by simp) hcc)) (h.restUn c (by simp))
    · -- a late operation
      obtain ⟨f, hf, rfl⟩ := List.mem_map.1 hil'
      obtain ⟨o', ho', hop⟩ := hlate f hf
      rw [ho] at ho'; obtain rfl := Option.some.inj ho'
      obtain ⟨o', ho', _, hg, _⟩ := okLates_mem st.okL f.1 hil'
      rw [ho] at ho'; obtain rfl := Option.some.inj ho'
      have hpre : ∀ k ∈ heads, k ≠ f.1 := fun k hk e => st.head_late (e ▸ hk) hil'
      unfold wpOp
      simp only [List.getElem?_toArray, ho]
      rw [if_pos (by simp [Region.wanted, hg])]
      refine .inl ?_
      unfold Oper.wp
      rw [hop]
      simp only [Oper.upon]
      have hext : Ext w' (w'.alloc f.2.1) := (Below.refl _ _).alloc (Nat.le_refl _) _
      have hszA : (w'.alloc f.2.1).heap.size = w'.heap.size + 1 := by simp
      have hnd : (lates.map (·.1)).Nodup := (List.nodup_append.1 (List.nodup_append.1 st.nd).1).2.1
      have huniq : ∀ g ∈ lates, g.1 = f.1 → g = f := fun g hg e => by
        obtain ⟨n, hn, rfl⟩ := List.mem_iff_getElem.1 hg
        obtain ⟨m, hm, rfl⟩ := List.mem_iff_getElem.1 hf
        have : n = m := (List.getElem_inj (i := n) (j := m) (h₀ := by simpa using hn) (h₁ := by simpa using hm) hnd).1 (by simpa using e)
        subst this; rfl
      refine ih _ _ _ pre rest S C iv H a (fun k => if k = f.1 then w'.heap.size else bl k) hu' { h with siz := by simpa using h.siz, cl := hcl', yld := ?_, restUn := ?_, tailUn := ?_, hS := h.stab _ _ h.hS hext, hC := h.stabC _ _ h.hC hext, hH := by rw [hszA]; exact Nat.le_succ_of_le h.hH, dfr := by rw [put_defers']; exact h.dfr, tsz := by rw [put_size]; exact h.tsz, agree := ?_, late := ?_, lateNe := ?_ }
      · intro k hk hn
        exact h.yld k hk (fun hon => hn ((on_set hsz).2 (.inr hon)))
      · intro k hk hon
        rcases (on_set hsz).1 hon with e | hon
        · exact hpre k (by rw [h.split]; simp [hk]) e
        · exact h.restUn k hk hon
      · intro k hk hon
        rcases (on_set hsz).1 hon with rfl | hon
        · exact st.late_tail hil' hk
        · exact h.tailUn k hk hon
      · intro t ht
        have hno : dstOf l f.1 ≠ some t := fun hd => by
          rcases ht f.1 hil hd with ⟨_, h2⟩ | h2
          · exact st.head_late h2 hil'
          · exact st.late_tail hil' h2
        have hag : a'.tmps[t]? = a.tmps[t]? := h.agree t fun j hj hd => by
          rcases ht j hj hd with ⟨h1, h2⟩ | h1
          · rcases (on_set hsz).1 h1 with e | h1
            · exact absurd e (hpre j h2)
            · exact .inl ⟨h1, h2⟩
          · exact .inr h1
        cases hod : o.dst with
        | none => exact hag
        | some d => rw [put_get, if_neg (fun (e : t = d) => hno (by rw [hdst d hod, e]))]; exact hag
      · intro g hg' hon
        by_cases hgf : g.1 = f.1
        · obtain rfl := huniq g hg' hgf
          refine ⟨⟨?_, ?_, ?_, ?_⟩, fun d hd hlt => ?_⟩
          · simp only [if_pos]; exact Nat.le_trans h.hB h.hH
          · simp only [if_pos, hszA]; omega
          · simp only [if_pos]; show (w'.heap.push g.2.1)[w'.heap.size]? = _; simp
          · intro p hp; simp only [if_pos]; exact .inr (Nat.le_trans (h.hiv p hp) h.hH)
          · rw [put_size] at hlt
            have hod : o.dst = some d := by unfold dstOf at hd; rw [ho] at hd; exact hd
            rw [hod, put_get, if_pos rfl, if_pos hlt]
            simp
        · have hon' : On listed g.1 := by rcases (on_set hsz).1 hon with e | e; exact absurd e hgf; exact e
          obtain ⟨hla, hlv⟩ := h.late g hg' hon'
          refine ⟨⟨?_, ?_, ?_, ?_⟩, fun d hd hlt => ?_⟩
          · simp only [if_neg hgf]; exact hla.ge
          · simp only [if_neg hgf, hszA]; exact Nat.lt_succ_of_lt hla.lt
          · simp only [if_neg hgf]; rw [hext.block _ hla.lt]; exact hla.obj
          · simp only [if_neg hgf]; exact hla.out
          · rw [put_size] at hlt
            simp only [if_neg hgf]
            cases hod : o.dst with
            | none => exact hlv d hd hlt
            | some e =>
              rw [put_get, if_neg]
              · exact hlv d hd hlt
              · rintro rfl
                exact st.okN (st.lt _ (.inr (.inl (List.mem_map.2 ⟨g, hg', rfl⟩)))) hil hgf (hdst _ hod) hd
      · intro g1 hg1 g2 hg2 hn1 hn2 hne
        have hon' : ∀ g ∈ lates, g.1 ≠ f.1 → On (listed.setIfInBounds f.1 true) g.1 → On listed g.1 := fun g _ hgf hon => by rcases (on_set hsz).1 hon with e | e; exact absurd e hgf; exact e
        by_cases h1 : g1.1 = f.1
        · by_cases h2 : g2.1 = f.1
          · exact absurd (h1.trans h2.symm) hne
          · simp only [if_pos h1, if_neg h2]
            have := (h.late g2 hg2 (hon' g2 hg2 h2 hn2)).1.lt
            omega
        · by_cases h2 : g2.1 = f.1
          · simp only [if_neg h1, if_pos h2]
            have := (h.late g1 hg1 (hon' g1 hg1 h1 hn1)).1.lt
            omega
          · simp only [if_neg h1, if_neg h2]
            exact h.lateNe g1 hg1 g2 hg2 (hon' g1 hg1 h1 hn1) (hon' g2 hg2 h2 hn2) hne
    · -- none of what comes behind is ready yet
      have hm : ∀ c, c ∈ heads.filter ch.contains ++ lates.map (·.1) → ((masks l).getD i 0).testBit c = true := fun c hc => List.all_eq_true.1 (List.all_eq_true.1 st.okM i hit) c hc
      refine absurd ⟨?_, fun f hf => masks_spec h.cl ho hdeps (hm f.1 (List.mem_append_right _ (List.mem_map.2 ⟨f, hf, rfl⟩)))⟩ hdone
      cases rest with
      | nil => rfl
      | cons c L =>
        obtain ⟨oc, hoc, hcc, _⟩ := hch
        exact absurd (masks_spec h.cl ho hdeps (hm c (List.mem_append_left _ (List.mem_filter.2 ⟨by rw [h.split]; simp, hcc⟩)))) (h.restUn c (by simp))

/-- A REGION THAT DRAWS ITS ORDER, WALKED ONCE: the head operations in the order 'heads' (those of 'ch' may turn the world), the operations 'lates', each of which lays one block, and last the 'tail'. -/
theorem wp_region_planM (ch heads : List Nat) (lates : Lates) (mid tail : List Nat) {id : Nat} {a : Act} {w : World} (hm : P.follows .mixedOrders = true)
    (hok : okPlanM l ch heads (lates.map (·.1)) mid tail = true)
    (hlate : ∀ f ∈ lates, ∃ o, l[f.1]? = some o ∧ ∀ (a : Act) (w : World), (execOp a.eval o).run P w = .ok (.value (f.2.2 w.heap.size)) (w.alloc f.2.1))
    (S : World → Prop) (hS : S w.drew) (hst : ∀ w w', S w → Ext w w' → S w') (C : World → Prop) (hC : C w.drew) (hstC : ∀ w w', C w → Ext w w' → C w')
    (h : Rob P l ch w.heap.size (FinM P l Q w.heap.size lates mid tail) heads S C [] w.heap.size a) : (Code.region id l.toArray true).wp P Q a w := by
  obtain ⟨st, hSl, hT, hTo, hD⟩ := Static.of hok
  refine wp_region_any hm ?_
  have hun : ∀ i, ¬ On (Array.replicate l.toArray.size false) i := fun i => by
    unfold On; simp [Array.getD_eq_getD_getElem?, Array.getElem?_replicate]; split <;> simp
  refine rob_sound st hSl hT hTo hD hlate _ _ a w.drew [] heads S C [] w.heap.size a (fun _ => 0) ?_ ⟨rfl, h, by simp, fun i o _ hi => absurd hi (hun i), fun i hi => (by cases hi), fun i _ => hun i, fun i _ => hun i, hst, hS, hstC, hC, Nat.le_refl _, Nat.le_refl _, fun p hp => (by cases hp), rfl, rfl, fun t _ => rfl, fun f _ hf => absurd hf (hun _), fun f _ g _ hf => absurd hf (hun _)⟩
  unfold unl
  exact Nat.le_trans (List.length_filter_le _ _) (by simp)

theorem wp_region_planC (ch heads : List Nat) (lates : Lates) (tail : List Nat) {id : Nat} {a : Act} {w : World} (hm : P.follows .mixedOrders = true)
    (hok : okPlan l ch heads (lates.map (·.1)) tail = true)
    (hlate : ∀ f ∈ lates, ∃ o, l[f.1]? = some o ∧ ∀ (a : Act) (w : World), (execOp a.eval o).run P w = .ok (.value (f.2.2 w.heap.size)) (w.alloc f.2.1))
    (S : World → Prop) (hS : S w.drew) (hst : ∀ w w', S w → Ext w w' → S w') (C : World → Prop) (hC : C w.drew) (hstC : ∀ w w', C w → Ext w w' → C w')
    (h : Rob P l ch w.heap.size (Fin P l Q w.heap.size lates tail) heads S C [] w.heap.size a) : (Code.region id l.toArray true).wp P Q a w :=
  wp_region_planM ch heads lates [] tail hm hok hlate S hS hst C hC hstC h

theorem wp_region_plan (ch heads : List Nat) (lates : Lates) (tail : List Nat) {id : Nat} {a : Act} {w : World} (hm : P.follows .mixedOrders = true)
    (hok : okPlan l ch heads (lates.map (·.1)) tail = true)
    (hlate : ∀ f ∈ lates, ∃ o, l[f.1]? = some o ∧ ∀ (a : Act) (w : World), (execOp a.eval o).run P w = .ok (.value (f.2.2 w.heap.size)) (w.alloc f.2.1))
    (S : World → Prop) (hS : S w.drew) (hst : ∀ w w', S w → Ext w w' → S w')
    (h : Rob P l ch w.heap.size (Fin P l Q w.heap.size lates tail) heads S (fun _ => True) [] w.heap.size a) : (Code.region id l.toArray true).wp P Q a w :=
  wp_region_planC ch heads lates tail hm hok hlate S hS hst (fun _ => True) trivial (fun _ _ _ _ => trivial) h
end main2

section steps
variable {P : Program} {l : List Oper} {Q : Exit → Act → World → Prop} {ch L : List Nat} {lates : Lates} {tail : List Nat} {B0 : Nat} {S C : World → Prop} {iv : List (Nat × Nat)} {H : Nat} {a : Act}
  {fin : (World → Prop) → List (Nat × Nat) → Nat → Act → Prop}

theorem ext_trans {w1 w2 w3 : World} (h1 : Ext w1 w2) (h2 : Ext w2 w3) : Ext w1 w3 := h1.trans (h2.mono h1.size)

/-- the rule, where all that is held at the start is that the world may only have grown -/
theorem wp_region_ext (ch heads : List Nat) (lates : Lates) (tail : List Nat) {id : Nat} {a : Act} {w : World} (hm : P.follows .mixedOrders = true)
    (hok : okPlan l ch heads (lates.map (·.1)) tail = true)
    (hlate : ∀ f ∈ lates, ∃ o, l[f.1]? = some o ∧ ∀ (a : Act) (w : World), (execOp a.eval o).run P w = .ok (.value (f.2.2 w.heap.size)) (w.alloc f.2.1))
    (h : Rob P l ch w.heap.size (Fin P l Q w.heap.size lates tail) heads (Ext w) (fun _ => True) [] w.heap.size a) : (Code.region id l.toArray true).wp P Q a w :=
  wp_region_plan ch heads lates tail hm hok hlate (Ext w) (Below.refl _ _).drew (fun _ _ h1 h2 => ext_trans h1 h2) h

/-- a step that yields -/
theorem Rob.y {i : Nat} {o : Oper} {v : Value} (ho : l[i]? = some o) (hg : o.guard = none)
    (hy : ∀ w1, S w1 → H ≤ w1.heap.size → (execOp a.eval o).run P w1 = .ok (.value v) w1) (h : Rob P l ch B0 fin L S C iv H (a.put o.dst v)) : Rob P l ch B0 fin (i :: L) S C iv H a :=
  ⟨o, ho, .inl ⟨v, .inl ⟨by simp [Region.wanted, hg], fun w hw => hy w hw.1 hw.2⟩, h⟩⟩

/-- a guarded step that yields -/
theorem Rob.yg {i : Nat} {o : Oper} {v : Value} (ho : l[i]? = some o) (hg : Region.wanted o (yielded l.toArray a.tmps) = true)
    (hy : ∀ w1, S w1 → H ≤ w1.heap.size → (execOp a.eval o).run P w1 = .ok (.value v) w1) (h : Rob P l ch B0 fin L S C iv H (a.put o.dst v)) : Rob P l ch B0 fin (i :: L) S C iv H a :=
  ⟨o, ho, .inl ⟨v, .inl ⟨hg, fun w hw => hy w hw.1 hw.2⟩, h⟩⟩

/-- a step that its guard passes over -/
theorem Rob.no {i : Nat} {o : Oper} (ho : l[i]? = some o) (hg : Region.wanted o (yielded l.toArray a.tmps) = false)
    (h : Rob P l ch B0 fin L S C iv H (a.put o.dst undef)) : Rob P l ch B0 fin (i :: L) S C iv H a :=
  ⟨o, ho, .inl ⟨undef, .inr ⟨hg, rfl⟩, h⟩⟩

/-- what a step that only makes memory leaves, of one value -/
def RetV (w1 : World) (v : Value) (v' : Value) (w' : World) : Prop := Ext w1 w' ∧ v' = v
/-- what a step that only makes memory leaves -/
def RetC (w1 : World) (Ψ : Nat → Nat → Value → World → Prop) (v : Value) (w' : World) : Prop := Ext w1 w' ∧ Ψ w1.heap.size w'.heap.size v w'

/-- a call that only makes memory: its contract says what it returns, and what of it stays true -/
theorem Rob.c {i : Nat} {o : Oper} (Ψ : Nat → Nat → Value → World → Prop) (ho : l[i]? = some o) (hc : ch.contains i = true) (hg : Region.wanted o (yielded l.toArray a.tmps) = true)
    (hS : ∀ w w', S w → Ext w w' → S w')
    (hst : ∀ lo hi v w w', Ψ lo hi v w → Ext w w' → Ψ lo hi v w')
    (hrun : ∀ w1, S w1 → H ≤ w1.heap.size → RunTo P o a.eval w1 (RetC w1 Ψ))
    (h : ∀ lo hi v, H ≤ lo → lo ≤ hi → (∃ w', Ψ lo hi v w') → Rob P l ch B0 fin L (fun w => S w ∧ Ψ lo hi v w) C (iv ++ [(lo, hi)]) hi (a.put o.dst v)) (hCs : ∀ w w', C w → Ext w w' → C w' := by exact fun _ _ h _ => h) : Rob P l ch B0 fin (i :: L) S C iv H a := by
  refine ⟨o, ho, .inr ⟨hc, hg, Ψ, fun _ _ _ => C, ⟨hst, fun _ _ _ => hCs⟩, fun w hs hcw hw => ?_, fun lo hi v h1 h2 ⟨w', hp, _⟩ => h lo hi v h1 h2 ⟨w', hp⟩⟩⟩
  have := hrun w hs hw
  unfold RunTo at *
  revert this
  generalize (execOp a.eval o).run P w = r
  cases r with
  | ok n w' =>
    cases n <;> intro this
    case value v => exact ⟨.of_ext this.1, hS _ _ hs this.1, this.2, hCs _ _ hcw this.1⟩
    case skip => exact ⟨.of_ext this.1, hS _ _ hs this.1, this.2, hCs _ _ hcw this.1⟩
    case enter f args => exact Calls.mono this fun e w'' ⟨v, he, h1, h2⟩ => ⟨v, he, .of_ext h1, hS _ _ hs h1, h2, hCs _ _ hcw h1⟩
    case row row args => exact Rows.mono this fun v w'' ⟨h1, h2⟩ => ⟨.of_ext h1, hS _ _ hs h1, h2, hCs _ _ hcw h1⟩
    all_goals exact this
  | halt x w' => exact fun h => h

/-- the same, where the call yields one value, whatever the world -/
theorem Rob.cv {i : Nat} {o : Oper} (v : Value) (ho : l[i]? = some o) (hc : ch.contains i = true) (hg : Region.wanted o (yielded l.toArray a.tmps) = true)
    (hS : ∀ w w', S w → Ext w w' → S w')
    (hrun : ∀ w1, S w1 → H ≤ w1.heap.size → RunTo P o a.eval w1 (RetV w1 v))
    (h : ∀ lo hi, H ≤ lo → lo ≤ hi → Rob P l ch B0 fin L S C (iv ++ [(lo, hi)]) hi (a.put o.dst v)) (hCs : ∀ w w', C w → Ext w w' → C w' := by exact fun _ _ h _ => h) : Rob P l ch B0 fin (i :: L) S C iv H a :=
  Rob.c (fun _ _ v' _ => v' = v) ho hc hg hS (fun _ _ _ _ _ h _ => h) hrun (fun lo hi v' h1 h2 ⟨_, e⟩ => by
    subst e
    rw [show (fun w => S w ∧ v' = v') = S from funext fun w => by simp]
    exact h lo hi h1 h2) hCs

theorem fin_nilC (h : ∀ w1, S w1 → C w1 → H ≤ w1.heap.size → Q .normal a w1) : Fin P l Q B0 [] [] (fun w => S w ∧ C w) iv H a :=
  fun w1 hs hh _ _ _ => h w1 hs.1 hs.2 hh
theorem fin_nil (h : ∀ w1, S w1 → H ≤ w1.heap.size → Q .normal a w1) : Fin P l Q B0 [] [] (fun w => S w ∧ C w) iv H a :=
  fun w1 hs hh _ _ _ => h w1 hs.1 hh

theorem fin_tailC (h : ∀ w1, S w1 → C w1 → H ≤ w1.heap.size → wpList P l.toArray Q (tail.filterMap (l[·]?)) a w1) : Fin P l Q B0 [] tail (fun w => S w ∧ C w) iv H a :=
  fun w1 hs hh _ _ _ => h w1 hs.1 hs.2 hh
theorem fin_tail (h : ∀ w1, S w1 → H ≤ w1.heap.size → wpList P l.toArray Q (tail.filterMap (l[·]?)) a w1) : Fin P l Q B0 [] tail (fun w => S w ∧ C w) iv H a :=
  fun w1 hs hh _ _ _ => h w1 hs.1 hh

theorem fin_one {f : Nat × Obj × (Nat → Value)} (h : ∀ w1 (b : Nat), S w1 → H ≤ w1.heap.size → B0 ≤ b → b < w1.heap.size → w1.heap[b]? = some f.2.1 → (∀ p ∈ iv, b < p.1 ∨ p.2 ≤ b) →
    wpList P l.toArray Q (tail.filterMap (l[·]?)) (a.put (dstOf l f.1) (f.2.2 b)) w1) : Fin P l Q B0 [f] tail (fun w => S w ∧ C w) iv H a :=
  fun w1 hs hh bl hl _ => h w1 (bl f.1) hs.1 hh (hl f (by simp)).ge (hl f (by simp)).lt (hl f (by simp)).obj (hl f (by simp)).out
theorem fin_oneC {f : Nat × Obj × (Nat → Value)} (h : ∀ w1 (b : Nat), S w1 → C w1 → H ≤ w1.heap.size → B0 ≤ b → b < w1.heap.size → w1.heap[b]? = some f.2.1 → (∀ p ∈ iv, b < p.1 ∨ p.2 ≤ b) →
    wpList P l.toArray Q (tail.filterMap (l[·]?)) (a.put (dstOf l f.1) (f.2.2 b)) w1) : Fin P l Q B0 [f] tail (fun w => S w ∧ C w) iv H a :=
  fun w1 hs hh bl hl _ => h w1 (bl f.1) hs.1 hs.2 hh (hl f (by simp)).ge (hl f (by simp)).lt (hl f (by simp)).obj (hl f (by simp)).out

theorem fin_two {f g : Nat × Obj × (Nat → Value)} (hfg : f.1 ≠ g.1) (h : ∀ w1 (b c : Nat), S w1 → H ≤ w1.heap.size → B0 ≤ b → b < w1.heap.size → w1.heap[b]? = some f.2.1 → (∀ p ∈ iv, b < p.1 ∨ p.2 ≤ b) →
    B0 ≤ c → c < w1.heap.size → w1.heap[c]? = some g.2.1 → (∀ p ∈ iv, c < p.1 ∨ p.2 ≤ c) → b ≠ c →
    wpList P l.toArray Q (tail.filterMap (l[·]?)) ((a.put (dstOf l f.1) (f.2.2 b)).put (dstOf l g.1) (g.2.2 c)) w1) : Fin P l Q B0 [f, g] tail (fun w => S w ∧ C w) iv H a :=
  fun w1 hs hh bl hl hne => h w1 (bl f.1) (bl g.1) hs.1 hh (hl f (by simp)).ge (hl f (by simp)).lt (hl f (by simp)).obj (hl f (by simp)).out (hl g (by simp)).ge (hl g (by simp)).lt (hl g (by simp)).obj (hl g (by simp)).out
    (hne f (by simp) g (by simp) hfg)

theorem fin_oneM {mid : List Nat} {f : Nat × Obj × (Nat → Value)} (h : ∀ w1 (b : Nat), S w1 → C w1 → H ≤ w1.heap.size → B0 ≤ b → b < w1.heap.size → w1.heap[b]? = some f.2.1 → (∀ p ∈ iv, b < p.1 ∨ p.2 ≤ b) →
    Mid P l Q tail mid (a.put (dstOf l f.1) (f.2.2 b)) w1) : FinM P l Q B0 [f] mid tail (fun w => S w ∧ C w) iv H a :=
  fun w1 hs hh bl hl _ => h w1 (bl f.1) hs.1 hs.2 hh (hl f (by simp)).ge (hl f (by simp)).lt (hl f (by simp)).obj (hl f (by simp)).out
theorem Mid.y {i : Nat} {M : List Nat} {o : Oper} {v : Value} {w : World} (ho : l[i]? = some o) (hg : o.guard = none) (hy : (execOp a.eval o).run P w = .ok (.value v) w) (h : Mid P l Q tail M (a.put o.dst v) w) : Mid P l Q tail (i :: M) a w :=
  ⟨o, v, ho, .inl ⟨by simp [Region.wanted, hg], fun _ e => e ▸ hy⟩, h⟩
theorem Mid.nil {w : World} (h : wpList P l.toArray Q (tail.filterMap (l[·]?)) a w) : Mid P l Q tail [] a w := h

/-- an operation that may write: S is what stays throughout, C what stands now -/
theorem Rob.w {i : Nat} {o : Oper} (Ψ C' : Nat → Nat → Value → World → Prop) (ho : l[i]? = some o) (hc : ch.contains i = true) (hg : Region.wanted o (yielded l.toArray a.tmps) = true)
    (hst : ∀ lo hi v w w', Ψ lo hi v w → Ext w w' → Ψ lo hi v w') (hstC : ∀ lo hi v w w', C' lo hi v w → Ext w w' → C' lo hi v w')
    (hrun : ∀ w1, S w1 → C w1 → H ≤ w1.heap.size → RunTo P o a.eval w1 fun v w' => Spare B0 iv w1 w' ∧ S w' ∧ Ψ w1.heap.size w'.heap.size v w' ∧ C' w1.heap.size w'.heap.size v w')
    (h : ∀ lo hi v, H ≤ lo → lo ≤ hi → (∃ w', Ψ lo hi v w' ∧ C' lo hi v w') → Rob P l ch B0 fin L (fun w => S w ∧ Ψ lo hi v w) (C' lo hi v) (iv ++ [(lo, hi)]) hi (a.put o.dst v)) : Rob P l ch B0 fin (i :: L) S C iv H a :=
  ⟨o, ho, .inr ⟨hc, hg, Ψ, C', ⟨hst, hstC⟩, hrun, h⟩⟩
end steps
end Go.Plan

set_option linter.unusedVariables false
set_option linter.unusedSimpArgs false
namespace Go.Bu
open Go Go.RowKit Go.Plan

theorem bcell {W w1 : World} (hb : Below W.heap.size W w1) : (∀ b o, b < W.heap.size → w1.cell? ⟨b, o, none⟩ = W.cell? ⟨b, o, none⟩) ∧ (∀ b o, b < W.heap.size → w1.frozen? ⟨b, o, none⟩ = W.frozen? ⟨b, o, none⟩) :=
  ⟨fun b o h => hb.cell (p := ⟨b, o, none⟩) h, fun b o h => hb.frozen (p := ⟨b, o, none⟩) h⟩

/-- what a call that only makes memory leaves: its value, the world grown -/
def Ret (w : World) (v : Value) (e : Ending) (w' : World) : Prop := e = .returned v ∧ Ext w w'
/-- a value of which something is known -/
def RetP (w : World) (Φ : Value → World → Prop) (e : Ending) (w' : World) : Prop := ∃ v, e = .returned v ∧ Ext w w' ∧ Φ v w'

theorem Ret.to {w w' : World} {v : Value} {e : Ending} (h : Ret w v e w') : ∃ v', e = .returned v' ∧ RetV w v v' w' := ⟨v, h.1, h.2, rfl⟩
theorem RetP.to {w w' : World} {Φ : Value → World → Prop} {e : Ending} (h : RetP w Φ e w') : ∃ v', e = .returned v' ∧ RetC w (fun _ _ => Φ) v' w' := h

theorem ext_refl (w : World) : Ext w w := Below.refl _ _
theorem ext_drew (w : World) : Ext w w.drew := (Below.refl _ _).drew
theorem ext_alloc {w w' : World} (h : Ext w w') (o : Obj) : Ext w (w'.alloc o) := h.alloc h.size o

/-- a call behind some new blocks of the caller's own: what the caller keeps -/
theorem after1 {w w1 : World} {o1 : Obj} (hx : Ext (w.alloc o1) w1) : (∀ b o, b < (w.alloc o1).heap.size → w1.cell? ⟨b, o, none⟩ = (w.alloc o1).cell? ⟨b, o, none⟩) ∧ (∀ b o, b < (w.alloc o1).heap.size → w1.frozen? ⟨b, o, none⟩ = (w.alloc o1).frozen? ⟨b, o, none⟩) ∧
    w.heap.size < w1.heap.size ∧ Ext w w1 :=
  ⟨(bcell hx).1, (bcell hx).2, by have := hx.size; simp at this; omega, ext_trans (ext_alloc (ext_refl _) _) hx⟩
theorem after2 {w w1 : World} {o1 o2 : Obj} (hx : Ext ((w.alloc o1).alloc o2) w1) : (∀ b o, b < ((w.alloc o1).alloc o2).heap.size → w1.cell? ⟨b, o, none⟩ = ((w.alloc o1).alloc o2).cell? ⟨b, o, none⟩) ∧
    (∀ b o, b < ((w.alloc o1).alloc o2).heap.size → w1.frozen? ⟨b, o, none⟩ = ((w.alloc o1).alloc o2).frozen? ⟨b, o, none⟩) ∧ w.heap.size < w1.heap.size ∧ w.heap.size + 1 < w1.heap.size ∧ Ext w w1 :=
  ⟨(bcell hx).1, (bcell hx).2, by have := hx.size; simp at this; omega, by have := hx.size; simp at this; omega, ext_trans (ext_alloc (ext_alloc (ext_refl _) _) _) hx⟩
theorem after3 {w w1 : World} {o1 o2 o3 : Obj} (hx : Ext (((w.alloc o1).alloc o2).alloc o3) w1) : (∀ b o, b < (((w.alloc o1).alloc o2).alloc o3).heap.size → w1.cell? ⟨b, o, none⟩ = (((w.alloc o1).alloc o2).alloc o3).cell? ⟨b, o, none⟩) ∧
    (∀ b o, b < (((w.alloc o1).alloc o2).alloc o3).heap.size → w1.frozen? ⟨b, o, none⟩ = (((w.alloc o1).alloc o2).alloc o3).frozen? ⟨b, o, none⟩) ∧ w.heap.size < w1.heap.size ∧ w.heap.size + 1 < w1.heap.size ∧ w.heap.size + 1 + 1 < w1.heap.size ∧ Ext w w1 :=
  ⟨(bcell hx).1, (bcell hx).2, by have := hx.size; simp at this; omega, by have := hx.size; simp at this; omega, by have := hx.size; simp at this; omega, ext_trans (ext_alloc (ext_alloc (ext_alloc (ext_refl _) _) _) _) hx⟩
theorem after4 {w w1 : World} {o1 o2 o3 o4 : Obj} (hx : Ext ((((w.alloc o1).alloc o2).alloc o3).alloc o4) w1) : (∀ b o, b < ((((w.alloc o1).alloc o2).alloc o3).alloc o4).heap.size → w1.cell? ⟨b, o, none⟩ = ((((w.alloc o1).alloc o2).alloc o3).alloc o4).cell? ⟨b, o, none⟩) ∧
    (∀ b o, b < ((((w.alloc o1).alloc o2).alloc o3).alloc o4).heap.size → w1.frozen? ⟨b, o, none⟩ = ((((w.alloc o1).alloc o2).alloc o3).alloc o4).frozen? ⟨b, o, none⟩) ∧ w.heap.size < w1.heap.size ∧ w.heap.size + 1 < w1.heap.size ∧ w.heap.size + 1 + 1 < w1.heap.size ∧ w.heap.size + 1 + 1 + 1 < w1.heap.size ∧ Ext w w1 :=
  ⟨(bcell hx).1, (bcell hx).2, by have := hx.size; simp at this; omega, by have := hx.size; simp at this; omega, by have := hx.size; simp at this; omega, by have := hx.size; simp at this; omega, ext_trans (ext_alloc (ext_alloc (ext_alloc (ext_alloc (ext_refl _) _) _) _) _) hx⟩

/-- a store into a block that is newer than w -/
theorem ext_set {w w' : World} (h : Ext w w') {p : Addr} (hp : w.heap.size ≤ p.block) (u : Value) : Ext w (w'.setCell p u) := h.setCell hp u

/-- a cell that holds something stays as it is while the world grows -/
theorem cell_ext {w w' : World} (h : Ext w w') {b o : Nat} {v : Value} (hc : w.cell? ⟨b, o, none⟩ = some v) : w'.cell? ⟨b, o, none⟩ = some v := by
  have hb : b < w.heap.size := by
    unfold World.cell? at hc
    by_cases hb : b < w.heap.size
    · exact hb
    · simp [Array.getElem?_eq_none (Nat.not_lt.1 hb)] at hc
  rw [(bcell h).1 b o hb]; exact hc

theorem cell_lt {w : World} {b o : Nat} {v : Value} (hc : w.cell? ⟨b, o, none⟩ = some v) : b < w.heap.size := by
  unfold World.cell? at hc
  by_cases hb : b < w.heap.size
  · exact hb
  · simp [Array.getElem?_eq_none (Nat.not_lt.1 hb)] at hc

/-- w' holds what w holds, at the blocks of D -/
def Same (D : Nat → Prop) (w w' : World) : Prop := ∀ b, D b → w'.heap[b]? = w.heap[b]?

/-- how one element stands in cells, its cells known; what it hangs on lies in D -/
abbrev Enc (α : Type) := (Nat → Prop) → World → α → List Value → Prop

/-- a slice value that reads as xs: n cells an element; all blocks in D -/
def Sl {α : Type} (n : Nat) (E : Enc α) (D : Nat → Prop) (w : World) (v : Value) (xs : List α) : Prop :=
  ∃ a cap, v = .slice a xs.length cap ∧ ∀ (i : Nat) (x : α), xs[i]? = some x → ∃ b o cs, a = some ⟨b, o, none⟩ ∧ D b ∧ E D w x cs ∧ ∀ (j : Nat) u, cs[j]? = some u → w.cell? ⟨b, o + i * n + j, none⟩ = some u

theorem cell_same {D : Nat → Prop} {w w' : World} (h : Same D w w') {b o : Nat} (hb : D b) : w'.cell? ⟨b, o, none⟩ = w.cell? ⟨b, o, none⟩ := by
  unfold World.cell?; rw [h b hb]

def EncKept {α : Type} (E : Enc α) : Prop := ∀ (D D' : Nat → Prop) (w w' : World) x cs, E D w x cs → Same D w w' → (∀ b, D b → D' b) → E D' w' x cs

theorem Sl.same {α : Type} {n : Nat} {E : Enc α} (hE : EncKept E) {D D' : Nat → Prop} {w w' : World} {v : Value} {xs : List α} (h : Sl n E D w v xs) (hs : Same D w w') (hD : ∀ b, D b → D' b) : Sl n E D' w' v xs := by
  obtain ⟨a, cap, hv, hx⟩ := h
  refine ⟨a, cap, hv, fun i x hi => ?_⟩
  obtain ⟨b, o, cs, ha, hb, he, hc⟩ := hx i x hi
  exact ⟨b, o, cs, ha, hD b hb, hE _ _ _ _ _ _ he hs hD, fun j u hj => by rw [cell_same hs hb]; exact hc j u hj⟩

/-- what stood when w did -/
def Old (w : World) (b : Nat) : Prop := b < w.heap.size
theorem same_old {w w' : World} (h : Ext w w') : Same (Old w) w w' := fun b hb => h.block b hb
theorem old_ext {w w' : World} (h : Ext w w') (b : Nat) (hb : Old w b) : Old w' b := Nat.lt_of_lt_of_le hb h.size

/-! ### a new variable, filled -/
abbrev setAll (w : World) (p k : Nat) (xs : List Value) : World := World.setCells w p k xs
theorem setAll_cons (w : World) (p k : Nat) (x : Value) (xs : List Value) : setAll w p k (x :: xs) = setAll (w.setCell ⟨p, k, none⟩ x) p (k + 1) xs := rfl

theorem setCell_block {w : World} {p k : Nat} {x : Value} {c : Array Value} {T : TypeId} {fr : Nat × Nat} (h : w.heap[p]? = some (.cells c T fr)) :
    (w.setCell ⟨p, k, none⟩ x).heap[p]? = some (.cells (c.setIfInBounds k x) T fr) := by
  simp [World.setCell, Array.getElem?_modify, h]

theorem setCell_other {w : World} {p k b : Nat} {x : Value} (h : b ≠ p) : (w.setCell ⟨p, k, none⟩ x).heap[b]? = w.heap[b]? := Below.heap_setCell _ _ _ _ h

theorem setCell_size (w : World) (a : Addr) (x : Value) : (w.setCell a x).heap.size = w.heap.size := by simp [World.setCell]

theorem setAll_size (p : Nat) : ∀ (xs : List Value) (w : World) (k : Nat), (setAll w p k xs).heap.size = w.heap.size
  | [], _, _ => rfl
  | x :: xs, w, k => by rw [setAll_cons, setAll_size p xs, setCell_size]

theorem setAll_other (p : Nat) {b : Nat} (h : b ≠ p) : ∀ (xs : List Value) (w : World) (k : Nat), (setAll w p k xs).heap[b]? = w.heap[b]?
  | [], _, _ => rfl
  | x :: xs, w, k => by rw [setAll_cons, setAll_other p h xs, setCell_other h]

theorem setAll_below (p B : Nat) (hB : B ≤ p) : ∀ (xs : List Value) (w : World) (k : Nat), Below B w (setAll w p k xs)
  | [], _, _ => Below.refl _ _
  | x :: xs, w, k => ((Below.refl B w).setCell (p := ⟨p, k, none⟩) hB x).trans (setAll_below p B hB xs _ _)

theorem setAll_part {p : Nat} {T : TypeId} {fr : Nat × Nat} : ∀ (xs : List Value) (w : World) (k : Nat) (c : Array Value), w.heap[p]? = some (.cells c T fr) → k + xs.length ≤ c.size →
    ∃ c', (setAll w p k xs).heap[p]? = some (.cells c' T fr) ∧ c'.size = c.size ∧ ∀ j : Nat, c'[j]? = if k ≤ j ∧ j < k + xs.length then xs[j - k]? else c[j]?
  | [], w, k, c, h, hk => ⟨c, h, rfl, fun j => by rw [if_neg (by simp only [List.length_nil]; omega)]⟩
  | x :: xs, w, k, c, h, hk => by
    obtain ⟨c', h1, h2, h3⟩ := setAll_part xs (w.setCell ⟨p, k, none⟩ x) (k + 1) _ (setCell_block h) (by simp at hk ⊢; omega)
    refine ⟨c', h1, by simpa using h2, fun j => ?_⟩
    rw [h3 j]
    simp only [List.length_cons] at hk ⊢
    by_cases hj : k + 1 ≤ j ∧ j < k + 1 + xs.length
    · rw [if_pos hj, if_pos (by omega), show j - k = (j - (k + 1)) + 1 by omega]; rfl
    · rw [if_neg hj]
      by_cases hjk : j = k
      · subst hjk
        rw [if_pos (by omega), Nat.sub_self]
        simp [Array.getElem?_setIfInBounds, show j < c.size by omega]
      · rw [if_neg (by omega), Array.getElem?_setIfInBounds_ne (by omega)]

theorem setAll_block {p : Nat} {T : TypeId} {fr : Nat × Nat} (xs : List Value) (w : World) (k : Nat) (c : Array Value) (h : w.heap[p]? = some (.cells c T fr)) (hk : k + xs.length = c.size) :
    ∃ c', (setAll w p k xs).heap[p]? = some (.cells c' T fr) ∧ c'.size = c.size ∧ ∀ j : Nat, c'[j]? = if k ≤ j then xs[j - k]? else c[j]? := by
  obtain ⟨c', h1, h2, h3⟩ := setAll_part xs w k c h (by omega)
  refine ⟨c', h1, h2, fun j => ?_⟩
  rw [h3 j]
  by_cases hj : k ≤ j
  · rw [if_pos hj]
    by_cases hj2 : j < k + xs.length
    · rw [if_pos ⟨hj, hj2⟩]
    · rw [if_neg (by omega), List.getElem?_eq_none (by omega), Array.getElem?_eq_none (by omega)]
  · rw [if_neg hj, if_neg (by omega)]

theorem cell_block {w : World} {p : Nat} {c : Array Value} {T : TypeId} {fr : Nat × Nat} (h : w.heap[p]? = some (.cells c T fr)) (j : Nat) : w.cell? ⟨p, j, none⟩ = c[j]? := by
  simp [World.cell?, h]
theorem frozen_block {w : World} {p : Nat} {c : Array Value} {T : TypeId} (h : w.heap[p]? = some (.cells c T (0, 0))) (j : Nat) : w.frozen? ⟨p, j, none⟩ = false := by
  simp [World.frozen?, h]

/-- a new variable of the call's own, filled: what it holds; nothing else has turned -/
theorem setAll_new {w : World} {p : Nat} {c : Array Value} {T : TypeId} {xs : List Value} (h : w.heap[p]? = some (.cells c T (0, 0))) (hl : xs.length = c.size) :
    (∀ j : Nat, (setAll w p 0 xs).cell? ⟨p, j, none⟩ = xs[j]?) ∧ (∀ j : Nat, (setAll w p 0 xs).frozen? ⟨p, j, none⟩ = false) ∧ (∀ b, b ≠ p → (setAll w p 0 xs).heap[b]? = w.heap[b]?) ∧
    (setAll w p 0 xs).heap.size = w.heap.size ∧ (∀ B, B ≤ p → Below B w (setAll w p 0 xs)) := by
  obtain ⟨c', h1, h2, h3⟩ := setAll_block xs w 0 c h (by omega)
  exact ⟨fun j => by rw [cell_block h1, h3 j]; simp, fun j => frozen_block h1 j, fun b hb => setAll_other p hb _ _ _, setAll_size _ _ _ _, fun B hB => setAll_below p B hB _ _ _⟩

/-- the world behind a new variable's filling, under a name -/
theorem new_var {W w1 : World} {p : Nat} {c : Array Value} {T : TypeId} (xs : List Value) (hx : Ext W w1) (hp : W.heap.size ≤ p) (hlt : p < w1.heap.size) (ho : w1.heap[p]? = some (.cells c T (0, 0))) (hl : xs.length = c.size) :
    ∃ w2, setAll w1 p 0 xs = w2 ∧ Ext W w2 ∧ (∀ j : Nat, w2.cell? ⟨p, j, none⟩ = xs[j]?) ∧ (∀ j : Nat, w2.frozen? ⟨p, j, none⟩ = false) ∧ p < w2.heap.size ∧ (∀ b, b ≠ p → w2.heap[b]? = w1.heap[b]?) ∧ w2.heap.size = w1.heap.size := by
  obtain ⟨h1, h2, h3, h4, h5⟩ := setAll_new ho hl
  exact ⟨_, rfl, hx.trans (h5 _ hp), h1, h2, by rw [h4]; exact hlt, h3, h4⟩

/-! ### the program's data -/
structure Rec where
  kind : Int
  seq : Int
  addr : Int
  val : Int
structure Page where
  state : Int
  r : Rec
structure Block where
  pages : List Page
  worn : Int
structure Step where
  kind : Int
  addr : Int
  val : Int
  block : Int
  r : Rec
structure Event where
  kind : Int
  a : Int
  b : Int
  c : Int
  torn : Bool
structure Cost where
  writes : Int
  wipes : Int
  disks : Int
structure Store where
  flash : List Block
  disk : List Int
structure Pair where
  A : Store
  B : Store
  lost : Int

abbrev iv (n : Int) : Value := .int .i64 n
abbrev recC (r : Rec) : List Value := [.int .i64 r.kind, .int .i64 r.seq, .int .i64 r.addr, .int .i64 r.val]
abbrev pageC (p : Page) : List Value := [.int .i64 p.state, .int .i64 p.r.kind, .int .i64 p.r.seq, .int .i64 p.r.addr, .int .i64 p.r.val]
abbrev stepC (s : Step) : List Value := [.int .i64 s.kind, .int .i64 s.addr, .int .i64 s.val, .int .i64 s.block, .int .i64 s.r.kind, .int .i64 s.r.seq, .int .i64 s.r.addr, .int .i64 s.r.val]
abbrev eventC (e : Event) : List Value := [.int .i64 e.kind, .int .i64 e.a, .int .i64 e.b, .int .i64 e.c, .bool e.torn]
abbrev recA (r : Rec) : Value := .agg #[.int .i64 r.kind, .int .i64 r.seq, .int .i64 r.addr, .int .i64 r.val]
abbrev pageA (p : Page) : Value := .agg #[.int .i64 p.state, .int .i64 p.r.kind, .int .i64 p.r.seq, .int .i64 p.r.addr, .int .i64 p.r.val]
abbrev stepA (s : Step) : Value := .agg #[.int .i64 s.kind, .int .i64 s.addr, .int .i64 s.val, .int .i64 s.block, .int .i64 s.r.kind, .int .i64 s.r.seq, .int .i64 s.r.addr, .int .i64 s.r.val]
abbrev eventA (e : Event) : Value := .agg #[.int .i64 e.kind, .int .i64 e.a, .int .i64 e.b, .int .i64 e.c, .bool e.torn]
abbrev costC (c : Cost) : List Value := [.int .i64 c.writes, .int .i64 c.wipes, .int .i64 c.disks]
abbrev costA (c : Cost) : Value := .agg #[.int .i64 c.writes, .int .i64 c.wipes, .int .i64 c.disks]

def plain {α : Type} (enc : α → List Value) : Enc α := fun _ _ x cs => cs = enc x
theorem plain_kept {α : Type} (enc : α → List Value) : EncKept (plain enc) := fun _ _ _ _ _ _ h _ _ => h

/-- slices of plain elements -/
abbrev Ints (D : Nat → Prop) (w : World) (v : Value) (xs : List Int) : Prop := Sl 1 (plain fun n : Int => [.int .i64 n]) D w v xs
abbrev Pages (D : Nat → Prop) (w : World) (v : Value) (ps : List Page) : Prop := Sl 5 (plain pageC) D w v ps
abbrev Steps' (D : Nat → Prop) (w : World) (v : Value) (xs : List Step) : Prop := Sl 8 (plain stepC) D w v xs
abbrev Events (D : Nat → Prop) (w : World) (v : Value) (xs : List Event) : Prop := Sl 5 (plain eventC) D w v xs

def blockE : Enc Block := fun D w b cs => ∃ pv, cs = [pv, .int .i64 b.worn] ∧ Pages D w pv b.pages
theorem blockE_kept : EncKept blockE := fun D D' w w' x cs ⟨pv, hc, hp⟩ hs hD => ⟨pv, hc, Sl.same (plain_kept _) hp hs hD⟩
abbrev Flash (D : Nat → Prop) (w : World) (v : Value) (f : List Block) : Prop := Sl 2 blockE D w v f

theorem Ints.ext {w w' : World} {v : Value} {xs : List Int} (h : Ints (Old w) w v xs) (he : Ext w w') : Ints (Old w') w' v xs := Sl.same (plain_kept _) h (same_old he) (old_ext he)
theorem Pages.ext {w w' : World} {v : Value} {xs : List Page} (h : Pages (Old w) w v xs) (he : Ext w w') : Pages (Old w') w' v xs := Sl.same (plain_kept _) h (same_old he) (old_ext he)
theorem Steps'.ext {w w' : World} {v : Value} {xs : List Step} (h : Steps' (Old w) w v xs) (he : Ext w w') : Steps' (Old w') w' v xs := Sl.same (plain_kept _) h (same_old he) (old_ext he)
theorem Events.ext {w w' : World} {v : Value} {xs : List Event} (h : Events (Old w) w v xs) (he : Ext w w') : Events (Old w') w' v xs := Sl.same (plain_kept _) h (same_old he) (old_ext he)
theorem Flash.ext {w w' : World} {v : Value} {f : List Block} (h : Flash (Old w) w v f) (he : Ext w w') : Flash (Old w') w' v f := Sl.same blockE_kept h (same_old he) (old_ext he)

/-- a plain element of a slice, its cells -/
theorem Sl.at {α : Type} {n : Nat} {enc : α → List Value} {D : Nat → Prop} {w : World} {a : Option Addr} {len cap : Nat} {xs : List α} (h : Sl n (plain enc) D w (.slice a len cap) xs) {k : Nat} (hk : k < xs.length) :
    ∃ b o, a = some ⟨b, o, none⟩ ∧ D b ∧ ∀ (j : Nat) u, (enc xs[k])[j]? = some u → w.cell? ⟨b, o + k * n + j, none⟩ = some u := by
  obtain ⟨a', cap', hv, hx⟩ := h
  obtain ⟨b, o, cs, ha, hb, he, hc⟩ := hx k xs[k] (List.getElem?_eq_getElem hk)
  injection hv with h1 h2 h3
  subst h1
  obtain rfl : cs = enc xs[k] := he
  exact ⟨b, o, ha, hb, hc⟩

theorem Sl.form {α : Type} {n : Nat} {E : Enc α} {D : Nat → Prop} {w : World} {v : Value} {xs : List α} (h : Sl n E D w v xs) : ∃ a cap, v = .slice a xs.length cap := by
  obtain ⟨a, cap, hv, _⟩ := h; exact ⟨a, cap, hv⟩

theorem Sl.len {α : Type} {n : Nat} {E : Enc α} {D : Nat → Prop} {w : World} {a : Option Addr} {len cap : Nat} {xs : List α} (h : Sl n E D w (.slice a len cap) xs) : len = xs.length := by
  obtain ⟨a', cap', hv, _⟩ := h
  injection hv

theorem Pages.at5 {D : Nat → Prop} {w : World} {a : Option Addr} {len cap : Nat} {xs : List Page} (h : Pages D w (.slice a len cap) xs) {k : Nat} (hk : k < xs.length) :
    ∃ b o, a = some ⟨b, o, none⟩ ∧ D b ∧ w.cell? ⟨b, o + k * 5, none⟩ = some (.int .i64 xs[k].state) ∧ w.cell? ⟨b, o + k * 5 + 1, none⟩ = some (.int .i64 xs[k].r.kind) ∧ w.cell? ⟨b, o + k * 5 + 2, none⟩ = some (.int .i64 xs[k].r.seq) ∧
      w.cell? ⟨b, o + k * 5 + 3, none⟩ = some (.int .i64 xs[k].r.addr) ∧ w.cell? ⟨b, o + k * 5 + 4, none⟩ = some (.int .i64 xs[k].r.val) := by
  obtain ⟨b, o, ha, hb, hc⟩ := Sl.at h hk
  exact ⟨b, o, ha, hb, hc 0 _ rfl, hc 1 _ rfl, hc 2 _ rfl, hc 3 _ rfl, hc 4 _ rfl⟩

theorem Ints.at1 {D : Nat → Prop} {w : World} {a : Option Addr} {len cap : Nat} {xs : List Int} (h : Ints D w (.slice a len cap) xs) {k : Nat} (hk : k < xs.length) :
    ∃ b o, a = some ⟨b, o, none⟩ ∧ D b ∧ w.cell? ⟨b, o + k, none⟩ = some (.int .i64 xs[k]) := by
  obtain ⟨b, o, ha, hb, hc⟩ := Sl.at h hk
  have := hc 0 _ rfl
  exact ⟨b, o, ha, hb, by simpa using this⟩

theorem Events.at5 {D : Nat → Prop} {w : World} {a : Option Addr} {len cap : Nat} {xs : List Event} (h : Events D w (.slice a len cap) xs) {k : Nat} (hk : k < xs.length) :
    ∃ b o, a = some ⟨b, o, none⟩ ∧ D b ∧ w.cell? ⟨b, o + k * 5, none⟩ = some (.int .i64 xs[k].kind) ∧ w.cell? ⟨b, o + k * 5 + 1, none⟩ = some (.int .i64 xs[k].a) ∧ w.cell? ⟨b, o + k * 5 + 2, none⟩ = some (.int .i64 xs[k].b) ∧
      w.cell? ⟨b, o + k * 5 + 3, none⟩ = some (.int .i64 xs[k].c) ∧ w.cell? ⟨b, o + k * 5 + 4, none⟩ = some (.bool xs[k].torn) := by
  obtain ⟨b, o, ha, hb, hc⟩ := Sl.at h hk
  exact ⟨b, o, ha, hb, hc 0 _ rfl, hc 1 _ rfl, hc 2 _ rfl, hc 3 _ rfl, hc 4 _ rfl⟩

theorem Steps'.at8 {D : Nat → Prop} {w : World} {a : Option Addr} {len cap : Nat} {xs : List Step} (h : Steps' D w (.slice a len cap) xs) {k : Nat} (hk : k < xs.length) :
    ∃ b o, a = some ⟨b, o, none⟩ ∧ D b ∧ w.cell? ⟨b, o + k * 8, none⟩ = some (.int .i64 xs[k].kind) ∧ w.cell? ⟨b, o + k * 8 + 1, none⟩ = some (.int .i64 xs[k].addr) ∧ w.cell? ⟨b, o + k * 8 + 2, none⟩ = some (.int .i64 xs[k].val) ∧
      w.cell? ⟨b, o + k * 8 + 3, none⟩ = some (.int .i64 xs[k].block) ∧ w.cell? ⟨b, o + k * 8 + 4, none⟩ = some (.int .i64 xs[k].r.kind) ∧ w.cell? ⟨b, o + k * 8 + 5, none⟩ = some (.int .i64 xs[k].r.seq) ∧
      w.cell? ⟨b, o + k * 8 + 6, none⟩ = some (.int .i64 xs[k].r.addr) ∧ w.cell? ⟨b, o + k * 8 + 7, none⟩ = some (.int .i64 xs[k].r.val) := by
  obtain ⟨b, o, ha, hb, hc⟩ := Sl.at h hk
  exact ⟨b, o, ha, hb, hc 0 _ rfl, hc 1 _ rfl, hc 2 _ rfl, hc 3 _ rfl, hc 4 _ rfl, hc 5 _ rfl, hc 6 _ rfl, hc 7 _ rfl⟩

theorem Flash.at2 {D : Nat → Prop} {w : World} {a : Option Addr} {len cap : Nat} {f : List Block} (h : Flash D w (.slice a len cap) f) {k : Nat} (hk : k < f.length) :
    ∃ b o pv, a = some ⟨b, o, none⟩ ∧ D b ∧ Pages D w pv f[k].pages ∧ w.cell? ⟨b, o + k * 2, none⟩ = some pv ∧ w.cell? ⟨b, o + k * 2 + 1, none⟩ = some (.int .i64 f[k].worn) := by
  obtain ⟨a', cap', hv, hx⟩ := h
  obtain ⟨b, o, cs, ha, hb, ⟨pv, hcs, hp⟩, hc⟩ := hx k f[k] (List.getElem?_eq_getElem hk)
  injection hv with h1 h2 h3
  subst h1
  subst hcs
  exact ⟨b, o, pv, ha, hb, hp, hc 0 _ rfl, hc 1 _ rfl⟩

/-! ### equality, as the laws ask it -/
def recEq (a b : Rec) : Bool := a.kind == b.kind && a.seq == b.seq && a.addr == b.addr && a.val == b.val
def pageEq (a b : Page) : Bool := a.state == b.state && recEq a.r b.r
def listEq {α : Type} (eq : α → α → Bool) : List α → List α → Bool
  | [], [] => true
  | x :: xs, y :: ys => eq x y && listEq eq xs ys
  | _, _ => false
def blockEq (a b : Block) : Bool := listEq pageEq a.pages b.pages && a.worn == b.worn
def flashEq (a b : List Block) : Bool := listEq blockEq a b
def intEq (a b : Int) : Bool := a == b
def intsEq (a b : List Int) : Bool := listEq intEq a b
def storeEq (a b : Store) : Bool := flashEq a.flash b.flash && intsEq a.disk b.disk

def stepEq (a b : Step) : Bool := a.kind == b.kind && a.addr == b.addr && a.val == b.val && a.block == b.block && recEq a.r b.r
def eventEq (a b : Event) : Bool := a.kind == b.kind && a.a == b.a && a.b == b.b && a.c == b.c && a.torn == b.torn
def costEq (a b : Cost) : Bool := a.writes == b.writes && a.wipes == b.wipes && a.disks == b.disks
def pairEq (a b : Pair) : Bool := storeEq a.A b.A && storeEq a.B b.B && a.lost == b.lost

theorem listEq_len {α : Type} {eq : α → α → Bool} : ∀ {xs ys : List α}, listEq eq xs ys = true → xs.length = ys.length
  | [], [], _ => rfl
  | x :: xs, y :: ys, h => by simp only [listEq, Bool.and_eq_true] at h; simp [listEq_len h.2]
  | [], y :: ys, h => by cases h
  | x :: xs, [], h => by cases h

theorem listEq_get {α : Type} {eq : α → α → Bool} : ∀ {xs ys : List α}, listEq eq xs ys = true → ∀ (i : Nat) (h1 : i < xs.length) (h2 : i < ys.length), eq xs[i] ys[i] = true
  | x :: xs, y :: ys, h, 0, _, _ => by simp only [listEq, Bool.and_eq_true] at h; exact h.1
  | x :: xs, y :: ys, h, i + 1, h1, h2 => by
    simp only [listEq, Bool.and_eq_true] at h
    exact listEq_get h.2 i (by simpa using h1) (by simpa using h2)

theorem listEq_mk {α : Type} {eq : α → α → Bool} : ∀ {xs ys : List α}, xs.length = ys.length → (∀ (i : Nat) (h1 : i < xs.length) (h2 : i < ys.length), eq xs[i] ys[i] = true) → listEq eq xs ys = true
  | [], [], _, _ => rfl
  | x :: xs, y :: ys, hl, h => by
    simp only [listEq, Bool.and_eq_true]
    exact ⟨h 0 (by simp) (by simp), listEq_mk (by simpa using hl) fun i h1 h2 => h (i + 1) (by simpa using h1) (by simpa using h2)⟩
  | [], y :: ys, h, _ => by simp at h
  | x :: xs, [], h, _ => by simp at h

theorem listEq_ne {α : Type} {eq : α → α → Bool} {xs ys : List α} (h : xs.length ≠ ys.length) : listEq eq xs ys = false := by
  cases hb : listEq eq xs ys with
  | true => exact absurd (listEq_len hb) h
  | false => rfl

theorem listEq_no {α : Type} {eq : α → α → Bool} {xs ys : List α} {i : Nat} (h1 : i < xs.length) (h2 : i < ys.length) (h : eq xs[i] ys[i] = false) : listEq eq xs ys = false := by
  cases hb : listEq eq xs ys with
  | true => have := listEq_get hb i h1 h2; rw [h] at this; cases this
  | false => rfl

end Go.Bu

set_option linter.unusedVariables false
set_option linter.unusedSimpArgs false
namespace Go.Bu
open Go Go.RowKit Go.Plan Go.Proofs

section
variable {H : Type} {enc : TypeId × Value → H} {w : World} {spare : Nat → Bool} {held : Bool}

theorem cells_get {a : Addr} {n : Nat} {c : List Value} (h : w.cells? 0 a n = some c) : c.length = n ∧ ∀ (j : Nat), j < n → w.cell? (a.add j) = c[j]? := by
  unfold World.cells? at h
  rw [if_pos (Nat.zero_le _)] at h
  exact ⟨by simpa using mapM_some_length h, fun j hj => by simpa using mapM_some_get h j j (by simp [hj])⟩

theorem cell_spot {a : Addr} {v : Value} (h : w.cell? a = some v) : a = ⟨a.block, a.off, none⟩ := by
  obtain ⟨b, o, s⟩ := a
  unfold World.cell? at h
  cases s with
  | none => rfl
  | some k => simp at h; split at h <;> simp_all

theorem add_none (b o m : Nat) : Addr.add ⟨b, o, none⟩ m = ⟨b, o + m, none⟩ := by
  unfold Addr.add
  by_cases h : m = 0
  · subst h; rfl
  · rw [if_neg h]

theorem choose_list {α : Type} {n : Nat} {R : Nat → α → Prop} (h : ∀ i, i < n → ∃ x, R i x) : ∃ xs : List α, xs.length = n ∧ ∀ (i : Nat) x, xs[i]? = some x → R i x := by
  induction n with
  | zero => exact ⟨[], rfl, fun i x hx => by simp at hx⟩
  | succ n ih =>
    obtain ⟨xs, hl, hr⟩ := ih fun i hi => h i (by omega)
    obtain ⟨x, hx⟩ := h n (by omega)
    refine ⟨xs ++ [x], by simp [hl], fun i y hy => ?_⟩
    by_cases hi : i < xs.length
    · rw [List.getElem?_append_left hi] at hy; exact hr i y hy
    · rw [List.getElem?_append_right (by omega)] at hy
      have : i - xs.length = 0 := by
        rcases Nat.eq_zero_or_pos (i - xs.length) with h | h
        · exact h
        · rw [List.getElem?_eq_none (by simp; omega)] at hy; cases hy
      rw [this] at hy
      simp at hy
      subst hy
      have : i = n := by omega
      subst this
      exact hx

/-- the cells of one element open -/
def Opens {α : Type} (P : Program) (t : TypeId) (E : Enc α) : Prop :=
  ∀ (H : Type) (enc : TypeId × Value → H) (w : World) (spare : Nat → Bool) (held : Bool) (fuel : Nat) (cs : List Value) (x : DataW H × List MemPlace), DataW.trod enc P w 0 spare held fuel t cs = some x → ∃ y : α, E (Old w) w y cs

/-- a slice of elements that open, opens -/
theorem open_sl {α : Type} {P : Program} {t e : TypeId} {n : Nat} {E : Enc α} (ht : P.underlying t = some (.slice e)) (hn : P.cellsOf e = n) (hn0 : 0 < n) (hE : Opens P e E) {fuel : Nat} {v : Value} {x : DataW H × List MemPlace}
    (h : DataW.trod enc P w 0 spare held fuel t [v] = some x) : ∃ xs : List α, Sl n E (Old w) w v xs ∧ xs.length ≤ 9223372036854775807 ∧ ∀ a n c, v = .slice a n c → n ≤ c := by
  rcases DataW.trod_slice ht h with ⟨h1, _⟩ | ⟨a, len, cap, elems, rest, m, rfl, h1, _, _, hlc, hcm, hel, hget, _⟩
  · obtain rfl : v = .slice none 0 0 := by simpa using h1
    exact ⟨[], ⟨none, 0, rfl, fun i x hx => by simp at hx⟩, by simp, fun a n c h => by injection h with h1 h2 h3; omega⟩
  · obtain rfl : v = .slice (some a) len cap := by simpa using h1
    rw [hn] at hget
    have key : ∀ i, i < len → ∃ (y : α) (c : List Value), w.cells? 0 (a.add (i * n)) n = some c ∧ E (Old w) w y c := by
      intro i hi
      have hg := hget i hi
      rw [List.getElem?_eq_getElem (by omega)] at hg
      obtain ⟨c, hc, ht'⟩ := Option.bind_eq_some_iff.1 hg
      obtain ⟨y, hy⟩ := hE _ _ _ _ _ _ _ _ ht'
      exact ⟨y, c, hc, hy⟩
    obtain ⟨xs, hl, hr⟩ := choose_list key
    have hmax : len ≤ 9223372036854775807 := by have := Nat.le_trans hlc hcm; simpa [maxLen] using this
    refine ⟨xs, ⟨some a, cap, by rw [hl], fun i y hy => ?_⟩, by rw [hl]; exact hmax, fun a n c h => by injection h with h1 h2 h3; omega⟩
    obtain ⟨c, hc, he⟩ := hr i y hy
    have hi : i < xs.length := (List.getElem?_eq_some_iff.1 hy).1
    -- the first element tells where the array lies
    obtain ⟨c0, hc0, _⟩ := hr 0 xs[0] (List.getElem?_eq_getElem (by omega))
    obtain ⟨hl0, hg0⟩ := cells_get hc0
    have h00 := hg0 0 hn0
    rw [List.getElem?_eq_getElem (by omega)] at h00
    have ha : a.spot = none := by rw [cell_spot (a := a) (v := c0[0]) (by simpa [Addr.add] using h00)]
    obtain ⟨b, o, s⟩ := a
    obtain rfl : s = none := ha
    obtain ⟨hlc', hg⟩ := cells_get hc
    have hcell : ∀ (j : Nat) u, c[j]? = some u → w.cell? ⟨b, o + i * n + j, none⟩ = some u := by
      intro j u hu
      have hj : j < n := by rw [← hlc']; exact (List.getElem?_eq_some_iff.1 hu).1
      have := hg j hj
      rw [add_none, add_none, hu] at this
      exact this
    refine ⟨b, o, c, rfl, ?_, he, hcell⟩
    exact cell_lt (hcell 0 _ (List.getElem?_eq_getElem (by omega)))
end

theorem opens_int : Opens Try.prog 3 (plain fun n : Int => [.int .i64 n]) := by
  intro H enc w spare held fuel cs x h
  obtain ⟨n, hc, _, _⟩ := DataW.trod_int Try.underlying3 h
  exact ⟨n, hc⟩



/-- a struct's field, by its place: its type, where its cells begin, how many they are -/
theorem field_at {P : Program} {H : Type} {enc : TypeId × Value → H} {w : World} {spare : Nat → Bool} {held : Bool} {t : TypeId} {fs : Array Field} {fuel : Nat} {cs : List Value} {x : DataW H × List MemPlace}
    (ht : P.underlying t = some (.struct fs)) (h : DataW.trod enc P w 0 spare held fuel t cs = some x) (i : Nat) {ft off len : Nat} (hi : (fs[i]?).map (fun f => (f.type, f.offset)) = some (ft, off)) (hc : P.cellsOf ft = len) :
    ∃ n y, DataW.trod enc P w 0 spare held n ft ((cs.drop off).take len) = some y := by
  obtain ⟨xs, n, rfl, _, hl, hn, hf⟩ := DataW.trod_struct ht h
  obtain ⟨f, hfi, hfe⟩ := Option.map_eq_some_iff.1 hi
  obtain ⟨rfl, rfl⟩ := Prod.mk.inj hfe
  have := hf i f hfi
  have hlt : i < xs.length := by rw [hn]; exact (Array.getElem?_eq_some_iff.1 hfi).1
  rw [hc, List.getElem?_eq_getElem hlt] at this
  exact ⟨n, _, this⟩

theorem int_at {P : Program} {H : Type} {enc : TypeId × Value → H} {w : World} {spare : Nat → Bool} {held : Bool} {t : TypeId} {fs : Array Field} {fuel : Nat} {cs : List Value} {x : DataW H × List MemPlace}
    (ht : P.underlying t = some (.struct fs)) (h : DataW.trod enc P w 0 spare held fuel t cs = some x) (i : Nat) {ft off : Nat} (hi : (fs[i]?).map (fun f => (f.type, f.offset)) = some (ft, off)) (hc : P.cellsOf ft = 1) (hu : P.underlying ft = some (.int .i64)) :
    ∃ n : Int, (cs.drop off).take 1 = [.int .i64 n] := by
  obtain ⟨m, y, hy⟩ := field_at ht h i hi hc
  obtain ⟨n, hn, _⟩ := DataW.trod_int hu hy
  exact ⟨n, hn⟩

theorem len_at {P : Program} {H : Type} {enc : TypeId × Value → H} {w : World} {spare : Nat → Bool} {held : Bool} {t : TypeId} {fs : Array Field} {fuel : Nat} {cs : List Value} {x : DataW H × List MemPlace} {n : Nat}
    (ht : P.underlying t = some (.struct fs)) (h : DataW.trod enc P w 0 spare held fuel t cs = some x) (hc : P.cellsOf t = n) : cs.length = n := by
  obtain ⟨xs, n, rfl, _, hl, _⟩ := DataW.trod_struct ht h
  exact hl.trans hc

theorem cellsInt : Try.prog.cellsOf 3 = 1 := by kernel_rfl

-- (not in this seat: type laws.Cost)

-- (not in this seat: type laws.Rec)

-- (not in this seat: type laws.Step)

-- (not in this seat: type laws.Cost)

-- (not in this seat: type []laws.Step)

theorem opens_byte : Opens Try.prog 5 (plain fun n : { n : Nat // n < 256 } => [.int .u8 (n.1 : Nat)]) := by
  intro H enc w spare held fuel cs x h
  obtain ⟨n, hc, hx, hh⟩ := DataW.trod_int Try.underlying5 h
  have hw : 0 ≤ n ∧ n ≤ 255 := by
    simp [Lit.wf] at hh
    have h1 : IntKind.u8.min = 0 := by decide
    have h2 : IntKind.u8.max = 255 := by decide
    omega
  refine ⟨⟨n.toNat, by omega⟩, ?_⟩
  rw [hc]
  show [Value.int .u8 n] = [Value.int .u8 ((n.toNat : Nat) : Int)]
  rw [Int.toNat_of_nonneg (by omega)]

set_option maxRecDepth 100000 in
theorem is_bytes {H : Type} {enc : TypeId × Value → H} {w : World} {r : Reach} {base : Nat} {v : Value} {d : DataW H} {ps : List MemPlace} (hv : Value.okWide Try.prog w r base 22 v) (h : DataW.Trod enc Try.prog w 0 (fun _ => true) true 22 v d ps) :
    ∃ xs : List Nat, Sl 1 (plain fun n : Nat => [.int .u8 n]) (Old w) w v xs ∧ (∀ x ∈ xs, x < 256) ∧ ∀ a n c, v = .slice a n c → n ≤ c := by
  obtain ⟨a, len, cap, rfl⟩ := WideShapes.okWide_slice Try.underlying22 hv
  obtain ⟨fuel, hf⟩ := h
  obtain ⟨xs, ⟨a', cap', hv', hx⟩, _, hc⟩ := open_sl (n := 1) Try.underlying22 (by kernel_rfl) (by omega) opens_byte hf
  refine ⟨xs.map (·.1), ⟨a', cap', by simpa using hv', fun i x hi => ?_⟩, fun x hx => ?_, hc⟩
  · rw [List.getElem?_map] at hi
    obtain ⟨y, hy, rfl⟩ := Option.map_eq_some_iff.1 hi
    exact hx i y hy
  · obtain ⟨y, _, rfl⟩ := List.mem_map.1 hx
    exact y.2
end Go.Bu

set_option linter.unusedVariables false
set_option linter.unusedSimpArgs false
namespace Go.Bu
open Go Go.RowKit Go.Plan

/-- xs lie in block B from cell o on, n cells each -/
def InBlock {α : Type} (n : Nat) (enc : α → List Value) (c : Array Value) (o : Nat) (xs : List α) : Prop := ∀ i x, xs[i]? = some x → ∀ j u, (enc x)[j]? = some u → c[o + i * n + j]? = some u

/-- a slice of plain elements in a block of the call's own -/
def OwnSl {α : Type} (n : Nat) (enc : α → List Value) (w : World) (v : Value) (xs : List α) (B : Nat) : Prop :=
  ∃ c T o cap, v = .slice (some ⟨B, o, none⟩) xs.length cap ∧ w.heap[B]? = some (.cells c T (0, 0)) ∧ InBlock n enc c o xs

theorem OwnSl.keep {α : Type} {n : Nat} {enc : α → List Value} {w w' : World} {v : Value} {xs : List α} {B : Nat} (h : OwnSl n enc w v xs B) (hb : w'.heap[B]? = w.heap[B]?) : OwnSl n enc w' v xs B := by
  obtain ⟨c, T, o, cap, hv, hh, hi⟩ := h
  exact ⟨c, T, o, cap, hv, by rw [hb]; exact hh, hi⟩

theorem heap_lt {w : World} {B : Nat} {x : Obj} (h : w.heap[B]? = some x) : B < w.heap.size := (Array.getElem?_eq_some_iff.1 h).1

theorem OwnSl.lt {α : Type} {n : Nat} {enc : α → List Value} {w : World} {v : Value} {xs : List α} {B : Nat} (h : OwnSl n enc w v xs B) : B < w.heap.size := by
  obtain ⟨c, T, o, cap, hv, hh, hi⟩ := h; exact heap_lt hh

theorem OwnSl.sl {α : Type} {n : Nat} {enc : α → List Value} {D : Nat → Prop} {w : World} {v : Value} {xs : List α} {B : Nat} (h : OwnSl n enc w v xs B) (hD : D B) : Sl n (plain enc) D w v xs := by
  obtain ⟨c, T, o, cap, hv, hh, hi⟩ := h
  exact ⟨_, cap, hv, fun i x hx => ⟨B, o, enc x, rfl, hD, rfl, fun j u hu => by rw [cell_block hh]; exact hi i x hx j u hu⟩⟩

theorem OwnSl.old {α : Type} {n : Nat} {enc : α → List Value} {w : World} {v : Value} {xs : List α} {B : Nat} (h : OwnSl n enc w v xs B) : Sl n (plain enc) (Old w) w v xs := h.sl h.lt

theorem OwnSl.ext {α : Type} {n : Nat} {enc : α → List Value} {w w' : World} {v : Value} {xs : List α} {B : Nat} (h : OwnSl n enc w v xs B) (he : Ext w w') : OwnSl n enc w' v xs B := h.keep (he.block _ h.lt)

/-- filling, element by element -/
def Filled {α : Type} (n : Nat) (enc : α → List Value) (w : World) (B T : Nat) (size : Nat) (xs : List α) : Prop := ∃ c, w.heap[B]? = some (.cells c T (0, 0)) ∧ c.size = size ∧ InBlock n enc c 0 xs

theorem Filled.keep {α : Type} {n : Nat} {enc : α → List Value} {w w' : World} {B T size : Nat} {xs : List α} (h : Filled n enc w B T size xs) (hb : w'.heap[B]? = w.heap[B]?) : Filled n enc w' B T size xs := by
  obtain ⟨c, h1, h2, h3⟩ := h; exact ⟨c, by rw [hb]; exact h1, h2, h3⟩

theorem Filled.ext {α : Type} {n : Nat} {enc : α → List Value} {w w' : World} {B T size : Nat} {xs : List α} (h : Filled n enc w B T size xs) (he : Ext w w') : Filled n enc w' B T size xs := by
  obtain ⟨c, h1, h2, h3⟩ := h; exact ⟨c, by rw [he.block _ (heap_lt h1)]; exact h1, h2, h3⟩

theorem Filled.there {α : Type} {n : Nat} {enc : α → List Value} {w : World} {B T size : Nat} {xs : List α} (h : Filled n enc w B T size xs) {o m : Nat} (hm : o + m ≤ size) : w.there B o m := by
  obtain ⟨c, h1, h2, h3⟩ := h
  intro j hj
  rw [cell_block h1, frozen_block h1, Array.getElem?_eq_getElem (by omega)]
  exact ⟨rfl, rfl⟩

theorem Filled.snoc {α : Type} {n : Nat} {enc : α → List Value} (hn : ∀ x, (enc x).length = n) {w : World} {B T size : Nat} {xs : List α} (x : α) (h : Filled n enc w B T size xs) (hs : (xs.length + 1) * n ≤ size) : Filled n enc (setAll w B (xs.length * n) (enc x)) B T size (xs ++ [x]) := by
  obtain ⟨c, h1, h2, h3⟩ := h
  have hle : xs.length * n + (enc x).length ≤ c.size := by rw [hn, h2, ← Nat.succ_mul]; exact hs
  obtain ⟨c', g1, g2, g3⟩ := setAll_part (enc x) w (xs.length * n) c h1 hle
  refine ⟨c', g1, by rw [g2, h2], fun i y hy j u hu => ?_⟩
  rw [g3]
  have hj : j < n := by rw [← hn y]; exact (List.getElem?_eq_some_iff.1 hu).1
  by_cases hi : i < xs.length
  · rw [List.getElem?_append_left hi] at hy
    have : 0 + i * n + j < xs.length * n := by
      have : (i + 1) * n ≤ xs.length * n := Nat.mul_le_mul_right n hi
      rw [Nat.succ_mul] at this
      omega
    rw [if_neg (by omega)]
    exact h3 i y hy j u hu
  · have hie : i = xs.length := by
      have := (List.getElem?_eq_some_iff.1 hy).1
      simp at this; omega
    subst hie
    rw [List.getElem?_append_right (Nat.le_refl _)] at hy
    simp at hy
    subst hy
    rw [if_pos (by rw [hn]; omega), show 0 + xs.length * n + j - xs.length * n = j by omega]
    exact hu

theorem Filled.own {α : Type} {n : Nat} {enc : α → List Value} {w : World} {B T size : Nat} {xs : List α} (h : Filled n enc w B T size xs) {len cap : Nat} (hl : len = xs.length) : OwnSl n enc w (.slice (some ⟨B, 0, none⟩) len cap) xs B := by
  obtain ⟨c, h1, h2, h3⟩ := h
  exact ⟨c, T, 0, cap, by rw [hl], h1, h3⟩

theorem Filled.made {α : Type} {n : Nat} {enc : α → List Value} (w : World) (z : Array Value) (T m : Nat) : Filled n enc (w.alloc (.cells (madeCells z m) T)) w.heap.size T m ([] : List α) :=
  ⟨_, heap_alloc_new _ _, size_madeCells z m, fun i x hx => by simp at hx⟩

/-- make, of a size that is no literal -/
theorem make_n {P : Program} (t e : TypeId) (z : Array Value) (k bytes : Nat) (ht : P.underlying t = some (.slice e)) (hi : (P.info? e).bind (fun i => i.zero.map fun z => (z.cells, i.size, i.bytes)) = some (z, k, bytes)) (n : Nat)
    (hb : bytes * n ≤ 281474976710656) (h63 : n ≤ 9223372036854775807) : ∀ w : World, (Instr.makeSlice t (.int .i64 (n : Int)) (.int .i64 (n : Int))).run P w = .ok (.slice (some ⟨w.heap.size, 0, none⟩) n n) (w.alloc (.cells (madeCells z (n * k)) e)) := by
  intro w
  obtain ⟨i, hi1, hi2⟩ := Option.bind_eq_some_iff.1 hi
  obtain ⟨zv, hz, he⟩ := Option.map_eq_some_iff.1 hi2
  obtain ⟨rfl, h⟩ := Prod.mk.inj he
  obtain ⟨rfl, rfl⟩ := Prod.mk.inj h
  have hb' : (i.bytes : Int) * (n : Int) ≤ 281474976710656 := by
    have h : ((i.bytes * n : Nat) : Int) ≤ 281474976710656 := by omega
    rwa [Int.natCast_mul] at h
  have hr := run_make (P := P) w t e i zv ht hi1 hz .i64 .i64 n n (by omega) (by omega) hb' (by omega)
  simp only [Int.toNat_natCast] at hr
  exact hr

theorem alloc_get_old {w : World} {o : Obj} {b : Nat} (h : b < w.heap.size) : (w.alloc o).heap[b]? = w.heap[b]? := (ext_alloc (ext_refl w) o).block b h
theorem alloc_get_new {w : World} {o : Obj} {b : Nat} (h : b = w.heap.size) : (w.alloc o).heap[b]? = some o := by subst h; exact heap_alloc_new _ _

theorem take_snoc {α : Type} (xs : List α) (k : Nat) (h : k < xs.length) : xs.take k ++ [xs[k]] = xs.take (k + 1) := by rw [List.take_add_one, List.getElem?_eq_getElem h]; rfl

theorem ext_set2 {w w' : World} {p : Addr} {u : Value} (hp : w.heap.size ≤ p.block) (h : Ext w w') : Ext w (w'.setCell p u) := h.setCell hp u
theorem ext_alloc2 {w w' : World} {o : Obj} (h : Ext w w') : Ext w (w'.alloc o) := ext_alloc h o

/-- fresh: made since w0 -/
def Fresh (w0 w : World) (B : Nat) : Prop := w0.heap.size ≤ B ∧ B < w.heap.size

theorem ext_setAll {w0 w : World} (h : Ext w0 w) {B : Nat} (hB : w0.heap.size ≤ B) (k : Nat) (xs : List Value) : Ext w0 (setAll w B k xs) := h.trans (setAll_below B w0.heap.size hB xs w k)
end Go.Bu

set_option linter.unusedVariables false
set_option linter.unusedSimpArgs false
namespace Go.Bu
open Go Go.RowKit Go.Plan Go.Proofs

/-- only the blocks of L, and new ones, have turned -/
structure Chg (L : List Nat) (w w' : World) : Prop where
  os : w'.os = w.os
  tape : w'.tape = w.tape
  output : w'.output = w.output
  size : w.heap.size ≤ w'.heap.size
  block : ∀ k, k < w.heap.size → k ∉ L → w'.heap[k]? = w.heap[k]?

theorem Chg.refl (L : List Nat) (w : World) : Chg L w w := ⟨rfl, rfl, rfl, Nat.le_refl _, fun _ _ _ => rfl⟩
theorem Chg.trans {L : List Nat} {a b c : World} (h : Chg L a b) (k : Chg L b c) : Chg L a c :=
  ⟨k.os.trans h.os, k.tape.trans h.tape, k.output.trans h.output, Nat.le_trans h.size k.size, fun i hi hn => (k.block i (Nat.lt_of_lt_of_le hi h.size) hn).trans (h.block i hi hn)⟩
theorem Chg.of_ext {L : List Nat} {a b : World} (h : Ext a b) : Chg L a b := ⟨h.os, h.tape, h.output, h.size, fun i hi _ => h.block i hi⟩
theorem Chg.mono {L L' : List Nat} {a b : World} (h : Chg L a b) (hL : ∀ x ∈ L, x ∈ L') : Chg L' a b := ⟨h.os, h.tape, h.output, h.size, fun i hi hn => h.block i hi fun hm => hn (hL i hm)⟩
theorem Chg.set {L : List Nat} {a b : World} (h : Chg L a b) {p : Addr} (hp : p.block ∈ L ∨ a.heap.size ≤ p.block) (u : Value) : Chg L a (b.setCell p u) := by
  refine ⟨h.os, h.tape, h.output, by rw [setCell_size]; exact h.size, fun k hk hn => ?_⟩
  have hkp : k ≠ p.block := by
    rintro rfl
    rcases hp with hp | hp
    · exact hn hp
    · omega
  rw [Below.heap_setCell _ _ _ _ hkp]; exact h.block k hk hn
theorem Chg.alloc {L : List Nat} {a b : World} (h : Chg L a b) (o : Obj) : Chg L a (b.alloc o) := h.trans (Chg.of_ext (ext_alloc (ext_refl _) _))
theorem Chg.ext {L : List Nat} {w0 a b : World} (h0 : Ext w0 a) (h : Chg L a b) (hL : ∀ x ∈ L, w0.heap.size ≤ x) : Ext w0 b :=
  h0.trans ⟨h.os, h.tape, h.output, h.size, fun k hk => h.block k (Nat.lt_of_lt_of_le hk h0.size) fun hm => by have := hL k hm; omega⟩


/-- a reader: its block, its bytes, how far it is -/
structure Rd (w : World) (R : Nat) (bv : Value) (xs : List Nat) (p : Nat) : Prop where
  cells : w.heap[R]? = some (.cells #[bv, .int .i64 p] 102 (0, 0))
  bytes : Sl 1 (plain fun n : Nat => [.int .u8 n]) (fun b => b < R) w bv xs
  small : ∀ x ∈ xs, x < 256
  len : xs.length ≤ 2000

theorem Rd.next {w w' : World} {R : Nat} {bv : Value} {xs : List Nat} {p : Nat} (h : Rd w R bv xs p) (hx : Ext (w.setCell ⟨R, 1, none⟩ (.int .i64 ((p : Int) + 1))) w') : Chg [R] w w' ∧ Rd w' R bv xs (p + 1) := by
  have hlt : R < w.heap.size := heap_lt h.cells
  have hc : Chg [R] w w' := ((Chg.refl [R] w).set (p := ⟨R, 1, none⟩) (.inl (by simp)) _).trans (Chg.of_ext hx)
  refine ⟨hc, ?_, ?_, h.small, h.len⟩
  · rw [hx.block R (by rw [setCell_size]; exact hlt), setCell_block h.cells]
    rfl
  · exact Sl.same (plain_kept _) h.bytes (fun b hb => hc.block b (Nat.lt_trans hb hlt) (by simpa using Nat.ne_of_lt hb)) (fun b hb => hb)

theorem xor_i64_nat (a b : Nat) (ha : a < 4611686018427387904) (hb : b < 4611686018427387904) : bits .xor .i64 (a : Int) (b : Int) = ((a ^^^ b : Nat) : Int) := by
  have h := Nat.xor_lt_two_pow (n := 62) ha hb
  simp only [bits, BitVec.ofInt_natCast, BitVec.toNat_xor, BitVec.toNat_ofNat]
  rw [Nat.mod_eq_of_lt (show a < 2 ^ IntKind.i64.bits by simp [IntKind.bits]; omega), Nat.mod_eq_of_lt (show b < 2 ^ IntKind.i64.bits by simp [IntKind.bits]; omega), IntKind.wrap_i64]
  omega

set_option maxHeartbeats 1000000 in
theorem pick_c (R : Nat) (bv : Value) (xs : List Nat) (p : Nat) (m : Int) (w : World) (h : Rd w R bv xs p) (hp : p ≤ 1000000) (hm : m ≤ 1000000) :
    Calls Try.prog 43 #[.pointer (some ⟨R, 0, none⟩), .int .i64 m] w (fun e w' => ∃ r : Int, e = .returned (.int .i64 r) ∧ 0 ≤ r ∧ (0 < m → r < m) ∧ Chg [R] w w' ∧ Rd w' R bv xs (p + 1)) := by
  have hRd : ∀ w', Ext (w.setCell ⟨R, 1, none⟩ (.int .i64 ((p : Int) + 1))) w' → Chg [R] w w' ∧ Rd w' R bv xs (p + 1) := fun w' hx => h.next hx
  have HRD := Lib.hid hRd; clear hRd
  obtain ⟨hR, hB, hS, hL⟩ := h
  obtain ⟨a, cap, rfl⟩ := hB.form
  have c0 : w.cell? ⟨R, 0, none⟩ = some (.slice a xs.length cap) := by rw [cell_block hR]; rfl
  have c1 : w.cell? ⟨R, 1, none⟩ = some (.int .i64 p) := by rw [cell_block hR]; rfl
  have f1 := frozen_block hR 1
  by_cases hm1 : m < 1
  · go_enter Try.func43, Try.ntmps43
    set_option maxRecDepth 20000 in
    go_wp2_with fail
    go_ret
    exact ⟨0, rfl, by omega, by omega, HRD.out _ (ext_refl _)⟩
  by_cases hl : xs.length = 0
  · have hlb : (((xs.length : Nat) : Int) == 0) = true := by simp [hl]
    clear hl
    go_enter Try.func43, Try.ntmps43
    set_option maxRecDepth 20000 in
    go_wp2_with fail
    go_ret
    exact ⟨0, rfl, by omega, fun h => h, HRD.out _ (ext_refl _)⟩
  have hlb : (((xs.length : Nat) : Int) == 0) = false := by simp only [beq_eq_false_iff_ne]; omega
  have hby0 : ∃ b o, a = some ⟨b, o, none⟩ ∧ b ≠ R ∧ ∀ (k : Nat) (hk : k < xs.length), w.cell? ⟨b, o + k, none⟩ = some (.int .u8 xs[k]) := by
    obtain ⟨b, o, ha, hb, _⟩ := Sl.at hB (k := 0) (by omega)
    refine ⟨b, o, ha, Nat.ne_of_lt hb, fun k hk => ?_⟩
    obtain ⟨b', o', ha', hb', hc'⟩ := Sl.at hB hk
    rw [ha] at ha'
    simp only [Option.some.injEq, Addr.mk.injEq] at ha'
    obtain ⟨rfl, rfl, -⟩ := ha'
    have := hc' 0 _ rfl
    simpa using this
  obtain ⟨b, o, rfl, hbR, hby⟩ := hby0
  have HB := Lib.hid hby; clear hby hB
  by_cases hpl : p < xs.length
  · have hx := HB.out p hpl
    have hxs := hS _ (List.getElem_mem hpl)
    have HS := Lib.hid hS; clear hS
    go_enter Try.func43, Try.ntmps43
    set_option maxRecDepth 20000 in
    go_wp2_with fail
    go_ret
    exact ⟨_, rfl, Int.emod_nonneg _ (by omega), fun h => Int.emod_lt_of_pos _ h, HRD.out _ (ext_refl _)⟩
  · obtain ⟨n, hn⟩ : ∃ n, n = xs.length := ⟨_, rfl⟩
    obtain ⟨i1, hi1⟩ : ∃ i, i = p % xs.length := ⟨_, rfl⟩
    obtain ⟨i2, hi2⟩ : ∃ i, i = (p * 7 + 3) % xs.length := ⟨_, rfl⟩
    obtain ⟨q, hq⟩ : ∃ i, i = p / xs.length := ⟨_, rfl⟩
    have hl1 : i1 < xs.length := by rw [hi1]; exact Nat.mod_lt _ (by omega)
    have hl2 : i2 < xs.length := by rw [hi2]; exact Nat.mod_lt _ (by omega)
    have hqp : q ≤ p := by rw [hq]; exact Nat.div_le_self _ _
    have hx1 := HB.out i1 hl1
    have hx2 := HB.out i2 hl2
    have hs1 := hS _ (List.getElem_mem hl1)
    have hs2 := hS _ (List.getElem_mem hl2)
    have HS := Lib.hid hS; clear hS
    have H1 := Lib.hid hi1; have H2 := Lib.hid hi2; have HQ := Lib.hid hq
    clear hi1 hi2 hq
    have E1 : Hid ((p : Int).tmod (xs.length : Int) = (i1 : Int)) := Lib.hid (by rw [H1.out]; simp [Int.tmod_eq_emod_of_nonneg])
    have E2 : Hid (((p : Int) * 7 + 3).tmod (xs.length : Int) = (i2 : Int)) := Lib.hid (by rw [H2.out, Int.tmod_eq_emod_of_nonneg (by omega)]; simp)
    have E3 : Hid ((p : Int) / (xs.length : Int) = (q : Int)) := Lib.hid (by rw [HQ.out]; simp)
    have C0 : (w.setCell ⟨R, 1, none⟩ (.int .i64 ((p : Int) + 1))).cell? ⟨R, 0, none⟩ = some (.slice (some ⟨b, o, none⟩) xs.length cap) := by rw [cell_block (setCell_block hR)]; rfl
    have C1 : (w.setCell ⟨R, 1, none⟩ (.int .i64 ((p : Int) + 1))).cell? ⟨b, o + i1, none⟩ = some (.int .u8 xs[i1]) := by rw [← hx1]; unfold World.cell?; rw [setCell_other hbR]
    have C2 : (w.setCell ⟨R, 1, none⟩ (.int .i64 ((p : Int) + 1))).cell? ⟨b, o + i2, none⟩ = some (.int .u8 xs[i2]) := by rw [← hx2]; unfold World.cell?; rw [setCell_other hbR]
    go_enter Try.func43, Try.ntmps43
    set_option maxRecDepth 20000 in
    go_wp2_with fail
    refine wp_region_ext [] [0, 1, 2, 3, 4, 5, 6, 7, 8, 9, 10, 11, 12, 13, 14, 15, 16, 17, 18, 19, 20, 21, 22, 23, 24, 25, 26, 27, 28, 29, 30, 31, 32, 33, 34, 35, 36, 37, 38, 39, 40, 41, 42, 43, 44, 45] [] [] (by kernel_rfl) (by kernel_rfl) ?late ?_
    case late => exact fun f hf => absurd hf List.not_mem_nil
    refine Rob.y (v := ?_) rfl rfl (fun w1 hx hH => ?_) ?_; rotate_left
    · go_simp; first | done | rfl | exact (Bool.not_not _).symm
    simp only [Act.put, List.setIfInBounds_toArray, List.set_cons_succ, List.set_cons_zero]
    refine Rob.y (v := ?_) rfl rfl (fun w1 hx hH => ?_) ?_; rotate_left
    · (have d0 := cell_ext hx C0; have d1 := cell_ext hx C1; have d2 := cell_ext hx C2); go_simp; first | done | rfl
    simp only [Act.put, List.setIfInBounds_toArray, List.set_cons_succ, List.set_cons_zero]
    refine Rob.y (v := ?_) rfl rfl (fun w1 hx hH => ?_) ?_; rotate_left
    · go_simp; first | done | rfl | exact (Bool.not_not _).symm
    simp only [Act.put, List.setIfInBounds_toArray, List.set_cons_succ, List.set_cons_zero]
    refine Rob.y (v := ?_) rfl rfl (fun w1 hx hH => ?_) ?_; rotate_left
    · (have d0 := cell_ext hx C0; have d1 := cell_ext hx C1; have d2 := cell_ext hx C2); go_simp; first | done | rfl
    simp only [Act.put, List.setIfInBounds_toArray, List.set_cons_succ, List.set_cons_zero]
    iterate 2
      refine Rob.y (v := ?_) rfl rfl (fun w1 hx hH => ?_) ?_; rotate_left
      · go_simp; first | done | rfl | exact (Bool.not_not _).symm
      simp only [Act.put, List.setIfInBounds_toArray, List.set_cons_succ, List.set_cons_zero]
    refine Rob.y (v := ?_) rfl rfl (fun w1 hx hH => ?_) ?_; rotate_left
    · (have d0 := cell_ext hx C0; have d1 := cell_ext hx C1; have d2 := cell_ext hx C2); go_simp; first | done | rfl
    simp only [Act.put, List.setIfInBounds_toArray, List.set_cons_succ, List.set_cons_zero]
    refine Rob.y (v := ?_) rfl rfl (fun w1 hx hH => ?_) ?_; rotate_left
    · go_simp; first | done | rfl | exact (Bool.not_not _).symm
    simp only [Act.put, List.setIfInBounds_toArray, List.set_cons_succ, List.set_cons_zero]
    refine Rob.y (v := ?_) rfl rfl (fun w1 hx hH => ?_) ?_; rotate_left
    · (have d0 := cell_ext hx C0; have d1 := cell_ext hx C1; have d2 := cell_ext hx C2); go_simp; first | done | rfl
    simp only [Act.put, List.setIfInBounds_toArray, List.set_cons_succ, List.set_cons_zero]
    refine Rob.y (v := ?_) rfl rfl (fun w1 hx hH => ?_) ?_; rotate_left
    · go_simp; first | done | rfl | exact (Bool.not_not _).symm
    simp only [Act.put, List.setIfInBounds_toArray, List.set_cons_succ, List.set_cons_zero]
    refine Rob.y (v := .int .i64 (i1 : Int)) rfl rfl (fun w1 hx hH => ?_) ?_
    · (go_simp; rw [E1.out])
    simp only [Act.put, List.setIfInBounds_toArray, List.set_cons_succ, List.set_cons_zero]
    iterate 2
      refine Rob.y (v := ?_) rfl rfl (fun w1 hx hH => ?_) ?_; rotate_left
      · (have d0 := cell_ext hx C0; have d1 := cell_ext hx C1; have d2 := cell_ext hx C2); go_simp; first | done | rfl
      simp only [Act.put, List.setIfInBounds_toArray, List.set_cons_succ, List.set_cons_zero]
    refine Rob.y (v := .int .i64 (xs[i1] : Int)) rfl rfl (fun w1 hx hH => ?_) ?_
    · (go_simp; rw [IntKind.wrap_i64]; omega)
    simp only [Act.put, List.setIfInBounds_toArray, List.set_cons_succ, List.set_cons_zero]
    refine Rob.y (v := .int .i64 ((xs[i1] * 131 : Nat) : Int)) rfl rfl (fun w1 hx hH => ?_) ?_
    · (go_simp; rw [IntKind.wrap_i64]; omega)
    simp only [Act.put, List.setIfInBounds_toArray, List.set_cons_succ, List.set_cons_zero]
    refine Rob.y (v := ?_) rfl rfl (fun w1 hx hH => ?_) ?_; rotate_left
    · go_simp; first | done | rfl | exact (Bool.not_not _).symm
    simp only [Act.put, List.setIfInBounds_toArray, List.set_cons_succ, List.set_cons_zero]
    refine Rob.y (v := ?_) rfl rfl (fun w1 hx hH => ?_) ?_; rotate_left
    · (have d0 := cell_ext hx C0; have d1 := cell_ext hx C1; have d2 := cell_ext hx C2); go_simp; first | done | rfl
    simp only [Act.put, List.setIfInBounds_toArray, List.set_cons_succ, List.set_cons_zero]
    refine Rob.y (v := ?_) rfl rfl (fun w1 hx hH => ?_) ?_; rotate_left
    · go_simp; first | done | rfl | exact (Bool.not_not _).symm
    simp only [Act.put, List.setIfInBounds_toArray, List.set_cons_succ, List.set_cons_zero]
    refine Rob.y (v := ?_) rfl rfl (fun w1 hx hH => ?_) ?_; rotate_left
    · (have d0 := cell_ext hx C0; have d1 := cell_ext hx C1; have d2 := cell_ext hx C2); go_simp; first | done | rfl
    simp only [Act.put, List.setIfInBounds_toArray, List.set_cons_succ, List.set_cons_zero]
    refine Rob.y (v := ?_) rfl rfl (fun w1 hx hH => ?_) ?_; rotate_left
    · go_simp; first | done | rfl | exact (Bool.not_not _).symm
    simp only [Act.put, List.setIfInBounds_toArray, List.set_cons_succ, List.set_cons_zero]
    refine Rob.y (v := .int .i64 ((p * 7 : Nat) : Int)) rfl rfl (fun w1 hx hH => ?_) ?_
    · (go_simp; rw [IntKind.wrap_i64]; omega)
    simp only [Act.put, List.setIfInBounds_toArray, List.set_cons_succ, List.set_cons_zero]
    refine Rob.y (v := .int .i64 ((p * 7 + 3 : Nat) : Int)) rfl rfl (fun w1 hx hH => ?_) ?_
    · (go_simp; rw [IntKind.wrap_i64]; omega)
    simp only [Act.put, List.setIfInBounds_toArray, List.set_cons_succ, List.set_cons_zero]
    refine Rob.y (v := ?_) rfl rfl (fun w1 hx hH => ?_) ?_; rotate_left
    · go_simp; first | done | rfl | exact (Bool.not_not _).symm
    simp only [Act.put, List.setIfInBounds_toArray, List.set_cons_succ, List.set_cons_zero]
    refine Rob.y (v := ?_) rfl rfl (fun w1 hx hH => ?_) ?_; rotate_left
    · (have d0 := cell_ext hx C0; have d1 := cell_ext hx C1; have d2 := cell_ext hx C2); go_simp; first | done | rfl
    simp only [Act.put, List.setIfInBounds_toArray, List.set_cons_succ, List.set_cons_zero]
    refine Rob.y (v := ?_) rfl rfl (fun w1 hx hH => ?_) ?_; rotate_left
    · go_simp; first | done | rfl | exact (Bool.not_not _).symm
    simp only [Act.put, List.setIfInBounds_toArray, List.set_cons_succ, List.set_cons_zero]
    refine Rob.y (v := ?_) rfl rfl (fun w1 hx hH => ?_) ?_; rotate_left
    · (have d0 := cell_ext hx C0; have d1 := cell_ext hx C1; have d2 := cell_ext hx C2); go_simp; first | done | rfl
    simp only [Act.put, List.setIfInBounds_toArray, List.set_cons_succ, List.set_cons_zero]
    refine Rob.y (v := ?_) rfl rfl (fun w1 hx hH => ?_) ?_; rotate_left
    · go_simp; first | done | rfl | exact (Bool.not_not _).symm
    simp only [Act.put, List.setIfInBounds_toArray, List.set_cons_succ, List.set_cons_zero]
    refine Rob.y (v := .int .i64 (i2 : Int)) rfl rfl (fun w1 hx hH => ?_) ?_
    · (go_simp; rw [E2.out])
    simp only [Act.put, List.setIfInBounds_toArray, List.set_cons_succ, List.set_cons_zero]
    iterate 2
      refine Rob.y (v := ?_) rfl rfl (fun w1 hx hH => ?_) ?_; rotate_left
      · (have d0 := cell_ext hx C0; have d1 := cell_ext hx C1; have d2 := cell_ext hx C2); go_simp; first | done | rfl
      simp only [Act.put, List.setIfInBounds_toArray, List.set_cons_succ, List.set_cons_zero]
    refine Rob.y (v := .int .i64 (xs[i2] : Int)) rfl rfl (fun w1 hx hH => ?_) ?_
    · (go_simp; rw [IntKind.wrap_i64]; omega)
    simp only [Act.put, List.setIfInBounds_toArray, List.set_cons_succ, List.set_cons_zero]
    refine Rob.y (v := .int .i64 ((xs[i2] * 1117 : Nat) : Int)) rfl rfl (fun w1 hx hH => ?_) ?_
    · (go_simp; rw [IntKind.wrap_i64]; omega)
    simp only [Act.put, List.setIfInBounds_toArray, List.set_cons_succ, List.set_cons_zero]
    refine Rob.y (v := .int .i64 ((xs[i1] * 131 + xs[i2] * 1117 : Nat) : Int)) rfl rfl (fun w1 hx hH => ?_) ?_
    · (go_simp; rw [IntKind.wrap_i64]; omega)
    simp only [Act.put, List.setIfInBounds_toArray, List.set_cons_succ, List.set_cons_zero]
    refine Rob.y (v := ?_) rfl rfl (fun w1 hx hH => ?_) ?_; rotate_left
    · go_simp; first | done | rfl | exact (Bool.not_not _).symm
    simp only [Act.put, List.setIfInBounds_toArray, List.set_cons_succ, List.set_cons_zero]
    refine Rob.y (v := .int .i64 ((p * 29 : Nat) : Int)) rfl rfl (fun w1 hx hH => ?_) ?_
    · (go_simp; rw [IntKind.wrap_i64]; omega)
    simp only [Act.put, List.setIfInBounds_toArray, List.set_cons_succ, List.set_cons_zero]
    refine Rob.y (v := .int .i64 ((xs[i1] * 131 + xs[i2] * 1117 + p * 29 : Nat) : Int)) rfl rfl (fun w1 hx hH => ?_) ?_
    · (go_simp; rw [IntKind.wrap_i64]; omega)
    simp only [Act.put, List.setIfInBounds_toArray, List.set_cons_succ, List.set_cons_zero]
    iterate 2
      refine Rob.y (v := ?_) rfl rfl (fun w1 hx hH => ?_) ?_; rotate_left
      · go_simp; first | done | rfl | exact (Bool.not_not _).symm
      simp only [Act.put, List.setIfInBounds_toArray, List.set_cons_succ, List.set_cons_zero]
    refine Rob.y (v := ?_) rfl rfl (fun w1 hx hH => ?_) ?_; rotate_left
    · (have d0 := cell_ext hx C0; have d1 := cell_ext hx C1; have d2 := cell_ext hx C2); go_simp; first | done | rfl
    simp only [Act.put, List.setIfInBounds_toArray, List.set_cons_succ, List.set_cons_zero]
    refine Rob.y (v := ?_) rfl rfl (fun w1 hx hH => ?_) ?_; rotate_left
    · go_simp; first | done | rfl | exact (Bool.not_not _).symm
    simp only [Act.put, List.setIfInBounds_toArray, List.set_cons_succ, List.set_cons_zero]
    refine Rob.y (v := ?_) rfl rfl (fun w1 hx hH => ?_) ?_; rotate_left
    · (have d0 := cell_ext hx C0; have d1 := cell_ext hx C1; have d2 := cell_ext hx C2); go_simp; first | done | rfl
    simp only [Act.put, List.setIfInBounds_toArray, List.set_cons_succ, List.set_cons_zero]
    refine Rob.y (v := ?_) rfl rfl (fun w1 hx hH => ?_) ?_; rotate_left
    · go_simp; first | done | rfl | exact (Bool.not_not _).symm
    simp only [Act.put, List.setIfInBounds_toArray, List.set_cons_succ, List.set_cons_zero]
    refine Rob.y (v := .int .i64 (q : Int)) rfl rfl (fun w1 hx hH => ?_) ?_
    · (go_simp; rw [E3.out, IntKind.wrap_i64]; omega)
    simp only [Act.put, List.setIfInBounds_toArray, List.set_cons_succ, List.set_cons_zero]
    refine Rob.y (v := .int .i64 ((q * 53 : Nat) : Int)) rfl rfl (fun w1 hx hH => ?_) ?_
    · (go_simp; rw [IntKind.wrap_i64]; omega)
    simp only [Act.put, List.setIfInBounds_toArray, List.set_cons_succ, List.set_cons_zero]
    refine Rob.y (v := .int .i64 ((xs[i1] * 131 + xs[i2] * 1117 + p * 29 + q * 53 : Nat) : Int)) rfl rfl (fun w1 hx hH => ?_) ?_
    · (go_simp; rw [IntKind.wrap_i64]; omega)
    simp only [Act.put, List.setIfInBounds_toArray, List.set_cons_succ, List.set_cons_zero]
    refine Rob.y (v := ?_) rfl rfl (fun w1 hx hH => ?_) ?_; rotate_left
    · go_simp; first | done | rfl | exact (Bool.not_not _).symm
    simp only [Act.put, List.setIfInBounds_toArray, List.set_cons_succ, List.set_cons_zero]
    refine fin_nil (fun w1 hx1 _ => ?_)
    obtain ⟨t, ht⟩ : ∃ t, t = xs[i1] * 131 + xs[i2] * 1117 + p * 29 + q * 53 := ⟨_, rfl⟩
    have ht1 : t < 4611686018427387904 := by omega
    have htz : ((xs[i1] : Int) * 131 + (xs[i2] : Int) * 1117 + (p : Int) * 29 + (q : Int) * 53) = (t : Int) := by omega
    have hxr : bits .xor .i64 ((xs[i1] : Int) * 131 + (xs[i2] : Int) * 1117 + (p : Int) * 29 + (q : Int) * 53) (((xs[i1] : Int) * 131 + (xs[i2] : Int) * 1117 + (p : Int) * 29 + (q : Int) * 53) / 64) = ((t ^^^ (t / 64) : Nat) : Int) := by
      rw [htz, show ((t : Int) / 64) = ((t / 64 : Nat) : Int) by omega, xor_i64_nat _ _ ht1 (by omega)]
    clear htz
    have HT := Lib.hid ht; clear ht
    go_wp2
    go_ret
    refine ⟨_, rfl, ?_, fun h => ?_, HRD.out _ hx1⟩
    · exact Int.emod_nonneg _ (by omega)
    · exact Int.emod_lt_of_pos _ h

abbrev Bytes (D : Nat → Prop) (w : World) (v : Value) (xs : List Nat) : Prop := Sl 1 (plain fun n : Nat => [.int .u8 n]) D w v xs

theorem Sl.take {α : Type} {n : Nat} {E : Enc α} {D : Nat → Prop} {w : World} {a : Option Addr} {len cap : Nat} {xs : List α} (h : Sl n E D w (.slice a len cap) xs) (k : Nat) (hk : k ≤ xs.length) : Sl n E D w (.slice a k cap) (xs.take k) := by
  obtain ⟨a', cap', hv, hx⟩ := h
  injection hv with h1 h2 h3
  subst h1 h3
  refine ⟨a, cap, by rw [List.length_take, Nat.min_eq_left hk], fun i x hi => hx i x ?_⟩
  have hik : i < k := by
    have := (List.getElem?_eq_some_iff.1 hi).1
    simp at this; omega
  rwa [List.getElem?_take_of_lt hik] at hi

theorem Rd.made {w : World} {bv : Value} {ys : List Nat} (h : Bytes (Old w) w bv ys) (hs : ∀ x ∈ ys, x < 256) (hl : ys.length ≤ 2000) : Rd (w.alloc (.cells #[bv, .int .i64 0] 102)) w.heap.size bv ys 0 := by
  refine ⟨alloc_get_new rfl, ?_, hs, hl⟩
  exact Sl.same (plain_kept _) h (fun b hb => alloc_get_old hb) (fun b hb => hb)

theorem l6Open_c (v : Value) (xs : List Nat) (w : World) (h : Bytes (Old w) w v xs) (hs : ∀ x ∈ xs, x < 256) (hn : xs.length ≤ 1048576) (hcap : ∀ a n c, v = .slice a n c → n ≤ c) :
    Calls Try.prog 41 #[v] w (fun e w' => ∃ R bv ys, e = .returned (.pointer (some ⟨R, 0, none⟩)) ∧ w.heap.size ≤ R ∧ Ext w w' ∧ Rd w' R bv ys 0) := by
  obtain ⟨a, cap, rfl⟩ := h.form
  have hc := hcap _ _ _ rfl
  clear hcap
  by_cases hl : xs.length ≤ 2000
  · go_enter Try.func41, Try.ntmps41
    go_wp2_with fail
    refine bodyPost_ret (v := .pointer (some ⟨w.heap.size, 0, none⟩)) (by simp [results, Try.results41, go_sem]) rfl ⟨_, _, xs, rfl, Nat.le_refl _, ext_alloc (ext_refl _) _, Rd.made h hs hl⟩
  · have H := Lib.hid (h.take 2000 (by omega))
    go_enter Try.func41, Try.ntmps41
    go_wp2_with fail
    refine bodyPost_ret (v := .pointer (some ⟨w.heap.size, 0, none⟩)) (by simp [results, Try.results41, go_sem]) rfl ⟨_, _, xs.take 2000, rfl, Nat.le_refl _, ext_alloc (ext_refl _) _, Rd.made ?_ (fun x hx => hs x (List.mem_of_mem_take hx)) (by simp; omega)⟩
    exact H.out
end Go.Bu

set_option linter.unusedVariables false
set_option linter.unusedSimpArgs false
namespace Go.Bu
open Go Go.RowKit Go.Plan Go.Proofs

/-- what a draw leaves: a value of which something is known, the reader moved on -/
def Drawn (R : Nat) (bv : Value) (xs : List Nat) (p K : Nat) (w : World) (Φ : Value → World → Prop) (e : Ending) (w' : World) : Prop :=
  ∃ v q, e = .returned v ∧ Chg [R] w w' ∧ Rd w' R bv xs q ∧ q ≤ p + K ∧ Φ v w'

theorem Chg.keep {L : List Nat} {w w' : World} {b : Nat} {o : Obj} (h : Chg L w w') (hb : w.heap[b]? = some o) (hL : b ∉ L) : w'.heap[b]? = some o := by rw [h.block b (heap_lt hb) hL]; exact hb
theorem keep_ext {w w' : World} {b : Nat} {o : Obj} (h : Ext w w') (hb : w.heap[b]? = some o) : w'.heap[b]? = some o := by rw [h.block b (heap_lt hb)]; exact hb

/-- a variable of three cells, as the walk reads it -/
theorem cellsC {w : World} {B T : Nat} {c0 c1 c2 : Value} (h : w.heap[B]? = some (.cells #[c0, c1, c2] T (0, 0))) : w.cell? ⟨B, 0, none⟩ = some c0 ∧ w.cell? ⟨B, 1, none⟩ = some c1 ∧ w.cell? ⟨B, 2, none⟩ = some c2 ∧ ∀ j, w.frozen? ⟨B, j, none⟩ = false :=
  ⟨by rw [cell_block h]; rfl, by rw [cell_block h]; rfl, by rw [cell_block h]; rfl, frozen_block h⟩

theorem Rd.ext {w w' : World} {R : Nat} {bv : Value} {xs : List Nat} {p : Nat} (h : Rd w R bv xs p) (hx : Ext w w') : Rd w' R bv xs p :=
  ⟨by rw [hx.block R (heap_lt h.cells)]; exact h.cells, Sl.same (plain_kept _) h.bytes (fun b hb => hx.block b (Nat.lt_trans hb (heap_lt h.cells))) (fun b hb => hb), h.small, h.len⟩
theorem Rd.set {w : World} {R : Nat} {bv : Value} {xs : List Nat} {p : Nat} (h : Rd w R bv xs p) {a : Addr} (ha : R < a.block) (u : Value) : Rd (w.setCell a u) R bv xs p :=
  ⟨by rw [Below.heap_setCell _ _ _ _ (Nat.ne_of_lt ha)]; exact h.cells, Sl.same (plain_kept _) h.bytes (fun b hb => Below.heap_setCell _ _ _ _ (Nat.ne_of_lt (Nat.lt_trans hb ha))) (fun b hb => hb), h.small, h.len⟩
theorem Rd.alloc {w : World} {R : Nat} {bv : Value} {xs : List Nat} {p : Nat} (h : Rd w R bv xs p) (o : Obj) : Rd (w.alloc o) R bv xs p := h.ext (ext_alloc (ext_refl _) o)
theorem Rd.set2 {w : World} {R : Nat} {bv : Value} {xs : List Nat} {p : Nat} {a : Addr} {u : Value} (ha : R < a.block) (h : Rd w R bv xs p) : Rd (w.setCell a u) R bv xs p := h.set ha u
theorem Rd.alloc2 {w : World} {R : Nat} {bv : Value} {xs : List Nat} {p : Nat} {o : Obj} (h : Rd w R bv xs p) : Rd (w.alloc o) R bv xs p := h.alloc o
theorem Chg.set2 {L : List Nat} {a b : World} {p : Addr} {u : Value} (hp : p.block ∈ L ∨ a.heap.size ≤ p.block) (h : Chg L a b) : Chg L a (b.setCell p u) := h.set hp u
theorem Chg.alloc2 {L : List Nat} {a b : World} {o : Obj} (h : Chg L a b) : Chg L a (b.alloc o) := h.alloc o
theorem Rd.lt {w : World} {R : Nat} {bv : Value} {xs : List Nat} {p : Nat} (h : Rd w R bv xs p) : R < w.heap.size := heap_lt h.cells

-- (not in this seat: function spec.l72Cost)
end Go.Bu

set_option linter.unusedVariables false
set_option linter.unusedSimpArgs false
namespace Go.Bu
open Go Go.RowKit Go.Plan Go.Proofs

/-- the whole of block B is known and may be written; xs lie in it from cell o on -/
def OwnAt {α : Type} (n : Nat) (enc : α → List Value) (T : TypeId) (w : World) (B o : Nat) (xs : List α) : Prop := ∃ c, w.heap[B]? = some (.cells c T (0, 0)) ∧ InBlock n enc c o xs

section
variable {α : Type} {n : Nat} {enc : α → List Value} {T : TypeId} {w w' : World} {B o : Nat} {xs : List α}

theorem OwnAt.lt (h : OwnAt n enc T w B o xs) : B < w.heap.size := by obtain ⟨c, hc, _⟩ := h; exact heap_lt hc
theorem OwnAt.keep (h : OwnAt n enc T w B o xs) (hb : w'.heap[B]? = w.heap[B]?) : OwnAt n enc T w' B o xs := by obtain ⟨c, hc, hi⟩ := h; exact ⟨c, by rw [hb]; exact hc, hi⟩
theorem OwnAt.ext (h : OwnAt n enc T w B o xs) (he : Ext w w') : OwnAt n enc T w' B o xs := h.keep (he.block _ h.lt)
theorem OwnAt.chg {L : List Nat} (h : OwnAt n enc T w B o xs) (he : Chg L w w') (hB : B ∉ L) : OwnAt n enc T w' B o xs := h.keep (he.block _ h.lt hB)
theorem OwnAt.cell (h : OwnAt n enc T w B o xs) {k : Nat} {x : α} (hk : xs[k]? = some x) {j : Nat} {u : Value} (hu : (enc x)[j]? = some u) : w.cell? ⟨B, o + k * n + j, none⟩ = some u := by
  obtain ⟨c, hc, hi⟩ := h; rw [cell_block hc]; exact hi k x hk j u hu
theorem OwnAt.frozen (h : OwnAt n enc T w B o xs) (j : Nat) : w.frozen? ⟨B, j, none⟩ = false := by obtain ⟨c, hc, _⟩ := h; exact frozen_block hc j
theorem OwnAt.of (h : OwnAt n enc T w B o xs) {D : Nat → Prop} (hD : D B) (cap : Nat) : Sl n (plain enc) D w (.slice (some ⟨B, o, none⟩) xs.length cap) xs := by
  obtain ⟨c, hc, hi⟩ := h
  exact ⟨_, cap, rfl, fun i x hx => ⟨B, o, enc x, rfl, hD, rfl, fun j u hu => by rw [cell_block hc]; exact hi i x hx j u hu⟩⟩

/-- one element written, whole -/
theorem OwnAt.set (hn : ∀ x, (enc x).length = n) (hp : 0 < n) (h : OwnAt n enc T w B o xs) {k : Nat} (hk : k < xs.length) (y : α) : OwnAt n enc T (setAll w B (o + k * n) (enc y)) B o (xs.set k y) := by
  obtain ⟨c, hc, hi⟩ := h
  have hle : o + k * n + (enc y).length ≤ c.size := by
    rw [hn]
    have := hi k xs[k] (List.getElem?_eq_getElem hk) (n - 1) ((enc xs[k])[n - 1]'(by rw [hn]; omega)) (List.getElem?_eq_getElem _)
    have := (Array.getElem?_eq_some_iff.1 this).1
    omega
  obtain ⟨c', g1, g2, g3⟩ := setAll_part (enc y) w (o + k * n) c hc hle
  refine ⟨c', g1, fun i x hx j u hu => ?_⟩
  rw [g3]
  have hj : j < n := by rw [← hn x]; exact (List.getElem?_eq_some_iff.1 hu).1
  by_cases hik : i = k
  · subst hik
    rw [List.getElem?_set_self hk] at hx
    obtain rfl := Option.some.inj hx
    rw [if_pos (by rw [hn]; omega), show o + i * n + j - (o + i * n) = j by omega]
    exact hu
  · rw [List.getElem?_set_ne (Ne.symm hik)] at hx
    rw [if_neg ?_]
    · exact hi i x hx j u hu
    · rw [hn]
      rcases Nat.lt_or_gt_of_ne hik with h | h
      · have : (i + 1) * n ≤ k * n := Nat.mul_le_mul_right n h
        rw [Nat.succ_mul] at this; omega
      · have : (k + 1) * n ≤ i * n := Nat.mul_le_mul_right n h
        rw [Nat.succ_mul] at this; omega
/-- one cell of an element written -/
theorem OwnAt.set1 (hn : ∀ x, (enc x).length = n) (h : OwnAt n enc T w B o xs) {k : Nat} (hk : k < xs.length) {j : Nat} (hj : j < n) (u : Value) (y : α) (hy : enc y = (enc xs[k]).set j u) : OwnAt n enc T (w.setCell ⟨B, o + k * n + j, none⟩ u) B o (xs.set k y) := by
  obtain ⟨c, hc, hi⟩ := h
  refine ⟨_, setCell_block hc, fun i x hx l t hu => ?_⟩
  have hl : l < n := by rw [← hn x]; exact (List.getElem?_eq_some_iff.1 hu).1
  by_cases hik : i = k
  · subst hik
    rw [List.getElem?_set_self hk] at hx
    obtain rfl := Option.some.inj hx
    rw [hy] at hu
    have hc0 := hi i xs[i] (List.getElem?_eq_getElem hk)
    by_cases hlj : l = j
    · subst hlj
      rw [List.getElem?_set_self (by rw [hn]; exact hl)] at hu
      have := (Array.getElem?_eq_some_iff.1 (hc0 l ((enc xs[i])[l]'(by rw [hn]; exact hl)) (List.getElem?_eq_getElem _))).1
      rw [Array.getElem?_setIfInBounds_self_of_lt this]; exact hu
    · rw [List.getElem?_set_ne (Ne.symm hlj)] at hu
      rw [Array.getElem?_setIfInBounds_ne (by omega)]
      exact hc0 l t hu
  · rw [List.getElem?_set_ne (Ne.symm hik)] at hx
    rw [Array.getElem?_setIfInBounds_ne ?_]
    · exact hi i x hx l t hu
    · rcases Nat.lt_or_gt_of_ne hik with h | h
      · have : (i + 1) * n ≤ k * n := Nat.mul_le_mul_right n h
        rw [Nat.succ_mul] at this; omega
      · have : (k + 1) * n ≤ i * n := Nat.mul_le_mul_right n h
        rw [Nat.succ_mul] at this; omega
end

/-- a slice value whose row is owned -/
def OwnT {α : Type} (n : Nat) (enc : α → List Value) (T : TypeId) (w : World) (v : Value) (xs : List α) (B : Nat) : Prop := ∃ o cap, v = .slice (some ⟨B, o, none⟩) xs.length (xs.length + cap) ∧ OwnAt n enc T w B o xs

section
variable {α : Type} {n : Nat} {enc : α → List Value} {T : TypeId} {w w' : World} {v : Value} {B : Nat} {xs : List α}
theorem OwnT.lt (h : OwnT n enc T w v xs B) : B < w.heap.size := by obtain ⟨o, cap, _, ha⟩ := h; exact ha.lt
theorem OwnT.keep (h : OwnT n enc T w v xs B) (hb : w'.heap[B]? = w.heap[B]?) : OwnT n enc T w' v xs B := by obtain ⟨o, cap, hv, ha⟩ := h; exact ⟨o, cap, hv, ha.keep hb⟩
theorem OwnT.ext (h : OwnT n enc T w v xs B) (he : Ext w w') : OwnT n enc T w' v xs B := h.keep (he.block _ h.lt)
theorem OwnT.chg {L : List Nat} (h : OwnT n enc T w v xs B) (he : Chg L w w') (hB : B ∉ L) : OwnT n enc T w' v xs B := h.keep (he.block _ h.lt hB)
theorem OwnT.sl (h : OwnT n enc T w v xs B) {D : Nat → Prop} (hD : D B) : Sl n (plain enc) D w v xs := by obtain ⟨o, cap, rfl, ha⟩ := h; exact ha.of hD _
theorem OwnT.old (h : OwnT n enc T w v xs B) : Sl n (plain enc) (Old w) w v xs := h.sl h.lt
theorem OwnT.block (h : OwnT n enc T w v xs B) : ∃ c, w.heap[B]? = some (.cells c T (0, 0)) := by obtain ⟨o, cap, _, c, hc, _⟩ := h; exact ⟨c, hc⟩
end

/-- a slice value whose row is owned, of whatever type the row's block is -/
def OwnV {α : Type} (n : Nat) (enc : α → List Value) (w : World) (v : Value) (xs : List α) (B : Nat) : Prop := ∃ T, OwnT n enc T w v xs B
section
variable {α : Type} {n : Nat} {enc : α → List Value} {w w' : World} {v : Value} {B : Nat} {xs : List α}
theorem OwnT.any {T : TypeId} (h : OwnT n enc T w v xs B) : OwnV n enc w v xs B := ⟨T, h⟩
theorem OwnV.lt (h : OwnV n enc w v xs B) : B < w.heap.size := by obtain ⟨T, h⟩ := h; exact h.lt
theorem OwnV.keep (h : OwnV n enc w v xs B) (hb : w'.heap[B]? = w.heap[B]?) : OwnV n enc w' v xs B := by obtain ⟨T, h⟩ := h; exact ⟨T, h.keep hb⟩
theorem OwnV.ext (h : OwnV n enc w v xs B) (he : Ext w w') : OwnV n enc w' v xs B := h.keep (he.block _ h.lt)
theorem OwnV.chg {L : List Nat} (h : OwnV n enc w v xs B) (he : Chg L w w') (hB : B ∉ L) : OwnV n enc w' v xs B := h.keep (he.block _ h.lt hB)
theorem OwnV.old (h : OwnV n enc w v xs B) : Sl n (plain enc) (Old w) w v xs := by obtain ⟨T, h⟩ := h; exact h.old
end

abbrev intC (n : Int) : List Value := [.int .i64 n]
abbrev rowC (r : Value × Int) : List Value := [r.1, .int .i64 r.2]
abbrev OwnPages (w : World) (v : Value) (ps : List Page) (b : Nat) : Prop := OwnV 5 pageC w v ps b
abbrev OwnInts (w : World) (v : Value) (xs : List Int) (b : Nat) : Prop := OwnV 1 intC w v xs b

/-- a flash of the call's own: the outer row B, the pages' rows bs -/
def OwnFlash (w : World) (v : Value) (f : List Block) (B : Nat) (bs : List Nat) : Prop :=
  ∃ rows, OwnV 2 rowC w v rows B ∧ rows.length = f.length ∧ bs.length = f.length ∧
    ∀ (i : Nat) x r b, f[i]? = some x → rows[i]? = some r → bs[i]? = some b → r.2 = x.worn ∧ OwnPages w r.1 x.pages b

theorem OwnFlash.lt {w : World} {v : Value} {f : List Block} {B : Nat} {bs : List Nat} (h : OwnFlash w v f B bs) : ∀ b ∈ B :: bs, b < w.heap.size := by
  obtain ⟨rows, h1, h2, h3, h4⟩ := h
  intro b hb
  rcases List.mem_cons.1 hb with rfl | hb
  · exact h1.lt
  · obtain ⟨i, hi, rfl⟩ := List.mem_iff_getElem.1 hb
    exact (h4 i f[i] rows[i] bs[i] (List.getElem?_eq_getElem (by omega)) (List.getElem?_eq_getElem (by omega)) (List.getElem?_eq_getElem _)).2.lt

theorem OwnFlash.keep {w w' : World} {v : Value} {f : List Block} {B : Nat} {bs : List Nat} (h : OwnFlash w v f B bs) (hb : ∀ b ∈ B :: bs, w'.heap[b]? = w.heap[b]?) : OwnFlash w' v f B bs := by
  obtain ⟨rows, h1, h2, h3, h4⟩ := h
  refine ⟨rows, h1.keep (hb B (by simp)), h2, h3, fun i x r b hx hr hbi => ?_⟩
  obtain ⟨h5, h6⟩ := h4 i x r b hx hr hbi
  exact ⟨h5, h6.keep (hb b (List.mem_cons_of_mem _ (List.mem_of_getElem? hbi)))⟩
theorem OwnFlash.ext {w w' : World} {v : Value} {f : List Block} {B : Nat} {bs : List Nat} (h : OwnFlash w v f B bs) (he : Ext w w') : OwnFlash w' v f B bs := h.keep fun b hb => he.block b (h.lt b hb)
theorem OwnFlash.chg {w w' : World} {v : Value} {f : List Block} {B : Nat} {bs L : List Nat} (h : OwnFlash w v f B bs) (he : Chg L w w') (hL : ∀ b ∈ B :: bs, b ∉ L) : OwnFlash w' v f B bs := h.keep fun b hb => he.block b (h.lt b hb) (hL b hb)

theorem OwnFlash.flash {w : World} {v : Value} {f : List Block} {B : Nat} {bs : List Nat} (h : OwnFlash w v f B bs) : Flash (Old w) w v f := by
  have hlt := h.lt
  obtain ⟨rows, ⟨T, o, cap, hv, c, hc, hi⟩, h2, h3, h4⟩ := h
  refine ⟨some ⟨B, o, none⟩, f.length + cap, by rw [hv, h2], fun i x hx => ?_⟩
  have hil : i < f.length := (List.getElem?_eq_some_iff.1 hx).1
  obtain ⟨h5, h6⟩ := h4 i x rows[i] bs[i] hx (List.getElem?_eq_getElem (by omega)) (List.getElem?_eq_getElem (by omega))
  refine ⟨B, o, rowC rows[i], rfl, hlt B (by simp), ⟨rows[i].1, by rw [← h5], h6.old⟩, fun j u hu => ?_⟩
  rw [cell_block hc]
  exact hi i rows[i] (List.getElem?_eq_getElem (by omega)) j u hu

/-- a store of the call's own: its blocks -/
def OwnStore (w : World) (f d : Value) (s : Store) (L : List Nat) : Prop := ∃ B bs D, L = B :: bs ++ [D] ∧ OwnFlash w f s.flash B bs ∧ OwnInts w d s.disk D

theorem OwnStore.lt {w : World} {f d : Value} {s : Store} {L : List Nat} (h : OwnStore w f d s L) : ∀ b ∈ L, b < w.heap.size := by
  obtain ⟨B, bs, D, rfl, h1, h2⟩ := h
  intro b hb
  rcases List.mem_append.1 hb with hb | hb
  · exact h1.lt b hb
  · obtain rfl := List.mem_singleton.1 hb; exact h2.lt
theorem OwnStore.keep {w w' : World} {f d : Value} {s : Store} {L : List Nat} (h : OwnStore w f d s L) (hb : ∀ b ∈ L, w'.heap[b]? = w.heap[b]?) : OwnStore w' f d s L := by
  obtain ⟨B, bs, D, rfl, h1, h2⟩ := h
  exact ⟨B, bs, D, rfl, h1.keep fun b hm => hb b (List.mem_append_left _ hm), h2.keep (hb D (by simp))⟩
theorem OwnStore.ext {w w' : World} {f d : Value} {s : Store} {L : List Nat} (h : OwnStore w f d s L) (he : Ext w w') : OwnStore w' f d s L := h.keep fun b hb => he.block b (h.lt b hb)
theorem OwnStore.chg {w w' : World} {f d : Value} {s : Store} {L K : List Nat} (h : OwnStore w f d s L) (he : Chg K w w') (hL : ∀ b ∈ L, b ∉ K) : OwnStore w' f d s L := h.keep fun b hb => he.block b (h.lt b hb) (hL b hb)
theorem OwnStore.flash {w : World} {f d : Value} {s : Store} {L : List Nat} (h : OwnStore w f d s L) : Flash (Old w) w f s.flash := by obtain ⟨B, bs, D, rfl, h1, h2⟩ := h; exact h1.flash
theorem OwnStore.disk {w : World} {f d : Value} {s : Store} {L : List Nat} (h : OwnStore w f d s L) : Ints (Old w) w d s.disk := by obtain ⟨B, bs, D, rfl, h1, h2⟩ := h; exact h2.old

theorem OwnAt.five {T : TypeId} {w : World} {B o : Nat} {xs : List Page} (h : OwnAt 5 pageC T w B o xs) {k : Nat} (hk : k < xs.length) :
    w.cell? ⟨B, o + k * 5, none⟩ = some (.int .i64 xs[k].state) ∧ w.cell? ⟨B, o + k * 5 + 1, none⟩ = some (.int .i64 xs[k].r.kind) ∧ w.cell? ⟨B, o + k * 5 + 2, none⟩ = some (.int .i64 xs[k].r.seq) ∧
      w.cell? ⟨B, o + k * 5 + 3, none⟩ = some (.int .i64 xs[k].r.addr) ∧ w.cell? ⟨B, o + k * 5 + 4, none⟩ = some (.int .i64 xs[k].r.val) := by
  have hx := List.getElem?_eq_getElem hk
  exact ⟨h.cell hx (j := 0) rfl, h.cell hx (j := 1) rfl, h.cell hx (j := 2) rfl, h.cell hx (j := 3) rfl, h.cell hx (j := 4) rfl⟩

theorem OwnAt.two {T : TypeId} {w : World} {B o : Nat} {xs : List (Value × Int)} (h : OwnAt 2 rowC T w B o xs) {k : Nat} (hk : k < xs.length) :
    w.cell? ⟨B, o + k * 2, none⟩ = some xs[k].1 ∧ w.cell? ⟨B, o + k * 2 + 1, none⟩ = some (.int .i64 xs[k].2) := by
  have hx := List.getElem?_eq_getElem hk
  exact ⟨h.cell hx (j := 0) rfl, h.cell hx (j := 1) rfl⟩

theorem nodup_inj {l : List Nat} (h : l.Nodup) {i j b : Nat} (hi : l[i]? = some b) (hj : l[j]? = some b) : i = j := by
  obtain ⟨h1, e1⟩ := List.getElem?_eq_some_iff.1 hi
  obtain ⟨h2, e2⟩ := List.getElem?_eq_some_iff.1 hj
  rcases Nat.lt_trichotomy i j with hl | hl | hl
  · exact absurd (e1.trans e2.symm) (List.pairwise_iff_getElem.1 h i j h1 h2 hl)
  · exact hl
  · exact absurd (e2.trans e1.symm) (List.pairwise_iff_getElem.1 h j i h2 h1 hl)

theorem OwnAt.one {T : TypeId} {w : World} {B o : Nat} {xs : List Int} (h : OwnAt 1 intC T w B o xs) {k : Nat} (hk : k < xs.length) : w.cell? ⟨B, o + k, none⟩ = some (.int .i64 xs[k]) := by
  have := h.cell (List.getElem?_eq_getElem hk) (j := 0) rfl
  simpa using this

end Go.Bu

set_option linter.unusedVariables false
set_option linter.unusedSimpArgs false
namespace Go.Bu
open Go Go.RowKit Go.Plan Go.Proofs

theorem hg_set {w : World} {a : Addr} {v : Value} {b : Nat} {o : Obj} (hb : b ≠ a.block) (h : w.heap[b]? = some o) : (w.setCell a v).heap[b]? = some o := by rw [Below.heap_setCell _ _ _ _ hb]; exact h
theorem hg_here {w : World} {b k : Nat} {v : Value} {c : Array Value} {T : TypeId} {fr : Nat × Nat} (h : w.heap[b]? = some (.cells c T fr)) : (w.setCell ⟨b, k, none⟩ v).heap[b]? = some (.cells (c.setIfInBounds k v) T fr) := setCell_block h
theorem hg_alloc {w : World} {x : Obj} {b : Nat} {o : Obj} (h : w.heap[b]? = some o) : (w.alloc x).heap[b]? = some o := keep_ext (ext_alloc (ext_refl _) _) h
theorem hg_new {w : World} {x : Obj} {b : Nat} (h : b = w.heap.size) : (w.alloc x).heap[b]? = some x := alloc_get_new h

theorem hgo {w : World} {b : Nat} {o o' : Obj} (h : w.heap[b]? = some o) (e : o = o') : w.heap[b]? = some o' := by rw [h, e]

/-- the cells of a block, as a rule for the walk -/
theorem cellsK {w : World} {b : Nat} {c : Array Value} {T : TypeId} (h : w.heap[b]? = some (.cells c T (0, 0))) : (∀ j, w.cell? ⟨b, j, none⟩ = c[j]?) ∧ (∀ j, w.frozen? ⟨b, j, none⟩ = false) :=
  ⟨fun j => cell_block h j, fun j => frozen_block h j⟩

theorem foldl_drop {α σ : Type} (g : σ → α → σ) (s : σ) (xs : List α) (k : Nat) (h : k < xs.length) : (xs.drop k).foldl g s = (xs.drop (k + 1)).foldl g (g s xs[k]) := by
  rw [List.drop_eq_getElem_cons h, List.foldl_cons]
theorem foldl_end {α σ : Type} (g : σ → α → σ) (s : σ) (xs : List α) : (xs.drop xs.length).foldl g s = s := by rw [List.drop_length]; rfl

/-! ### a region that stores into one variable of the call's own, wherever the order lays the store -/
def SB (w : World) (B : Nat) (T : TypeId) (n : Nat) (w1 : World) : Prop := Chg [B] w w1 ∧ ∃ c, w1.heap[B]? = some (.cells c T (0, 0)) ∧ c.size = n

theorem SB.stab {w w1 w2 : World} {B T n : Nat} (h : SB w B T n w1) (hx : Ext w1 w2) : SB w B T n w2 := by
  obtain ⟨h1, c, h2, h3⟩ := h
  exact ⟨h1.trans (Chg.of_ext hx), c, keep_ext hx h2, h3⟩

section
variable {P : Program} {l : List Oper} {Q : Exit → Act → World → Prop} {ch L heads : List Nat} {lates : Lates} {tail : List Nat} {B0 : Nat} {S C : World → Prop} {iv : List (Nat × Nat)} {H : Nat} {a : Act}
  {fin : (World → Prop) → List (Nat × Nat) → Nat → Act → Prop}

theorem wp_region_st {w : World} (ch : List Nat) {B T : Nat} {c : Array Value} (hB : w.heap[B]? = some (.cells c T (0, 0))) (heads : List Nat) (lates : Lates) (tail : List Nat) {id : Nat} {a : Act} (hm : P.follows .mixedOrders = true)
    (hok : okPlan l ch heads (lates.map (·.1)) tail = true)
    (hlate : ∀ f ∈ lates, ∃ o, l[f.1]? = some o ∧ ∀ (a : Act) (w : World), (execOp a.eval o).run P w = .ok (.value (f.2.2 w.heap.size)) (w.alloc f.2.1))
    (h : Rob P l ch w.heap.size (Fin P l Q w.heap.size lates tail) heads (SB w B T c.size) (fun _ => True) [] w.heap.size a) : (Code.region id l.toArray true).wp P Q a w :=
  wp_region_plan ch heads lates tail hm hok hlate (SB w B T c.size) ⟨Chg.of_ext (ext_drew w), c, hB, rfl⟩ (fun _ _ h1 h2 => h1.stab h2) h

/-- a step that yields a bool: each way for itself -/
theorem Rob.yB {i : Nat} {o : Oper} {b : Bool} (ho : l[i]? = some o) (hg : Region.wanted o (yielded l.toArray a.tmps) = true)
    (hy : ∀ w1, S w1 → H ≤ w1.heap.size → (execOp a.eval o).run P w1 = .ok (.value (.bool b)) w1) (ht : b = true → Rob P l ch B0 fin L S C iv H (a.put o.dst (.bool true))) (hf : b = false → Rob P l ch B0 fin L S C iv H (a.put o.dst (.bool false))) : Rob P l ch B0 fin (i :: L) S C iv H a := by
  cases b with
  | true => exact Rob.yg ho hg hy (ht rfl)
  | false => exact Rob.yg ho hg hy (hf rfl)

/-- the store itself -/
theorem Rob.st {w : World} {i B T n : Nat} {o : Oper} {ty : TypeId} {x y : Operand} {cells : Array Value} (ho : l[i]? = some o) (hc : ch.contains i = true) (hg : Region.wanted o (yielded l.toArray a.tmps) = true)
    (hop : o.op = .store ty x y) (hx : a.eval x = .pointer (some ⟨B, 0, none⟩)) (hy : a.eval y = .agg cells) (hi : (P.info? ty).map (·.size) = some cells.size) (h1 : cells.all (·.oneCell') = true) (hn : cells.size = n) (hB : B < B0)
    (h : ∀ lo hi, H ≤ lo → lo ≤ hi → Rob P l ch B0 fin L (fun w1 => SB w B T n w1 ∧ w1.heap[B]? = some (.cells cells T (0, 0))) (fun _ => True) (iv ++ [(lo, hi)]) hi (a.put o.dst undef)) :
    Rob P l ch B0 fin (i :: L) (SB w B T n) (fun _ => True) iv H a := by
  refine ⟨o, ho, .inr ⟨hc, hg, fun _ _ v w1 => v = undef ∧ w1.heap[B]? = some (.cells cells T (0, 0)), fun _ _ _ _ => True, ⟨fun lo hi v w1 w2 h hx => ⟨h.1, keep_ext hx h.2⟩, fun _ _ _ _ _ _ _ => trivial⟩, fun w1 hs _ hw => ?_, fun lo hi v h1 h2 ⟨_, ⟨hv, _⟩, _⟩ => ?_⟩⟩
  · obtain ⟨hC, c, hb, hcs⟩ := hs
    have hth : w1.there B 0 cells.size := fun j hj => by
      rw [Nat.zero_add, cell_block hb, frozen_block hb, Array.getElem?_eq_getElem (by omega)]; exact ⟨rfl, rfl⟩
    unfold RunTo execOp
    simp only [hop, hx, hy, Sem.run_bind, Sem.run_pure, run_storeAt_mid w1 B 0 ty cells hth hi h1, Result.andThen_ok]
    obtain ⟨c', g1, g2, g3⟩ := setAll_block cells.toList w1 0 c hb (by simp; omega)
    have hcc : c' = cells := by
      apply Array.ext_getElem?
      intro j
      rw [g3 j, if_pos (Nat.zero_le _)]; simp
    have hs2 : (w1.setCells B 0 cells.toList).heap[B]? = some (.cells cells T (0, 0)) := by subst hcc; exact g1
    have hbl := setAll_below B 0 (Nat.zero_le _) cells.toList w1 0
    refine ⟨⟨by rw [setAll_size]; exact Nat.le_refl _, fun b hb _ _ => setAll_other B (by omega) _ _ _⟩, ⟨hC.trans ⟨hbl.os, hbl.tape, hbl.output, hbl.size, fun k hk hn => setAll_other B (by simpa using hn) _ _ _⟩, cells, hs2, hn⟩, ⟨?_, hs2⟩, trivial⟩
    first | rfl | trivial
  · subst hv
    have := h lo hi h1 h2
    rw [show (fun w1 => SB w B T n w1 ∧ undef = undef ∧ w1.heap[B]? = some (.cells cells T (0, 0))) = (fun w1 => SB w B T n w1 ∧ w1.heap[B]? = some (.cells cells T (0, 0))) from funext fun w => by simp]
    exact this
end
end Go.Bu

set_option linter.unusedVariables false
set_option linter.unusedSimpArgs false
namespace Go.Bu
open Go Go.RowKit Go.Plan Go.Proofs

/-- where a row lies: its block, its first cell, its capacity, its type -/
structure At where
  b : Nat
  o : Nat
  cap : Nat
  T : Nat
abbrev At.v (p : At) (n : Nat) : Value := .slice (some ⟨p.b, p.o, none⟩) n (n + p.cap)

/-- where a store lies -/
structure SC where
  F : At
  ps : List At
  D : At
def SC.fl (c : SC) : List Nat := c.F.b :: c.ps.map (·.b)
def SC.L (c : SC) : List Nat := c.fl ++ [c.D.b]
abbrev SC.fv (c : SC) (s : Store) : Value := c.F.v s.flash.length
abbrev SC.dv (c : SC) (s : Store) : Value := c.D.v s.disk.length

def rowOf (x : Block) (p : At) : Value × Int := (p.v x.pages.length, x.worn)
def rowsOf (f : List Block) (ps : List At) : List (Value × Int) := List.zipWith rowOf f ps

structure FlashAt (c : SC) (w : World) (f : List Block) : Prop where
  row : OwnAt 2 rowC c.F.T w c.F.b c.F.o (rowsOf f c.ps)
  len : c.ps.length = f.length
  pages : ∀ (i : Nat) x p, f[i]? = some x → c.ps[i]? = some p → OwnAt 5 pageC p.T w p.b p.o x.pages

structure OwnS (c : SC) (w : World) (s : Store) : Prop where
  flash : FlashAt c w s.flash
  disk : OwnAt 1 intC c.D.T w c.D.b c.D.o s.disk
  nd : c.L.Nodup

section
variable {c : SC} {w w' : World} {f : List Block} {s : Store}

theorem rowsOf_get {f : List Block} {ps : List At} {i : Nat} {x : Block} {p : At} (hx : f[i]? = some x) (hp : ps[i]? = some p) : (rowsOf f ps)[i]? = some (rowOf x p) := by
  unfold rowsOf; rw [List.getElem?_zipWith, hx, hp]
theorem rowsOf_len {f : List Block} {ps : List At} (h : ps.length = f.length) : (rowsOf f ps).length = f.length := by
  unfold rowsOf; rw [List.length_zipWith]; omega

theorem FlashAt.lt (h : FlashAt c w f) : ∀ b ∈ c.fl, b < w.heap.size := by
  intro b hb
  rcases List.mem_cons.1 hb with rfl | hb
  · exact h.row.lt
  · obtain ⟨p, hp, rfl⟩ := List.mem_map.1 hb
    obtain ⟨i, hi, rfl⟩ := List.mem_iff_getElem.1 hp
    have hif : i < f.length := by rw [← h.len]; exact hi
    exact (h.pages i f[i] c.ps[i] (List.getElem?_eq_getElem hif) (List.getElem?_eq_getElem hi)).lt
theorem FlashAt.keep (h : FlashAt c w f) (hk : ∀ b ∈ c.fl, w'.heap[b]? = w.heap[b]?) : FlashAt c w' f :=
  ⟨h.row.keep (hk _ (by simp [SC.fl])), h.len, fun i x p hx hp => (h.pages i x p hx hp).keep (hk _ (List.mem_cons_of_mem _ (List.mem_map.2 ⟨p, List.mem_of_getElem? hp, rfl⟩)))⟩
theorem OwnS.lt (h : OwnS c w s) : ∀ b ∈ c.L, b < w.heap.size := by
  intro b hb
  rcases List.mem_append.1 hb with hb | hb
  · exact h.flash.lt b hb
  · obtain rfl := List.mem_singleton.1 hb; exact h.disk.lt
theorem OwnS.keep (h : OwnS c w s) (hk : ∀ b ∈ c.L, w'.heap[b]? = w.heap[b]?) : OwnS c w' s :=
  ⟨h.flash.keep fun b hb => hk b (List.mem_append_left _ hb), h.disk.keep (hk _ (by simp [SC.L])), h.nd⟩
theorem OwnS.ext (h : OwnS c w s) (hx : Ext w w') : OwnS c w' s := h.keep fun b hb => hx.block b (h.lt b hb)
theorem OwnS.chg {L : List Nat} (h : OwnS c w s) (hx : Chg L w w') (hL : ∀ b ∈ c.L, b ∉ L) : OwnS c w' s := h.keep fun b hb => hx.block b (h.lt b hb) (hL b hb)
theorem OwnS.set (h : OwnS c w s) {p : Addr} (hp : p.block ∉ c.L) (u : Value) : OwnS c (w.setCell p u) s :=
  h.keep fun b hb => Below.heap_setCell _ _ _ _ (by rintro rfl; exact hp hb)

theorem OwnS.set2 {p : Addr} {u : Value} (hp : p.block ∉ c.L) (h : OwnS c w s) : OwnS c (w.setCell p u) s := h.set hp u
theorem OwnS.alloc2 {o : Obj} (h : OwnS c w s) : OwnS c (w.alloc o) s := h.ext (ext_alloc (ext_refl _) _)
theorem OwnS.new (h : OwnS c w s) : ∀ b, w.heap.size ≤ b → b ∉ c.L := fun b hb hm => by have := h.lt b hm; omega

/-- as others read it -/
theorem FlashAt.flash (h : FlashAt c w f) : Flash (Old w) w (c.F.v f.length) f := by
  have hlt := h.lt
  obtain ⟨k, hk, hi⟩ := h.row
  refine ⟨_, _, rfl, fun i x hx => ?_⟩
  have hil : i < f.length := (List.getElem?_eq_some_iff.1 hx).1
  have hip : i < c.ps.length := by rw [h.len]; exact hil
  have hp := h.pages i x c.ps[i] hx (List.getElem?_eq_getElem hip)
  refine ⟨c.F.b, c.F.o, rowC (rowOf x c.ps[i]), rfl, hlt _ (by simp [SC.fl]), ⟨_, rfl, hp.of hp.lt _⟩, fun j u hu => ?_⟩
  rw [cell_block hk]
  exact hi i _ (rowsOf_get hx (List.getElem?_eq_getElem hip)) j u hu
theorem OwnS.fl (h : OwnS c w s) : Flash (Old w) w (c.fv s) s.flash := h.flash.flash
theorem OwnS.dk (h : OwnS c w s) : Ints (Old w) w (c.dv s) s.disk := h.disk.of h.disk.lt _

theorem SC.fl_nd (h : c.L.Nodup) : c.fl.Nodup := (List.nodup_append.1 h).1
theorem SC.ps_ne {i j : Nat} {p q : At} (h : c.fl.Nodup) (hp : c.ps[i]? = some p) (hq : c.ps[j]? = some q) (hij : i ≠ j) : p.b ≠ q.b := fun e =>
  hij (nodup_inj (List.nodup_cons.1 h).2 (b := p.b) (by rw [List.getElem?_map, hp]; rfl) (by rw [List.getElem?_map, hq, e]; rfl))
theorem SC.F_ne {i : Nat} {p : At} (h : c.fl.Nodup) (hp : c.ps[i]? = some p) : p.b ≠ c.F.b := fun e =>
  (List.nodup_cons.1 h).1 (List.mem_map.2 ⟨p, List.mem_of_getElem? hp, e⟩)
theorem SC.D_ne (h : c.L.Nodup) : ∀ b ∈ c.fl, b ≠ c.D.b := fun b hb => (List.nodup_append.1 h).2.2 b hb _ (by simp)

/-- a block's cells -/
theorem FlashAt.two (h : FlashAt c w f) {i : Nat} {p : At} (hi : i < f.length) (hp : c.ps[i]? = some p) :
    w.cell? ⟨c.F.b, c.F.o + i * 2, none⟩ = some (p.v f[i].pages.length) ∧ w.cell? ⟨c.F.b, c.F.o + i * 2 + 1, none⟩ = some (.int .i64 f[i].worn) := by
  have hx := rowsOf_get (List.getElem?_eq_getElem hi) hp
  exact ⟨h.row.cell hx (j := 0) rfl, h.row.cell hx (j := 1) rfl⟩

theorem zipWith_set {f : List Block} {ps : List At} {i : Nat} {x : Block} {p : At} (hp : ps[i]? = some p) : rowsOf (f.set i x) ps = (rowsOf f ps).set i (rowOf x p) := by
  unfold rowsOf
  apply List.ext_getElem?
  intro j
  rw [List.getElem?_zipWith, List.getElem?_set, List.getElem?_set, List.getElem?_zipWith]
  by_cases hij : i = j
  · subst hij
    rw [if_pos rfl, if_pos rfl, hp]
    have hip : i < ps.length := (List.getElem?_eq_some_iff.1 hp).1
    by_cases hf : i < f.length
    · rw [if_pos hf, if_pos (by rw [List.length_zipWith]; omega)]
    · rw [if_neg hf, if_neg (by rw [List.length_zipWith]; omega)]
  · rw [if_neg hij, if_neg hij]

/-- a block's wear, written -/
theorem FlashAt.worn (h : FlashAt c w f) (hnd : c.fl.Nodup) {i : Nat} {p : At} (hi : i < f.length) (hp : c.ps[i]? = some p) (n : Int) :
    FlashAt c (w.setCell ⟨c.F.b, c.F.o + i * 2 + 1, none⟩ (.int .i64 n)) (f.set i ⟨f[i].pages, n⟩) := by
  have hrl : i < (rowsOf f c.ps).length := by rw [rowsOf_len h.len]; exact hi
  have hget : (rowsOf f c.ps)[i] = rowOf f[i] p := by
    have := rowsOf_get (List.getElem?_eq_getElem hi) hp
    rw [List.getElem?_eq_getElem hrl] at this; exact Option.some.inj this
  refine ⟨?_, by rw [List.length_set]; exact h.len, fun j x q hx hq => ?_⟩
  · rw [zipWith_set hp]
    exact OwnAt.set1 (n := 2) (enc := rowC) (fun _ => rfl) h.row hrl (j := 1) (by omega) _ _ (by rw [hget]; rfl)
  · have hne : q.b ≠ c.F.b := SC.F_ne hnd hq
    have hk : OwnAt 5 pageC q.T w q.b q.o x.pages := by
      rw [List.getElem?_set] at hx
      by_cases hij : i = j
      · subst hij
        rw [if_pos rfl, if_pos hi] at hx
        obtain rfl := Option.some.inj hx
        exact h.pages i f[i] q (List.getElem?_eq_getElem hi) hq
      · rw [if_neg hij] at hx; exact h.pages j x q hx hq
    exact hk.keep (Below.heap_setCell _ _ _ _ hne)

/-- a page, written -/
theorem FlashAt.page (h : FlashAt c w f) (hnd : c.fl.Nodup) {i k : Nat} {p : At} (hi : i < f.length) (hp : c.ps[i]? = some p) (hk : k < f[i].pages.length) (y : Page) :
    FlashAt c (setAll w p.b (p.o + k * 5) (pageC y)) (f.set i ⟨f[i].pages.set k y, f[i].worn⟩) := by
  have hrl : i < (rowsOf f c.ps).length := by rw [rowsOf_len h.len]; exact hi
  have hget : (rowsOf f c.ps)[i] = rowOf f[i] p := by
    have := rowsOf_get (List.getElem?_eq_getElem hi) hp
    rw [List.getElem?_eq_getElem hrl] at this; exact Option.some.inj this
  refine ⟨?_, by rw [List.length_set]; exact h.len, fun j x q hx hq => ?_⟩
  · rw [zipWith_set hp, show rowOf ⟨f[i].pages.set k y, f[i].worn⟩ p = (rowsOf f c.ps)[i] from by rw [hget]; simp [rowOf], List.set_getElem_self]
    exact h.row.keep (setAll_other _ (SC.F_ne hnd hp).symm _ _ _)
  · rw [List.getElem?_set] at hx
    by_cases hij : i = j
    · subst hij
      rw [hp] at hq
      obtain rfl := Option.some.inj hq
      rw [if_pos rfl, if_pos hi] at hx
      obtain rfl := Option.some.inj hx
      exact OwnAt.set (n := 5) (enc := pageC) (fun _ => rfl) (by omega) (h.pages i f[i] p (List.getElem?_eq_getElem hi) hp) hk y
    · rw [if_neg hij] at hx
      exact (h.pages j x q hx hq).keep (setAll_other _ (SC.ps_ne hnd hq hp (Ne.symm hij)) _ _ _)
end

theorem FlashAt.two' {c : SC} {w : World} {f : List Block} (h : FlashAt c w f) {i : Nat} {p : At} {x : Block} (hx : f[i]? = some x) (hp : c.ps[i]? = some p) :
    w.cell? ⟨c.F.b, c.F.o + i * 2, none⟩ = some (p.v x.pages.length) ∧ w.cell? ⟨c.F.b, c.F.o + i * 2 + 1, none⟩ = some (.int .i64 x.worn) := by
  obtain ⟨hi, rfl⟩ := List.getElem?_eq_some_iff.1 hx
  exact h.two hi hp
theorem FlashAt.page' {c : SC} {w : World} {f : List Block} (h : FlashAt c w f) (hnd : c.fl.Nodup) {i k : Nat} {p : At} {x : Block} (hx : f[i]? = some x) (hp : c.ps[i]? = some p) (hk : k < x.pages.length) (y : Page) :
    FlashAt c (setAll w p.b (p.o + k * 5) (pageC y)) (f.set i ⟨x.pages.set k y, x.worn⟩) := by
  obtain ⟨hi, rfl⟩ := List.getElem?_eq_some_iff.1 hx
  exact h.page hnd hi hp hk y
theorem FlashAt.there {c : SC} {w : World} {f : List Block} (h : FlashAt c w f) {i k : Nat} {p : At} {x : Block} (hx : f[i]? = some x) (hp : c.ps[i]? = some p) (hk : k < x.pages.length) : w.there p.b (p.o + k * 5) 5 := by
  intro j hj
  have hy := (h.pages i x p hx hp)
  have := hy.cell (List.getElem?_eq_getElem hk) (j := j) (u := (pageC x.pages[k])[j]'(by simpa using hj)) (List.getElem?_eq_getElem _)
  rw [this, hy.frozen]; exact ⟨rfl, rfl⟩
theorem setAll_chg {L : List Nat} {w w' : World} {b o : Nat} (h : Chg L w w') (hb : b ∈ L) (xs : List Value) : Chg L w (setAll w' b o xs) := by
  have hbl := setAll_below b 0 (Nat.zero_le _) xs w' o
  exact h.trans ⟨hbl.os, hbl.tape, hbl.output, hbl.size, fun k hk hn => setAll_other b (by rintro rfl; exact hn hb) _ _ _⟩

/-- a store of the call's own as it was told before, its addresses named -/
theorem OwnStore.at_ {w : World} {f d : Value} {s : Store} {L : List Nat} (h : OwnStore w f d s L) (hnd : L.Nodup) : ∃ c : SC, c.L = L ∧ f = c.fv s ∧ d = c.dv s ∧ OwnS c w s := by
  obtain ⟨B, bs, D, rfl, ⟨rows, ⟨T, o, cap, rfl, hrow⟩, h2, h3, h4⟩, TD, od, dcap, rfl, hd⟩ := h
  have hex : ∀ i : Fin bs.length, ∃ p : At, p.b = bs[i] ∧ ∀ x r, s.flash[i.1]? = some x → rows[i.1]? = some r → r = rowOf x p ∧ OwnAt 5 pageC p.T w p.b p.o x.pages := by
    intro i
    have hi := i.2
    have hif : i.1 < s.flash.length := by omega
    have hir : i.1 < rows.length := by omega
    obtain ⟨h5, T', o', cap', hv, h6⟩ := h4 i.1 s.flash[i.1] rows[i.1] bs[i.1] (List.getElem?_eq_getElem hif) (List.getElem?_eq_getElem hir) (List.getElem?_eq_getElem hi)
    refine ⟨⟨bs[i.1], o', cap', T'⟩, rfl, fun x r hx hr => ?_⟩
    rw [List.getElem?_eq_getElem hif] at hx; rw [List.getElem?_eq_getElem hir] at hr
    obtain rfl := Option.some.inj hx; obtain rfl := Option.some.inj hr
    exact ⟨Prod.ext hv h5, h6⟩
  obtain ⟨g, hg⟩ := Classical.axiomOfChoice hex
  have hps : (List.ofFn g).map (·.b) = bs := by
    apply List.ext_getElem
    · simp
    · intro i h1 h2; simp; exact (hg ⟨i, by simpa using h1⟩).1
  refine ⟨⟨⟨B, o, cap, T⟩, List.ofFn g, ⟨D, od, dcap, TD⟩⟩, ?_, ?_, rfl, ⟨⟨?_, by simp; omega, fun i x p hx hp => ?_⟩, hd, ?_⟩⟩
  · simp [SC.L, SC.fl, hps]
  · show Value.slice _ _ _ = _; rw [h2]
  · have : rowsOf s.flash (List.ofFn g) = rows := by
      apply List.ext_getElem
      · rw [rowsOf_len (by simp; omega)]; omega
      · intro i h1 h2'
        have hib : i < bs.length := by omega
        have hif : i < s.flash.length := by omega
        have := rowsOf_get (f := s.flash) (ps := List.ofFn g) (List.getElem?_eq_getElem hif) (p := g ⟨i, hib⟩) (by simp [hib])
        rw [List.getElem?_eq_getElem h1] at this
        rw [Option.some.inj this]
        exact ((hg ⟨i, hib⟩).2 s.flash[i] rows[i] (List.getElem?_eq_getElem hif) (List.getElem?_eq_getElem h2')).1.symm
    rw [this]; exact hrow
  · have hip : i < bs.length := by have := (List.getElem?_eq_some_iff.1 hp).1; simpa using this
    have hpe : p = g ⟨i, hip⟩ := by
      have := hp
      simp [hip] at this; exact this.symm
    subst hpe
    exact ((hg ⟨i, hip⟩).2 x rows[i] hx (List.getElem?_eq_getElem (by omega))).2
  · simp [SC.L, SC.fl, hps] at hnd ⊢; exact hnd
end Go.Bu

set_option linter.unusedVariables false
set_option linter.unusedSimpArgs false
namespace Go.Bu
open Go Go.RowKit Go.Plan Go.Proofs

-- (not in this seat: function laws.eqRec)

-- (not in this seat: function laws.eqPage)

-- (not in this seat: function laws.eqPageS)

-- (not in this seat: function laws.lqPages)

-- (not in this seat: function laws.eqBlock)

-- (not in this seat: function laws.eqStep)

theorem eqEvent_c (a b : Event) (w : World) : Calls Try.prog 34 #[eventA a, eventA b] w (Ret w (.bool (eventEq a b))) := by
  go_enter Try.func34, Try.ntmps34
  go_wp2
  all_goals
    go_ret
    refine ⟨?_, ext_alloc (ext_alloc (ext_refl _) _) _⟩
    simp_all [eventEq]

theorem eqCost_c (a b : Cost) (w : World) : Calls Try.prog 15 #[costA a, costA b] w (Ret w (.bool (costEq a b))) := by
  go_enter Try.func15, Try.ntmps15
  go_wp2
  all_goals
    go_ret
    refine ⟨?_, ext_alloc (ext_alloc (ext_refl _) _) _⟩
    simp_all [costEq]

theorem lqCost_c (a b : Cost) (w : World) : Calls Try.prog 12 #[costA a, costA b] w (Ret w (.bool (costEq a b))) := by
  go_enter Try.func12, Try.ntmps12
  go_wp2
  all_goals
    go_ret
    refine ⟨?_, ext_alloc (ext_alloc (ext_refl _) _) _⟩
    simp_all [costEq]

-- (not in this seat: function laws.eqBlockS)

-- (not in this seat: function laws.eqIntS)

-- (not in this seat: function laws.lqInts)

-- (not in this seat: function laws.eqStepS)

set_option maxHeartbeats 1000000 in
theorem eqEventS_c (u v : Value) (xs ys : List Event) (w : World) (hp : Events (Old w) w u xs) (hq : Events (Old w) w v ys) (hn : xs.length ≤ 1048576 ∨ ys.length ≤ 1048576) :
    Calls Try.prog 16 #[u, v] w (Ret w (.bool (listEq eventEq xs ys))) := by
  obtain ⟨a, cap, rfl⟩ := hp.form
  obtain ⟨a2, cap2, rfl⟩ := hq.form
  by_cases hlen : xs.length = ys.length
  · have hn1 : xs.length ≤ 1048576 := by omega
    clear hn
    have hne : (((xs.length : Nat) : Int) != ((ys.length : Nat) : Int)) = false := by simp [hlen]
    have HL := Lib.hid hlen; clear hlen
    go_enter Try.func16, Try.ntmps16
    go_wp2
    clear hne
    go_loopw [5] (fun i wr => ∃ k : Nat, k ≤ xs.length ∧ i = .int .i64 k ∧ Ext w wr ∧ ∀ (i : Nat) (h1 : i < xs.length) (h2 : i < ys.length), i < k → eventEq xs[i] ys[i] = true) (fun i _ => xs.length - (intOf i).toNat)
    case atStart => exact ⟨0, Nat.zero_le _, rfl, ext_refl _, fun _ _ _ h => absurd h (Nat.not_lt_zero _)⟩
    case round =>
      obtain ⟨k, hk, rfl, hx, heq⟩ := hrel
      have HE := Lib.hid heq; clear heq
      by_cases hlt : k < xs.length
      · have hlt2 : k < ys.length := by have := HL.out; omega
        obtain ⟨b, o, rfl, hb, h0, h1, h2, h3, h4⟩ := (hp.ext hx).at5 hlt
        obtain ⟨b2, o2, rfl, hb2, k0, k1, k2, k3, k4⟩ := (hq.ext hx).at5 hlt2
        go_wp2_with fail
        refine wp_region_ext [8] [0, 1, 2, 3, 4, 5, 6, 7, 8, 9] [] [] (by kernel_rfl) (by kernel_rfl) ?late ?_
        case late => exact fun f hf => absurd hf List.not_mem_nil
        iterate 2
          refine Rob.y (v := ?_) rfl rfl (fun w1 hx hH => ?_) ?_; rotate_left
          · go_simp; first | done | rfl | exact (Bool.not_not _).symm
          simp only [Act.put, List.setIfInBounds_toArray, List.set_cons_succ, List.set_cons_zero]
        iterate 2
          refine Rob.y (v := ?_) rfl rfl (fun w1 hx hH => ?_) ?_; rotate_left
          · (have c0 := cell_ext hx h0; have d0 := cell_ext hx k0; have c1 := cell_ext hx h1; have d1 := cell_ext hx k1; have c2 := cell_ext hx h2; have d2 := cell_ext hx k2; have c3 := cell_ext hx h3; have d3 := cell_ext hx k3; have c4 := cell_ext hx h4; have d4 := cell_ext hx k4); go_simp; first | done | rfl
          simp only [Act.put, List.setIfInBounds_toArray, List.set_cons_succ, List.set_cons_zero]
        iterate 2
          refine Rob.y (v := ?_) rfl rfl (fun w1 hx hH => ?_) ?_; rotate_left
          · go_simp; first | done | rfl | exact (Bool.not_not _).symm
          simp only [Act.put, List.setIfInBounds_toArray, List.set_cons_succ, List.set_cons_zero]
        iterate 2
          refine Rob.y (v := ?_) rfl rfl (fun w1 hx hH => ?_) ?_; rotate_left
          · (have c0 := cell_ext hx h0; have d0 := cell_ext hx k0; have c1 := cell_ext hx h1; have d1 := cell_ext hx k1; have c2 := cell_ext hx h2; have d2 := cell_ext hx k2; have c3 := cell_ext hx h3; have d3 := cell_ext hx k3; have c4 := cell_ext hx h4; have d4 := cell_ext hx k4); go_simp; first | done | rfl
          simp only [Act.put, List.setIfInBounds_toArray, List.set_cons_succ, List.set_cons_zero]
        refine Rob.cv (.bool (eventEq xs[k] ys[k])) rfl rfl rfl (fun _ _ => ext_trans) (fun w1 hx hH => ?_) (fun lo8 hi8 hlo8 hhi8 => ?_)
        · unfold RunTo; go_simp; exact (eqEvent_c xs[k] ys[k] _).mono fun e w' h => h.to
        simp only [Act.put, List.setIfInBounds_toArray, List.set_cons_succ, List.set_cons_zero]
        refine Rob.y (v := ?_) rfl rfl (fun w1 hx hH => ?_) ?_; rotate_left
        · go_simp; first | done | rfl | exact (Bool.not_not _).symm
        simp only [Act.put, List.setIfInBounds_toArray, List.set_cons_succ, List.set_cons_zero]
        refine fin_nil (fun w1 hx1 _ => ?_)
        clear h0 h1 h2 h3 h4 k0 k1 k2 k3 k4
        go_wp2
        · have hf : eventEq xs[k] ys[k] = false := by simpa using ‹(!eventEq xs[k] ys[k]) = true›
          go_ret
          exact ⟨by rw [listEq_no hlt hlt2 hf]; rfl, ext_trans hx hx1⟩
        · have ht : eventEq xs[k] ys[k] = true := by simpa using ‹(!eventEq xs[k] ys[k]) = false›
          go_roundw
          case rel => exact ⟨k + 1, by omega, by go_num, ext_trans hx hx1, fun i h1 h2 hi => by
            rcases Nat.lt_succ_iff_lt_or_eq.1 hi with h | rfl
            · exact HE.out i h1 h2 h
            · exact ht⟩
          case measure => simp [intOf]; omega
      · go_wp2
        go_ret
        exact ⟨by rw [listEq_mk HL.out fun i h1 h2 => HE.out i h1 h2 (by omega)]; rfl, hx⟩
  · have hne : (((xs.length : Nat) : Int) != ((ys.length : Nat) : Int)) = true := by simp; omega
    go_enter Try.func16, Try.ntmps16
    go_wp2
    go_ret
    exact ⟨by rw [listEq_ne hlen]; rfl, ext_refl _⟩
end Go.Bu
