/- What lies in memory: slices of whatever elements, blocks of pages, stores; what stays as the world grows. -/import Derived.OrdersHeld
import Derived.Below
import Derived.Tactics
import Derived.WalkKit
set_option maxHeartbeats 2000000
set_option linter.unusedVariables false
set_option linter.unusedSimpArgs false
namespace Go.Plan
open Go.RowKit
theorem slA {α : Type} (l : List α) (i : Nat) (a : α) : l.toArray.setIfInBounds i a = (l.set i a).toArray:=by simp
theorem slB {α : Type} (x : α) (l : List α) (n : Nat) (a : α) : (x :: l).set (n + 1) a = x :: l.set n a:=rfl
theorem slC {α : Type} (x : α) (l : List α) (a : α) : (x :: l).set 0 a = a :: l:=rfl
abbrev Ext (w w' : World) : Prop:=Below w.heap.size w w'
def deps (o : Oper) : List Nat:=(o.after.toList.filter (Region.binds .any)).map (·.on)
def mask (acc : List Nat) (o : Oper) : Nat:=(deps o).foldl (fun s j=>s ||| (2 ^ j ||| acc.getD j 0)) 0
def masksFrom : List Nat → List Oper → List Nat
 | acc,[]=>acc
 | acc,o :: l=>masksFrom (acc ++ [mask acc o]) l
def masks (l : List Oper) : List Nat:=masksFrom [] l
def Closed (l : List Oper) (D : Nat → Prop) : Prop:=∀ i o,l[i]? = some o → D i → ∀ j ∈ deps o,D j
theorem fold_bit (acc : List Nat) (js : List Nat) : ∀ (s k : Nat),(js.foldl (fun s j=>s ||| (2 ^ j ||| acc.getD j 0)) s).testBit k = true →
  s.testBit k = true ∨ ∃ j ∈ js,k = j ∨ (acc.getD j 0).testBit k = true:=by
 induction js with
 | nil=>intro s k h;exact .inl h
 | cons j js ih =>
  intro s k h
  rcases ih _ _ h with h | ⟨j',hj',h⟩
  ·simp only [Nat.testBit_or,Bool.or_eq_true] at h
   rcases h with h | h | h
   ·exact .inl h
   ·rw [Nat.testBit_two_pow] at h
    exact .inr ⟨j,by simp,.inl (by have:=of_decide_eq_true h;omega)⟩
   ·exact .inr ⟨j,by simp,.inr h⟩
  ·exact .inr ⟨j',by simp [hj'],h⟩
theorem masksFrom_ok (l : List Oper) (D : Nat → Prop) (hD : Closed l D) : ∀ (rest : List Oper) (acc : List Nat),acc.length + rest.length = l.length →
  (∀ k,rest[k]? = l[acc.length + k]?) →
  (∀ i o,i < acc.length → l[i]? = some o → (∀ j ∈ deps o,D j) → ∀ k,(acc.getD i 0).testBit k = true → D k) →
  ∀ i o,l[i]? = some o → (∀ j ∈ deps o,D j) → ∀ k,((masksFrom acc rest).getD i 0).testBit k = true → D k:=by
 intro rest
 induction rest with
 | nil =>
  intro acc hlen _ hacc i o ho
  have hi : i < l.length:=(List.getElem?_eq_some_iff.1 ho).1
  exact hacc i o (by simp at hlen;omega) ho
 | cons r rest ih =>
  intro acc hlen hget hacc
  refine ih (acc ++ [mask acc r]) (by simp at hlen ⊢;omega) (fun k=>by have:=hget (k + 1);simp at this;rw [this];congr 1;simp;omega) ?_
  intro i o hi ho hd k hk
  by_cases hia : i < acc.length
  ·rw [List.getD_eq_getElem?_getD,List.getElem?_append_left hia,← List.getD_eq_getElem?_getD] at hk
   exact hacc i o hia ho hd k hk
  ·have hie : i = acc.length:=by simp at hi;omega
   subst hie
   have hr : l[acc.length]? = some r:=by have:=hget 0;simpa using this.symm
   rw [hr] at ho
   obtain rfl:=Option.some.inj ho
   simp only [List.getD_eq_getElem?_getD,List.getElem?_append_right (Nat.le_refl _),Nat.sub_self,List.getElem?_cons_zero,Option.getD_some] at hk
   rcases fold_bit acc (deps r) 0 k hk with h | ⟨j,hj,h⟩
   ·simp at h
   ·rcases h with rfl | h
    ·exact hd _ hj
    ·have hDj:=hd j hj
     by_cases hja : j < acc.length
     ·have hjl : j < l.length:=by omega
      obtain ⟨oj,hoj⟩ : ∃ oj,l[j]? = some oj:=⟨l[j],List.getElem?_eq_getElem hjl⟩
      exact hacc j oj hja hoj (hD j oj hoj hDj) k h
     ·rw [List.getD_eq_getElem?_getD,List.getElem?_eq_none (by omega)] at h
      simp at h
theorem masks_spec {l : List Oper} {D : Nat → Prop} (hD : Closed l D) {i : Nat} {o : Oper} (ho : l[i]? = some o) (hd : ∀ j ∈ deps o,D j) {k : Nat}
  (hk : ((masks l).getD i 0).testBit k = true) : D k:=
 masksFrom_ok l D hD l [] (by simp) (by simp) (by intro i o hi;simp at hi) i o ho hd k hk
section plan
variable {P : Program} {l : List Oper} {Q : Exit → Act → World → Prop}
def RunTo (P : Program) (o : Oper) (ρ : Operand → Value) (w : World) (R : Value → World → Prop) : Prop:=
 match (execOp ρ o).run P w with
 | .ok (.value v) w'=>R v w'
 | .ok .skip w'=>R undef w'
 | .ok (.enter f args) w'=>Calls P f args w' fun e w''=>∃ v,e = .returned v ∧ R v w''
 | .ok (.row row args) w'=>Rows P row args w' R
 | _=>False
theorem RunTo.congr {o : Oper} {ρ ρ' : Operand → Value} {w : World} {R : Value → World → Prop} (e : execOp ρ o = execOp ρ' o) (h : RunTo P o ρ w R) : RunTo P o ρ' w R:=by
 unfold RunTo at *;rw [← e];exact h
theorem RunTo.wp {o : Oper} {a : Act} {w : World} {R : Value → World → Prop} {K : Act → World → Prop}
  (h : RunTo P o a.eval w R) (hK : ∀ v w',R v w' → K (a.put o.dst v) w') : o.wp P a w K Q:=by
 unfold RunTo at h
 unfold Oper.wp
 generalize (execOp a.eval o).run P w = r at *
 cases r with
 | ok n w' =>
  cases n <;> simp only [Oper.upon] at h ⊢
  case value v=>exact hK _ _ h
  case skip=>exact hK _ _ h
  case enter f args=>exact Calls.mono h fun e w'' ⟨v,he,hr⟩=>by subst he;exact hK _ _ hr
  case row row args=>exact Rows.mono h fun v w'' hr=>hK _ _ hr
 | halt x w'=>exact h.elim
structure Spare (B0 : Nat) (iv : List (Nat × Nat)) (w w' : World) : Prop where
 size : w.heap.size ≤ w'.heap.size
 same : ∀ b,B0 ≤ b → b < w.heap.size → (∀ p ∈ iv,b < p.1 ∨ p.2 ≤ b) → w'.heap[b]? = w.heap[b]?
theorem Spare.of_ext {B0 : Nat} {iv : List (Nat × Nat)} {w w' : World} (h : Ext w w') : Spare B0 iv w w':=
 ⟨h.size,fun b _ hb _=>h.block b hb⟩
def Rob (P : Program) (l : List Oper) (ch : List Nat) (B0 : Nat) (fin : (World → Prop) → List (Nat × Nat) → Nat → Act → Prop) :
    List Nat → (World → Prop) → (World → Prop) → List (Nat × Nat) → Nat → Act → Prop
 | [],S,C,iv,H,a=>fin (fun w=>S w ∧ C w) iv H a
 | i :: L,S,C,iv,H,a=>∃ o,l[i]? = some o ∧
     ((∃ v,YieldsIf P l.toArray (fun w=>S w ∧ H ≤ w.heap.size) o v a ∧ Rob P l ch B0 fin L S C iv H (a.put o.dst v)) ∨
      (ch.contains i = true ∧ Region.wanted o (yielded l.toArray a.tmps) = true ∧ ∃ Ψ C' : Nat → Nat → Value → World → Prop,
       ((∀ lo hi v w w',Ψ lo hi v w → Ext w w' → Ψ lo hi v w') ∧ (∀ lo hi v w w',C' lo hi v w → Ext w w' → C' lo hi v w')) ∧
       (∀ w,S w → C w → H ≤ w.heap.size → RunTo P o a.eval w fun v w'=>Spare B0 iv w w' ∧ S w' ∧ Ψ w.heap.size w'.heap.size v w' ∧ C' w.heap.size w'.heap.size v w') ∧
       (∀ lo hi v,H ≤ lo → lo ≤ hi → (∃ w',Ψ lo hi v w' ∧ C' lo hi v w') → Rob P l ch B0 fin L (fun w=>S w ∧ Ψ lo hi v w) (C' lo hi v) (iv ++ [(lo,hi)]) hi (a.put o.dst v))))
abbrev Lates:=List (Nat × Obj × (Nat → Value))
def dstOf (l : List Oper) (i : Nat) : Option Tmp:=(l[i]?).bind (·.dst)
def putLates (l : List Oper) (bl : Nat → Nat) : Lates → Act → Act
 | [],a=>a
 | f :: fs,a=>putLates l bl fs (a.put (dstOf l f.1) (f.2.2 (bl f.1)))
structure LateAt (B0 : Nat) (iv : List (Nat × Nat)) (bl : Nat → Nat) (w : World) (f : Nat × Obj × (Nat → Value)) : Prop where
 ge : B0 ≤ bl f.1
 lt : bl f.1 < w.heap.size
 obj : w.heap[bl f.1]? = some f.2.1
 out : ∀ p ∈ iv,bl f.1 < p.1 ∨ p.2 ≤ bl f.1
def Fin (P : Program) (l : List Oper) (Q : Exit → Act → World → Prop) (B0 : Nat) (lates : Lates) (tail : List Nat) (S : World → Prop) (iv : List (Nat × Nat)) (H : Nat) (a : Act) : Prop:=
 ∀ w,S w → H ≤ w.heap.size → ∀ bl : Nat → Nat,(∀ f ∈ lates,LateAt B0 iv bl w f) → (∀ f ∈ lates,∀ g ∈ lates,f.1 ≠ g.1 → bl f.1 ≠ bl g.1) →
  wpList P l.toArray Q (tail.filterMap (l[·]?)) (putLates l bl lates a) w
def Mid (P : Program) (l : List Oper) (Q : Exit → Act → World → Prop) (tail : List Nat) : List Nat → Act → World → Prop
 | [],a,w=>wpList P l.toArray Q (tail.filterMap (l[·]?)) a w
 | i :: M,a,w=>∃ o v,l[i]? = some o ∧ YieldsIf P l.toArray (· = w) o v a ∧ Mid P l Q tail M (a.put o.dst v) w
def FinM (P : Program) (l : List Oper) (Q : Exit → Act → World → Prop) (B0 : Nat) (lates : Lates) (mid tail : List Nat) (S : World → Prop) (iv : List (Nat × Nat)) (H : Nat) (a : Act) : Prop:=
 ∀ w,S w → H ≤ w.heap.size → ∀ bl : Nat → Nat,(∀ f ∈ lates,LateAt B0 iv bl w f) → (∀ f ∈ lates,∀ g ∈ lates,f.1 ≠ g.1 → bl f.1 ≠ bl g.1) →
  Mid P l Q tail mid (putLates l bl lates a) w
def looks (l : List Oper) (i : Nat) : List Tmp:=match l[i]? with | some o=>o.looksAt l.toArray | none=>[]
def okHeads (l : List Oper) (ch : List Nat) : List Nat → List Nat → Bool
 | _,[]=>true
 | pre,i :: L =>
  (match l[i]? with
   | some o=>(deps o).all pre.contains && pre.all (fun c=>!ch.contains c || ((masks l).getD i 0).testBit c)
   | none=>false) && okHeads l ch (pre ++ [i]) L
def okTail (l : List Oper) : List Nat → List Nat → Bool
 | _,[]=>true
 | pre,i :: L =>
  (match l[i]? with
   | some o=>(deps o).all pre.contains && pre.all (fun c=>((masks l).getD i 0).testBit c)
   | none=>false) && okTail l (pre ++ [i]) L
def okLates (l : List Oper) (heads : List Nat) : List Nat → Bool
 | []=>true
 | i :: L =>
  (match l[i]? with
   | some o=>(deps o).all heads.contains && o.guard.isNone && (looks l i).isEmpty
   | none=>false) && okLates l heads L
def okSlots (l : List Oper) (tl : List Nat) : Bool:=
 (List.range l.length).all fun i=>(List.range l.length).all fun j =>
  match dstOf l j with
  | some d=>(i == j || dstOf l i != some d) && (!(looks l i).contains d || ((masks l).getD i 0).testBit j || tl.contains j)
  | none=>true
def okMid (l : List Oper) (ch heads lates rest : List Nat) : Bool:=rest.all fun i=>(heads.filter ch.contains ++ lates).all fun c=>((masks l).getD i 0).testBit c
def okTopo (l : List Oper) : List Nat → List Nat → Bool
 | _,[]=>true
 | pre,i :: L=>(match l[i]? with | some o=>(deps o).all pre.contains | none=>false) && okTopo l (pre ++ [i]) L
def okDeps (l : List Oper) : Bool:=(List.range l.length).all fun i=>match l[i]? with | some o=>(deps o).all (· < i) | none=>true
def okPlanM (l : List Oper) (ch heads lates mid tail : List Nat) : Bool:=
 let all:=heads ++ lates ++ (mid ++ tail)
 (List.range l.length).all all.contains && all.all (· < l.length) && decide all.Nodup && okHeads l ch [] heads && okLates l heads lates && okMid l ch heads lates (mid ++ tail) &&
  okSlots l tail && Region.noSelect l.toArray && (okTail l (heads ++ lates ++ mid) tail && okTopo l (heads ++ lates) mid && okDeps l)
def okPlan (l : List Oper) (ch heads lates tail : List Nat) : Bool:=okPlanM l ch heads lates [] tail
end plan
section sound
variable {P : Program} {l : List Oper} {Q : Exit → Act → World → Prop}
theorem okHeads_split {ch : List Nat} : ∀ {L pre : List Nat},okHeads l ch pre L = true → ∀ L1 i L2,L = L1 ++ i :: L2 →
  ∃ o,l[i]? = some o ∧ (∀ j ∈ deps o,j ∈ pre ++ L1) ∧ ∀ c ∈ pre ++ L1,ch.contains c = true → ((masks l).getD i 0).testBit c = true:=by
 intro L
 induction L with
 | nil=>intro pre _ L1 i L2 h;simp at h
 | cons x L ih =>
  intro pre h L1 i L2 he
  simp only [okHeads,Bool.and_eq_true] at h
  cases L1 with
  | nil =>
   simp only [List.nil_append,List.cons.injEq] at he
   obtain ⟨rfl,rfl⟩:=he
   have h1:=h.1
   cases ho : l[x]? with
   | none=>rw [ho] at h1;cases h1
   | some o =>
    rw [ho] at h1
    simp only [Bool.and_eq_true,List.all_eq_true,List.contains_eq_mem,decide_eq_true_eq,Bool.or_eq_true,Bool.not_eq_true',decide_eq_false_iff_not] at h1
    refine ⟨o,rfl,by simpa using h1.1,fun c hc hch=>?_⟩
    rcases h1.2 c (by simpa using hc) with h | h
    ·simp at hch;exact absurd hch h
    ·exact h
  | cons y L1 =>
   simp only [List.cons_append,List.cons.injEq] at he
   obtain ⟨rfl,rfl⟩:=he
   obtain ⟨o,ho,h1,h2⟩:=ih h.2 L1 i L2 rfl
   exact ⟨o,ho,by simpa [List.append_assoc] using h1,by simpa [List.append_assoc] using h2⟩
theorem okTail_split : ∀ {L pre : List Nat},okTail l pre L = true → ∀ L1 i L2,L = L1 ++ i :: L2 →
  ∃ o,l[i]? = some o ∧ (∀ j ∈ deps o,j ∈ pre ++ L1) ∧ ∀ c ∈ pre ++ L1,((masks l).getD i 0).testBit c = true:=by
 intro L
 induction L with
 | nil=>intro pre _ L1 i L2 h;simp at h
 | cons x L ih =>
  intro pre h L1 i L2 he
  simp only [okTail,Bool.and_eq_true] at h
  cases L1 with
  | nil =>
   simp only [List.nil_append,List.cons.injEq] at he
   obtain ⟨rfl,rfl⟩:=he
   have h1:=h.1
   cases ho : l[x]? with
   | none=>rw [ho] at h1;cases h1
   | some o =>
    rw [ho] at h1
    simp only [Bool.and_eq_true,List.all_eq_true,List.contains_eq_mem,decide_eq_true_eq] at h1
    exact ⟨o,rfl,by simpa using h1.1,by simpa using h1.2⟩
  | cons y L1 =>
   simp only [List.cons_append,List.cons.injEq] at he
   obtain ⟨rfl,rfl⟩:=he
   obtain ⟨o,ho,h1,h2⟩:=ih h.2 L1 i L2 rfl
   exact ⟨o,ho,by simpa [List.append_assoc] using h1,by simpa [List.append_assoc] using h2⟩
theorem okLates_mem {heads : List Nat} : ∀ {L : List Nat},okLates l heads L = true → ∀ i ∈ L,∃ o,l[i]? = some o ∧ (∀ j ∈ deps o,j ∈ heads) ∧ o.guard = none ∧ looks l i = []:=by
 intro L
 induction L with
 | nil=>intro _ i hi;cases hi
 | cons x L ih =>
  intro h i hi
  simp only [okLates,Bool.and_eq_true] at h
  rcases List.mem_cons.1 hi with rfl | hi
  ·have h1:=h.1
   cases ho : l[i]? with
   | none=>rw [ho] at h1;cases h1
   | some o =>
    rw [ho] at h1
    simp only [Bool.and_eq_true,List.all_eq_true,List.contains_eq_mem,decide_eq_true_eq,Option.isNone_iff_eq_none,List.isEmpty_iff] at h1
    exact ⟨o,rfl,h1.1.1,h1.1.2,h1.2⟩
  ·exact ih h.2 i hi
def On (listed : Array Bool) (i : Nat) : Prop:=listed.getD i false = true
theorem on_set {listed : Array Bool} {i j : Nat} (hi : i < listed.size) : On (listed.setIfInBounds i true) j ↔ (j = i ∨ On listed j):=by
 unfold On
 by_cases h : i = j
 ·subst h;simp [Array.getD_eq_getD_getElem?,hi]
 ·rw [getD_set_ne false h]
  constructor
  ·exact .inr
  ·rintro (rfl | h');exact absurd rfl h;exact h'
theorem on_iff {listed : Array Bool} {i : Nat} (hi : i < listed.size) : listed.getD i true = false ↔ ¬ On listed i:=by
 unfold On
 simp only [Array.getD_eq_getD_getElem?,Array.getElem?_eq_getElem hi,Option.getD_some]
 cases listed[i] <;> simp
def unl (l : List Oper) (listed : Array Bool) : Nat:=((List.range l.length).filter fun i=>!listed.getD i false).length
theorem filter_lt {p q : Nat → Bool} (hpq : ∀ x,q x = true → p x = true) : ∀ (L : List Nat) (i : Nat),i ∈ L → p i = true → q i = false → (L.filter q).length < (L.filter p).length:=by
 intro L
 have hle : ∀ L : List Nat,(L.filter q).length ≤ (L.filter p).length:=by
  intro L
  induction L with
  | nil=>simp
  | cons x L ih =>
   simp only [List.filter_cons]
   by_cases hq : q x = true
   ·simp [hq,hpq x hq,ih]
   ·simp only [hq,if_false,Bool.false_eq_true]
    by_cases hp : p x = true
    ·simp only [hp,if_true,List.length_cons];omega
    ·simp only [hp,if_false,Bool.false_eq_true];exact ih
 induction L with
 | nil=>intro i hi;cases hi
 | cons x L ih =>
  intro i hi hp hq
  simp only [List.filter_cons]
  rcases List.mem_cons.1 hi with rfl | hi
  ·simp only [hp,hq,if_true,Bool.false_eq_true,if_false,List.length_cons]
   have:=hle L
   omega
  ·have:=ih i hi hp hq
   by_cases hq : q x = true
   ·simp [hq,hpq x hq,this]
   ·simp only [hq,if_false,Bool.false_eq_true]
    by_cases hp' : p x = true
    ·simp only [hp',if_true,List.length_cons];omega
    ·simp only [hp',if_false,Bool.false_eq_true];exact this
theorem unl_set {listed : Array Bool} (hs : listed.size = l.length) {i : Nat} (hi : i < l.length) (hn : ¬ On listed i) : unl l (listed.setIfInBounds i true) < unl l listed:=by
 unfold unl
 have hil : i < listed.size:=by omega
 refine filter_lt (fun x hx=>?_) _ i (List.mem_range.2 hi) ?_ ?_
 ·have hx' : ¬ On (listed.setIfInBounds i true) x:=by unfold On;simpa using hx
  rw [on_set hil] at hx'
  have : ¬ On listed x:=fun h=>hx' (.inr h)
  unfold On at this;simpa using this
 ·unfold On at hn;simpa using hn
 ·have : On (listed.setIfInBounds i true) i:=(on_set hil).2 (.inl rfl)
  unfold On at this;simp at this ⊢;exact this
theorem unl_zero {listed : Array Bool} (h : unl l listed = 0) {i : Nat} (hi : i < l.length) : On listed i:=by
 unfold unl at h
 rw [List.length_eq_zero_iff,List.filter_eq_nil_iff] at h
 have:=h i (List.mem_range.2 hi)
 unfold On
 simpa using this
theorem ready_iff {listed : Array Bool} (hs : listed.size = l.length) {i : Nat} : i ∈ Region.ready .any l.toArray listed ↔ ¬ On listed i ∧ ∃ o,l[i]? = some o ∧ ∀ j ∈ deps o,On listed j:=by
 rw [mem_ready]
 simp only [List.getElem?_toArray]
 constructor
 ·rintro ⟨h0,o,ho,h⟩
  have hi : i < l.length:=(List.getElem?_eq_some_iff.1 ho).1
  refine ⟨(on_iff (by omega)).1 h0,o,ho,fun j hj=>?_⟩
  unfold deps at hj
  obtain ⟨e,he,rfl⟩:=List.mem_map.1 hj
  obtain ⟨he1,he2⟩:=List.mem_filter.1 he
  exact h e (by simpa using he1) he2
 ·rintro ⟨h0,o,ho,h⟩
  have hi : i < l.length:=(List.getElem?_eq_some_iff.1 ho).1
  refine ⟨(on_iff (by omega)).2 h0,o,ho,fun e he hb=>h e.on ?_⟩
  unfold deps
  exact List.mem_map.2 ⟨e,List.mem_filter.2 ⟨by simpa using he,hb⟩,rfl⟩
theorem closed_set {listed : Array Bool} (hs : listed.size = l.length) (hc : Closed l (On listed)) {i : Nat} {o : Oper} (ho : l[i]? = some o) (hd : ∀ j ∈ deps o,On listed j) :
  Closed l (On (listed.setIfInBounds i true)):=by
 have hi : i < l.length:=(List.getElem?_eq_some_iff.1 ho).1
 intro k ok hk hon j hj
 rw [on_set (by omega)] at hon ⊢
 rcases hon with rfl | hon
 ·rw [ho] at hk;obtain rfl:=Option.some.inj hk;exact .inr (hd j hj)
 ·exact .inr (hc k ok hk hon j hj)
theorem tail_run : ∀ (tl pre : List Nat) (fuel : Nat) (listed : Array Bool) (a : Act) (w : World),
  okTail l pre tl = true → listed.size = l.length → Closed l (On listed) → (∀ i,i < l.length → i ∈ pre ∨ i ∈ tl) → (∀ i ∈ pre,On listed i) → (∀ i ∈ tl,¬ On listed i) → tl.Nodup → unl l listed ≤ fuel →
  wpList P l.toArray Q (tl.filterMap (l[·]?)) a w → wpAny P .any l.toArray Q fuel listed a w:=by
 intro tl
 induction tl with
 | nil =>
  intro pre fuel listed a w _ hs _ hall hpre _ _ _ h
  have hr : Region.ready .any l.toArray listed = []:=by
   rw [List.eq_nil_iff_forall_not_mem]
   intro i hi
   rw [ready_iff hs] at hi
   obtain ⟨h0,o,ho,_⟩:=hi
   have hl:=(List.getElem?_eq_some_iff.1 ho).1
   rcases hall i hl with h | h
   ·exact h0 (hpre i h)
   ·cases h
  exact wpAny_done hr h fuel
 | cons t tl ih =>
  intro pre fuel listed a w hok hs hc hall hpre hun hnd hu h
  obtain ⟨o,ho,hd,_⟩:=okTail_split hok [] t tl rfl
  have htl : t < l.length:=(List.getElem?_eq_some_iff.1 ho).1
  have hnt:=hun t (by simp)
  have hdl : ∀ j ∈ deps o,On listed j:=fun j hj=>hpre j (by simpa using hd j hj)
  have hready : t ∈ Region.ready .any l.toArray listed:=(ready_iff hs).2 ⟨hnt,o,ho,hdl⟩
  have honly : ∀ i ∈ Region.ready .any l.toArray listed,i = t:=by
   intro i hi
   obtain ⟨h0,oi,hoi,hdi⟩:=(ready_iff hs).1 hi
   have hil:=(List.getElem?_eq_some_iff.1 hoi).1
   rcases hall i hil with h | h
   ·exact absurd (hpre i h) h0
   ·rcases List.mem_cons.1 h with h | h
    ·exact h
    ·obtain ⟨L1,L2,rfl⟩:=List.append_of_mem h
     obtain ⟨o',ho',_,hm⟩:=okTail_split hok (t :: L1) i L2 rfl
     rw [hoi] at ho';obtain rfl:=Option.some.inj ho'
     exact absurd (masks_spec hc hoi hdi (hm t (by simp))) hnt
  cases fuel with
  | zero =>
   have:=unl_zero (l:=l) (listed:=listed) (by omega) htl
   exact absurd this hnt
  | succ fuel =>
   refine ⟨fun h0=>absurd (h0 ▸ hready) (List.not_mem_nil),fun i hi=>?_⟩
   obtain rfl:=honly i hi
   have hnext : ∀ a w,wpList P l.toArray Q (tl.filterMap (l[·]?)) a w → wpAny P .any l.toArray Q fuel (listed.setIfInBounds i true) a w:=by
    intro a w h
    have hil : i < listed.size:=by omega
    simp only [okTail,Bool.and_eq_true] at hok
    refine ih (pre ++ [i]) fuel _ a w hok.2 (by simpa using hs) (closed_set hs hc ho hdl) ?_ ?_ ?_ (List.nodup_cons.1 hnd).2 ?_ h
    ·intro k hk
     rcases hall k hk with h | h
     ·exact .inl (by simp [h])
     ·rcases List.mem_cons.1 h with rfl | h
      ·exact .inl (by simp)
      ·exact .inr h
    ·intro k hk
     rw [on_set hil]
     rcases List.mem_append.1 hk with h | h
     ·exact .inr (hpre k h)
     ·exact .inl (by simpa using h)
    ·intro k hk
     rw [on_set hil]
     rintro (rfl | h')
     ·exact (List.nodup_cons.1 hnd).1 hk
     ·exact hun k (by simp [hk]) h'
    ·have:=unl_set (l:=l) hs htl hnt;omega
   have hfm : (i :: tl).filterMap (l[·]?) = o :: tl.filterMap (l[·]?):=by simp [ho]
   rw [hfm] at h
   unfold wpOp
   simp only [List.getElem?_toArray,ho]
   unfold wpList at h
   split
   ·rename_i hw;rw [if_pos hw] at h
    exact h.imp (Oper.wp_mono hnext) id
   ·rename_i hw;rw [if_neg hw] at h
    exact hnext _ _ h
end sound
section main
variable {P : Program} {l : List Oper} {Q : Exit → Act → World → Prop} {ch heads tail : List Nat} {lates : Lates} {B0 : Nat}
theorem okSlots_ne {tl : List Nat} (h : okSlots l tl = true) {i j : Nat} (hi : i < l.length) (hj : j < l.length) (hij : i ≠ j) {d : Tmp} (hd : dstOf l j = some d) : dstOf l i ≠ some d:=by
 unfold okSlots at h
 rw [List.all_eq_true] at h
 have h1:=h i (List.mem_range.2 hi)
 rw [List.all_eq_true] at h1
 have h2:=h1 j (List.mem_range.2 hj)
 rw [hd] at h2
 simp only [Bool.and_eq_true,Bool.or_eq_true,beq_iff_eq,hij,false_or,bne_iff_ne] at h2
 exact h2.1
theorem okSlots_looks {tl : List Nat} (h : okSlots l tl = true) {i j : Nat} (hi : i < l.length) (hj : j < l.length) {d : Tmp} (hd : dstOf l j = some d) (hl : d ∈ looks l i) : ((masks l).getD i 0).testBit j = true ∨ j ∈ tl:=by
 unfold okSlots at h
 rw [List.all_eq_true] at h
 have h1:=h i (List.mem_range.2 hi)
 rw [List.all_eq_true] at h1
 have h2:=h1 j (List.mem_range.2 hj)
 rw [hd] at h2
 simp only [Bool.and_eq_true,Bool.or_eq_true,Bool.not_eq_true',List.contains_eq_mem,decide_eq_false_iff_not,decide_eq_true_eq] at h2
 exact (or_assoc.1 h2.2).resolve_left (fun h=>h hl)
theorem same_on {o : Oper} (hs : ∀ cs b,o.op ≠ .select cs b) {a a' : Act} (h : ∀ t ∈ o.looksAt l.toArray,a'.tmps[t]? = a.tmps[t]?) :
  execOp a'.eval o = execOp a.eval o ∧ Region.wanted o (yielded l.toArray a'.tmps) = Region.wanted o (yielded l.toArray a.tmps):=by
 refine ⟨execOp_congr o hs fun x hx=>?_,?_⟩
 ·cases x with
  | tmp t =>
   have ht : t ∈ o.looksAt l.toArray:=List.mem_append_left _ (List.mem_filterMap.2 ⟨.tmp t,by simpa using hx,rfl⟩)
   have:=h t ht
   simp only [Act.eval,Array.getD_eq_getD_getElem?,this]
  | _=>rfl
 ·unfold Region.wanted
  cases hg : o.guard with
  | none=>rfl
  | some gw =>
   obtain ⟨g,want⟩:=gw
   have hy : yielded l.toArray a'.tmps g = yielded l.toArray a.tmps g:=by
    unfold yielded
    cases ht : (l.toArray[g]?).bind (·.dst) with
    | none=>rfl
    | some t =>
     have hm : t ∈ o.looksAt l.toArray:=by
      refine List.mem_append_right _ ?_
      simp only [hg,ht,Option.toList_some,List.mem_singleton]
     simp only [Option.bind_some,h t hm]
   simp only [hy]
theorem put_get (a : Act) (d t : Tmp) (v : Value) : (a.put (some d) v).tmps[t]? = if t = d then (if d < a.tmps.size then some v else none) else a.tmps[t]?:=by
 simp only [Act.put,Array.getElem?_setIfInBounds]
 by_cases h : d = t
 ·subst h;simp
 ·simp [h,Ne.symm h]
theorem put_size (a : Act) (d : Option Tmp) (v : Value) : (a.put d v).tmps.size = a.tmps.size:=by
 cases d <;> simp [Act.put]
theorem put_defers' (a : Act) (d : Option Tmp) (v : Value) : (a.put d v).defers = a.defers:=by
 cases d <;> rfl
structure Static (l : List Oper) (ch heads : List Nat) (lates : Lates) (tail : List Nat) : Prop where
 all : ∀ i,i < l.length → i ∈ heads ∨ i ∈ lates.map (·.1) ∨ i ∈ tail
 lt : ∀ i,i ∈ heads ∨ i ∈ lates.map (·.1) ∨ i ∈ tail → i < l.length
 nd : (heads ++ lates.map (·.1) ++ tail).Nodup
 okH : okHeads l ch [] heads = true
 okL : okLates l heads (lates.map (·.1)) = true
 okM : okMid l ch heads (lates.map (·.1)) tail = true
 okN : ∀ {i j : Nat},i < l.length → j < l.length → i ≠ j → ∀ {d : Tmp},dstOf l j = some d → dstOf l i ≠ some d
 okK : ∀ {i j : Nat},i < l.length → j < l.length → ∀ {d : Tmp},dstOf l j = some d → d ∈ looks l i → ((masks l).getD i 0).testBit j = true ∨ j ∈ tail
 sel : ∀ (j : Nat) (o : Oper) cs b,l[j]? = some o → o.op ≠ .select cs b
theorem Static.of {mid : List Nat} (h : okPlanM l ch heads (lates.map (·.1)) mid tail = true) :
  Static l ch heads lates (mid ++ tail) ∧ okSlots l tail = true ∧ okTail l (heads ++ lates.map (·.1) ++ mid) tail = true ∧ okTopo l (heads ++ lates.map (·.1)) mid = true ∧ okDeps l = true:=by
 simp only [okPlanM,Bool.and_eq_true,List.all_eq_true,List.contains_eq_mem,decide_eq_true_eq,List.mem_range] at h
 obtain ⟨⟨⟨⟨⟨⟨⟨⟨h1,h2⟩,h3⟩,h4⟩,h5⟩,h6⟩,h7⟩,h8⟩,⟨h9,h10⟩,h11⟩:=h
 exact ⟨⟨fun i hi=>or_assoc.1 ((List.mem_append.1 (h1 i hi)).imp List.mem_append.1 id),fun i hi=>h2 i (List.mem_append.2 ((or_assoc.2 hi).imp List.mem_append.2 id)),h3,h4,h5,h6,fun hi hj hij _ hd=>okSlots_ne h7 hi hj hij hd,fun hi hj _ hd hl=>(okSlots_looks h7 hi hj hd hl).imp id (List.mem_append_right _),
  fun j o cs b hj=>Region.noSelect_spec h8 j o cs b (by simpa using hj)⟩,h7,h9,h10,h11⟩
structure Inv (P : Program) (l : List Oper) (ch heads : List Nat) (lates : Lates) (tail : List Nat) (B0 : Nat) (fin : (World → Prop) → List (Nat × Nat) → Nat → Act → Prop)
  (listed : Array Bool) (a' : Act) (w' : World) (pre rest : List Nat) (S C : World → Prop) (iv : List (Nat × Nat)) (H : Nat) (a : Act) (bl : Nat → Nat) : Prop where
 split : heads = pre ++ rest
 rob : Rob P l ch B0 fin rest S C iv H a
 siz : listed.size = l.length
 cl : Closed l (On listed)
 yld : ∀ i ∈ pre,¬ On listed i → ∃ o v,l[i]? = some o ∧ YieldsIf P l.toArray (fun w=>S w ∧ H ≤ w.heap.size) o v a ∧ ∀ d,o.dst = some d → d < a.tmps.size → a.tmps[d]? = some v
 restUn : ∀ i ∈ rest,¬ On listed i
 tailUn : ∀ i ∈ tail,¬ On listed i
 stab : ∀ w w',S w → Ext w w' → S w'
 hS : S w'
 stabC : ∀ w w',C w → Ext w w' → C w'
 hC : C w'
 hH : H ≤ w'.heap.size
 hB : B0 ≤ H
 hiv : ∀ p ∈ iv,p.2 ≤ H
 dfr : a'.defers = a.defers
 tsz : a'.tmps.size = a.tmps.size
 agree : ∀ t,(∀ j,j < l.length → dstOf l j = some t → (On listed j ∧ j ∈ heads) ∨ j ∈ tail) → a'.tmps[t]? = a.tmps[t]?
 late : ∀ f ∈ lates,On listed f.1 → LateAt B0 iv bl w' f ∧ ∀ d,dstOf l f.1 = some d → d < a'.tmps.size → a'.tmps[d]? = some (f.2.2 (bl f.1))
 lateNe : ∀ f ∈ lates,∀ g ∈ lates,On listed f.1 → On listed g.1 → f.1 ≠ g.1 → bl f.1 ≠ bl g.1
variable {fin : (World → Prop) → List (Nat × Nat) → Nat → Act → Prop}
theorem Static.closed_pre (st : Static l ch heads lates tail) {pre rest : List Nat} (hs : heads = pre ++ rest) : ∀ i ∈ pre,∃ o,l[i]? = some o ∧ ∀ j ∈ deps o,j ∈ pre:=by
 intro i hi
 obtain ⟨L1,L2,rfl⟩:=List.append_of_mem hi
 obtain ⟨o,ho,hd,_⟩:=okHeads_split st.okH L1 i (L2 ++ rest) (by rw [hs];simp)
 exact ⟨o,ho,fun j hj=>by have:=hd j hj;simp at this;simp [this]⟩
theorem Static.closedP (st : Static l ch heads lates tail) {pre rest : List Nat} (hs : heads = pre ++ rest) : Closed l (· ∈ pre):=by
 intro i o ho hi j hj
 obtain ⟨o',ho',hd⟩:=st.closed_pre hs i hi
 rw [ho] at ho';obtain rfl:=Option.some.inj ho'
 exact hd j hj
theorem Static.looks_pre (st : Static l ch heads lates tail) {pre rest : List Nat} {i : Nat} (hs : heads = pre ++ i :: rest) {o : Oper} (ho : l[i]? = some o) {t : Tmp} (ht : t ∈ o.looksAt l.toArray)
  {j : Nat} (hj : j < l.length) (hd : dstOf l j = some t) (hjt : j ∉ tail) : j ∈ pre:=by
 have hil:=(List.getElem?_eq_some_iff.1 ho).1
 have hm:=(st.okK hil hj hd (by unfold looks;rw [ho];exact ht)).resolve_right hjt
 obtain ⟨o',ho',hdep,_⟩:=okHeads_split st.okH pre i rest (by rw [hs])
 rw [ho] at ho';obtain rfl:=Option.some.inj ho'
 exact masks_spec (st.closedP hs) ho (fun j hj=>by simpa using hdep j hj) hm
def AtChain (P : Program) (l : List Oper) (ch : List Nat) (B0 : Nat) (fin : (World → Prop) → List (Nat × Nat) → Nat → Act → Prop) : List Nat → (World → Prop) → (World → Prop) → List (Nat × Nat) → Nat → Act → Prop
 | [],_,_,_,_,_=>True
 | i :: L,S,C,iv,H,a=>∃ o,l[i]? = some o ∧ ch.contains i = true ∧ Region.wanted o (yielded l.toArray a.tmps) = true ∧ ∃ Ψ C' : Nat → Nat → Value → World → Prop,
     ((∀ lo hi v w w',Ψ lo hi v w → Ext w w' → Ψ lo hi v w') ∧ (∀ lo hi v w w',C' lo hi v w → Ext w w' → C' lo hi v w')) ∧
     (∀ w,S w → C w → H ≤ w.heap.size → RunTo P o a.eval w fun v w'=>Spare B0 iv w w' ∧ S w' ∧ Ψ w.heap.size w'.heap.size v w' ∧ C' w.heap.size w'.heap.size v w') ∧
     (∀ lo hi v,H ≤ lo → lo ≤ hi → (∃ w',Ψ lo hi v w' ∧ C' lo hi v w') → Rob P l ch B0 fin L (fun w=>S w ∧ Ψ lo hi v w) (C' lo hi v) (iv ++ [(lo,hi)]) hi (a.put o.dst v))
theorem Static.head_tail (st : Static l ch heads lates tail) {i : Nat} (hi : i ∈ heads) : i ∉ tail:=fun h =>
 (List.nodup_append.1 st.nd).2.2 i (by simp [hi]) i h rfl
theorem Static.head_late (st : Static l ch heads lates tail) {i : Nat} (hi : i ∈ heads) : i ∉ lates.map (·.1):=fun h =>
 (List.nodup_append.1 (List.nodup_append.1 st.nd).1).2.2 i hi i h rfl
theorem Static.late_tail (st : Static l ch heads lates tail) {i : Nat} (hi : i ∈ lates.map (·.1)) : i ∉ tail:=fun h =>
 (List.nodup_append.1 st.nd).2.2 i (List.mem_append_right _ hi) i h rfl
theorem Static.not_mem (st : Static l ch heads lates tail) {pre rest : List Nat} {i : Nat} (hs : heads = pre ++ i :: rest) : i ∉ pre ∧ i ∉ rest:=by
 have h1 : heads.Nodup:=(List.nodup_append.1 (List.nodup_append.1 st.nd).1).1
 rw [hs] at h1
 have h2:=List.nodup_append.1 h1
 exact ⟨fun h=>h2.2.2 i h i (by simp) rfl,(List.nodup_cons.1 h2.2.1).1⟩
theorem YieldsIf.put {S : World → Prop} {o : Oper} {v u : Value} {a : Act} {d : Option Tmp} (hs : ∀ cs b,o.op ≠ .select cs b) (h : YieldsIf P l.toArray S o v a)
  (hd : ∀ t,d = some t → t ∉ o.looksAt l.toArray) : YieldsIf P l.toArray S o v (a.put d u):=by
 have:=same_on (l:=l) hs (a:=a) (a':=a.put d u) (fun t ht=>by
  cases d with
  | none=>rfl
  | some d=>rw [put_get,if_neg (fun (e : t = d)=>hd d rfl (e ▸ ht))])
 exact h.of_same this.1 this.2
theorem Inv.advance (st : Static l ch heads lates tail) {listed : Array Bool} {a' : Act} {w' : World} {bl : Nat → Nat} :
  ∀ (rest pre : List Nat) (S C : World → Prop) (iv : List (Nat × Nat)) (H : Nat) (a : Act),Inv P l ch heads lates tail B0 fin listed a' w' pre rest S C iv H a bl →
   ∃ pre rest a,Inv P l ch heads lates tail B0 fin listed a' w' pre rest S C iv H a bl ∧ AtChain P l ch B0 fin rest S C iv H a:=by
 intro rest
 induction rest with
 | nil=>exact fun pre S C iv H a h=>⟨pre,[],a,h,trivial⟩
 | cons i L ih =>
  intro pre S C iv H a h
  obtain ⟨o,ho,hr⟩:=h.rob
  rcases hr with ⟨v,hy,hrob⟩ | hr
  ·have hil:=(List.getElem?_eq_some_iff.1 ho).1
   have hnm:=st.not_mem h.split
   have hdst : ∀ d,o.dst = some d → dstOf l i = some d:=fun d hd=>by unfold dstOf;rw [ho];exact hd
   have hself : ∀ t,o.dst = some t → t ∉ o.looksAt l.toArray:=fun t hd ht=>hnm.1 (st.looks_pre h.split ho ht hil (hdst t hd) (st.head_tail (by rw [h.split];simp)))
   refine ih (pre ++ [i]) S C iv H (a.put o.dst v) { h with split:=by rw [h.split];simp,rob:=hrob,yld:=?_,restUn:=fun k hk=>h.restUn k (by simp [hk]),dfr:=by rw [put_defers'];exact h.dfr,tsz:=by rw [put_size];exact h.tsz,agree:=?_ }
   ·intro k hk hun
    rcases List.mem_append.1 hk with hk | hk
    ·obtain ⟨ok,vk,hok,hyk,hvk⟩:=h.yld k hk hun
     have hkl:=(List.getElem?_eq_some_iff.1 hok).1
     have hki : k ≠ i:=fun e=>hnm.1 (e ▸ hk)
     refine ⟨ok,vk,hok,YieldsIf.put (fun cs b=>st.sel k ok cs b hok) hyk ?_,?_⟩
     ·intro t hd ht
      obtain ⟨L1,L2,hsp⟩:=List.append_of_mem hk
      have:=st.looks_pre (pre:=L1) (rest:=L2 ++ i :: L) (by rw [h.split,hsp];simp) hok ht hil (hdst t hd) (st.head_tail (by rw [h.split];simp))
      exact hnm.1 (by rw [hsp];simp [this])
     ·intro d hd hlt
      rw [put_size] at hlt
      cases hod : o.dst with
      | none=>exact hvk d hd hlt
      | some e =>
       rw [put_get,if_neg]
       ·exact hvk d hd hlt
       ·rintro rfl
        exact st.okN hkl hil hki (hdst _ hod) (by unfold dstOf;rw [hok];exact hd)
    ·obtain rfl : k = i:=by simpa using hk
     refine ⟨o,v,ho,YieldsIf.put (fun cs b=>st.sel k o cs b ho) hy hself,?_⟩
     intro d hd hlt
     rw [put_size] at hlt
     rw [hd,put_get,if_pos rfl,if_pos hlt]
   ·intro t ht
    rw [h.agree t ht]
    cases hod : o.dst with
    | none=>rfl
    | some e =>
     rw [put_get,if_neg]
     rintro rfl
     rcases ht i hil (hdst _ hod) with h' | h'
     ·exact h.restUn i (by simp) h'.1
     ·exact st.head_tail (by rw [h.split];simp) h'
  ·exact ⟨pre,i :: L,a,h,o,ho,hr⟩
end main
section main2
variable {P : Program} {l : List Oper} {Q : Exit → Act → World → Prop} {ch heads tail : List Nat} {lates : Lates} {B0 : Nat}
theorem putLates_defers (bl : Nat → Nat) : ∀ (fs : Lates) (a : Act),(putLates l bl fs a).defers = a.defers
 | [],_=>rfl
 | f :: fs,a=>by rw [putLates,putLates_defers bl fs,put_defers']
theorem putLates_size (bl : Nat → Nat) : ∀ (fs : Lates) (a : Act),(putLates l bl fs a).tmps.size = a.tmps.size
 | [],_=>rfl
 | f :: fs,a=>by rw [putLates,putLates_size bl fs,put_size]
theorem putLates_get (bl : Nat → Nat) (hne : ∀ {i j : Nat},i < l.length → j < l.length → i ≠ j → ∀ {d : Tmp},dstOf l j = some d → dstOf l i ≠ some d) : ∀ (fs : Lates) (a : Act) (t : Tmp),(∀ f ∈ fs,f.1 < l.length) → (fs.map (·.1)).Nodup →
  ((∀ f ∈ fs,dstOf l f.1 ≠ some t) → (putLates l bl fs a).tmps[t]? = a.tmps[t]?) ∧
  (∀ f ∈ fs,dstOf l f.1 = some t → (putLates l bl fs a).tmps[t]? = if t < a.tmps.size then some (f.2.2 (bl f.1)) else none)
 | [],a,t,_,_=>⟨fun _=>rfl,fun f hf=>by cases hf⟩
 | f :: fs,a,t,hl,hnd=>by
  have hnd':=List.nodup_cons.1 hnd
  obtain ⟨h1,h2⟩:=putLates_get bl hne fs (a.put (dstOf l f.1) (f.2.2 (bl f.1))) t (fun g hg=>hl g (by simp [hg])) hnd'.2
  have hne' : dstOf l f.1 = some t → ∀ g ∈ fs,dstOf l g.1 ≠ some t:=fun hd g hg =>
   hne (hl g (by simp [hg])) (hl f (by simp)) (fun e=>hnd'.1 (List.mem_map.2 ⟨g,hg,e⟩)) hd
  refine ⟨fun h=>?_,fun g hg hd=>?_⟩
  ·rw [putLates,h1 (fun g hg=>h g (by simp [hg]))]
   cases hd : dstOf l f.1 with
   | none=>rfl
   | some d=>rw [put_get,if_neg (fun (e : t = d)=>h f (by simp) (e ▸ hd))]
  ·rw [putLates]
   rcases List.mem_cons.1 hg with rfl | hg
   ·rw [h1 (hne' hd),hd,put_get,if_pos rfl]
   ·rw [h2 g hg hd,put_size]
theorem act_ext {a b : Act} (h : a.defers = b.defers) (hs : a.tmps.size = b.tmps.size) (hg : ∀ t : Nat,a.tmps[t]? = b.tmps[t]?) : a = b:=by
 obtain ⟨x,d⟩:=a
 obtain ⟨y,e⟩:=b
 simp only at h hs hg
 subst h
 have : x = y:=Array.ext_getElem? hg
 subst this
 rfl
theorem exists_ready {listed : Array Bool} : ∀ (L pre : List Nat),(∀ L1 i L2,L = L1 ++ i :: L2 → ∃ o,l[i]? = some o ∧ ∀ j ∈ deps o,j ∈ pre ++ L1) → (∀ i ∈ pre,On listed i) → (∃ i ∈ L,¬ On listed i) →
  ∃ i ∈ L,¬ On listed i ∧ ∃ o,l[i]? = some o ∧ ∀ j ∈ deps o,On listed j:=by
 intro L
 induction L with
 | nil=>rintro pre _ _ ⟨i,hi,_⟩;cases hi
 | cons x L ih =>
  intro pre h hp he
  by_cases hx : On listed x
  ·obtain ⟨i,hi,hn⟩:=he
   have hiL : i ∈ L:=by
    rcases List.mem_cons.1 hi with rfl | h
    ·exact absurd hx hn
    ·exact h
   obtain ⟨k,hk,h1,h2⟩:=ih (pre ++ [x]) (fun L1 i L2 e=>by
    obtain ⟨o,ho,hd⟩:=h (x :: L1) i L2 (by rw [e];rfl)
    exact ⟨o,ho,fun j hj=>by have:=hd j hj;simp at this ⊢;exact this⟩) (fun i hi=>by
    rcases List.mem_append.1 hi with hi | hi
    ·exact hp i hi
    ·obtain rfl : i = x:=by simpa using hi
     exact hx) ⟨i,hiL,hn⟩
   exact ⟨k,by simp [hk],h1,h2⟩
  ·obtain ⟨o,ho,hd⟩:=h [] x L rfl
   exact ⟨x,by simp,hx,o,ho,fun j hj=>hp j (by simpa using hd j hj)⟩
theorem okTopo_split : ∀ {L pre : List Nat},okTopo l pre L = true → ∀ L1 i L2,L = L1 ++ i :: L2 → ∃ o,l[i]? = some o ∧ ∀ j ∈ deps o,j ∈ pre ++ L1:=by
 intro L
 induction L with
 | nil=>intro pre _ L1 i L2 h;simp at h
 | cons x L ih =>
  intro pre h L1 i L2 he
  simp only [okTopo,Bool.and_eq_true] at h
  cases L1 with
  | nil =>
   simp only [List.nil_append,List.cons.injEq] at he
   obtain ⟨rfl,rfl⟩:=he
   have h1:=h.1
   cases ho : l[x]? with
   | none=>rw [ho] at h1;cases h1
   | some o =>
    rw [ho] at h1
    simp only [List.all_eq_true,List.contains_eq_mem,decide_eq_true_eq] at h1
    exact ⟨o,rfl,by simpa using h1⟩
  | cons y L1 =>
   simp only [List.cons_append,List.cons.injEq] at he
   obtain ⟨rfl,rfl⟩:=he
   obtain ⟨o,ho,h1⟩:=ih h.2 L1 i L2 rfl
   exact ⟨o,ho,by simpa [List.append_assoc] using h1⟩
theorem some_ready (hD : okDeps l = true) {listed : Array Bool} (hs : listed.size = l.length) : ∀ i,i < l.length → ¬ On listed i → Region.ready .any l.toArray listed ≠ []:=by
 intro i
 induction i using Nat.strongRecOn with
 | ind i ih =>
  intro hi hn
  by_cases hd : ∀ j ∈ deps l[i],On listed j
  ·intro he
   have:=(ready_iff hs).2 ⟨hn,l[i],List.getElem?_eq_getElem hi,hd⟩
   rw [he] at this;cases this
  ·obtain ⟨j,hj⟩:=Classical.not_forall.1 hd
   obtain ⟨hj,hjn⟩:=Classical.not_imp.1 hj
   have h1 : j < i:=by
    unfold okDeps at hD
    rw [List.all_eq_true] at hD
    have:=hD i (List.mem_range.2 hi)
    rw [List.getElem?_eq_getElem hi] at this
    exact of_decide_eq_true (List.all_eq_true.1 this j hj)
   exact ih j h1 (by omega) hjn
structure Pend (P : Program) (l : List Oper) (tl : List Nat) (w : World) (listed : Array Bool) (a' A : Act) : Prop where
 siz : listed.size = l.length
 cl : Closed l (On listed)
 yld : ∀ i o,l[i]? = some o → i ∉ tl → ¬ On listed i → ∃ v,YieldsIf P l.toArray (· = w) o v A ∧ ∀ d,o.dst = some d → d < A.tmps.size → A.tmps[d]? = some v
 tailUn : ∀ i ∈ tl,¬ On listed i
 dfr : a'.defers = A.defers
 tsz : a'.tmps.size = A.tmps.size
 agree : ∀ t,(∀ j,j < l.length → dstOf l j = some t → On listed j ∨ j ∈ tl) → a'.tmps[t]? = A.tmps[t]?
theorem pend_run {tl : List Nat} (hS : okSlots l tl = true) (hD : okDeps l = true) (hsel : ∀ (j : Nat) (o : Oper) cs b,l[j]? = some o → o.op ≠ .select cs b) {pre : List Nat} (hT : okTail l pre tl = true)
  (hall : ∀ i,i < l.length → i ∈ pre ∨ i ∈ tl) (hlt : ∀ i ∈ pre,i < l.length) (hnd : tl.Nodup) :
  ∀ (fuel : Nat) (listed : Array Bool) (a' A : Act) (w : World),unl l listed ≤ fuel → Pend P l tl w listed a' A → wpList P l.toArray Q (tl.filterMap (l[·]?)) A w → wpAny P .any l.toArray Q fuel listed a' w:=by
 have hend : ∀ (fuel : Nat) (listed : Array Bool) (a' A : Act) (w : World),unl l listed ≤ fuel → Pend P l tl w listed a' A → wpList P l.toArray Q (tl.filterMap (l[·]?)) A w → (∀ i ∈ pre,On listed i) → wpAny P .any l.toArray Q fuel listed a' w:=by
  intro fuel listed a' A w hu h hw hd
  have ha : a' = A:=act_ext h.dfr h.tsz fun t=>h.agree t fun j hj _=>(hall j hj).imp (hd j) id
  subst ha
  exact tail_run tl pre fuel listed _ w hT h.siz h.cl hall hd h.tailUn hnd hu hw
 intro fuel
 induction fuel with
 | zero =>
  intro listed a' A w hu h hw
  exact hend _ _ _ _ _ hu h hw fun i hi=>unl_zero (by omega) (hlt i hi)
 | succ fuel ih =>
  intro listed a' A w hu h hw
  by_cases hd : ∀ i ∈ pre,On listed i
  ·exact hend _ _ _ _ _ hu h hw hd
  have hready : Region.ready .any l.toArray listed ≠ []:=by
   obtain ⟨i,hi⟩:=Classical.not_forall.1 hd
   obtain ⟨hi,hn⟩:=Classical.not_imp.1 hi
   exact some_ready hD h.siz i (hlt i hi) hn
  refine ⟨fun h0=>absurd h0 hready,fun i hi=>?_⟩
  obtain ⟨hun,o,ho,hdeps⟩:=(ready_iff h.siz).1 hi
  have hil:=(List.getElem?_eq_some_iff.1 ho).1
  have hsz : i < listed.size:=by rw [h.siz];exact hil
  have hdst : ∀ d,o.dst = some d → dstOf l i = some d:=fun d hd=>by unfold dstOf;rw [ho];exact hd
  by_cases hit : i ∈ tl
  ·obtain ⟨L1,L2,hsp⟩:=List.append_of_mem hit
   obtain ⟨o',ho',_,hm⟩:=okTail_split hT L1 i L2 hsp
   rw [ho] at ho';obtain rfl:=Option.some.inj ho'
   exact absurd (fun k hk=>masks_spec h.cl ho hdeps (hm k (by simp [hk]))) hd
  ·have hlook : ∀ t ∈ o.looksAt l.toArray,a'.tmps[t]? = A.tmps[t]?:=fun t ht=>h.agree t fun j hj hdj =>
    (okSlots_looks hS hil hj hdj (by unfold looks;rw [ho];exact ht)).imp (masks_spec h.cl ho hdeps) id
   obtain ⟨hex,hwt⟩:=same_on (fun cs b=>hsel i o cs b ho) hlook
   obtain ⟨v,hy,hv⟩:=h.yld i o ho hit hun
   refine YieldsIf.wpOp (P:=P) (ops:=l.toArray) (S:=(· = w)) (by simpa using ho) (hy.of_same hex hwt) rfl ?_
   have hu' : unl l (listed.setIfInBounds i true) ≤ fuel:=by have:=unl_set (l:=l) h.siz hil hun;omega
   refine ih _ _ A w hu' ⟨by simpa using h.siz,closed_set h.siz h.cl ho hdeps,fun k ok hok hk hn=>h.yld k ok hok hk fun hon=>hn ((on_set hsz).2 (.inr hon)),?_,by rw [put_defers'];exact h.dfr,by rw [put_size];exact h.tsz,?_⟩ hw
   ·intro k hk hon
    rcases (on_set hsz).1 hon with rfl | hon
    ·exact hit hk
    ·exact h.tailUn k hk hon
   ·intro t ht
    cases hod : o.dst with
    | none =>
     refine h.agree t fun j hj hd=>?_
     rcases ht j hj hd with h1 | h1
     ·rcases (on_set hsz).1 h1 with rfl | h1
      ·have : dstOf l j = none:=by unfold dstOf;rw [ho];exact hod
       rw [this] at hd;cases hd
      ·exact .inl h1
     ·exact .inr h1
    | some d =>
     rw [put_get]
     by_cases htd : t = d
     ·subst htd
      rw [if_pos rfl]
      by_cases hlt : t < a'.tmps.size
      ·rw [if_pos hlt,hv t hod (by rw [← h.tsz];exact hlt)]
      ·have hge : A.tmps.size ≤ t:=by rw [← h.tsz];exact Nat.not_lt.1 hlt
       rw [if_neg hlt,Array.getElem?_eq_none hge]
     ·rw [if_neg htd]
      refine h.agree t fun j hj hd=>?_
      rcases ht j hj hd with h1 | h1
      ·rcases (on_set hsz).1 h1 with rfl | h1
       ·rw [hdst d hod] at hd;exact absurd (Option.some.inj hd).symm htd
       ·exact .inl h1
      ·exact .inr h1
theorem mid_adv {tl : List Nat} (hS : okSlots l tl = true) (hsel : ∀ (j : Nat) (o : Oper) cs b,l[j]? = some o → o.op ≠ .select cs b) {w : World} {listed : Array Bool} {a' : Act} :
  ∀ (M pre : List Nat) (A : Act),okTopo l pre M = true → Closed l (· ∈ pre) → (∀ i,i < l.length → i ∈ pre ∨ i ∈ M ++ tl) → (∀ i ∈ pre,i ∉ M ++ tl) → (M ++ tl).Nodup → Mid P l Q tl M A w → Pend P l (M ++ tl) w listed a' A →
   ∃ A',Pend P l tl w listed a' A' ∧ wpList P l.toArray Q (tl.filterMap (l[·]?)) A' w:=by
 intro M
 induction M with
 | nil=>exact fun pre A _ _ _ _ _ hm h=>⟨A,h,hm⟩
 | cons i M ih =>
  intro pre A htopo hcl hall hdis hnd hm h
  obtain ⟨o,v,ho,hy,hm⟩:=hm
  have hil:=(List.getElem?_eq_some_iff.1 ho).1
  obtain ⟨o',ho',hdeps⟩:=okTopo_split htopo [] i M rfl
  rw [ho] at ho';obtain rfl:=Option.some.inj ho'
  rw [List.append_nil] at hdeps
  have hip : i ∉ pre:=fun hi=>hdis i hi (by simp)
  have hnd':=List.nodup_cons.1 (show (i :: (M ++ tl)).Nodup from hnd)
  have hdst : ∀ d,o.dst = some d → dstOf l i = some d:=fun d hd=>by unfold dstOf;rw [ho];exact hd
  have hno : ∀ k ok,l[k]? = some ok → (∀ j ∈ deps ok,j ∈ pre) → ∀ t,o.dst = some t → t ∉ ok.looksAt l.toArray:=fun k ok hok hd t ht hl =>
   hip (masks_spec hcl hok hd ((okSlots_looks hS (List.getElem?_eq_some_iff.1 hok).1 hil (hdst t ht) (by unfold looks;rw [hok];exact hl)).resolve_right fun h1=>hnd'.1 (List.mem_append_right _ h1)))
  simp only [okTopo,Bool.and_eq_true] at htopo
  refine ih (pre ++ [i]) (A.put o.dst v) htopo.2 ?_ ?_ ?_ hnd'.2 hm ⟨h.siz,h.cl,?_,fun k hk=>h.tailUn k (by simp only [List.cons_append];exact List.mem_cons_of_mem _ hk),by rw [put_defers'];exact h.dfr,by rw [put_size];exact h.tsz,?_⟩
  ·intro k ok hok hk j hj
   rcases List.mem_append.1 hk with hk | hk
   ·exact List.mem_append_left _ (hcl k ok hok hk j hj)
   ·obtain rfl:=List.mem_singleton.1 hk
    rw [ho] at hok;obtain rfl:=Option.some.inj hok
    exact List.mem_append_left _ (hdeps j hj)
  ·intro k hk
   rcases hall k hk with h1 | h1
   ·exact .inl (List.mem_append_left _ h1)
   ·rcases List.mem_cons.1 (show k ∈ i :: (M ++ tl) from h1) with rfl | h1
    ·exact .inl (by simp)
    ·exact .inr h1
  ·intro k hk hkm
   rcases List.mem_append.1 hk with hk | hk
   ·exact hdis k hk (by simp only [List.cons_append];exact List.mem_cons_of_mem _ hkm)
   ·obtain rfl:=List.mem_singleton.1 hk
    exact hnd'.1 hkm
  ·intro k ok hok hk hun
   have hkl:=(List.getElem?_eq_some_iff.1 hok).1
   by_cases hki : k = i
   ·subst hki
    rw [ho] at hok;obtain rfl:=Option.some.inj hok
    refine ⟨v,YieldsIf.put (fun cs b=>hsel k o cs b ho) hy (hno k o ho hdeps),fun d hd hlt=>?_⟩
    rw [put_size] at hlt
    rw [hd,put_get,if_pos rfl,if_pos hlt]
   ·have hkp : k ∈ pre:=by
     rcases hall k hkl with h1 | h1
     ·exact h1
     ·rcases List.mem_cons.1 (show k ∈ i :: (M ++ tl) from h1) with h1 | h1
      ·exact absurd h1 hki
      ·exact absurd h1 hk
    obtain ⟨u,hyk,hvk⟩:=h.yld k ok hok (by simp only [List.cons_append];exact fun h1=>(List.mem_cons.1 h1).elim hki hk) hun
    refine ⟨u,YieldsIf.put (fun cs b=>hsel k ok cs b hok) hyk (hno k ok hok (hcl k ok hok hkp)),fun d hd hlt=>?_⟩
    rw [put_size] at hlt
    cases hod : o.dst with
    | none=>exact hvk d hd hlt
    | some e =>
     rw [put_get,if_neg]
     ·exact hvk d hd hlt
     ·rintro rfl
      exact okSlots_ne hS hkl hil hki (hdst _ hod) (by unfold dstOf;rw [hok];exact hd)
  ·intro t ht
   have hia:=h.tailUn i (by simp)
   have hag:=h.agree t fun j hj hd=>(ht j hj hd).imp id fun h1=>by simp only [List.cons_append];exact List.mem_cons_of_mem _ h1
   cases hod : o.dst with
   | none=>exact hag
   | some d =>
    rw [put_get,if_neg]
    ·exact hag
    ·rintro rfl
     rcases ht i hil (hdst _ hod) with h1 | h1
     ·exact hia h1
     ·exact hnd'.1 h1
theorem heads_done {mid : List Nat} (st : Static l ch heads lates (mid ++ tail)) (hS : okSlots l tail = true) (hT : okTail l (heads ++ lates.map (·.1) ++ mid) tail = true) (hTo : okTopo l (heads ++ lates.map (·.1)) mid = true) (hD : okDeps l = true)
  {fuel : Nat} {listed : Array Bool} {a' : Act} {w' : World} {pre : List Nat} {S C : World → Prop} {iv : List (Nat × Nat)} {H : Nat} {a : Act} {bl : Nat → Nat}
  (hu : unl l listed ≤ fuel) (h : Inv P l ch heads lates (mid ++ tail) B0 (FinM P l Q B0 lates mid tail) listed a' w' pre [] S C iv H a bl) (hl : ∀ f ∈ lates,On listed f.1) :
  wpAny P .any l.toArray Q fuel listed a' w':=by
 have hfin : FinM P l Q B0 lates mid tail (fun w=>S w ∧ C w) iv H a:=h.rob
 have hm:=hfin w' ⟨h.hS,h.hC⟩ h.hH bl (fun f hf=>(h.late f hf (hl f hf)).1) (fun f hf g hg hne=>h.lateNe f hf g hg (hl f hf) (hl g hg) hne)
 have hpre : heads = pre:=by rw [h.split,List.append_nil]
 have hnd1:=(List.nodup_append.1 st.nd)
 have hnd : (lates.map (·.1)).Nodup:=(List.nodup_append.1 hnd1.1).2.1
 have hmem : ∀ f ∈ lates,f.1 ∈ lates.map (·.1):=fun f hf=>List.mem_map.2 ⟨f,hf,rfl⟩
 have hclH : Closed l (· ∈ heads):=st.closedP (pre:=heads) (rest:=[]) (by simp)
 have hpg:=fun t=>putLates_get (l:=l) bl st.okN lates a t (fun f hf=>st.lt _ (.inr (.inl (hmem f hf)))) hnd
 have hp : Pend P l (mid ++ tail) w' listed a' (putLates l bl lates a):=by
  refine ⟨h.siz,h.cl,?_,h.tailUn,by rw [putLates_defers];exact h.dfr,by rw [putLates_size];exact h.tsz,?_⟩
  ·intro i o ho hit hun
   have hil:=(List.getElem?_eq_some_iff.1 ho).1
   have hih : i ∈ heads:=by
    rcases st.all i hil with h1 | h1 | h1
    ·exact h1
    ·obtain ⟨f,hf,rfl⟩:=List.mem_map.1 h1;exact absurd (hl f hf) hun
    ·exact absurd h1 hit
   obtain ⟨o',v,ho',hy,hv⟩:=h.yld i (hpre ▸ hih) hun
   rw [ho] at ho';obtain rfl:=Option.some.inj ho'
   have hy' : YieldsIf P l.toArray (· = w') o v a:=hy.imp (fun ⟨h1,h2⟩=>⟨h1,fun w hw=>h2 w (hw ▸ ⟨h.hS,h.hH⟩)⟩) id
   obtain ⟨hex,hwt⟩:=same_on (l:=l) (fun cs b=>st.sel i o cs b ho) (a:=a) (a':=putLates l bl lates a) (fun t ht=>(hpg t).1 fun f hf hd=>by
    have:=masks_spec hclH ho (hclH i o ho hih) ((st.okK hil (st.lt _ (.inr (.inl (hmem f hf)))) hd (by unfold looks;rw [ho];exact ht)).resolve_right (st.late_tail (hmem f hf)))
    exact st.head_late this (hmem f hf))
   refine ⟨v,hy'.of_same hex hwt,fun d hd hlt=>?_⟩
   rw [putLates_size] at hlt
   rw [(hpg d).1 fun f hf hdf=>?_]
   ·exact hv d hd hlt
   ·exact st.okN (st.lt _ (.inr (.inl (hmem f hf)))) hil (fun e=>st.head_late hih (e ▸ hmem f hf)) (by unfold dstOf;rw [ho];exact hd) hdf
  ·intro t ht
   by_cases hx : ∃ f ∈ lates,dstOf l f.1 = some t
   ·obtain ⟨f,hf,hd⟩:=hx
    rw [(hpg t).2 f hf hd]
    by_cases hlt : t < a.tmps.size
    ·rw [if_pos hlt];exact (h.late f hf (hl f hf)).2 t hd (by rw [h.tsz];exact hlt)
    ·rw [if_neg hlt];exact Array.getElem?_eq_none (by rw [h.tsz];exact Nat.not_lt.1 hlt)
   ·rw [(hpg t).1 (fun f hf hd=>hx ⟨f,hf,hd⟩)]
    refine h.agree t fun j hj hd=>?_
    rcases st.all j hj with h1 | h1 | h1
    ·exact (ht j hj hd).imp (fun h2=>⟨h2,h1⟩) id
    ·obtain ⟨f,hf,rfl⟩:=List.mem_map.1 h1;exact absurd ⟨f,hf,hd⟩ hx
    ·exact .inr h1
 have hclL : Closed l (· ∈ heads ++ lates.map (·.1)):=by
  intro i o ho hi j hj
  rcases List.mem_append.1 hi with hi | hi
  ·exact List.mem_append_left _ (hclH i o ho hi j hj)
  ·obtain ⟨o',ho',hd,_⟩:=okLates_mem st.okL i hi
   rw [ho] at ho';obtain rfl:=Option.some.inj ho'
   exact List.mem_append_left _ (hd j hj)
 obtain ⟨A',hpA,hwA⟩:=mid_adv hS st.sel mid (heads ++ lates.map (·.1)) _ hTo hclL (fun i hi=>by
  rcases st.all i hi with h1 | h1 | h1
  ·exact .inl (List.mem_append_left _ h1)
  ·exact .inl (List.mem_append_right _ h1)
  ·exact .inr h1) (fun i hi hm=>hnd1.2.2 i hi i hm rfl) hnd1.2.1 hm hp
 refine pend_run hS hD st.sel hT (fun i hi=>?_) (fun i hi=>?_) (List.nodup_append.1 hnd1.2.1).2.1 fuel listed a' A' w' hu hpA hwA
 ·rcases st.all i hi with h1 | h1 | h1
  ·exact .inl (by simp [h1])
  ·exact .inl (List.mem_append_left _ (List.mem_append_right _ h1))
  ·rcases List.mem_append.1 h1 with h1 | h1
   ·exact .inl (List.mem_append_right _ h1)
   ·exact .inr h1
 ·rcases List.mem_append.1 hi with hi | hi
  ·exact st.lt i (or_assoc.1 (.inl (List.mem_append.1 hi)))
  ·exact st.lt i (.inr (.inr (List.mem_append_left _ hi)))
theorem rob_sound {mid : List Nat} (st : Static l ch heads lates (mid ++ tail)) (hS : okSlots l tail = true) (hT : okTail l (heads ++ lates.map (·.1) ++ mid) tail = true) (hTo : okTopo l (heads ++ lates.map (·.1)) mid = true) (hD : okDeps l = true) (hlate : ∀ f ∈ lates,∃ o,l[f.1]? = some o ∧ ∀ (a : Act) (w : World),(execOp a.eval o).run P w = .ok (.value (f.2.2 w.heap.size)) (w.alloc f.2.1)) :
  ∀ (fuel : Nat) (listed : Array Bool) (a' : Act) (w' : World) (pre rest : List Nat) (S C : World → Prop) (iv : List (Nat × Nat)) (H : Nat) (a : Act) (bl : Nat → Nat),
   unl l listed ≤ fuel → Inv P l ch heads lates (mid ++ tail) B0 (FinM P l Q B0 lates mid tail) listed a' w' pre rest S C iv H a bl → wpAny P .any l.toArray Q fuel listed a' w':=by
 intro fuel
 induction fuel with
 | zero =>
  intro listed a' w' pre rest S C iv H a bl hu h
  have hall : ∀ i,i < l.length → On listed i:=fun i hi=>unl_zero (by omega) hi
  cases rest with
  | nil=>exact heads_done st hS hT hTo hD hu h (fun f hf=>hall _ (st.lt _ (.inr (.inl (List.mem_map.2 ⟨f,hf,rfl⟩)))))
  | cons c L=>exact absurd (hall c (st.lt c (.inl (by rw [h.split];simp)))) (h.restUn c (by simp))
 | succ fuel ih =>
  intro listed a' w' pre0 rest0 S C iv H a0 bl hu h0
  obtain ⟨pre,rest,a,h,hch⟩:=Inv.advance st rest0 pre0 S C iv H a0 h0
  clear h0 a0 pre0 rest0
  by_cases hdone : rest = [] ∧ ∀ f ∈ lates,On listed f.1
  ·obtain ⟨hre,hlo⟩:=hdone
   subst hre
   exact heads_done st hS hT hTo hD hu h hlo
  have hready : Region.ready .any l.toArray listed ≠ []:=by
   have hex : ∃ i,¬ On listed i ∧ ∃ o,l[i]? = some o ∧ ∀ j ∈ deps o,On listed j:=by
    by_cases hh : ∀ i ∈ heads,On listed i
    ·have : ∃ f ∈ lates,¬ On listed f.1:=by
      by_cases hx : ∃ f ∈ lates,¬ On listed f.1
      ·exact hx
      ·exact absurd ⟨by
        cases hrs : rest with
        | nil=>rfl
        | cons c L=>exact absurd (hh c (by rw [h.split,hrs];simp)) (h.restUn c (by rw [hrs];simp)),fun f hf=>Classical.byContradiction fun hc=>hx ⟨f,hf,hc⟩⟩ hdone
     obtain ⟨f,hf,hn⟩:=this
     obtain ⟨o,ho,hd,_⟩:=okLates_mem st.okL f.1 (List.mem_map.2 ⟨f,hf,rfl⟩)
     exact ⟨f.1,hn,o,ho,fun j hj=>hh j (hd j hj)⟩
    ·have : ∃ i ∈ heads,¬ On listed i:=by
      refine Classical.byContradiction fun hc=>hh fun i hi=>Classical.byContradiction fun hn=>hc ⟨i,hi,hn⟩
     obtain ⟨i,_,h1,h2⟩:=exists_ready heads [] (fun L1 i L2 e=>by
      obtain ⟨o,ho,hd,_⟩:=okHeads_split st.okH L1 i L2 e
      exact ⟨o,ho,hd⟩) (fun i hi=>by cases hi) this
     exact ⟨i,h1,h2⟩
   obtain ⟨i,h1,h2⟩:=hex
   intro he
   have:=(ready_iff h.siz).2 ⟨h1,h2⟩
   rw [he] at this
   cases this
  refine ⟨fun h0=>absurd h0 hready,fun i hi=>?_⟩
  obtain ⟨hun,o,ho,hdeps⟩:=(ready_iff h.siz).1 hi
  have hil:=(List.getElem?_eq_some_iff.1 ho).1
  have hdst : ∀ d,o.dst = some d → dstOf l i = some d:=fun d hd=>by unfold dstOf;rw [ho];exact hd
  have hsz : i < listed.size:=by rw [h.siz];exact hil
  have hu' : unl l (listed.setIfInBounds i true) ≤ fuel:=by have:=unl_set (l:=l) h.siz hil hun;omega
  have hcl':=closed_set h.siz h.cl ho hdeps
  rcases st.all i hil with hih | hil' | hit
  ·-- a head operation
   have hlook : ∀ t ∈ o.looksAt l.toArray,a'.tmps[t]? = a.tmps[t]?:=by
    intro t ht
    obtain ⟨L1,L2,hsp⟩:=List.append_of_mem hih
    refine h.agree t fun j hj hd=>?_
    by_cases hjt : j ∈ mid ++ tail
    ·exact .inr hjt
    have hjp:=st.looks_pre hsp ho ht hj hd hjt
    have hm:=(st.okK hil hj hd (by unfold looks;rw [ho];exact ht)).resolve_right hjt
    exact .inl ⟨masks_spec h.cl ho hdeps hm,by rw [hsp];simp [hjp]⟩
   obtain ⟨hex,hwt⟩:=same_on (fun cs b=>st.sel i o cs b ho) hlook
   rw [h.split] at hih
   rcases List.mem_append.1 hih with hp | hr
   ·-- one that yields
    obtain ⟨o',v,ho',hy,hv⟩:=h.yld i hp hun
    rw [ho] at ho';obtain rfl:=Option.some.inj ho'
    have hy':=hy.of_same (a':=a') hex hwt
    refine YieldsIf.wpOp (P:=P) (ops:=l.toArray) (S:=fun w=>S w ∧ H ≤ w.heap.size) (by simpa using ho) hy' ⟨h.hS,h.hH⟩ ?_
    refine ih _ _ w' pre rest S C iv H a bl hu' { h with siz:=by simpa using h.siz,cl:=hcl',yld:=?_,restUn:=?_,tailUn:=?_,dfr:=by rw [put_defers'];exact h.dfr,tsz:=by rw [put_size];exact h.tsz,agree:=?_,late:=?_,lateNe:=?_ }
    ·intro k hk hn
     exact h.yld k hk (fun hon=>hn ((on_set hsz).2 (.inr hon)))
    ·intro k hk hon
     rcases (on_set hsz).1 hon with rfl | hon
     ·have hnd : heads.Nodup:=(List.nodup_append.1 (List.nodup_append.1 st.nd).1).1
      rw [h.split] at hnd
      exact (List.nodup_append.1 hnd).2.2 k hp k hk rfl
     ·exact h.restUn k hk hon
    ·intro k hk hon
     rcases (on_set hsz).1 hon with rfl | hon
     ·exact st.head_tail (by rw [h.split];simp [hp]) hk
     ·exact h.tailUn k hk hon
    ·intro t ht
     cases hod : o.dst with
     | none =>
      refine h.agree t fun j hj hd=>?_
      rcases ht j hj hd with ⟨h1,h2⟩ | h1
      ·rcases (on_set hsz).1 h1 with rfl | h1
       ·have : dstOf l j = none:=by unfold dstOf;rw [ho];exact hod
        rw [this] at hd;cases hd
       ·exact .inl ⟨h1,h2⟩
      ·exact .inr h1
     | some d =>
      rw [put_get]
      by_cases htd : t = d
      ·subst htd
       rw [if_pos rfl]
       by_cases hlt : t < a'.tmps.size
       ·rw [if_pos hlt,hv t hod (by rw [← h.tsz];exact hlt)]
       ·have hge : a.tmps.size ≤ t:=by rw [← h.tsz];exact Nat.not_lt.1 hlt
        rw [if_neg hlt,Array.getElem?_eq_none hge]
      ·rw [if_neg htd]
       refine h.agree t fun j hj hd=>?_
       rcases ht j hj hd with ⟨h1,h2⟩ | h1
       ·rcases (on_set hsz).1 h1 with rfl | h1
        ·rw [hdst d hod] at hd;exact absurd (Option.some.inj hd).symm htd
        ·exact .inl ⟨h1,h2⟩
       ·exact .inr h1
    ·intro f hf hon
     have hfi : f.1 ≠ i:=fun e=>st.head_late (by rw [h.split];simp [hp]) (List.mem_map.2 ⟨f,hf,e⟩)
     have hon' : On listed f.1:=by rcases (on_set hsz).1 hon with e | e;exact absurd e hfi;exact e
     refine ⟨(h.late f hf hon').1,fun d hd hlt=>?_⟩
     rw [put_size] at hlt
     cases hod : o.dst with
     | none=>exact (h.late f hf hon').2 d hd hlt
     | some e =>
      rw [put_get,if_neg]
      ·exact (h.late f hf hon').2 d hd hlt
      ·rintro rfl
       exact st.okN (st.lt _ (.inr (.inl (List.mem_map.2 ⟨f,hf,rfl⟩)))) hil hfi (hdst _ hod) hd
    ·intro f hf g hg hf1 hg1 hne
     have hfi : ∀ f ∈ lates,f.1 ≠ i:=fun f hf e=>st.head_late (by rw [h.split];simp [hp]) (List.mem_map.2 ⟨f,hf,e⟩)
     have hon' : ∀ f ∈ lates,On (listed.setIfInBounds i true) f.1 → On listed f.1:=fun f hf hon=>by rcases (on_set hsz).1 hon with e | e;exact absurd e (hfi f hf);exact e
     exact h.lateNe f hf g hg (hon' f hf hf1) (hon' g hg hg1) hne
   ·-- the next one that may turn the world
    cases rest with
    | nil=>cases hr
    | cons c L =>
     obtain ⟨oc,hoc,hcc,hcw,Ψ,C',⟨hst,hstC⟩,hrun,hnext⟩:=hch
     by_cases hic : i = c
     ·subst hic
      rw [ho] at hoc;obtain rfl:=Option.some.inj hoc
      have hnm:=st.not_mem h.split
      have hrt:=(hrun w' h.hS h.hC h.hH).congr hex.symm
      unfold wpOp
      simp only [List.getElem?_toArray,ho]
      rw [if_pos (hwt.trans hcw)]
      refine .inl (hrt.wp fun v w'' hv=>?_)
      obtain ⟨hsp,hS',hΨ,hC'⟩:=hv
      have hfi : ∀ f ∈ lates,f.1 ≠ i:=fun f hf e=>st.head_late (by rw [h.split];simp) (List.mem_map.2 ⟨f,hf,e⟩)
      have hon' : ∀ f ∈ lates,On (listed.setIfInBounds i true) f.1 → On listed f.1:=fun f hf hon=>by rcases (on_set hsz).1 hon with e | e;exact absurd e (hfi f hf);exact e
      have hself : ∀ t,o.dst = some t → t ∉ o.looksAt l.toArray:=fun t hd ht=>hnm.1 (st.looks_pre h.split ho ht hil (hdst t hd) (st.head_tail (by rw [h.split];simp)))
      refine ih _ _ w'' (pre ++ [i]) L _ _ _ w''.heap.size (a.put o.dst v) bl hu' { split:=by rw [h.split];simp,rob:=hnext w'.heap.size w''.heap.size v h.hH hsp.size ⟨w'',hΨ,hC'⟩,stabC:=fun w1 w2 hc he=>hstC _ _ _ w1 w2 hc he,hC:=hC',siz:=by simpa using h.siz,cl:=hcl',yld:=?_,restUn:=?_,tailUn:=?_,stab:=?_,hS:=⟨hS',hΨ⟩,hH:=Nat.le_refl _,hB:=?_,hiv:=?_,dfr:=by rw [put_defers',put_defers'];exact h.dfr,tsz:=by rw [put_size,put_size];exact h.tsz,agree:=?_,late:=?_,lateNe:=?_ }
      ·intro k hk hn
       rcases List.mem_append.1 hk with hk | hk
       ·obtain ⟨ok,vk,hok,hyk,hvk⟩:=h.yld k hk (fun hon=>hn ((on_set hsz).2 (.inr hon)))
        have hkl:=(List.getElem?_eq_some_iff.1 hok).1
        have hki : k ≠ i:=fun e=>hnm.1 (e ▸ hk)
        refine ⟨ok,vk,hok,?_,?_⟩
        ·have hyk' : YieldsIf P l.toArray (fun w=>(S w ∧ Ψ w'.heap.size w''.heap.size v w) ∧ w''.heap.size ≤ w.heap.size) ok vk a:=
          hyk.imp (fun ⟨h1,h2⟩=>⟨h1,fun w hw=>h2 w ⟨hw.1.1,Nat.le_trans h.hH (Nat.le_trans hsp.size hw.2)⟩⟩) id
         refine YieldsIf.put (fun cs b=>st.sel k ok cs b hok) hyk' ?_
         intro t hd ht
         obtain ⟨L1,L2,hsp'⟩:=List.append_of_mem hk
         have:=st.looks_pre (pre:=L1) (rest:=L2 ++ i :: L) (by rw [h.split,hsp'];simp) hok ht hil (hdst t hd) (st.head_tail (by rw [h.split];simp))
         exact hnm.1 (by rw [hsp'];simp [this])
        ·intro d hd hlt
         rw [put_size] at hlt
         cases hod : o.dst with
         | none=>exact hvk d hd hlt
         | some e =>
          rw [put_get,if_neg]
          ·exact hvk d hd hlt
          ·rintro rfl
           exact st.okN hkl hil hki (hdst _ hod) (by unfold dstOf;rw [hok];exact hd)
       ·obtain rfl : k = i:=by simpa using hk
        exact absurd ((on_set hsz).2 (.inl rfl)) hn
      ·intro k hk hon
       rcases (on_set hsz).1 hon with rfl | hon
       ·exact hnm.2 hk
       ·exact h.restUn k (by simp [hk]) hon
      ·intro k hk hon
       rcases (on_set hsz).1 hon with rfl | hon
       ·exact st.head_tail (by rw [h.split];simp) hk
       ·exact h.tailUn k hk hon
      ·exact fun w1 w2 hs he=>⟨h.stab w1 w2 hs.1 he,hst _ _ _ w1 w2 hs.2 he⟩
      ·exact Nat.le_trans h.hB (Nat.le_trans h.hH hsp.size)
      ·intro p hp
       rcases List.mem_append.1 hp with hp | hp
       ·exact Nat.le_trans (h.hiv p hp) (Nat.le_trans h.hH hsp.size)
       ·obtain rfl : p = (w'.heap.size,w''.heap.size):=by simpa using hp
        exact Nat.le_refl _
      ·intro t ht
       cases hod : o.dst with
       | none =>
        refine h.agree t fun j hj hd=>?_
        rcases ht j hj hd with ⟨h1,h2⟩ | h1
        ·rcases (on_set hsz).1 h1 with rfl | h1
         ·have : dstOf l j = none:=by unfold dstOf;rw [ho];exact hod
          rw [this] at hd;cases hd
         ·exact .inl ⟨h1,h2⟩
        ·exact .inr h1
       | some d =>
        rw [put_get,put_get,h.tsz]
        by_cases htd : t = d
        ·rw [if_pos htd,if_pos htd]
        ·rw [if_neg htd,if_neg htd]
         refine h.agree t fun j hj hd=>?_
         rcases ht j hj hd with ⟨h1,h2⟩ | h1
         ·rcases (on_set hsz).1 h1 with rfl | h1
          ·rw [hdst d hod] at hd;exact absurd (Option.some.inj hd).symm htd
          ·exact .inl ⟨h1,h2⟩
         ·exact .inr h1
      ·intro f hf hon
       obtain ⟨hla,hlv⟩:=h.late f hf (hon' f hf hon)
       refine ⟨⟨hla.ge,Nat.lt_of_lt_of_le hla.lt hsp.size,?_,?_⟩,fun d hd hlt=>?_⟩
       ·rw [hsp.same _ hla.ge hla.lt hla.out];exact hla.obj
       ·intro p hp
        rcases List.mem_append.1 hp with hp | hp
        ·exact hla.out p hp
        ·obtain rfl : p = (w'.heap.size,w''.heap.size):=by simpa using hp
         exact .inl hla.lt
       ·rw [put_size] at hlt
        cases hod : o.dst with
        | none=>exact hlv d hd hlt
        | some e =>
         rw [put_get,if_neg]
         ·exact hlv d hd hlt
         ·rintro rfl
          exact st.okN (st.lt _ (.inr (.inl (List.mem_map.2 ⟨f,hf,rfl⟩)))) hil (hfi f hf) (hdst _ hod) hd
      ·exact fun f hf g hg hf1 hg1 hne=>h.lateNe f hf g hg (hon' f hf hf1) (hon' g hg hg1) hne
     ·-- a later head operation waits for it
      have hr' : i ∈ L:=by
       rcases List.mem_cons.1 hr with e | e
       ·exact absurd e hic
       ·exact e
      obtain ⟨L1,L2,rfl⟩:=List.append_of_mem hr'
      obtain ⟨o',ho',_,hm⟩:=okHeads_split st.okH (pre ++ c :: L1) i L2 (by rw [h.split];simp)
      rw [ho] at ho';obtain rfl:=Option.some.inj ho'
      exact absurd (masks_spec h.cl ho hdeps (hm c (by simp) hcc)) (h.restUn c (by simp))
  ·-- a late operation
   obtain ⟨f,hf,rfl⟩:=List.mem_map.1 hil'
   obtain ⟨o',ho',hop⟩:=hlate f hf
   rw [ho] at ho';obtain rfl:=Option.some.inj ho'
   obtain ⟨o',ho',_,hg,_⟩:=okLates_mem st.okL f.1 hil'
   rw [ho] at ho';obtain rfl:=Option.some.inj ho'
   have hpre : ∀ k ∈ heads,k ≠ f.1:=fun k hk e=>st.head_late (e ▸ hk) hil'
   unfold wpOp
   simp only [List.getElem?_toArray,ho]
   rw [if_pos (by simp [Region.wanted,hg])]
   refine .inl ?_
   unfold Oper.wp
   rw [hop]
   simp only [Oper.upon]
   have hext : Ext w' (w'.alloc f.2.1):=(Below.refl _ _).alloc (Nat.le_refl _) _
   have hszA : (w'.alloc f.2.1).heap.size = w'.heap.size + 1:=by simp
   have hnd : (lates.map (·.1)).Nodup:=(List.nodup_append.1 (List.nodup_append.1 st.nd).1).2.1
   have huniq : ∀ g ∈ lates,g.1 = f.1 → g = f:=fun g hg e=>by
    obtain ⟨n,hn,rfl⟩:=List.mem_iff_getElem.1 hg
    obtain ⟨m,hm,rfl⟩:=List.mem_iff_getElem.1 hf
    have : n = m:=(List.getElem_inj (i:=n) (j:=m) (h₀:=by simpa using hn) (h₁:=by simpa using hm) hnd).1 (by simpa using e)
    subst this;rfl
   refine ih _ _ _ pre rest S C iv H a (fun k=>if k = f.1 then w'.heap.size else bl k) hu' { h with siz:=by simpa using h.siz,cl:=hcl',yld:=?_,restUn:=?_,tailUn:=?_,hS:=h.stab _ _ h.hS hext,hC:=h.stabC _ _ h.hC hext,hH:=by rw [hszA];exact Nat.le_succ_of_le h.hH,dfr:=by rw [put_defers'];exact h.dfr,tsz:=by rw [put_size];exact h.tsz,agree:=?_,late:=?_,lateNe:=?_ }
   ·intro k hk hn
    exact h.yld k hk (fun hon=>hn ((on_set hsz).2 (.inr hon)))
   ·intro k hk hon
    rcases (on_set hsz).1 hon with e | hon
    ·exact hpre k (by rw [h.split];simp [hk]) e
    ·exact h.restUn k hk hon
   ·intro k hk hon
    rcases (on_set hsz).1 hon with rfl | hon
    ·exact st.late_tail hil' hk
    ·exact h.tailUn k hk hon
   ·intro t ht
    have hno : dstOf l f.1 ≠ some t:=fun hd=>by
     rcases ht f.1 hil hd with ⟨_,h2⟩ | h2
     ·exact st.head_late h2 hil'
     ·exact st.late_tail hil' h2
    have hag : a'.tmps[t]? = a.tmps[t]?:=h.agree t fun j hj hd=>by
     rcases ht j hj hd with ⟨h1,h2⟩ | h1
     ·rcases (on_set hsz).1 h1 with e | h1
      ·exact absurd e (hpre j h2)
      ·exact .inl ⟨h1,h2⟩
     ·exact .inr h1
    cases hod : o.dst with
    | none=>exact hag
    | some d=>rw [put_get,if_neg (fun (e : t = d)=>hno (by rw [hdst d hod,e]))];exact hag
   ·intro g hg' hon
    by_cases hgf : g.1 = f.1
    ·obtain rfl:=huniq g hg' hgf
     refine ⟨⟨?_,?_,?_,?_⟩,fun d hd hlt=>?_⟩
     ·simp only [if_pos];exact Nat.le_trans h.hB h.hH
     ·simp only [if_pos,hszA];omega
     ·simp only [if_pos];show (w'.heap.push g.2.1)[w'.heap.size]? = _;simp
     ·intro p hp;simp only [if_pos];exact .inr (Nat.le_trans (h.hiv p hp) h.hH)
     ·rw [put_size] at hlt
      have hod : o.dst = some d:=by unfold dstOf at hd;rw [ho] at hd;exact hd
      rw [hod,put_get,if_pos rfl,if_pos hlt]
      simp
    ·have hon' : On listed g.1:=by rcases (on_set hsz).1 hon with e | e;exact absurd e hgf;exact e
     obtain ⟨hla,hlv⟩:=h.late g hg' hon'
     refine ⟨⟨?_,?_,?_,?_⟩,fun d hd hlt=>?_⟩
     ·simp only [if_neg hgf];exact hla.ge
     ·simp only [if_neg hgf,hszA];exact Nat.lt_succ_of_lt hla.lt
     ·simp only [if_neg hgf];rw [hext.block _ hla.lt];exact hla.obj
     ·simp only [if_neg hgf];exact hla.out
     ·rw [put_size] at hlt
      simp only [if_neg hgf]
      cases hod : o.dst with
      | none=>exact hlv d hd hlt
      | some e =>
       rw [put_get,if_neg]
       ·exact hlv d hd hlt
       ·rintro rfl
        exact st.okN (st.lt _ (.inr (.inl (List.mem_map.2 ⟨g,hg',rfl⟩)))) hil hgf (hdst _ hod) hd
   ·intro g1 hg1 g2 hg2 hn1 hn2 hne
    have hon' : ∀ g ∈ lates,g.1 ≠ f.1 → On (listed.setIfInBounds f.1 true) g.1 → On listed g.1:=fun g _ hgf hon=>by rcases (on_set hsz).1 hon with e | e;exact absurd e hgf;exact e
    by_cases h1 : g1.1 = f.1
    ·by_cases h2 : g2.1 = f.1
     ·exact absurd (h1.trans h2.symm) hne
     ·simp only [if_pos h1,if_neg h2]
      have:=(h.late g2 hg2 (hon' g2 hg2 h2 hn2)).1.lt
      omega
    ·by_cases h2 : g2.1 = f.1
     ·simp only [if_neg h1,if_pos h2]
      have:=(h.late g1 hg1 (hon' g1 hg1 h1 hn1)).1.lt
      omega
     ·simp only [if_neg h1,if_neg h2]
      exact h.lateNe g1 hg1 g2 hg2 (hon' g1 hg1 h1 hn1) (hon' g2 hg2 h2 hn2) hne
  ·-- none of what comes behind is ready yet
   have hm : ∀ c,c ∈ heads.filter ch.contains ++ lates.map (·.1) → ((masks l).getD i 0).testBit c = true:=fun c hc=>List.all_eq_true.1 (List.all_eq_true.1 st.okM i hit) c hc
   refine absurd ⟨?_,fun f hf=>masks_spec h.cl ho hdeps (hm f.1 (List.mem_append_right _ (List.mem_map.2 ⟨f,hf,rfl⟩)))⟩ hdone
   cases rest with
   | nil=>rfl
   | cons c L =>
    obtain ⟨oc,hoc,hcc,_⟩:=hch
    exact absurd (masks_spec h.cl ho hdeps (hm c (List.mem_append_left _ (List.mem_filter.2 ⟨by rw [h.split];simp,hcc⟩)))) (h.restUn c (by simp))
theorem wp_region_planM (ch heads : List Nat) (lates : Lates) (mid tail : List Nat) {id : Nat} {a : Act} {w : World} (hm : P.follows .mixedOrders = true)
  (hok : okPlanM l ch heads (lates.map (·.1)) mid tail = true)
  (hlate : ∀ f ∈ lates,∃ o,l[f.1]? = some o ∧ ∀ (a : Act) (w : World),(execOp a.eval o).run P w = .ok (.value (f.2.2 w.heap.size)) (w.alloc f.2.1))
  (S : World → Prop) (hS : S w.drew) (hst : ∀ w w',S w → Ext w w' → S w') (C : World → Prop) (hC : C w.drew) (hstC : ∀ w w',C w → Ext w w' → C w')
  (h : Rob P l ch w.heap.size (FinM P l Q w.heap.size lates mid tail) heads S C [] w.heap.size a) : (Code.region id l.toArray true).wp P Q a w:=by
 obtain ⟨st,hSl,hT,hTo,hD⟩:=Static.of hok
 refine wp_region_any hm ?_
 have hun : ∀ i,¬ On (Array.replicate l.toArray.size false) i:=fun i=>by
  unfold On;simp [Array.getD_eq_getD_getElem?,Array.getElem?_replicate];split <;> simp
 refine rob_sound st hSl hT hTo hD hlate _ _ a w.drew [] heads S C [] w.heap.size a (fun _=>0) ?_ ⟨rfl,h,by simp,fun i o _ hi=>absurd hi (hun i),fun i hi=>(by cases hi),fun i _=>hun i,fun i _=>hun i,hst,hS,hstC,hC,Nat.le_refl _,Nat.le_refl _,fun p hp=>(by cases hp),rfl,rfl,fun t _=>rfl,fun f _ hf=>absurd hf (hun _),fun f _ g _ hf=>absurd hf (hun _)⟩
 unfold unl
 exact Nat.le_trans (List.length_filter_le _ _) (by simp)
theorem wp_region_planC (ch heads : List Nat) (lates : Lates) (tail : List Nat) {id : Nat} {a : Act} {w : World} (hm : P.follows .mixedOrders = true)
  (hok : okPlan l ch heads (lates.map (·.1)) tail = true)
  (hlate : ∀ f ∈ lates,∃ o,l[f.1]? = some o ∧ ∀ (a : Act) (w : World),(execOp a.eval o).run P w = .ok (.value (f.2.2 w.heap.size)) (w.alloc f.2.1))
  (S : World → Prop) (hS : S w.drew) (hst : ∀ w w',S w → Ext w w' → S w') (C : World → Prop) (hC : C w.drew) (hstC : ∀ w w',C w → Ext w w' → C w')
  (h : Rob P l ch w.heap.size (Fin P l Q w.heap.size lates tail) heads S C [] w.heap.size a) : (Code.region id l.toArray true).wp P Q a w:=
 wp_region_planM ch heads lates [] tail hm hok hlate S hS hst C hC hstC h
theorem wp_region_plan (ch heads : List Nat) (lates : Lates) (tail : List Nat) {id : Nat} {a : Act} {w : World} (hm : P.follows .mixedOrders = true)
  (hok : okPlan l ch heads (lates.map (·.1)) tail = true)
  (hlate : ∀ f ∈ lates,∃ o,l[f.1]? = some o ∧ ∀ (a : Act) (w : World),(execOp a.eval o).run P w = .ok (.value (f.2.2 w.heap.size)) (w.alloc f.2.1))
  (S : World → Prop) (hS : S w.drew) (hst : ∀ w w',S w → Ext w w' → S w')
  (h : Rob P l ch w.heap.size (Fin P l Q w.heap.size lates tail) heads S (fun _=>True) [] w.heap.size a) : (Code.region id l.toArray true).wp P Q a w:=
 wp_region_planC ch heads lates tail hm hok hlate S hS hst (fun _=>True) trivial (fun _ _ _ _=>trivial) h
end main2
section steps
variable {P : Program} {l : List Oper} {Q : Exit → Act → World → Prop} {ch L : List Nat} {lates : Lates} {tail : List Nat} {B0 : Nat} {S C : World → Prop} {iv : List (Nat × Nat)} {H : Nat} {a : Act}
 {fin : (World → Prop) → List (Nat × Nat) → Nat → Act → Prop}
theorem ext_trans {w1 w2 w3 : World} (h1 : Ext w1 w2) (h2 : Ext w2 w3) : Ext w1 w3:=h1.trans (h2.mono h1.size)
theorem wp_region_ext (ch heads : List Nat) (lates : Lates) (tail : List Nat) {id : Nat} {a : Act} {w : World} (hm : P.follows .mixedOrders = true)
  (hok : okPlan l ch heads (lates.map (·.1)) tail = true)
  (hlate : ∀ f ∈ lates,∃ o,l[f.1]? = some o ∧ ∀ (a : Act) (w : World),(execOp a.eval o).run P w = .ok (.value (f.2.2 w.heap.size)) (w.alloc f.2.1))
  (h : Rob P l ch w.heap.size (Fin P l Q w.heap.size lates tail) heads (Ext w) (fun _=>True) [] w.heap.size a) : (Code.region id l.toArray true).wp P Q a w:=
 wp_region_plan ch heads lates tail hm hok hlate (Ext w) (Below.refl _ _).drew (fun _ _ h1 h2=>ext_trans h1 h2) h
theorem Rob.y {i : Nat} {o : Oper} {v : Value} (ho : l[i]? = some o) (hg : o.guard = none)
  (hy : ∀ w1,S w1 → H ≤ w1.heap.size → (execOp a.eval o).run P w1 = .ok (.value v) w1) (h : Rob P l ch B0 fin L S C iv H (a.put o.dst v)) : Rob P l ch B0 fin (i :: L) S C iv H a:=
 ⟨o,ho,.inl ⟨v,.inl ⟨by simp [Region.wanted,hg],fun w hw=>hy w hw.1 hw.2⟩,h⟩⟩
theorem Rob.yg {i : Nat} {o : Oper} {v : Value} (ho : l[i]? = some o) (hg : Region.wanted o (yielded l.toArray a.tmps) = true)
  (hy : ∀ w1,S w1 → H ≤ w1.heap.size → (execOp a.eval o).run P w1 = .ok (.value v) w1) (h : Rob P l ch B0 fin L S C iv H (a.put o.dst v)) : Rob P l ch B0 fin (i :: L) S C iv H a:=
 ⟨o,ho,.inl ⟨v,.inl ⟨hg,fun w hw=>hy w hw.1 hw.2⟩,h⟩⟩
theorem Rob.no {i : Nat} {o : Oper} (ho : l[i]? = some o) (hg : Region.wanted o (yielded l.toArray a.tmps) = false)
  (h : Rob P l ch B0 fin L S C iv H (a.put o.dst undef)) : Rob P l ch B0 fin (i :: L) S C iv H a:=
 ⟨o,ho,.inl ⟨undef,.inr ⟨hg,rfl⟩,h⟩⟩
def RetV (w1 : World) (v : Value) (v' : Value) (w' : World) : Prop:=Ext w1 w' ∧ v' = v
def RetC (w1 : World) (Ψ : Nat → Nat → Value → World → Prop) (v : Value) (w' : World) : Prop:=Ext w1 w' ∧ Ψ w1.heap.size w'.heap.size v w'
theorem Rob.c {i : Nat} {o : Oper} (Ψ : Nat → Nat → Value → World → Prop) (ho : l[i]? = some o) (hc : ch.contains i = true) (hg : Region.wanted o (yielded l.toArray a.tmps) = true)
  (hS : ∀ w w',S w → Ext w w' → S w')
  (hst : ∀ lo hi v w w',Ψ lo hi v w → Ext w w' → Ψ lo hi v w')
  (hrun : ∀ w1,S w1 → H ≤ w1.heap.size → RunTo P o a.eval w1 (RetC w1 Ψ))
  (h : ∀ lo hi v,H ≤ lo → lo ≤ hi → (∃ w',Ψ lo hi v w') → Rob P l ch B0 fin L (fun w=>S w ∧ Ψ lo hi v w) C (iv ++ [(lo,hi)]) hi (a.put o.dst v)) (hCs : ∀ w w',C w → Ext w w' → C w':=by exact fun _ _ h _=>h) : Rob P l ch B0 fin (i :: L) S C iv H a:=by
 refine ⟨o,ho,.inr ⟨hc,hg,Ψ,fun _ _ _=>C,⟨hst,fun _ _ _=>hCs⟩,fun w hs hcw hw=>?_,fun lo hi v h1 h2 ⟨w',hp,_⟩=>h lo hi v h1 h2 ⟨w',hp⟩⟩⟩
 have:=hrun w hs hw
 unfold RunTo at *
 revert this
 generalize (execOp a.eval o).run P w = r
 cases r with
 | ok n w' =>
  cases n <;> intro this
  case value v=>exact ⟨.of_ext this.1,hS _ _ hs this.1,this.2,hCs _ _ hcw this.1⟩
  case skip=>exact ⟨.of_ext this.1,hS _ _ hs this.1,this.2,hCs _ _ hcw this.1⟩
  case enter f args=>exact Calls.mono this fun e w'' ⟨v,he,h1,h2⟩=>⟨v,he,.of_ext h1,hS _ _ hs h1,h2,hCs _ _ hcw h1⟩
  case row row args=>exact Rows.mono this fun v w'' ⟨h1,h2⟩=>⟨.of_ext h1,hS _ _ hs h1,h2,hCs _ _ hcw h1⟩
  all_goals exact this
 | halt x w'=>exact fun h=>h
theorem Rob.cv {i : Nat} {o : Oper} (v : Value) (ho : l[i]? = some o) (hc : ch.contains i = true) (hg : Region.wanted o (yielded l.toArray a.tmps) = true)
  (hS : ∀ w w',S w → Ext w w' → S w')
  (hrun : ∀ w1,S w1 → H ≤ w1.heap.size → RunTo P o a.eval w1 (RetV w1 v))
  (h : ∀ lo hi,H ≤ lo → lo ≤ hi → Rob P l ch B0 fin L S C (iv ++ [(lo,hi)]) hi (a.put o.dst v)) (hCs : ∀ w w',C w → Ext w w' → C w':=by exact fun _ _ h _=>h) : Rob P l ch B0 fin (i :: L) S C iv H a:=
 Rob.c (fun _ _ v' _=>v' = v) ho hc hg hS (fun _ _ _ _ _ h _=>h) hrun (fun lo hi v' h1 h2 ⟨_,e⟩=>by
  subst e
  rw [show (fun w=>S w ∧ v' = v') = S from funext fun w=>by simp]
  exact h lo hi h1 h2) hCs
theorem fin_nil (h : ∀ w1,S w1 → H ≤ w1.heap.size → Q .normal a w1) : Fin P l Q B0 [] [] (fun w=>S w ∧ C w) iv H a:=
 fun w1 hs hh _ _ _=>h w1 hs.1 hh
theorem fin_tail (h : ∀ w1,S w1 → H ≤ w1.heap.size → wpList P l.toArray Q (tail.filterMap (l[·]?)) a w1) : Fin P l Q B0 [] tail (fun w=>S w ∧ C w) iv H a:=
 fun w1 hs hh _ _ _=>h w1 hs.1 hh
theorem fin_one {f : Nat × Obj × (Nat → Value)} (h : ∀ w1 (b : Nat),S w1 → H ≤ w1.heap.size → B0 ≤ b → b < w1.heap.size → w1.heap[b]? = some f.2.1 → (∀ p ∈ iv,b < p.1 ∨ p.2 ≤ b) →
  wpList P l.toArray Q (tail.filterMap (l[·]?)) (a.put (dstOf l f.1) (f.2.2 b)) w1) : Fin P l Q B0 [f] tail (fun w=>S w ∧ C w) iv H a:=
 fun w1 hs hh bl hl _=>h w1 (bl f.1) hs.1 hh (hl f (by simp)).ge (hl f (by simp)).lt (hl f (by simp)).obj (hl f (by simp)).out
end steps
end Go.Plan
namespace Go.Bu
open Go Go.RowKit Go.Plan
theorem bcell {W w1 : World} (hb : Below W.heap.size W w1) : (∀ b o,b < W.heap.size → w1.cell? ⟨b,o,none⟩ = W.cell? ⟨b,o,none⟩) ∧ (∀ b o,b < W.heap.size → w1.frozen? ⟨b,o,none⟩ = W.frozen? ⟨b,o,none⟩):=
 ⟨fun b o h=>hb.cell (p:=⟨b,o,none⟩) h,fun b o h=>hb.frozen (p:=⟨b,o,none⟩) h⟩
def Ret (w : World) (v : Value) (e : Ending) (w' : World) : Prop:=e = .returned v ∧ Ext w w'
def RetP (w : World) (Φ : Value → World → Prop) (e : Ending) (w' : World) : Prop:=∃ v,e = .returned v ∧ Ext w w' ∧ Φ v w'
theorem Ret.to {w w' : World} {v : Value} {e : Ending} (h : Ret w v e w') : ∃ v',e = .returned v' ∧ RetV w v v' w':=⟨v,h.1,h.2,rfl⟩
theorem RetP.to {w w' : World} {Φ : Value → World → Prop} {e : Ending} (h : RetP w Φ e w') : ∃ v',e = .returned v' ∧ RetC w (fun _ _=>Φ) v' w':=h
theorem ext_refl (w : World) : Ext w w:=Below.refl _ _
theorem ext_drew (w : World) : Ext w w.drew:=(Below.refl _ _).drew
theorem ext_alloc {w w' : World} (h : Ext w w') (o : Obj) : Ext w (w'.alloc o):=h.alloc h.size o
theorem after1 {w w1 : World} {o1 : Obj} (hx : Ext (w.alloc o1) w1) : (∀ b o,b < (w.alloc o1).heap.size → w1.cell? ⟨b,o,none⟩ = (w.alloc o1).cell? ⟨b,o,none⟩) ∧ (∀ b o,b < (w.alloc o1).heap.size → w1.frozen? ⟨b,o,none⟩ = (w.alloc o1).frozen? ⟨b,o,none⟩) ∧
  w.heap.size < w1.heap.size ∧ Ext w w1:=
 ⟨(bcell hx).1,(bcell hx).2,by have:=hx.size;simp at this;omega,ext_trans (ext_alloc (ext_refl _) _) hx⟩
theorem after2 {w w1 : World} {o1 o2 : Obj} (hx : Ext ((w.alloc o1).alloc o2) w1) : (∀ b o,b < ((w.alloc o1).alloc o2).heap.size → w1.cell? ⟨b,o,none⟩ = ((w.alloc o1).alloc o2).cell? ⟨b,o,none⟩) ∧
  (∀ b o,b < ((w.alloc o1).alloc o2).heap.size → w1.frozen? ⟨b,o,none⟩ = ((w.alloc o1).alloc o2).frozen? ⟨b,o,none⟩) ∧ w.heap.size < w1.heap.size ∧ w.heap.size + 1 < w1.heap.size ∧ Ext w w1:=
 ⟨(bcell hx).1,(bcell hx).2,by have:=hx.size;simp at this;omega,by have:=hx.size;simp at this;omega,ext_trans (ext_alloc (ext_alloc (ext_refl _) _) _) hx⟩
theorem ext_set {w w' : World} (h : Ext w w') {p : Addr} (hp : w.heap.size ≤ p.block) (u : Value) : Ext w (w'.setCell p u):=h.setCell hp u
theorem cell_ext {w w' : World} (h : Ext w w') {b o : Nat} {v : Value} (hc : w.cell? ⟨b,o,none⟩ = some v) : w'.cell? ⟨b,o,none⟩ = some v:=by
 have hb : b < w.heap.size:=by
  unfold World.cell? at hc
  by_cases hb : b < w.heap.size
  ·exact hb
  ·simp [Array.getElem?_eq_none (Nat.not_lt.1 hb)] at hc
 rw [(bcell h).1 b o hb];exact hc
theorem cell_lt {w : World} {b o : Nat} {v : Value} (hc : w.cell? ⟨b,o,none⟩ = some v) : b < w.heap.size:=by
 unfold World.cell? at hc
 by_cases hb : b < w.heap.size
 ·exact hb
 ·simp [Array.getElem?_eq_none (Nat.not_lt.1 hb)] at hc
def Same (D : Nat → Prop) (w w' : World) : Prop:=∀ b,D b → w'.heap[b]? = w.heap[b]?
abbrev Enc (α : Type):=(Nat → Prop) → World → α → List Value → Prop
def Sl {α : Type} (n : Nat) (E : Enc α) (D : Nat → Prop) (w : World) (v : Value) (xs : List α) : Prop:=
 ∃ a cap,v = .slice a xs.length cap ∧ ∀ (i : Nat) (x : α),xs[i]? = some x → ∃ b o cs,a = some ⟨b,o,none⟩ ∧ D b ∧ E D w x cs ∧ ∀ (j : Nat) u,cs[j]? = some u → w.cell? ⟨b,o + i * n + j,none⟩ = some u
theorem cell_same {D : Nat → Prop} {w w' : World} (h : Same D w w') {b o : Nat} (hb : D b) : w'.cell? ⟨b,o,none⟩ = w.cell? ⟨b,o,none⟩:=by
 unfold World.cell?;rw [h b hb]
def EncKept {α : Type} (E : Enc α) : Prop:=∀ (D D' : Nat → Prop) (w w' : World) x cs,E D w x cs → Same D w w' → (∀ b,D b → D' b) → E D' w' x cs
theorem Sl.same {α : Type} {n : Nat} {E : Enc α} (hE : EncKept E) {D D' : Nat → Prop} {w w' : World} {v : Value} {xs : List α} (h : Sl n E D w v xs) (hs : Same D w w') (hD : ∀ b,D b → D' b) : Sl n E D' w' v xs:=by
 obtain ⟨a,cap,hv,hx⟩:=h
 refine ⟨a,cap,hv,fun i x hi=>?_⟩
 obtain ⟨b,o,cs,ha,hb,he,hc⟩:=hx i x hi
 exact ⟨b,o,cs,ha,hD b hb,hE _ _ _ _ _ _ he hs hD,fun j u hj=>by rw [cell_same hs hb];exact hc j u hj⟩
def Old (w : World) (b : Nat) : Prop:=b < w.heap.size
theorem same_old {w w' : World} (h : Ext w w') : Same (Old w) w w':=fun b hb=>h.block b hb
theorem old_ext {w w' : World} (h : Ext w w') (b : Nat) (hb : Old w b) : Old w' b:=Nat.lt_of_lt_of_le hb h.size
abbrev setAll (w : World) (p k : Nat) (xs : List Value) : World:=World.setCells w p k xs
theorem setAll_cons (w : World) (p k : Nat) (x : Value) (xs : List Value) : setAll w p k (x :: xs) = setAll (w.setCell ⟨p,k,none⟩ x) p (k + 1) xs:=rfl
theorem setCell_block {w : World} {p k : Nat} {x : Value} {c : Array Value} {T : TypeId} {fr : Nat × Nat} (h : w.heap[p]? = some (.cells c T fr)) :
  (w.setCell ⟨p,k,none⟩ x).heap[p]? = some (.cells (c.setIfInBounds k x) T fr):=by
 simp [World.setCell,Array.getElem?_modify,h]
theorem setCell_other {w : World} {p k b : Nat} {x : Value} (h : b ≠ p) : (w.setCell ⟨p,k,none⟩ x).heap[b]? = w.heap[b]?:=Below.heap_setCell _ _ _ _ h
theorem setCell_size (w : World) (a : Addr) (x : Value) : (w.setCell a x).heap.size = w.heap.size:=by simp [World.setCell]
theorem setAll_size (p : Nat) : ∀ (xs : List Value) (w : World) (k : Nat),(setAll w p k xs).heap.size = w.heap.size
 | [],_,_=>rfl
 | x :: xs,w,k=>by rw [setAll_cons,setAll_size p xs,setCell_size]
theorem setAll_other (p : Nat) {b : Nat} (h : b ≠ p) : ∀ (xs : List Value) (w : World) (k : Nat),(setAll w p k xs).heap[b]? = w.heap[b]?
 | [],_,_=>rfl
 | x :: xs,w,k=>by rw [setAll_cons,setAll_other p h xs,setCell_other h]
theorem setAll_below (p B : Nat) (hB : B ≤ p) : ∀ (xs : List Value) (w : World) (k : Nat),Below B w (setAll w p k xs)
 | [],_,_=>Below.refl _ _
 | x :: xs,w,k=>((Below.refl B w).setCell (p:=⟨p,k,none⟩) hB x).trans (setAll_below p B hB xs _ _)
theorem setAll_part {p : Nat} {T : TypeId} {fr : Nat × Nat} : ∀ (xs : List Value) (w : World) (k : Nat) (c : Array Value),w.heap[p]? = some (.cells c T fr) → k + xs.length ≤ c.size →
  ∃ c',(setAll w p k xs).heap[p]? = some (.cells c' T fr) ∧ c'.size = c.size ∧ ∀ j : Nat,c'[j]? = if k ≤ j ∧ j < k + xs.length then xs[j - k]? else c[j]?
 | [],w,k,c,h,hk=>⟨c,h,rfl,fun j=>by rw [if_neg (by simp only [List.length_nil];omega)]⟩
 | x :: xs,w,k,c,h,hk=>by
  obtain ⟨c',h1,h2,h3⟩:=setAll_part xs (w.setCell ⟨p,k,none⟩ x) (k + 1) _ (setCell_block h) (by simp at hk ⊢;omega)
  refine ⟨c',h1,by simpa using h2,fun j=>?_⟩
  rw [h3 j]
  simp only [List.length_cons] at hk ⊢
  by_cases hj : k + 1 ≤ j ∧ j < k + 1 + xs.length
  ·rw [if_pos hj,if_pos (by omega),show j - k = (j - (k + 1)) + 1 by omega];rfl
  ·rw [if_neg hj]
   by_cases hjk : j = k
   ·subst hjk
    rw [if_pos (by omega),Nat.sub_self]
    simp [Array.getElem?_setIfInBounds,show j < c.size by omega]
   ·rw [if_neg (by omega),Array.getElem?_setIfInBounds_ne (by omega)]
theorem setAll_block {p : Nat} {T : TypeId} {fr : Nat × Nat} (xs : List Value) (w : World) (k : Nat) (c : Array Value) (h : w.heap[p]? = some (.cells c T fr)) (hk : k + xs.length = c.size) :
  ∃ c',(setAll w p k xs).heap[p]? = some (.cells c' T fr) ∧ c'.size = c.size ∧ ∀ j : Nat,c'[j]? = if k ≤ j then xs[j - k]? else c[j]?:=by
 obtain ⟨c',h1,h2,h3⟩:=setAll_part xs w k c h (by omega)
 refine ⟨c',h1,h2,fun j=>?_⟩
 rw [h3 j]
 by_cases hj : k ≤ j
 ·rw [if_pos hj]
  by_cases hj2 : j < k + xs.length
  ·rw [if_pos ⟨hj,hj2⟩]
  ·rw [if_neg (by omega),List.getElem?_eq_none (by omega),Array.getElem?_eq_none (by omega)]
 ·rw [if_neg hj,if_neg (by omega)]
theorem cell_block {w : World} {p : Nat} {c : Array Value} {T : TypeId} {fr : Nat × Nat} (h : w.heap[p]? = some (.cells c T fr)) (j : Nat) : w.cell? ⟨p,j,none⟩ = c[j]?:=by
 simp [World.cell?,h]
theorem frozen_block {w : World} {p : Nat} {c : Array Value} {T : TypeId} (h : w.heap[p]? = some (.cells c T (0,0))) (j : Nat) : w.frozen? ⟨p,j,none⟩ = false:=by
 simp [World.frozen?,h]
structure Rec where
 kind : Int
 seq : Int
 addr : Int
 val : Int
structure Page where
 state : Int
 r : Rec
structure Block where
 pages : List Page
 worn : Int
structure Step where
 kind : Int
 addr : Int
 val : Int
 block : Int
 r : Rec
structure Event where
 kind : Int
 a : Int
 b : Int
 c : Int
 torn : Bool
structure Cost where
 writes : Int
 wipes : Int
 disks : Int
structure Store where
 flash : List Block
 disk : List Int
abbrev recC (r : Rec) : List Value:=[.int .i64 r.kind,.int .i64 r.seq,.int .i64 r.addr,.int .i64 r.val]
abbrev pageC (p : Page) : List Value:=[.int .i64 p.state,.int .i64 p.r.kind,.int .i64 p.r.seq,.int .i64 p.r.addr,.int .i64 p.r.val]
abbrev stepC (s : Step) : List Value:=[.int .i64 s.kind,.int .i64 s.addr,.int .i64 s.val,.int .i64 s.block,.int .i64 s.r.kind,.int .i64 s.r.seq,.int .i64 s.r.addr,.int .i64 s.r.val]
abbrev recA (r : Rec) : Value:=.agg #[.int .i64 r.kind,.int .i64 r.seq,.int .i64 r.addr,.int .i64 r.val]
abbrev pageA (p : Page) : Value:=.agg #[.int .i64 p.state,.int .i64 p.r.kind,.int .i64 p.r.seq,.int .i64 p.r.addr,.int .i64 p.r.val]
abbrev stepA (s : Step) : Value:=.agg #[.int .i64 s.kind,.int .i64 s.addr,.int .i64 s.val,.int .i64 s.block,.int .i64 s.r.kind,.int .i64 s.r.seq,.int .i64 s.r.addr,.int .i64 s.r.val]
abbrev eventA (e : Event) : Value:=.agg #[.int .i64 e.kind,.int .i64 e.a,.int .i64 e.b,.int .i64 e.c,.bool e.torn]
def plain {α : Type} (enc : α → List Value) : Enc α:=fun _ _ x cs=>cs = enc x
theorem plain_kept {α : Type} (enc : α → List Value) : EncKept (plain enc):=fun _ _ _ _ _ _ h _ _=>h
abbrev Ints (D : Nat → Prop) (w : World) (v : Value) (xs : List Int) : Prop:=Sl 1 (plain fun n : Int=>[.int .i64 n]) D w v xs
abbrev Pages (D : Nat → Prop) (w : World) (v : Value) (ps : List Page) : Prop:=Sl 5 (plain pageC) D w v ps
abbrev Steps' (D : Nat → Prop) (w : World) (v : Value) (xs : List Step) : Prop:=Sl 8 (plain stepC) D w v xs
def blockE : Enc Block:=fun D w b cs=>∃ pv,cs = [pv,.int .i64 b.worn] ∧ Pages D w pv b.pages
theorem blockE_kept : EncKept blockE:=fun D D' w w' x cs ⟨pv,hc,hp⟩ hs hD=>⟨pv,hc,Sl.same (plain_kept _) hp hs hD⟩
abbrev Flash (D : Nat → Prop) (w : World) (v : Value) (f : List Block) : Prop:=Sl 2 blockE D w v f
theorem Ints.ext {w w' : World} {v : Value} {xs : List Int} (h : Ints (Old w) w v xs) (he : Ext w w') : Ints (Old w') w' v xs:=Sl.same (plain_kept _) h (same_old he) (old_ext he)
theorem Pages.ext {w w' : World} {v : Value} {xs : List Page} (h : Pages (Old w) w v xs) (he : Ext w w') : Pages (Old w') w' v xs:=Sl.same (plain_kept _) h (same_old he) (old_ext he)
theorem Flash.ext {w w' : World} {v : Value} {f : List Block} (h : Flash (Old w) w v f) (he : Ext w w') : Flash (Old w') w' v f:=Sl.same blockE_kept h (same_old he) (old_ext he)
theorem Sl.at {α : Type} {n : Nat} {enc : α → List Value} {D : Nat → Prop} {w : World} {a : Option Addr} {len cap : Nat} {xs : List α} (h : Sl n (plain enc) D w (.slice a len cap) xs) {k : Nat} (hk : k < xs.length) :
  ∃ b o,a = some ⟨b,o,none⟩ ∧ D b ∧ ∀ (j : Nat) u,(enc xs[k])[j]? = some u → w.cell? ⟨b,o + k * n + j,none⟩ = some u:=by
 obtain ⟨a',cap',hv,hx⟩:=h
 obtain ⟨b,o,cs,ha,hb,he,hc⟩:=hx k xs[k] (List.getElem?_eq_getElem hk)
 injection hv with h1 h2 h3
 subst h1
 obtain rfl : cs = enc xs[k]:=he
 exact ⟨b,o,ha,hb,hc⟩
theorem Sl.form {α : Type} {n : Nat} {E : Enc α} {D : Nat → Prop} {w : World} {v : Value} {xs : List α} (h : Sl n E D w v xs) : ∃ a cap,v = .slice a xs.length cap:=by
 obtain ⟨a,cap,hv,_⟩:=h;exact ⟨a,cap,hv⟩
theorem Pages.at5 {D : Nat → Prop} {w : World} {a : Option Addr} {len cap : Nat} {xs : List Page} (h : Pages D w (.slice a len cap) xs) {k : Nat} (hk : k < xs.length) :
  ∃ b o,a = some ⟨b,o,none⟩ ∧ D b ∧ w.cell? ⟨b,o + k * 5,none⟩ = some (.int .i64 xs[k].state) ∧ w.cell? ⟨b,o + k * 5 + 1,none⟩ = some (.int .i64 xs[k].r.kind) ∧ w.cell? ⟨b,o + k * 5 + 2,none⟩ = some (.int .i64 xs[k].r.seq) ∧
   w.cell? ⟨b,o + k * 5 + 3,none⟩ = some (.int .i64 xs[k].r.addr) ∧ w.cell? ⟨b,o + k * 5 + 4,none⟩ = some (.int .i64 xs[k].r.val):=by
 obtain ⟨b,o,ha,hb,hc⟩:=Sl.at h hk
 exact ⟨b,o,ha,hb,hc 0 _ rfl,hc 1 _ rfl,hc 2 _ rfl,hc 3 _ rfl,hc 4 _ rfl⟩
theorem Ints.at1 {D : Nat → Prop} {w : World} {a : Option Addr} {len cap : Nat} {xs : List Int} (h : Ints D w (.slice a len cap) xs) {k : Nat} (hk : k < xs.length) :
  ∃ b o,a = some ⟨b,o,none⟩ ∧ D b ∧ w.cell? ⟨b,o + k,none⟩ = some (.int .i64 xs[k]):=by
 obtain ⟨b,o,ha,hb,hc⟩:=Sl.at h hk
 have:=hc 0 _ rfl
 exact ⟨b,o,ha,hb,by simpa using this⟩
theorem Steps'.at8 {D : Nat → Prop} {w : World} {a : Option Addr} {len cap : Nat} {xs : List Step} (h : Steps' D w (.slice a len cap) xs) {k : Nat} (hk : k < xs.length) :
  ∃ b o,a = some ⟨b,o,none⟩ ∧ D b ∧ w.cell? ⟨b,o + k * 8,none⟩ = some (.int .i64 xs[k].kind) ∧ w.cell? ⟨b,o + k * 8 + 1,none⟩ = some (.int .i64 xs[k].addr) ∧ w.cell? ⟨b,o + k * 8 + 2,none⟩ = some (.int .i64 xs[k].val) ∧
   w.cell? ⟨b,o + k * 8 + 3,none⟩ = some (.int .i64 xs[k].block) ∧ w.cell? ⟨b,o + k * 8 + 4,none⟩ = some (.int .i64 xs[k].r.kind) ∧ w.cell? ⟨b,o + k * 8 + 5,none⟩ = some (.int .i64 xs[k].r.seq) ∧
   w.cell? ⟨b,o + k * 8 + 6,none⟩ = some (.int .i64 xs[k].r.addr) ∧ w.cell? ⟨b,o + k * 8 + 7,none⟩ = some (.int .i64 xs[k].r.val):=by
 obtain ⟨b,o,ha,hb,hc⟩:=Sl.at h hk
 exact ⟨b,o,ha,hb,hc 0 _ rfl,hc 1 _ rfl,hc 2 _ rfl,hc 3 _ rfl,hc 4 _ rfl,hc 5 _ rfl,hc 6 _ rfl,hc 7 _ rfl⟩
theorem Flash.at2 {D : Nat → Prop} {w : World} {a : Option Addr} {len cap : Nat} {f : List Block} (h : Flash D w (.slice a len cap) f) {k : Nat} (hk : k < f.length) :
  ∃ b o pv,a = some ⟨b,o,none⟩ ∧ D b ∧ Pages D w pv f[k].pages ∧ w.cell? ⟨b,o + k * 2,none⟩ = some pv ∧ w.cell? ⟨b,o + k * 2 + 1,none⟩ = some (.int .i64 f[k].worn):=by
 obtain ⟨a',cap',hv,hx⟩:=h
 obtain ⟨b,o,cs,ha,hb,⟨pv,hcs,hp⟩,hc⟩:=hx k f[k] (List.getElem?_eq_getElem hk)
 injection hv with h1 h2 h3
 subst h1
 subst hcs
 exact ⟨b,o,pv,ha,hb,hp,hc 0 _ rfl,hc 1 _ rfl⟩
def recEq (a b : Rec) : Bool:=a.kind == b.kind && a.seq == b.seq && a.addr == b.addr && a.val == b.val
end Go.Bu