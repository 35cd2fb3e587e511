/- What lies in memory: slices of whatever elements, blocks of pages, stores; what stays as the world grows. -/
import Derived.WalkKit
import Derived.Test.YtcainddboblpbaaPlan
set_option linter.unusedVariables false
set_option linter.unusedSimpArgs false
namespace Go.Bu
open Go Go.RowKit Go.Plan

theorem bcell {W w1 : World} (hb : Below W.heap.size W w1) : (∀ b o, b < W.heap.size → w1.cell? ⟨b, o, none⟩ = W.cell? ⟨b, o, none⟩) ∧ (∀ b o, b < W.heap.size → w1.frozen? ⟨b, o, none⟩ = W.frozen? ⟨b, o, none⟩) :=
  ⟨fun b o h => hb.cell (p := ⟨b, o, none⟩) h, fun b o h => hb.frozen (p := ⟨b, o, none⟩) h⟩

/-- what a call that only makes memory leaves: its value, the world grown -/
def Ret (w : World) (v : Value) (e : Ending) (w' : World) : Prop := e = .returned v ∧ Ext w w'
/-- a value of which something is known -/
def RetP (w : World) (Φ : Value → World → Prop) (e : Ending) (w' : World) : Prop := ∃ v, e = .returned v ∧ Ext w w' ∧ Φ v w'

theorem Ret.to {w w' : World} {v : Value} {e : Ending} (h : Ret w v e w') : ∃ v', e = .returned v' ∧ RetV w v v' w' := ⟨v, h.1, h.2, rfl⟩
theorem RetP.to {w w' : World} {Φ : Value → World → Prop} {e : Ending} (h : RetP w Φ e w') : ∃ v', e = .returned v' ∧ RetC w (fun _ _ => Φ) v' w' := h

theorem ext_refl (w : World) : Ext w w := Below.refl _ _
theorem ext_drew (w : World) : Ext w w.drew := (Below.refl _ _).drew
theorem ext_alloc {w w' : World} (h : Ext w w') (o : Obj) : Ext w (w'.alloc o) := h.alloc h.size o

/-- a call behind some new blocks of the caller's own: what the caller keeps -/
theorem after1 {w w1 : World} {o1 : Obj} (hx : Ext (w.alloc o1) w1) : (∀ b o, b < (w.alloc o1).heap.size → w1.cell? ⟨b, o, none⟩ = (w.alloc o1).cell? ⟨b, o, none⟩) ∧ (∀ b o, b < (w.alloc o1).heap.size → w1.frozen? ⟨b, o, none⟩ = (w.alloc o1).frozen? ⟨b, o, none⟩) ∧
    w.heap.size < w1.heap.size ∧ Ext w w1 :=
  ⟨(bcell hx).1, (bcell hx).2, by have := hx.size; simp at this; omega, ext_trans (ext_alloc (ext_refl _) _) hx⟩
theorem after2 {w w1 : World} {o1 o2 : Obj} (hx : Ext ((w.alloc o1).alloc o2) w1) : (∀ b o, b < ((w.alloc o1).alloc o2).heap.size → w1.cell? ⟨b, o, none⟩ = ((w.alloc o1).alloc o2).cell? ⟨b, o, none⟩) ∧
    (∀ b o, b < ((w.alloc o1).alloc o2).heap.size → w1.frozen? ⟨b, o, none⟩ = ((w.alloc o1).alloc o2).frozen? ⟨b, o, none⟩) ∧ w.heap.size < w1.heap.size ∧ w.heap.size + 1 < w1.heap.size ∧ Ext w w1 :=
  ⟨(bcell hx).1, (bcell hx).2, by have := hx.size; simp at this; omega, by have := hx.size; simp at this; omega, ext_trans (ext_alloc (ext_alloc (ext_refl _) _) _) hx⟩
theorem after3 {w w1 : World} {o1 o2 o3 : Obj} (hx : Ext (((w.alloc o1).alloc o2).alloc o3) w1) : (∀ b o, b < (((w.alloc o1).alloc o2).alloc o3).heap.size → w1.cell? ⟨b, o, none⟩ = (((w.alloc o1).alloc o2).alloc o3).cell? ⟨b, o, none⟩) ∧
    (∀ b o, b < (((w.alloc o1).alloc o2).alloc o3).heap.size → w1.frozen? ⟨b, o, none⟩ = (((w.alloc o1).alloc o2).alloc o3).frozen? ⟨b, o, none⟩) ∧ w.heap.size < w1.heap.size ∧ w.heap.size + 1 < w1.heap.size ∧ w.heap.size + 1 + 1 < w1.heap.size ∧ Ext w w1 :=
  ⟨(bcell hx).1, (bcell hx).2, by have := hx.size; simp at this; omega, by have := hx.size; simp at this; omega, by have := hx.size; simp at this; omega, ext_trans (ext_alloc (ext_alloc (ext_alloc (ext_refl _) _) _) _) hx⟩
theorem after4 {w w1 : World} {o1 o2 o3 o4 : Obj} (hx : Ext ((((w.alloc o1).alloc o2).alloc o3).alloc o4) w1) : (∀ b o, b < ((((w.alloc o1).alloc o2).alloc o3).alloc o4).heap.size → w1.cell? ⟨b, o, none⟩ = ((((w.alloc o1).alloc o2).alloc o3).alloc o4).cell? ⟨b, o, none⟩) ∧
    (∀ b o, b < ((((w.alloc o1).alloc o2).alloc o3).alloc o4).heap.size → w1.frozen? ⟨b, o, none⟩ = ((((w.alloc o1).alloc o2).alloc o3).alloc o4).frozen? ⟨b, o, none⟩) ∧ w.heap.size < w1.heap.size ∧ w.heap.size + 1 < w1.heap.size ∧ w.heap.size + 1 + 1 < w1.heap.size ∧ w.heap.size + 1 + 1 + 1 < w1.heap.size ∧ Ext w w1 :=
  ⟨(bcell hx).1, (bcell hx).2, by have := hx.size; simp at this; omega, by have := hx.size; simp at this; omega, by have := hx.size; simp at this; omega, by have := hx.size; simp at this; omega, ext_trans (ext_alloc (ext_alloc (ext_alloc (ext_alloc (ext_refl _) _) _) _) _) hx⟩

/-- a store into a block that is newer than w -/
theorem ext_set {w w' : World} (h : Ext w w') {p : Addr} (hp : w.heap.size ≤ p.block) (u : Value) : Ext w (w'.setCell p u) := h.setCell hp u

/-- a cell that holds something stays as it is while the world grows -/
theorem cell_ext {w w' : World} (h : Ext w w') {b o : Nat} {v : Value} (hc : w.cell? ⟨b, o, none⟩ = some v) : w'.cell? ⟨b, o, none⟩ = some v := by
  have hb : b < w.heap.size := by
    unfold World.cell? at hc
    by_cases hb : b < w.heap.size
    · exact hb
    · simp [Array.getElem?_eq_none (Nat.not_lt.1 hb)] at hc
  rw [(bcell h).1 b o hb]; exact hc

theorem cell_lt {w : World} {b o : Nat} {v : Value} (hc : w.cell? ⟨b, o, none⟩ = some v) : b < w.heap.size := by
  unfold World.cell? at hc
  by_cases hb : b < w.heap.size
  · exact hb
  · simp [Array.getElem?_eq_none (Nat.not_lt.1 hb)] at hc

/-- w' holds what w holds, at the blocks of D -/
def Same (D : Nat → Prop) (w w' : World) : Prop := ∀ b, D b → w'.heap[b]? = w.heap[b]?

/-- how one element stands in cells, its cells known; what it hangs on lies in D -/
abbrev Enc (α : Type) := (Nat → Prop) → World → α → List Value → Prop

/-- a slice value that reads as xs: n cells an element; all blocks in D -/
def Sl {α : Type} (n : Nat) (E : Enc α) (D : Nat → Prop) (w : World) (v : Value) (xs : List α) : Prop :=
  ∃ a cap, v = .slice a xs.length cap ∧ ∀ (i : Nat) (x : α), xs[i]? = some x → ∃ b o cs, a = some ⟨b, o, none⟩ ∧ D b ∧ E D w x cs ∧ ∀ (j : Nat) u, cs[j]? = some u → w.cell? ⟨b, o + i * n + j, none⟩ = some u

theorem cell_same {D : Nat → Prop} {w w' : World} (h : Same D w w') {b o : Nat} (hb : D b) : w'.cell? ⟨b, o, none⟩ = w.cell? ⟨b, o, none⟩ := by
  unfold World.cell?; rw [h b hb]

def EncKept {α : Type} (E : Enc α) : Prop := ∀ (D D' : Nat → Prop) (w w' : World) x cs, E D w x cs → Same D w w' → (∀ b, D b → D' b) → E D' w' x cs

theorem Sl.same {α : Type} {n : Nat} {E : Enc α} (hE : EncKept E) {D D' : Nat → Prop} {w w' : World} {v : Value} {xs : List α} (h : Sl n E D w v xs) (hs : Same D w w') (hD : ∀ b, D b → D' b) : Sl n E D' w' v xs := by
  obtain ⟨a, cap, hv, hx⟩ := h
  refine ⟨a, cap, hv, fun i x hi => ?_⟩
  obtain ⟨b, o, cs, ha, hb, he, hc⟩ := hx i x hi
  exact ⟨b, o, cs, ha, hD b hb, hE _ _ _ _ _ _ he hs hD, fun j u hj => by rw [cell_same hs hb]; exact hc j u hj⟩

/-- what stood when w did -/
def Old (w : World) (b : Nat) : Prop := b < w.heap.size
theorem same_old {w w' : World} (h : Ext w w') : Same (Old w) w w' := fun b hb => h.block b hb
theorem old_ext {w w' : World} (h : Ext w w') (b : Nat) (hb : Old w b) : Old w' b := Nat.lt_of_lt_of_le hb h.size

/-! ### a new variable, filled -/
abbrev setAll (w : World) (p k : Nat) (xs : List Value) : World := World.setCells w p k xs
theorem setAll_cons (w : World) (p k : Nat) (x : Value) (xs : List Value) : setAll w p k (x :: xs) = setAll (w.setCell ⟨p, k, none⟩ x) p (k + 1) xs := rfl

theorem setCell_block {w : World} {p k : Nat} {x : Value} {c : Array Value} {T : TypeId} {fr : Nat × Nat} (h : w.heap[p]? = some (.cells c T fr)) :
    (w.setCell ⟨p, k, none⟩ x).heap[p]? = some (.cells (c.setIfInBounds k x) T fr) := by
  simp [World.setCell, Array.getElem?_modify, h]

theorem setCell_other {w : World} {p k b : Nat} {x : Value} (h : b ≠ p) : (w.setCell ⟨p, k, none⟩ x).heap[b]? = w.heap[b]? := Below.heap_setCell _ _ _ _ h

theorem setCell_size (w : World) (a : Addr) (x : Value) : (w.setCell a x).heap.size = w.heap.size := by simp [World.setCell]

theorem setAll_size (p : Nat) : ∀ (xs : List Value) (w : World) (k : Nat), (setAll w p k xs).heap.size = w.heap.size
  | [], _, _ => rfl
  | x :: xs, w, k => by rw [setAll_cons, setAll_size p xs, setCell_size]

theorem setAll_other (p : Nat) {b : Nat} (h : b ≠ p) : ∀ (xs : List Value) (w : World) (k : Nat), (setAll w p k xs).heap[b]? = w.heap[b]?
  | [], _, _ => rfl
  | x :: xs, w, k => by rw [setAll_cons, setAll_other p h xs, setCell_other h]

theorem setAll_below (p B : Nat) (hB : B ≤ p) : ∀ (xs : List Value) (w : World) (k : Nat), Below B w (setAll w p k xs)
  | [], _, _ => Below.refl _ _
  | x :: xs, w, k => ((Below.refl B w).setCell (p := ⟨p, k, none⟩) hB x).trans (setAll_below p B hB xs _ _)

theorem setAll_part {p : Nat} {T : TypeId} {fr : Nat × Nat} : ∀ (xs : List Value) (w : World) (k : Nat) (c : Array Value), w.heap[p]? = some (.cells c T fr) → k + xs.length ≤ c.size →
    ∃ c', (setAll w p k xs).heap[p]? = some (.cells c' T fr) ∧ c'.size = c.size ∧ ∀ j : Nat, c'[j]? = if k ≤ j ∧ j < k + xs.length then xs[j - k]? else c[j]?
  | [], w, k, c, h, hk => ⟨c, h, rfl, fun j => by rw [if_neg (by simp only [List.length_nil]; omega)]⟩
  | x :: xs, w, k, c, h, hk => by
    obtain ⟨c', h1, h2, h3⟩ := setAll_part xs (w.setCell ⟨p, k, none⟩ x) (k + 1) _ (setCell_block h) (by simp at hk ⊢; omega)
    refine ⟨c', h1, by simpa using h2, fun j => ?_⟩
    rw [h3 j]
    simp only [List.length_cons] at hk ⊢
    by_cases hj : k + 1 ≤ j ∧ j < k + 1 + xs.length
    · rw [if_pos hj, if_pos (by omega), show j - k = (j - (k + 1)) + 1 by omega]; rfl
    · rw [if_neg hj]
      by_cases hjk : j = k
      · subst hjk
        rw [if_pos (by omega), Nat.sub_self]
        simp [Array.getElem?_setIfInBounds, show j < c.size by omega]
      · rw [if_neg (by omega), Array.getElem?_setIfInBounds_ne (by omega)]

theorem setAll_block {p : Nat} {T : TypeId} {fr : Nat × Nat} (xs : List Value) (w : World) (k : Nat) (c : Array Value) (h : w.heap[p]? = some (.cells c T fr)) (hk : k + xs.length = c.size) :
    ∃ c', (setAll w p k xs).heap[p]? = some (.cells c' T fr) ∧ c'.size = c.size ∧ ∀ j : Nat, c'[j]? = if k ≤ j then xs[j - k]? else c[j]? := by
  obtain ⟨c', h1, h2, h3⟩ := setAll_part xs w k c h (by omega)
  refine ⟨c', h1, h2, fun j => ?_⟩
  rw [h3 j]
  by_cases hj : k ≤ j
  · rw [if_pos hj]
    by_cases hj2 : j < k + xs.length
    · rw [if_pos ⟨hj, hj2⟩]
    · rw [if_neg (by omega), List.getElem?_eq_none (by omega), Array.getElem?_eq_none (by omega)]
  · rw [if_neg hj, if_neg (by omega)]

theorem cell_block {w : World} {p : Nat} {c : Array Value} {T : TypeId} {fr : Nat × Nat} (h : w.heap[p]? = some (.cells c T fr)) (j : Nat) : w.cell? ⟨p, j, none⟩ = c[j]? := by
  simp [World.cell?, h]
theorem frozen_block {w : World} {p : Nat} {c : Array Value} {T : TypeId} (h : w.heap[p]? = some (.cells c T (0, 0))) (j : Nat) : w.frozen? ⟨p, j, none⟩ = false := by
  simp [World.frozen?, h]

/-- a new variable of the call's own, filled: what it holds; nothing else has turned -/
theorem setAll_new {w : World} {p : Nat} {c : Array Value} {T : TypeId} {xs : List Value} (h : w.heap[p]? = some (.cells c T (0, 0))) (hl : xs.length = c.size) :
    (∀ j : Nat, (setAll w p 0 xs).cell? ⟨p, j, none⟩ = xs[j]?) ∧ (∀ j : Nat, (setAll w p 0 xs).frozen? ⟨p, j, none⟩ = false) ∧ (∀ b, b ≠ p → (setAll w p 0 xs).heap[b]? = w.heap[b]?) ∧
    (setAll w p 0 xs).heap.size = w.heap.size ∧ (∀ B, B ≤ p → Below B w (setAll w p 0 xs)) := by
  obtain ⟨c', h1, h2, h3⟩ := setAll_block xs w 0 c h (by omega)
  exact ⟨fun j => by rw [cell_block h1, h3 j]; simp, fun j => frozen_block h1 j, fun b hb => setAll_other p hb _ _ _, setAll_size _ _ _ _, fun B hB => setAll_below p B hB _ _ _⟩

/-- the world behind a new variable's filling, under a name -/
theorem new_var {W w1 : World} {p : Nat} {c : Array Value} {T : TypeId} (xs : List Value) (hx : Ext W w1) (hp : W.heap.size ≤ p) (hlt : p < w1.heap.size) (ho : w1.heap[p]? = some (.cells c T (0, 0))) (hl : xs.length = c.size) :
    ∃ w2, setAll w1 p 0 xs = w2 ∧ Ext W w2 ∧ (∀ j : Nat, w2.cell? ⟨p, j, none⟩ = xs[j]?) ∧ (∀ j : Nat, w2.frozen? ⟨p, j, none⟩ = false) ∧ p < w2.heap.size ∧ (∀ b, b ≠ p → w2.heap[b]? = w1.heap[b]?) ∧ w2.heap.size = w1.heap.size := by
  obtain ⟨h1, h2, h3, h4, h5⟩ := setAll_new ho hl
  exact ⟨_, rfl, hx.trans (h5 _ hp), h1, h2, by rw [h4]; exact hlt, h3, h4⟩

/-! ### the program's data -/
structure Rec where
  kind : Int
  seq : Int
  addr : Int
  val : Int
structure Page where
  state : Int
  r : Rec
structure Block where
  pages : List Page
  worn : Int
structure Step where
  kind : Int
  addr : Int
  val : Int
  block : Int
  r : Rec
structure Event where
  kind : Int
  a : Int
  b : Int
  c : Int
  torn : Bool
structure Cost where
  writes : Int
  wipes : Int
  disks : Int
structure Store where
  flash : List Block
  disk : List Int
structure Pair where
  A : Store
  B : Store
  lost : Int

abbrev iv (n : Int) : Value := .int .i64 n
abbrev recC (r : Rec) : List Value := [.int .i64 r.kind, .int .i64 r.seq, .int .i64 r.addr, .int .i64 r.val]
abbrev pageC (p : Page) : List Value := [.int .i64 p.state, .int .i64 p.r.kind, .int .i64 p.r.seq, .int .i64 p.r.addr, .int .i64 p.r.val]
abbrev stepC (s : Step) : List Value := [.int .i64 s.kind, .int .i64 s.addr, .int .i64 s.val, .int .i64 s.block, .int .i64 s.r.kind, .int .i64 s.r.seq, .int .i64 s.r.addr, .int .i64 s.r.val]
abbrev eventC (e : Event) : List Value := [.int .i64 e.kind, .int .i64 e.a, .int .i64 e.b, .int .i64 e.c, .bool e.torn]
abbrev recA (r : Rec) : Value := .agg #[.int .i64 r.kind, .int .i64 r.seq, .int .i64 r.addr, .int .i64 r.val]
abbrev pageA (p : Page) : Value := .agg #[.int .i64 p.state, .int .i64 p.r.kind, .int .i64 p.r.seq, .int .i64 p.r.addr, .int .i64 p.r.val]
abbrev stepA (s : Step) : Value := .agg #[.int .i64 s.kind, .int .i64 s.addr, .int .i64 s.val, .int .i64 s.block, .int .i64 s.r.kind, .int .i64 s.r.seq, .int .i64 s.r.addr, .int .i64 s.r.val]
abbrev eventA (e : Event) : Value := .agg #[.int .i64 e.kind, .int .i64 e.a, .int .i64 e.b, .int .i64 e.c, .bool e.torn]
abbrev costC (c : Cost) : List Value := [.int .i64 c.writes, .int .i64 c.wipes, .int .i64 c.disks]
abbrev costA (c : Cost) : Value := .agg #[.int .i64 c.writes, .int .i64 c.wipes, .int .i64 c.disks]

def plain {α : Type} (enc : α → List Value) : Enc α := fun _ _ x cs => cs = enc x
theorem plain_kept {α : Type} (enc : α → List Value) : EncKept (plain enc) := fun _ _ _ _ _ _ h _ _ => h

/-- slices of plain elements -/
abbrev Ints (D : Nat → Prop) (w : World) (v : Value) (xs : List Int) : Prop := Sl 1 (plain fun n : Int => [.int .i64 n]) D w v xs
abbrev Pages (D : Nat → Prop) (w : World) (v : Value) (ps : List Page) : Prop := Sl 5 (plain pageC) D w v ps
abbrev Steps' (D : Nat → Prop) (w : World) (v : Value) (xs : List Step) : Prop := Sl 8 (plain stepC) D w v xs
abbrev Events (D : Nat → Prop) (w : World) (v : Value) (xs : List Event) : Prop := Sl 5 (plain eventC) D w v xs

def blockE : Enc Block := fun D w b cs => ∃ pv, cs = [pv, .int .i64 b.worn] ∧ Pages D w pv b.pages
theorem blockE_kept : EncKept blockE := fun D D' w w' x cs ⟨pv, hc, hp⟩ hs hD => ⟨pv, hc, Sl.same (plain_kept _) hp hs hD⟩
abbrev Flash (D : Nat → Prop) (w : World) (v : Value) (f : List Block) : Prop := Sl 2 blockE D w v f

theorem Ints.ext {w w' : World} {v : Value} {xs : List Int} (h : Ints (Old w) w v xs) (he : Ext w w') : Ints (Old w') w' v xs := Sl.same (plain_kept _) h (same_old he) (old_ext he)
theorem Pages.ext {w w' : World} {v : Value} {xs : List Page} (h : Pages (Old w) w v xs) (he : Ext w w') : Pages (Old w') w' v xs := Sl.same (plain_kept _) h (same_old he) (old_ext he)
theorem Steps'.ext {w w' : World} {v : Value} {xs : List Step} (h : Steps' (Old w) w v xs) (he : Ext w w') : Steps' (Old w') w' v xs := Sl.same (plain_kept _) h (same_old he) (old_ext he)
theorem Events.ext {w w' : World} {v : Value} {xs : List Event} (h : Events (Old w) w v xs) (he : Ext w w') : Events (Old w') w' v xs := Sl.same (plain_kept _) h (same_old he) (old_ext he)
theorem Flash.ext {w w' : World} {v : Value} {f : List Block} (h : Flash (Old w) w v f) (he : Ext w w') : Flash (Old w') w' v f := Sl.same blockE_kept h (same_old he) (old_ext he)

/-- a plain element of a slice, its cells -/
theorem Sl.at {α : Type} {n : Nat} {enc : α → List Value} {D : Nat → Prop} {w : World} {a : Option Addr} {len cap : Nat} {xs : List α} (h : Sl n (plain enc) D w (.slice a len cap) xs) {k : Nat} (hk : k < xs.length) :
    ∃ b o, a = some ⟨b, o, none⟩ ∧ D b ∧ ∀ (j : Nat) u, (enc xs[k])[j]? = some u → w.cell? ⟨b, o + k * n + j, none⟩ = some u := by
  obtain ⟨a', cap', hv, hx⟩ := h
  obtain ⟨b, o, cs, ha, hb, he, hc⟩ := hx k xs[k] (List.getElem?_eq_getElem hk)
  injection hv with h1 h2 h3
  subst h1
  obtain rfl : cs = enc xs[k] := he
  exact ⟨b, o, ha, hb, hc⟩

theorem Sl.form {α : Type} {n : Nat} {E : Enc α} {D : Nat → Prop} {w : World} {v : Value} {xs : List α} (h : Sl n E D w v xs) : ∃ a cap, v = .slice a xs.length cap := by
  obtain ⟨a, cap, hv, _⟩ := h; exact ⟨a, cap, hv⟩

theorem Sl.len {α : Type} {n : Nat} {E : Enc α} {D : Nat → Prop} {w : World} {a : Option Addr} {len cap : Nat} {xs : List α} (h : Sl n E D w (.slice a len cap) xs) : len = xs.length := by
  obtain ⟨a', cap', hv, _⟩ := h
  injection hv

theorem Pages.at5 {D : Nat → Prop} {w : World} {a : Option Addr} {len cap : Nat} {xs : List Page} (h : Pages D w (.slice a len cap) xs) {k : Nat} (hk : k < xs.length) :
    ∃ b o, a = some ⟨b, o, none⟩ ∧ D b ∧ w.cell? ⟨b, o + k * 5, none⟩ = some (.int .i64 xs[k].state) ∧ w.cell? ⟨b, o + k * 5 + 1, none⟩ = some (.int .i64 xs[k].r.kind) ∧ w.cell? ⟨b, o + k * 5 + 2, none⟩ = some (.int .i64 xs[k].r.seq) ∧
      w.cell? ⟨b, o + k * 5 + 3, none⟩ = some (.int .i64 xs[k].r.addr) ∧ w.cell? ⟨b, o + k * 5 + 4, none⟩ = some (.int .i64 xs[k].r.val) := by
  obtain ⟨b, o, ha, hb, hc⟩ := Sl.at h hk
  exact ⟨b, o, ha, hb, hc 0 _ rfl, hc 1 _ rfl, hc 2 _ rfl, hc 3 _ rfl, hc 4 _ rfl⟩

theorem Ints.at1 {D : Nat → Prop} {w : World} {a : Option Addr} {len cap : Nat} {xs : List Int} (h : Ints D w (.slice a len cap) xs) {k : Nat} (hk : k < xs.length) :
    ∃ b o, a = some ⟨b, o, none⟩ ∧ D b ∧ w.cell? ⟨b, o + k, none⟩ = some (.int .i64 xs[k]) := by
  obtain ⟨b, o, ha, hb, hc⟩ := Sl.at h hk
  have := hc 0 _ rfl
  exact ⟨b, o, ha, hb, by simpa using this⟩

theorem Events.at5 {D : Nat → Prop} {w : World} {a : Option Addr} {len cap : Nat} {xs : List Event} (h : Events D w (.slice a len cap) xs) {k : Nat} (hk : k < xs.length) :
    ∃ b o, a = some ⟨b, o, none⟩ ∧ D b ∧ w.cell? ⟨b, o + k * 5, none⟩ = some (.int .i64 xs[k].kind) ∧ w.cell? ⟨b, o + k * 5 + 1, none⟩ = some (.int .i64 xs[k].a) ∧ w.cell? ⟨b, o + k * 5 + 2, none⟩ = some (.int .i64 xs[k].b) ∧
      w.cell? ⟨b, o + k * 5 + 3, none⟩ = some (.int .i64 xs[k].c) ∧ w.cell? ⟨b, o + k * 5 + 4, none⟩ = some (.bool xs[k].torn) := by
  obtain ⟨b, o, ha, hb, hc⟩ := Sl.at h hk
  exact ⟨b, o, ha, hb, hc 0 _ rfl, hc 1 _ rfl, hc 2 _ rfl, hc 3 _ rfl, hc 4 _ rfl⟩

theorem Steps'.at8 {D : Nat → Prop} {w : World} {a : Option Addr} {len cap : Nat} {xs : List Step} (h : Steps' D w (.slice a len cap) xs) {k : Nat} (hk : k < xs.length) :
    ∃ b o, a = some ⟨b, o, none⟩ ∧ D b ∧ w.cell? ⟨b, o + k * 8, none⟩ = some (.int .i64 xs[k].kind) ∧ w.cell? ⟨b, o + k * 8 + 1, none⟩ = some (.int .i64 xs[k].addr) ∧ w.cell? ⟨b, o + k * 8 + 2, none⟩ = some (.int .i64 xs[k].val) ∧
      w.cell? ⟨b, o + k * 8 + 3, none⟩ = some (.int .i64 xs[k].block) ∧ w.cell? ⟨b, o + k * 8 + 4, none⟩ = some (.int .i64 xs[k].r.kind) ∧ w.cell? ⟨b, o + k * 8 + 5, none⟩ = some (.int .i64 xs[k].r.seq) ∧
      w.cell? ⟨b, o + k * 8 + 6, none⟩ = some (.int .i64 xs[k].r.addr) ∧ w.cell? ⟨b, o + k * 8 + 7, none⟩ = some (.int .i64 xs[k].r.val) := by
  obtain ⟨b, o, ha, hb, hc⟩ := Sl.at h hk
  exact ⟨b, o, ha, hb, hc 0 _ rfl, hc 1 _ rfl, hc 2 _ rfl, hc 3 _ rfl, hc 4 _ rfl, hc 5 _ rfl, hc 6 _ rfl, hc 7 _ rfl⟩

theorem Flash.at2 {D : Nat → Prop} {w : World} {a : Option Addr} {len cap : Nat} {f : List Block} (h : Flash D w (.slice a len cap) f) {k : Nat} (hk : k < f.length) :
    ∃ b o pv, a = some ⟨b, o, none⟩ ∧ D b ∧ Pages D w pv f[k].pages ∧ w.cell? ⟨b, o + k * 2, none⟩ = some pv ∧ w.cell? ⟨b, o + k * 2 + 1, none⟩ = some (.int .i64 f[k].worn) := by
  obtain ⟨a', cap', hv, hx⟩ := h
  obtain ⟨b, o, cs, ha, hb, ⟨pv, hcs, hp⟩, hc⟩ := hx k f[k] (List.getElem?_eq_getElem hk)
  injection hv with h1 h2 h3
  subst h1
  subst hcs
  exact ⟨b, o, pv, ha, hb, hp, hc 0 _ rfl, hc 1 _ rfl⟩

/-! ### equality, as the laws ask it -/
def recEq (a b : Rec) : Bool := a.kind == b.kind && a.seq == b.seq && a.addr == b.addr && a.val == b.val
def pageEq (a b : Page) : Bool := a.state == b.state && recEq a.r b.r
def listEq {α : Type} (eq : α → α → Bool) : List α → List α → Bool
  | [], [] => true
  | x :: xs, y :: ys => eq x y && listEq eq xs ys
  | _, _ => false
def blockEq (a b : Block) : Bool := listEq pageEq a.pages b.pages && a.worn == b.worn
def flashEq (a b : List Block) : Bool := listEq blockEq a b
def intEq (a b : Int) : Bool := a == b
def intsEq (a b : List Int) : Bool := listEq intEq a b
def storeEq (a b : Store) : Bool := flashEq a.flash b.flash && intsEq a.disk b.disk

def stepEq (a b : Step) : Bool := a.kind == b.kind && a.addr == b.addr && a.val == b.val && a.block == b.block && recEq a.r b.r
def eventEq (a b : Event) : Bool := a.kind == b.kind && a.a == b.a && a.b == b.b && a.c == b.c && a.torn == b.torn
def costEq (a b : Cost) : Bool := a.writes == b.writes && a.wipes == b.wipes && a.disks == b.disks
def pairEq (a b : Pair) : Bool := storeEq a.A b.A && storeEq a.B b.B && a.lost == b.lost

theorem listEq_len {α : Type} {eq : α → α → Bool} : ∀ {xs ys : List α}, listEq eq xs ys = true → xs.length = ys.length
  | [], [], _ => rfl
  | x :: xs, y :: ys, h => by simp only [listEq, Bool.and_eq_true] at h; simp [listEq_len h.2]
  | [], y :: ys, h => by cases h
  | x :: xs, [], h => by cases h

theorem listEq_get {α : Type} {eq : α → α → Bool} : ∀ {xs ys : List α}, listEq eq xs ys = true → ∀ (i : Nat) (h1 : i < xs.length) (h2 : i < ys.length), eq xs[i] ys[i] = true
  | x :: xs, y :: ys, h, 0, _, _ => by simp only [listEq, Bool.and_eq_true] at h; exact h.1
  | x :: xs, y :: ys, h, i + 1, h1, h2 => by
    simp only [listEq, Bool.and_eq_true] at h
    exact listEq_get h.2 i (by simpa using h1) (by simpa using h2)

theorem listEq_mk {α : Type} {eq : α → α → Bool} : ∀ {xs ys : List α}, xs.length = ys.length → (∀ (i : Nat) (h1 : i < xs.length) (h2 : i < ys.length), eq xs[i] ys[i] = true) → listEq eq xs ys = true
  | [], [], _, _ => rfl
  | x :: xs, y :: ys, hl, h => by
    simp only [listEq, Bool.and_eq_true]
    exact ⟨h 0 (by simp) (by simp), listEq_mk (by simpa using hl) fun i h1 h2 => h (i + 1) (by simpa using h1) (by simpa using h2)⟩
  | [], y :: ys, h, _ => by simp at h
  | x :: xs, [], h, _ => by simp at h

theorem listEq_ne {α : Type} {eq : α → α → Bool} {xs ys : List α} (h : xs.length ≠ ys.length) : listEq eq xs ys = false := by
  cases hb : listEq eq xs ys with
  | true => exact absurd (listEq_len hb) h
  | false => rfl

theorem listEq_no {α : Type} {eq : α → α → Bool} {xs ys : List α} {i : Nat} (h1 : i < xs.length) (h2 : i < ys.length) (h : eq xs[i] ys[i] = false) : listEq eq xs ys = false := by
  cases hb : listEq eq xs ys with
  | true => have := listEq_get hb i h1 h2; rw [h] at this; cases this
  | false => rfl

end Go.Bu
