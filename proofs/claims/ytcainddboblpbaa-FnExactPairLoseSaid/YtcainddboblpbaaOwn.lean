/- Memory that a call has made itself: slices whose blocks are known whole, so that they may be written; what is apart from what. -/
import Derived.Test.YtcainddboblpbaaMem
import Derived.Deep.MidRow
import Derived.Laws.MakeOwn
set_option linter.unusedVariables false
set_option linter.unusedSimpArgs false
namespace Go.Bu
open Go Go.RowKit Go.Plan

/-- xs lie in block B from cell o on, n cells each -/
def InBlock {α : Type} (n : Nat) (enc : α → List Value) (c : Array Value) (o : Nat) (xs : List α) : Prop := ∀ i x, xs[i]? = some x → ∀ j u, (enc x)[j]? = some u → c[o + i * n + j]? = some u

/-- a slice of plain elements in a block of the call's own -/
def OwnSl {α : Type} (n : Nat) (enc : α → List Value) (w : World) (v : Value) (xs : List α) (B : Nat) : Prop :=
  ∃ c T o cap, v = .slice (some ⟨B, o, none⟩) xs.length cap ∧ w.heap[B]? = some (.cells c T (0, 0)) ∧ InBlock n enc c o xs

theorem OwnSl.keep {α : Type} {n : Nat} {enc : α → List Value} {w w' : World} {v : Value} {xs : List α} {B : Nat} (h : OwnSl n enc w v xs B) (hb : w'.heap[B]? = w.heap[B]?) : OwnSl n enc w' v xs B := by
  obtain ⟨c, T, o, cap, hv, hh, hi⟩ := h
  exact ⟨c, T, o, cap, hv, by rw [hb]; exact hh, hi⟩

theorem heap_lt {w : World} {B : Nat} {x : Obj} (h : w.heap[B]? = some x) : B < w.heap.size := (Array.getElem?_eq_some_iff.1 h).1

theorem OwnSl.lt {α : Type} {n : Nat} {enc : α → List Value} {w : World} {v : Value} {xs : List α} {B : Nat} (h : OwnSl n enc w v xs B) : B < w.heap.size := by
  obtain ⟨c, T, o, cap, hv, hh, hi⟩ := h; exact heap_lt hh

theorem OwnSl.sl {α : Type} {n : Nat} {enc : α → List Value} {D : Nat → Prop} {w : World} {v : Value} {xs : List α} {B : Nat} (h : OwnSl n enc w v xs B) (hD : D B) : Sl n (plain enc) D w v xs := by
  obtain ⟨c, T, o, cap, hv, hh, hi⟩ := h
  exact ⟨_, cap, hv, fun i x hx => ⟨B, o, enc x, rfl, hD, rfl, fun j u hu => by rw [cell_block hh]; exact hi i x hx j u hu⟩⟩

theorem OwnSl.old {α : Type} {n : Nat} {enc : α → List Value} {w : World} {v : Value} {xs : List α} {B : Nat} (h : OwnSl n enc w v xs B) : Sl n (plain enc) (Old w) w v xs := h.sl h.lt

theorem OwnSl.ext {α : Type} {n : Nat} {enc : α → List Value} {w w' : World} {v : Value} {xs : List α} {B : Nat} (h : OwnSl n enc w v xs B) (he : Ext w w') : OwnSl n enc w' v xs B := h.keep (he.block _ h.lt)

/-- filling, element by element -/
def Filled {α : Type} (n : Nat) (enc : α → List Value) (w : World) (B T : Nat) (size : Nat) (xs : List α) : Prop := ∃ c, w.heap[B]? = some (.cells c T (0, 0)) ∧ c.size = size ∧ InBlock n enc c 0 xs

theorem Filled.keep {α : Type} {n : Nat} {enc : α → List Value} {w w' : World} {B T size : Nat} {xs : List α} (h : Filled n enc w B T size xs) (hb : w'.heap[B]? = w.heap[B]?) : Filled n enc w' B T size xs := by
  obtain ⟨c, h1, h2, h3⟩ := h; exact ⟨c, by rw [hb]; exact h1, h2, h3⟩

theorem Filled.ext {α : Type} {n : Nat} {enc : α → List Value} {w w' : World} {B T size : Nat} {xs : List α} (h : Filled n enc w B T size xs) (he : Ext w w') : Filled n enc w' B T size xs := by
  obtain ⟨c, h1, h2, h3⟩ := h; exact ⟨c, by rw [he.block _ (heap_lt h1)]; exact h1, h2, h3⟩

theorem Filled.there {α : Type} {n : Nat} {enc : α → List Value} {w : World} {B T size : Nat} {xs : List α} (h : Filled n enc w B T size xs) {o m : Nat} (hm : o + m ≤ size) : w.there B o m := by
  obtain ⟨c, h1, h2, h3⟩ := h
  intro j hj
  rw [cell_block h1, frozen_block h1, Array.getElem?_eq_getElem (by omega)]
  exact ⟨rfl, rfl⟩

theorem Filled.snoc {α : Type} {n : Nat} {enc : α → List Value} (hn : ∀ x, (enc x).length = n) {w : World} {B T size : Nat} {xs : List α} (x : α) (h : Filled n enc w B T size xs) (hs : (xs.length + 1) * n ≤ size) : Filled n enc (setAll w B (xs.length * n) (enc x)) B T size (xs ++ [x]) := by
  obtain ⟨c, h1, h2, h3⟩ := h
  have hle : xs.length * n + (enc x).length ≤ c.size := by rw [hn, h2, ← Nat.succ_mul]; exact hs
  obtain ⟨c', g1, g2, g3⟩ := setAll_part (enc x) w (xs.length * n) c h1 hle
  refine ⟨c', g1, by rw [g2, h2], fun i y hy j u hu => ?_⟩
  rw [g3]
  have hj : j < n := by rw [← hn y]; exact (List.getElem?_eq_some_iff.1 hu).1
  by_cases hi : i < xs.length
  · rw [List.getElem?_append_left hi] at hy
    have : 0 + i * n + j < xs.length * n := by
      have : (i + 1) * n ≤ xs.length * n := Nat.mul_le_mul_right n hi
      rw [Nat.succ_mul] at this
      omega
    rw [if_neg (by omega)]
    exact h3 i y hy j u hu
  · have hie : i = xs.length := by
      have := (List.getElem?_eq_some_iff.1 hy).1
      simp at this; omega
    subst hie
    rw [List.getElem?_append_right (Nat.le_refl _)] at hy
    simp at hy
    subst hy
    rw [if_pos (by rw [hn]; omega), show 0 + xs.length * n + j - xs.length * n = j by omega]
    exact hu

theorem Filled.own {α : Type} {n : Nat} {enc : α → List Value} {w : World} {B T size : Nat} {xs : List α} (h : Filled n enc w B T size xs) {len cap : Nat} (hl : len = xs.length) : OwnSl n enc w (.slice (some ⟨B, 0, none⟩) len cap) xs B := by
  obtain ⟨c, h1, h2, h3⟩ := h
  exact ⟨c, T, 0, cap, by rw [hl], h1, h3⟩

theorem Filled.made {α : Type} {n : Nat} {enc : α → List Value} (w : World) (z : Array Value) (T m : Nat) : Filled n enc (w.alloc (.cells (madeCells z m) T)) w.heap.size T m ([] : List α) :=
  ⟨_, heap_alloc_new _ _, size_madeCells z m, fun i x hx => by simp at hx⟩

/-- make, of a size that is no literal -/
theorem make_n {P : Program} (t e : TypeId) (z : Array Value) (k bytes : Nat) (ht : P.underlying t = some (.slice e)) (hi : (P.info? e).bind (fun i => i.zero.map fun z => (z.cells, i.size, i.bytes)) = some (z, k, bytes)) (n : Nat)
    (hb : bytes * n ≤ 281474976710656) (h63 : n ≤ 9223372036854775807) : ∀ w : World, (Instr.makeSlice t (.int .i64 (n : Int)) (.int .i64 (n : Int))).run P w = .ok (.slice (some ⟨w.heap.size, 0, none⟩) n n) (w.alloc (.cells (madeCells z (n * k)) e)) := by
  intro w
  obtain ⟨i, hi1, hi2⟩ := Option.bind_eq_some_iff.1 hi
  obtain ⟨zv, hz, he⟩ := Option.map_eq_some_iff.1 hi2
  obtain ⟨rfl, h⟩ := Prod.mk.inj he
  obtain ⟨rfl, rfl⟩ := Prod.mk.inj h
  have hb' : (i.bytes : Int) * (n : Int) ≤ 281474976710656 := by
    have h : ((i.bytes * n : Nat) : Int) ≤ 281474976710656 := by omega
    rwa [Int.natCast_mul] at h
  have hr := run_make (P := P) w t e i zv ht hi1 hz .i64 .i64 n n (by omega) (by omega) hb' (by omega)
  simp only [Int.toNat_natCast] at hr
  exact hr

theorem alloc_get_old {w : World} {o : Obj} {b : Nat} (h : b < w.heap.size) : (w.alloc o).heap[b]? = w.heap[b]? := (ext_alloc (ext_refl w) o).block b h
theorem alloc_get_new {w : World} {o : Obj} {b : Nat} (h : b = w.heap.size) : (w.alloc o).heap[b]? = some o := by subst h; exact heap_alloc_new _ _

theorem take_snoc {α : Type} (xs : List α) (k : Nat) (h : k < xs.length) : xs.take k ++ [xs[k]] = xs.take (k + 1) := by rw [List.take_add_one, List.getElem?_eq_getElem h]; rfl

theorem ext_set2 {w w' : World} {p : Addr} {u : Value} (hp : w.heap.size ≤ p.block) (h : Ext w w') : Ext w (w'.setCell p u) := h.setCell hp u
theorem ext_alloc2 {w w' : World} {o : Obj} (h : Ext w w') : Ext w (w'.alloc o) := ext_alloc h o

/-- fresh: made since w0 -/
def Fresh (w0 w : World) (B : Nat) : Prop := w0.heap.size ≤ B ∧ B < w.heap.size

theorem ext_setAll {w0 w : World} (h : Ext w0 w) {B : Nat} (hB : w0.heap.size ≤ B) (k : Nat) (xs : List Value) : Ext w0 (setAll w B k xs) := h.trans (setAll_below B w0.heap.size hB xs w k)
end Go.Bu
