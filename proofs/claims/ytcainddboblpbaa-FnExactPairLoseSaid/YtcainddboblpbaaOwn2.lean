/- Memory of a call's own that it writes in place: rows of plain elements, blocks of pages, stores; each write turns one block. -/
import Derived.Test.YtcainddboblpbaaDraw2
set_option linter.unusedVariables false
set_option linter.unusedSimpArgs false
namespace Go.Bu
open Go Go.RowKit Go.Plan Go.Proofs

/-- the whole of block B is known and may be written; xs lie in it from cell o on -/
def OwnAt {α : Type} (n : Nat) (enc : α → List Value) (T : TypeId) (w : World) (B o : Nat) (xs : List α) : Prop := ∃ c, w.heap[B]? = some (.cells c T (0, 0)) ∧ InBlock n enc c o xs

section
variable {α : Type} {n : Nat} {enc : α → List Value} {T : TypeId} {w w' : World} {B o : Nat} {xs : List α}

theorem OwnAt.lt (h : OwnAt n enc T w B o xs) : B < w.heap.size := by obtain ⟨c, hc, _⟩ := h; exact heap_lt hc
theorem OwnAt.keep (h : OwnAt n enc T w B o xs) (hb : w'.heap[B]? = w.heap[B]?) : OwnAt n enc T w' B o xs := by obtain ⟨c, hc, hi⟩ := h; exact ⟨c, by rw [hb]; exact hc, hi⟩
theorem OwnAt.ext (h : OwnAt n enc T w B o xs) (he : Ext w w') : OwnAt n enc T w' B o xs := h.keep (he.block _ h.lt)
theorem OwnAt.chg {L : List Nat} (h : OwnAt n enc T w B o xs) (he : Chg L w w') (hB : B ∉ L) : OwnAt n enc T w' B o xs := h.keep (he.block _ h.lt hB)
theorem OwnAt.cell (h : OwnAt n enc T w B o xs) {k : Nat} {x : α} (hk : xs[k]? = some x) {j : Nat} {u : Value} (hu : (enc x)[j]? = some u) : w.cell? ⟨B, o + k * n + j, none⟩ = some u := by
  obtain ⟨c, hc, hi⟩ := h; rw [cell_block hc]; exact hi k x hk j u hu
theorem OwnAt.frozen (h : OwnAt n enc T w B o xs) (j : Nat) : w.frozen? ⟨B, j, none⟩ = false := by obtain ⟨c, hc, _⟩ := h; exact frozen_block hc j
theorem OwnAt.of (h : OwnAt n enc T w B o xs) {D : Nat → Prop} (hD : D B) (cap : Nat) : Sl n (plain enc) D w (.slice (some ⟨B, o, none⟩) xs.length cap) xs := by
  obtain ⟨c, hc, hi⟩ := h
  exact ⟨_, cap, rfl, fun i x hx => ⟨B, o, enc x, rfl, hD, rfl, fun j u hu => by rw [cell_block hc]; exact hi i x hx j u hu⟩⟩

/-- one element written, whole -/
theorem OwnAt.set (hn : ∀ x, (enc x).length = n) (hp : 0 < n) (h : OwnAt n enc T w B o xs) {k : Nat} (hk : k < xs.length) (y : α) : OwnAt n enc T (setAll w B (o + k * n) (enc y)) B o (xs.set k y) := by
  obtain ⟨c, hc, hi⟩ := h
  have hle : o + k * n + (enc y).length ≤ c.size := by
    rw [hn]
    have := hi k xs[k] (List.getElem?_eq_getElem hk) (n - 1) ((enc xs[k])[n - 1]'(by rw [hn]; omega)) (List.getElem?_eq_getElem _)
    have := (Array.getElem?_eq_some_iff.1 this).1
    omega
  obtain ⟨c', g1, g2, g3⟩ := setAll_part (enc y) w (o + k * n) c hc hle
  refine ⟨c', g1, fun i x hx j u hu => ?_⟩
  rw [g3]
  have hj : j < n := by rw [← hn x]; exact (List.getElem?_eq_some_iff.1 hu).1
  by_cases hik : i = k
  · subst hik
    rw [List.getElem?_set_self hk] at hx
    obtain rfl := Option.some.inj hx
    rw [if_pos (by rw [hn]; omega), show o + i * n + j - (o + i * n) = j by omega]
    exact hu
  · rw [List.getElem?_set_ne (Ne.symm hik)] at hx
    rw [if_neg ?_]
    · exact hi i x hx j u hu
    · rw [hn]
      rcases Nat.lt_or_gt_of_ne hik with h | h
      · have : (i + 1) * n ≤ k * n := Nat.mul_le_mul_right n h
        rw [Nat.succ_mul] at this; omega
      · have : (k + 1) * n ≤ i * n := Nat.mul_le_mul_right n h
        rw [Nat.succ_mul] at this; omega
/-- one cell of an element written -/
theorem OwnAt.set1 (hn : ∀ x, (enc x).length = n) (h : OwnAt n enc T w B o xs) {k : Nat} (hk : k < xs.length) {j : Nat} (hj : j < n) (u : Value) (y : α) (hy : enc y = (enc xs[k]).set j u) : OwnAt n enc T (w.setCell ⟨B, o + k * n + j, none⟩ u) B o (xs.set k y) := by
  obtain ⟨c, hc, hi⟩ := h
  refine ⟨_, setCell_block hc, fun i x hx l t hu => ?_⟩
  have hl : l < n := by rw [← hn x]; exact (List.getElem?_eq_some_iff.1 hu).1
  by_cases hik : i = k
  · subst hik
    rw [List.getElem?_set_self hk] at hx
    obtain rfl := Option.some.inj hx
    rw [hy] at hu
    have hc0 := hi i xs[i] (List.getElem?_eq_getElem hk)
    by_cases hlj : l = j
    · subst hlj
      rw [List.getElem?_set_self (by rw [hn]; exact hl)] at hu
      have := (Array.getElem?_eq_some_iff.1 (hc0 l ((enc xs[i])[l]'(by rw [hn]; exact hl)) (List.getElem?_eq_getElem _))).1
      rw [Array.getElem?_setIfInBounds_self_of_lt this]; exact hu
    · rw [List.getElem?_set_ne (Ne.symm hlj)] at hu
      rw [Array.getElem?_setIfInBounds_ne (by omega)]
      exact hc0 l t hu
  · rw [List.getElem?_set_ne (Ne.symm hik)] at hx
    rw [Array.getElem?_setIfInBounds_ne ?_]
    · exact hi i x hx l t hu
    · rcases Nat.lt_or_gt_of_ne hik with h | h
      · have : (i + 1) * n ≤ k * n := Nat.mul_le_mul_right n h
        rw [Nat.succ_mul] at this; omega
      · have : (k + 1) * n ≤ i * n := Nat.mul_le_mul_right n h
        rw [Nat.succ_mul] at this; omega
end

/-- a slice value whose row is owned -/
def OwnT {α : Type} (n : Nat) (enc : α → List Value) (T : TypeId) (w : World) (v : Value) (xs : List α) (B : Nat) : Prop := ∃ o cap, v = .slice (some ⟨B, o, none⟩) xs.length (xs.length + cap) ∧ OwnAt n enc T w B o xs

section
variable {α : Type} {n : Nat} {enc : α → List Value} {T : TypeId} {w w' : World} {v : Value} {B : Nat} {xs : List α}
theorem OwnT.lt (h : OwnT n enc T w v xs B) : B < w.heap.size := by obtain ⟨o, cap, _, ha⟩ := h; exact ha.lt
theorem OwnT.keep (h : OwnT n enc T w v xs B) (hb : w'.heap[B]? = w.heap[B]?) : OwnT n enc T w' v xs B := by obtain ⟨o, cap, hv, ha⟩ := h; exact ⟨o, cap, hv, ha.keep hb⟩
theorem OwnT.ext (h : OwnT n enc T w v xs B) (he : Ext w w') : OwnT n enc T w' v xs B := h.keep (he.block _ h.lt)
theorem OwnT.chg {L : List Nat} (h : OwnT n enc T w v xs B) (he : Chg L w w') (hB : B ∉ L) : OwnT n enc T w' v xs B := h.keep (he.block _ h.lt hB)
theorem OwnT.sl (h : OwnT n enc T w v xs B) {D : Nat → Prop} (hD : D B) : Sl n (plain enc) D w v xs := by obtain ⟨o, cap, rfl, ha⟩ := h; exact ha.of hD _
theorem OwnT.old (h : OwnT n enc T w v xs B) : Sl n (plain enc) (Old w) w v xs := h.sl h.lt
theorem OwnT.block (h : OwnT n enc T w v xs B) : ∃ c, w.heap[B]? = some (.cells c T (0, 0)) := by obtain ⟨o, cap, _, c, hc, _⟩ := h; exact ⟨c, hc⟩
end

/-- a slice value whose row is owned, of whatever type the row's block is -/
def OwnV {α : Type} (n : Nat) (enc : α → List Value) (w : World) (v : Value) (xs : List α) (B : Nat) : Prop := ∃ T, OwnT n enc T w v xs B
section
variable {α : Type} {n : Nat} {enc : α → List Value} {w w' : World} {v : Value} {B : Nat} {xs : List α}
theorem OwnT.any {T : TypeId} (h : OwnT n enc T w v xs B) : OwnV n enc w v xs B := ⟨T, h⟩
theorem OwnV.lt (h : OwnV n enc w v xs B) : B < w.heap.size := by obtain ⟨T, h⟩ := h; exact h.lt
theorem OwnV.keep (h : OwnV n enc w v xs B) (hb : w'.heap[B]? = w.heap[B]?) : OwnV n enc w' v xs B := by obtain ⟨T, h⟩ := h; exact ⟨T, h.keep hb⟩
theorem OwnV.ext (h : OwnV n enc w v xs B) (he : Ext w w') : OwnV n enc w' v xs B := h.keep (he.block _ h.lt)
theorem OwnV.chg {L : List Nat} (h : OwnV n enc w v xs B) (he : Chg L w w') (hB : B ∉ L) : OwnV n enc w' v xs B := h.keep (he.block _ h.lt hB)
theorem OwnV.old (h : OwnV n enc w v xs B) : Sl n (plain enc) (Old w) w v xs := by obtain ⟨T, h⟩ := h; exact h.old
end

abbrev intC (n : Int) : List Value := [.int .i64 n]
abbrev rowC (r : Value × Int) : List Value := [r.1, .int .i64 r.2]
abbrev OwnPages (w : World) (v : Value) (ps : List Page) (b : Nat) : Prop := OwnV 5 pageC w v ps b
abbrev OwnInts (w : World) (v : Value) (xs : List Int) (b : Nat) : Prop := OwnV 1 intC w v xs b

/-- a flash of the call's own: the outer row B, the pages' rows bs -/
def OwnFlash (w : World) (v : Value) (f : List Block) (B : Nat) (bs : List Nat) : Prop :=
  ∃ rows, OwnV 2 rowC w v rows B ∧ rows.length = f.length ∧ bs.length = f.length ∧
    ∀ (i : Nat) x r b, f[i]? = some x → rows[i]? = some r → bs[i]? = some b → r.2 = x.worn ∧ OwnPages w r.1 x.pages b

theorem OwnFlash.lt {w : World} {v : Value} {f : List Block} {B : Nat} {bs : List Nat} (h : OwnFlash w v f B bs) : ∀ b ∈ B :: bs, b < w.heap.size := by
  obtain ⟨rows, h1, h2, h3, h4⟩ := h
  intro b hb
  rcases List.mem_cons.1 hb with rfl | hb
  · exact h1.lt
  · obtain ⟨i, hi, rfl⟩ := List.mem_iff_getElem.1 hb
    exact (h4 i f[i] rows[i] bs[i] (List.getElem?_eq_getElem (by omega)) (List.getElem?_eq_getElem (by omega)) (List.getElem?_eq_getElem _)).2.lt

theorem OwnFlash.keep {w w' : World} {v : Value} {f : List Block} {B : Nat} {bs : List Nat} (h : OwnFlash w v f B bs) (hb : ∀ b ∈ B :: bs, w'.heap[b]? = w.heap[b]?) : OwnFlash w' v f B bs := by
  obtain ⟨rows, h1, h2, h3, h4⟩ := h
  refine ⟨rows, h1.keep (hb B (by simp)), h2, h3, fun i x r b hx hr hbi => ?_⟩
  obtain ⟨h5, h6⟩ := h4 i x r b hx hr hbi
  exact ⟨h5, h6.keep (hb b (List.mem_cons_of_mem _ (List.mem_of_getElem? hbi)))⟩
theorem OwnFlash.ext {w w' : World} {v : Value} {f : List Block} {B : Nat} {bs : List Nat} (h : OwnFlash w v f B bs) (he : Ext w w') : OwnFlash w' v f B bs := h.keep fun b hb => he.block b (h.lt b hb)
theorem OwnFlash.chg {w w' : World} {v : Value} {f : List Block} {B : Nat} {bs L : List Nat} (h : OwnFlash w v f B bs) (he : Chg L w w') (hL : ∀ b ∈ B :: bs, b ∉ L) : OwnFlash w' v f B bs := h.keep fun b hb => he.block b (h.lt b hb) (hL b hb)

theorem OwnFlash.flash {w : World} {v : Value} {f : List Block} {B : Nat} {bs : List Nat} (h : OwnFlash w v f B bs) : Flash (Old w) w v f := by
  have hlt := h.lt
  obtain ⟨rows, ⟨T, o, cap, hv, c, hc, hi⟩, h2, h3, h4⟩ := h
  refine ⟨some ⟨B, o, none⟩, f.length + cap, by rw [hv, h2], fun i x hx => ?_⟩
  have hil : i < f.length := (List.getElem?_eq_some_iff.1 hx).1
  obtain ⟨h5, h6⟩ := h4 i x rows[i] bs[i] hx (List.getElem?_eq_getElem (by omega)) (List.getElem?_eq_getElem (by omega))
  refine ⟨B, o, rowC rows[i], rfl, hlt B (by simp), ⟨rows[i].1, by rw [← h5], h6.old⟩, fun j u hu => ?_⟩
  rw [cell_block hc]
  exact hi i rows[i] (List.getElem?_eq_getElem (by omega)) j u hu

/-- a store of the call's own: its blocks -/
def OwnStore (w : World) (f d : Value) (s : Store) (L : List Nat) : Prop := ∃ B bs D, L = B :: bs ++ [D] ∧ OwnFlash w f s.flash B bs ∧ OwnInts w d s.disk D

theorem OwnStore.lt {w : World} {f d : Value} {s : Store} {L : List Nat} (h : OwnStore w f d s L) : ∀ b ∈ L, b < w.heap.size := by
  obtain ⟨B, bs, D, rfl, h1, h2⟩ := h
  intro b hb
  rcases List.mem_append.1 hb with hb | hb
  · exact h1.lt b hb
  · obtain rfl := List.mem_singleton.1 hb; exact h2.lt
theorem OwnStore.keep {w w' : World} {f d : Value} {s : Store} {L : List Nat} (h : OwnStore w f d s L) (hb : ∀ b ∈ L, w'.heap[b]? = w.heap[b]?) : OwnStore w' f d s L := by
  obtain ⟨B, bs, D, rfl, h1, h2⟩ := h
  exact ⟨B, bs, D, rfl, h1.keep fun b hm => hb b (List.mem_append_left _ hm), h2.keep (hb D (by simp))⟩
theorem OwnStore.ext {w w' : World} {f d : Value} {s : Store} {L : List Nat} (h : OwnStore w f d s L) (he : Ext w w') : OwnStore w' f d s L := h.keep fun b hb => he.block b (h.lt b hb)
theorem OwnStore.chg {w w' : World} {f d : Value} {s : Store} {L K : List Nat} (h : OwnStore w f d s L) (he : Chg K w w') (hL : ∀ b ∈ L, b ∉ K) : OwnStore w' f d s L := h.keep fun b hb => he.block b (h.lt b hb) (hL b hb)
theorem OwnStore.flash {w : World} {f d : Value} {s : Store} {L : List Nat} (h : OwnStore w f d s L) : Flash (Old w) w f s.flash := by obtain ⟨B, bs, D, rfl, h1, h2⟩ := h; exact h1.flash
theorem OwnStore.disk {w : World} {f d : Value} {s : Store} {L : List Nat} (h : OwnStore w f d s L) : Ints (Old w) w d s.disk := by obtain ⟨B, bs, D, rfl, h1, h2⟩ := h; exact h2.old

theorem OwnAt.five {T : TypeId} {w : World} {B o : Nat} {xs : List Page} (h : OwnAt 5 pageC T w B o xs) {k : Nat} (hk : k < xs.length) :
    w.cell? ⟨B, o + k * 5, none⟩ = some (.int .i64 xs[k].state) ∧ w.cell? ⟨B, o + k * 5 + 1, none⟩ = some (.int .i64 xs[k].r.kind) ∧ w.cell? ⟨B, o + k * 5 + 2, none⟩ = some (.int .i64 xs[k].r.seq) ∧
      w.cell? ⟨B, o + k * 5 + 3, none⟩ = some (.int .i64 xs[k].r.addr) ∧ w.cell? ⟨B, o + k * 5 + 4, none⟩ = some (.int .i64 xs[k].r.val) := by
  have hx := List.getElem?_eq_getElem hk
  exact ⟨h.cell hx (j := 0) rfl, h.cell hx (j := 1) rfl, h.cell hx (j := 2) rfl, h.cell hx (j := 3) rfl, h.cell hx (j := 4) rfl⟩

theorem OwnAt.two {T : TypeId} {w : World} {B o : Nat} {xs : List (Value × Int)} (h : OwnAt 2 rowC T w B o xs) {k : Nat} (hk : k < xs.length) :
    w.cell? ⟨B, o + k * 2, none⟩ = some xs[k].1 ∧ w.cell? ⟨B, o + k * 2 + 1, none⟩ = some (.int .i64 xs[k].2) := by
  have hx := List.getElem?_eq_getElem hk
  exact ⟨h.cell hx (j := 0) rfl, h.cell hx (j := 1) rfl⟩

theorem nodup_inj {l : List Nat} (h : l.Nodup) {i j b : Nat} (hi : l[i]? = some b) (hj : l[j]? = some b) : i = j := by
  obtain ⟨h1, e1⟩ := List.getElem?_eq_some_iff.1 hi
  obtain ⟨h2, e2⟩ := List.getElem?_eq_some_iff.1 hj
  rcases Nat.lt_trichotomy i j with hl | hl | hl
  · exact absurd (e1.trans e2.symm) (List.pairwise_iff_getElem.1 h i j h1 h2 hl)
  · exact hl
  · exact absurd (e2.trans e1.symm) (List.pairwise_iff_getElem.1 h j i h2 h1 hl)

theorem OwnAt.one {T : TypeId} {w : World} {B o : Nat} {xs : List Int} (h : OwnAt 1 intC T w B o xs) {k : Nat} (hk : k < xs.length) : w.cell? ⟨B, o + k, none⟩ = some (.int .i64 xs[k]) := by
  have := h.cell (List.getElem?_eq_getElem hk) (j := 0) rfl
  simpa using this

end Go.Bu
