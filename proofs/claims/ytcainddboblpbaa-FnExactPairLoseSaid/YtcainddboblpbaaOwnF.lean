/- Stores of a call's own, all their addresses named: what is read, and what each write in place leaves. -/
import Derived.Test.YtcainddboblpbaaKit
set_option linter.unusedVariables false
set_option linter.unusedSimpArgs false
namespace Go.Bu
open Go Go.RowKit Go.Plan Go.Proofs

/-- where a row lies: its block, its first cell, its capacity, its type -/
structure At where
  b : Nat
  o : Nat
  cap : Nat
  T : Nat
abbrev At.v (p : At) (n : Nat) : Value := .slice (some ⟨p.b, p.o, none⟩) n (n + p.cap)

/-- where a store lies -/
structure SC where
  F : At
  ps : List At
  D : At
def SC.fl (c : SC) : List Nat := c.F.b :: c.ps.map (·.b)
def SC.L (c : SC) : List Nat := c.fl ++ [c.D.b]
abbrev SC.fv (c : SC) (s : Store) : Value := c.F.v s.flash.length
abbrev SC.dv (c : SC) (s : Store) : Value := c.D.v s.disk.length

def rowOf (x : Block) (p : At) : Value × Int := (p.v x.pages.length, x.worn)
def rowsOf (f : List Block) (ps : List At) : List (Value × Int) := List.zipWith rowOf f ps

structure FlashAt (c : SC) (w : World) (f : List Block) : Prop where
  row : OwnAt 2 rowC c.F.T w c.F.b c.F.o (rowsOf f c.ps)
  len : c.ps.length = f.length
  pages : ∀ (i : Nat) x p, f[i]? = some x → c.ps[i]? = some p → OwnAt 5 pageC p.T w p.b p.o x.pages

structure OwnS (c : SC) (w : World) (s : Store) : Prop where
  flash : FlashAt c w s.flash
  disk : OwnAt 1 intC c.D.T w c.D.b c.D.o s.disk
  nd : c.L.Nodup

section
variable {c : SC} {w w' : World} {f : List Block} {s : Store}

theorem rowsOf_get {f : List Block} {ps : List At} {i : Nat} {x : Block} {p : At} (hx : f[i]? = some x) (hp : ps[i]? = some p) : (rowsOf f ps)[i]? = some (rowOf x p) := by
  unfold rowsOf; rw [List.getElem?_zipWith, hx, hp]
theorem rowsOf_len {f : List Block} {ps : List At} (h : ps.length = f.length) : (rowsOf f ps).length = f.length := by
  unfold rowsOf; rw [List.length_zipWith]; omega

theorem FlashAt.lt (h : FlashAt c w f) : ∀ b ∈ c.fl, b < w.heap.size := by
  intro b hb
  rcases List.mem_cons.1 hb with rfl | hb
  · exact h.row.lt
  · obtain ⟨p, hp, rfl⟩ := List.mem_map.1 hb
    obtain ⟨i, hi, rfl⟩ := List.mem_iff_getElem.1 hp
    have hif : i < f.length := by rw [← h.len]; exact hi
    exact (h.pages i f[i] c.ps[i] (List.getElem?_eq_getElem hif) (List.getElem?_eq_getElem hi)).lt
theorem FlashAt.keep (h : FlashAt c w f) (hk : ∀ b ∈ c.fl, w'.heap[b]? = w.heap[b]?) : FlashAt c w' f :=
  ⟨h.row.keep (hk _ (by simp [SC.fl])), h.len, fun i x p hx hp => (h.pages i x p hx hp).keep (hk _ (List.mem_cons_of_mem _ (List.mem_map.2 ⟨p, List.mem_of_getElem? hp, rfl⟩)))⟩
theorem OwnS.lt (h : OwnS c w s) : ∀ b ∈ c.L, b < w.heap.size := by
  intro b hb
  rcases List.mem_append.1 hb with hb | hb
  · exact h.flash.lt b hb
  · obtain rfl := List.mem_singleton.1 hb; exact h.disk.lt
theorem OwnS.keep (h : OwnS c w s) (hk : ∀ b ∈ c.L, w'.heap[b]? = w.heap[b]?) : OwnS c w' s :=
  ⟨h.flash.keep fun b hb => hk b (List.mem_append_left _ hb), h.disk.keep (hk _ (by simp [SC.L])), h.nd⟩
theorem OwnS.ext (h : OwnS c w s) (hx : Ext w w') : OwnS c w' s := h.keep fun b hb => hx.block b (h.lt b hb)
theorem OwnS.chg {L : List Nat} (h : OwnS c w s) (hx : Chg L w w') (hL : ∀ b ∈ c.L, b ∉ L) : OwnS c w' s := h.keep fun b hb => hx.block b (h.lt b hb) (hL b hb)
theorem OwnS.set (h : OwnS c w s) {p : Addr} (hp : p.block ∉ c.L) (u : Value) : OwnS c (w.setCell p u) s :=
  h.keep fun b hb => Below.heap_setCell _ _ _ _ (by rintro rfl; exact hp hb)

theorem OwnS.set2 {p : Addr} {u : Value} (hp : p.block ∉ c.L) (h : OwnS c w s) : OwnS c (w.setCell p u) s := h.set hp u
theorem OwnS.alloc2 {o : Obj} (h : OwnS c w s) : OwnS c (w.alloc o) s := h.ext (ext_alloc (ext_refl _) _)
theorem OwnS.new (h : OwnS c w s) : ∀ b, w.heap.size ≤ b → b ∉ c.L := fun b hb hm => by have := h.lt b hm; omega

/-- as others read it -/
theorem FlashAt.flash (h : FlashAt c w f) : Flash (Old w) w (c.F.v f.length) f := by
  have hlt := h.lt
  obtain ⟨k, hk, hi⟩ := h.row
  refine ⟨_, _, rfl, fun i x hx => ?_⟩
  have hil : i < f.length := (List.getElem?_eq_some_iff.1 hx).1
  have hip : i < c.ps.length := by rw [h.len]; exact hil
  have hp := h.pages i x c.ps[i] hx (List.getElem?_eq_getElem hip)
  refine ⟨c.F.b, c.F.o, rowC (rowOf x c.ps[i]), rfl, hlt _ (by simp [SC.fl]), ⟨_, rfl, hp.of hp.lt _⟩, fun j u hu => ?_⟩
  rw [cell_block hk]
  exact hi i _ (rowsOf_get hx (List.getElem?_eq_getElem hip)) j u hu
theorem OwnS.fl (h : OwnS c w s) : Flash (Old w) w (c.fv s) s.flash := h.flash.flash
theorem OwnS.dk (h : OwnS c w s) : Ints (Old w) w (c.dv s) s.disk := h.disk.of h.disk.lt _

theorem SC.fl_nd (h : c.L.Nodup) : c.fl.Nodup := (List.nodup_append.1 h).1
theorem SC.ps_ne {i j : Nat} {p q : At} (h : c.fl.Nodup) (hp : c.ps[i]? = some p) (hq : c.ps[j]? = some q) (hij : i ≠ j) : p.b ≠ q.b := fun e =>
  hij (nodup_inj (List.nodup_cons.1 h).2 (b := p.b) (by rw [List.getElem?_map, hp]; rfl) (by rw [List.getElem?_map, hq, e]; rfl))
theorem SC.F_ne {i : Nat} {p : At} (h : c.fl.Nodup) (hp : c.ps[i]? = some p) : p.b ≠ c.F.b := fun e =>
  (List.nodup_cons.1 h).1 (List.mem_map.2 ⟨p, List.mem_of_getElem? hp, e⟩)
theorem SC.D_ne (h : c.L.Nodup) : ∀ b ∈ c.fl, b ≠ c.D.b := fun b hb => (List.nodup_append.1 h).2.2 b hb _ (by simp)

/-- a block's cells -/
theorem FlashAt.two (h : FlashAt c w f) {i : Nat} {p : At} (hi : i < f.length) (hp : c.ps[i]? = some p) :
    w.cell? ⟨c.F.b, c.F.o + i * 2, none⟩ = some (p.v f[i].pages.length) ∧ w.cell? ⟨c.F.b, c.F.o + i * 2 + 1, none⟩ = some (.int .i64 f[i].worn) := by
  have hx := rowsOf_get (List.getElem?_eq_getElem hi) hp
  exact ⟨h.row.cell hx (j := 0) rfl, h.row.cell hx (j := 1) rfl⟩

theorem zipWith_set {f : List Block} {ps : List At} {i : Nat} {x : Block} {p : At} (hp : ps[i]? = some p) : rowsOf (f.set i x) ps = (rowsOf f ps).set i (rowOf x p) := by
  unfold rowsOf
  apply List.ext_getElem?
  intro j
  rw [List.getElem?_zipWith, List.getElem?_set, List.getElem?_set, List.getElem?_zipWith]
  by_cases hij : i = j
  · subst hij
    rw [if_pos rfl, if_pos rfl, hp]
    have hip : i < ps.length := (List.getElem?_eq_some_iff.1 hp).1
    by_cases hf : i < f.length
    · rw [if_pos hf, if_pos (by rw [List.length_zipWith]; omega)]
    · rw [if_neg hf, if_neg (by rw [List.length_zipWith]; omega)]
  · rw [if_neg hij, if_neg hij]

/-- a block's wear, written -/
theorem FlashAt.worn (h : FlashAt c w f) (hnd : c.fl.Nodup) {i : Nat} {p : At} (hi : i < f.length) (hp : c.ps[i]? = some p) (n : Int) :
    FlashAt c (w.setCell ⟨c.F.b, c.F.o + i * 2 + 1, none⟩ (.int .i64 n)) (f.set i ⟨f[i].pages, n⟩) := by
  have hrl : i < (rowsOf f c.ps).length := by rw [rowsOf_len h.len]; exact hi
  have hget : (rowsOf f c.ps)[i] = rowOf f[i] p := by
    have := rowsOf_get (List.getElem?_eq_getElem hi) hp
    rw [List.getElem?_eq_getElem hrl] at this; exact Option.some.inj this
  refine ⟨?_, by rw [List.length_set]; exact h.len, fun j x q hx hq => ?_⟩
  · rw [zipWith_set hp]
    exact OwnAt.set1 (n := 2) (enc := rowC) (fun _ => rfl) h.row hrl (j := 1) (by omega) _ _ (by rw [hget]; rfl)
  · have hne : q.b ≠ c.F.b := SC.F_ne hnd hq
    have hk : OwnAt 5 pageC q.T w q.b q.o x.pages := by
      rw [List.getElem?_set] at hx
      by_cases hij : i = j
      · subst hij
        rw [if_pos rfl, if_pos hi] at hx
        obtain rfl := Option.some.inj hx
        exact h.pages i f[i] q (List.getElem?_eq_getElem hi) hq
      · rw [if_neg hij] at hx; exact h.pages j x q hx hq
    exact hk.keep (Below.heap_setCell _ _ _ _ hne)

/-- a page, written -/
theorem FlashAt.page (h : FlashAt c w f) (hnd : c.fl.Nodup) {i k : Nat} {p : At} (hi : i < f.length) (hp : c.ps[i]? = some p) (hk : k < f[i].pages.length) (y : Page) :
    FlashAt c (setAll w p.b (p.o + k * 5) (pageC y)) (f.set i ⟨f[i].pages.set k y, f[i].worn⟩) := by
  have hrl : i < (rowsOf f c.ps).length := by rw [rowsOf_len h.len]; exact hi
  have hget : (rowsOf f c.ps)[i] = rowOf f[i] p := by
    have := rowsOf_get (List.getElem?_eq_getElem hi) hp
    rw [List.getElem?_eq_getElem hrl] at this; exact Option.some.inj this
  refine ⟨?_, by rw [List.length_set]; exact h.len, fun j x q hx hq => ?_⟩
  · rw [zipWith_set hp, show rowOf ⟨f[i].pages.set k y, f[i].worn⟩ p = (rowsOf f c.ps)[i] from by rw [hget]; simp [rowOf], List.set_getElem_self]
    exact h.row.keep (setAll_other _ (SC.F_ne hnd hp).symm _ _ _)
  · rw [List.getElem?_set] at hx
    by_cases hij : i = j
    · subst hij
      rw [hp] at hq
      obtain rfl := Option.some.inj hq
      rw [if_pos rfl, if_pos hi] at hx
      obtain rfl := Option.some.inj hx
      exact OwnAt.set (n := 5) (enc := pageC) (fun _ => rfl) (by omega) (h.pages i f[i] p (List.getElem?_eq_getElem hi) hp) hk y
    · rw [if_neg hij] at hx
      exact (h.pages j x q hx hq).keep (setAll_other _ (SC.ps_ne hnd hq hp (Ne.symm hij)) _ _ _)
end

theorem FlashAt.two' {c : SC} {w : World} {f : List Block} (h : FlashAt c w f) {i : Nat} {p : At} {x : Block} (hx : f[i]? = some x) (hp : c.ps[i]? = some p) :
    w.cell? ⟨c.F.b, c.F.o + i * 2, none⟩ = some (p.v x.pages.length) ∧ w.cell? ⟨c.F.b, c.F.o + i * 2 + 1, none⟩ = some (.int .i64 x.worn) := by
  obtain ⟨hi, rfl⟩ := List.getElem?_eq_some_iff.1 hx
  exact h.two hi hp
theorem FlashAt.page' {c : SC} {w : World} {f : List Block} (h : FlashAt c w f) (hnd : c.fl.Nodup) {i k : Nat} {p : At} {x : Block} (hx : f[i]? = some x) (hp : c.ps[i]? = some p) (hk : k < x.pages.length) (y : Page) :
    FlashAt c (setAll w p.b (p.o + k * 5) (pageC y)) (f.set i ⟨x.pages.set k y, x.worn⟩) := by
  obtain ⟨hi, rfl⟩ := List.getElem?_eq_some_iff.1 hx
  exact h.page hnd hi hp hk y
theorem FlashAt.there {c : SC} {w : World} {f : List Block} (h : FlashAt c w f) {i k : Nat} {p : At} {x : Block} (hx : f[i]? = some x) (hp : c.ps[i]? = some p) (hk : k < x.pages.length) : w.there p.b (p.o + k * 5) 5 := by
  intro j hj
  have hy := (h.pages i x p hx hp)
  have := hy.cell (List.getElem?_eq_getElem hk) (j := j) (u := (pageC x.pages[k])[j]'(by simpa using hj)) (List.getElem?_eq_getElem _)
  rw [this, hy.frozen]; exact ⟨rfl, rfl⟩
theorem setAll_chg {L : List Nat} {w w' : World} {b o : Nat} (h : Chg L w w') (hb : b ∈ L) (xs : List Value) : Chg L w (setAll w' b o xs) := by
  have hbl := setAll_below b 0 (Nat.zero_le _) xs w' o
  exact h.trans ⟨hbl.os, hbl.tape, hbl.output, hbl.size, fun k hk hn => setAll_other b (by rintro rfl; exact hn hb) _ _ _⟩

/-- a store of the call's own as it was told before, its addresses named -/
theorem OwnStore.at_ {w : World} {f d : Value} {s : Store} {L : List Nat} (h : OwnStore w f d s L) (hnd : L.Nodup) : ∃ c : SC, c.L = L ∧ f = c.fv s ∧ d = c.dv s ∧ OwnS c w s := by
  obtain ⟨B, bs, D, rfl, ⟨rows, ⟨T, o, cap, rfl, hrow⟩, h2, h3, h4⟩, TD, od, dcap, rfl, hd⟩ := h
  have hex : ∀ i : Fin bs.length, ∃ p : At, p.b = bs[i] ∧ ∀ x r, s.flash[i.1]? = some x → rows[i.1]? = some r → r = rowOf x p ∧ OwnAt 5 pageC p.T w p.b p.o x.pages := by
    intro i
    have hi := i.2
    have hif : i.1 < s.flash.length := by omega
    have hir : i.1 < rows.length := by omega
    obtain ⟨h5, T', o', cap', hv, h6⟩ := h4 i.1 s.flash[i.1] rows[i.1] bs[i.1] (List.getElem?_eq_getElem hif) (List.getElem?_eq_getElem hir) (List.getElem?_eq_getElem hi)
    refine ⟨⟨bs[i.1], o', cap', T'⟩, rfl, fun x r hx hr => ?_⟩
    rw [List.getElem?_eq_getElem hif] at hx; rw [List.getElem?_eq_getElem hir] at hr
    obtain rfl := Option.some.inj hx; obtain rfl := Option.some.inj hr
    exact ⟨Prod.ext hv h5, h6⟩
  obtain ⟨g, hg⟩ := Classical.axiomOfChoice hex
  have hps : (List.ofFn g).map (·.b) = bs := by
    apply List.ext_getElem
    · simp
    · intro i h1 h2; simp; exact (hg ⟨i, by simpa using h1⟩).1
  refine ⟨⟨⟨B, o, cap, T⟩, List.ofFn g, ⟨D, od, dcap, TD⟩⟩, ?_, ?_, rfl, ⟨⟨?_, by simp; omega, fun i x p hx hp => ?_⟩, hd, ?_⟩⟩
  · simp [SC.L, SC.fl, hps]
  · show Value.slice _ _ _ = _; rw [h2]
  · have : rowsOf s.flash (List.ofFn g) = rows := by
      apply List.ext_getElem
      · rw [rowsOf_len (by simp; omega)]; omega
      · intro i h1 h2'
        have hib : i < bs.length := by omega
        have hif : i < s.flash.length := by omega
        have := rowsOf_get (f := s.flash) (ps := List.ofFn g) (List.getElem?_eq_getElem hif) (p := g ⟨i, hib⟩) (by simp [hib])
        rw [List.getElem?_eq_getElem h1] at this
        rw [Option.some.inj this]
        exact ((hg ⟨i, hib⟩).2 s.flash[i] rows[i] (List.getElem?_eq_getElem hif) (List.getElem?_eq_getElem h2')).1.symm
    rw [this]; exact hrow
  · have hip : i < bs.length := by have := (List.getElem?_eq_some_iff.1 hp).1; simpa using this
    have hpe : p = g ⟨i, hip⟩ := by
      have := hp
      simp [hip] at this; exact this.symm
    subst hpe
    exact ((hg ⟨i, hip⟩).2 x rows[i] hx (List.getElem?_eq_getElem (by omega))).2
  · simp [SC.L, SC.fl, hps] at hnd ⊢; exact hnd
end Go.Bu
