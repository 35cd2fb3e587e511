/- An argument that can be read as data, opened: what lies in memory, in this family's own words. -/
import Derived.Test.YtcainddboblpbaaProg
import Derived.Test.YtcainddboblpbaaMem
import Derived.ChangeArms
import Derived.ProofKit
import Derived.KernelRfl
set_option linter.unusedVariables false
set_option linter.unusedSimpArgs false
namespace Go.Bu
open Go Go.RowKit Go.Plan Go.Proofs

section
variable {H : Type} {enc : TypeId × Value → H} {w : World} {spare : Nat → Bool} {held : Bool}

theorem cells_get {a : Addr} {n : Nat} {c : List Value} (h : w.cells? 0 a n = some c) : c.length = n ∧ ∀ (j : Nat), j < n → w.cell? (a.add j) = c[j]? := by
  unfold World.cells? at h
  rw [if_pos (Nat.zero_le _)] at h
  exact ⟨by simpa using mapM_some_length h, fun j hj => by simpa using mapM_some_get h j j (by simp [hj])⟩

theorem cell_spot {a : Addr} {v : Value} (h : w.cell? a = some v) : a = ⟨a.block, a.off, none⟩ := by
  obtain ⟨b, o, s⟩ := a
  unfold World.cell? at h
  cases s with
  | none => rfl
  | some k => simp at h; split at h <;> simp_all

theorem add_none (b o m : Nat) : Addr.add ⟨b, o, none⟩ m = ⟨b, o + m, none⟩ := by
  unfold Addr.add
  by_cases h : m = 0
  · subst h; rfl
  · rw [if_neg h]

theorem choose_list {α : Type} {n : Nat} {R : Nat → α → Prop} (h : ∀ i, i < n → ∃ x, R i x) : ∃ xs : List α, xs.length = n ∧ ∀ (i : Nat) x, xs[i]? = some x → R i x := by
  induction n with
  | zero => exact ⟨[], rfl, fun i x hx => by simp at hx⟩
  | succ n ih =>
    obtain ⟨xs, hl, hr⟩ := ih fun i hi => h i (by omega)
    obtain ⟨x, hx⟩ := h n (by omega)
    refine ⟨xs ++ [x], by simp [hl], fun i y hy => ?_⟩
    by_cases hi : i < xs.length
    · rw [List.getElem?_append_left hi] at hy; exact hr i y hy
    · rw [List.getElem?_append_right (by omega)] at hy
      have : i - xs.length = 0 := by
        rcases Nat.eq_zero_or_pos (i - xs.length) with h | h
        · exact h
        · rw [List.getElem?_eq_none (by simp; omega)] at hy; cases hy
      rw [this] at hy
      simp at hy
      subst hy
      have : i = n := by omega
      subst this
      exact hx

/-- the cells of one element open -/
def Opens {α : Type} (P : Program) (t : TypeId) (E : Enc α) : Prop :=
  ∀ (H : Type) (enc : TypeId × Value → H) (w : World) (spare : Nat → Bool) (held : Bool) (fuel : Nat) (cs : List Value) (x : DataW H × List MemPlace), DataW.trod enc P w 0 spare held fuel t cs = some x → ∃ y : α, E (Old w) w y cs

/-- a slice of elements that open, opens -/
theorem open_sl {α : Type} {P : Program} {t e : TypeId} {n : Nat} {E : Enc α} (ht : P.underlying t = some (.slice e)) (hn : P.cellsOf e = n) (hn0 : 0 < n) (hE : Opens P e E) {fuel : Nat} {v : Value} {x : DataW H × List MemPlace}
    (h : DataW.trod enc P w 0 spare held fuel t [v] = some x) : ∃ xs : List α, Sl n E (Old w) w v xs ∧ xs.length ≤ 9223372036854775807 ∧ ∀ a n c, v = .slice a n c → n ≤ c := by
  rcases DataW.trod_slice ht h with ⟨h1, _⟩ | ⟨a, len, cap, elems, rest, m, rfl, h1, _, _, hlc, hcm, hel, hget, _⟩
  · obtain rfl : v = .slice none 0 0 := by simpa using h1
    exact ⟨[], ⟨none, 0, rfl, fun i x hx => by simp at hx⟩, by simp, fun a n c h => by injection h with h1 h2 h3; omega⟩
  · obtain rfl : v = .slice (some a) len cap := by simpa using h1
    rw [hn] at hget
    have key : ∀ i, i < len → ∃ (y : α) (c : List Value), w.cells? 0 (a.add (i * n)) n = some c ∧ E (Old w) w y c := by
      intro i hi
      have hg := hget i hi
      rw [List.getElem?_eq_getElem (by omega)] at hg
      obtain ⟨c, hc, ht'⟩ := Option.bind_eq_some_iff.1 hg
      obtain ⟨y, hy⟩ := hE _ _ _ _ _ _ _ _ ht'
      exact ⟨y, c, hc, hy⟩
    obtain ⟨xs, hl, hr⟩ := choose_list key
    have hmax : len ≤ 9223372036854775807 := by have := Nat.le_trans hlc hcm; simpa [maxLen] using this
    refine ⟨xs, ⟨some a, cap, by rw [hl], fun i y hy => ?_⟩, by rw [hl]; exact hmax, fun a n c h => by injection h with h1 h2 h3; omega⟩
    obtain ⟨c, hc, he⟩ := hr i y hy
    have hi : i < xs.length := (List.getElem?_eq_some_iff.1 hy).1
    -- the first element tells where the array lies
    obtain ⟨c0, hc0, _⟩ := hr 0 xs[0] (List.getElem?_eq_getElem (by omega))
    obtain ⟨hl0, hg0⟩ := cells_get hc0
    have h00 := hg0 0 hn0
    rw [List.getElem?_eq_getElem (by omega)] at h00
    have ha : a.spot = none := by rw [cell_spot (a := a) (v := c0[0]) (by simpa [Addr.add] using h00)]
    obtain ⟨b, o, s⟩ := a
    obtain rfl : s = none := ha
    obtain ⟨hlc', hg⟩ := cells_get hc
    have hcell : ∀ (j : Nat) u, c[j]? = some u → w.cell? ⟨b, o + i * n + j, none⟩ = some u := by
      intro j u hu
      have hj : j < n := by rw [← hlc']; exact (List.getElem?_eq_some_iff.1 hu).1
      have := hg j hj
      rw [add_none, add_none, hu] at this
      exact this
    refine ⟨b, o, c, rfl, ?_, he, hcell⟩
    exact cell_lt (hcell 0 _ (List.getElem?_eq_getElem (by omega)))
end

theorem opens_int : Opens Try.prog 3 (plain fun n : Int => [.int .i64 n]) := by
  intro H enc w spare held fuel cs x h
  obtain ⟨n, hc, _, _⟩ := DataW.trod_int Try.underlying3 h
  exact ⟨n, hc⟩



/-- a struct's field, by its place: its type, where its cells begin, how many they are -/
theorem field_at {P : Program} {H : Type} {enc : TypeId × Value → H} {w : World} {spare : Nat → Bool} {held : Bool} {t : TypeId} {fs : Array Field} {fuel : Nat} {cs : List Value} {x : DataW H × List MemPlace}
    (ht : P.underlying t = some (.struct fs)) (h : DataW.trod enc P w 0 spare held fuel t cs = some x) (i : Nat) {ft off len : Nat} (hi : (fs[i]?).map (fun f => (f.type, f.offset)) = some (ft, off)) (hc : P.cellsOf ft = len) :
    ∃ n y, DataW.trod enc P w 0 spare held n ft ((cs.drop off).take len) = some y := by
  obtain ⟨xs, n, rfl, _, hl, hn, hf⟩ := DataW.trod_struct ht h
  obtain ⟨f, hfi, hfe⟩ := Option.map_eq_some_iff.1 hi
  obtain ⟨rfl, rfl⟩ := Prod.mk.inj hfe
  have := hf i f hfi
  have hlt : i < xs.length := by rw [hn]; exact (Array.getElem?_eq_some_iff.1 hfi).1
  rw [hc, List.getElem?_eq_getElem hlt] at this
  exact ⟨n, _, this⟩

theorem int_at {P : Program} {H : Type} {enc : TypeId × Value → H} {w : World} {spare : Nat → Bool} {held : Bool} {t : TypeId} {fs : Array Field} {fuel : Nat} {cs : List Value} {x : DataW H × List MemPlace}
    (ht : P.underlying t = some (.struct fs)) (h : DataW.trod enc P w 0 spare held fuel t cs = some x) (i : Nat) {ft off : Nat} (hi : (fs[i]?).map (fun f => (f.type, f.offset)) = some (ft, off)) (hc : P.cellsOf ft = 1) (hu : P.underlying ft = some (.int .i64)) :
    ∃ n : Int, (cs.drop off).take 1 = [.int .i64 n] := by
  obtain ⟨m, y, hy⟩ := field_at ht h i hi hc
  obtain ⟨n, hn, _⟩ := DataW.trod_int hu hy
  exact ⟨n, hn⟩

theorem len_at {P : Program} {H : Type} {enc : TypeId × Value → H} {w : World} {spare : Nat → Bool} {held : Bool} {t : TypeId} {fs : Array Field} {fuel : Nat} {cs : List Value} {x : DataW H × List MemPlace} {n : Nat}
    (ht : P.underlying t = some (.struct fs)) (h : DataW.trod enc P w 0 spare held fuel t cs = some x) (hc : P.cellsOf t = n) : cs.length = n := by
  obtain ⟨xs, n, rfl, _, hl, _⟩ := DataW.trod_struct ht h
  exact hl.trans hc

theorem cellsInt : Try.prog.cellsOf 3 = 1 := by kernel_rfl

-- (not in this seat: type laws.Cost)

theorem opens_rec {fuel : Nat} {H : Type} {enc : TypeId × Value → H} {w : World} {spare : Nat → Bool} {held : Bool} {cs : List Value} {x : DataW H × List MemPlace}
    (h : DataW.trod enc Try.prog w 0 spare held fuel 152 cs = some x) : ∃ r : Rec, cs = recC r := by
  have hl := len_at Try.underlying152 h (n := 4) (by kernel_rfl)
  match cs, hl with
  | [c0, c1, c2, c3], _ =>
    obtain ⟨a, ha⟩ := int_at Try.underlying152 h 0 rfl cellsInt Try.underlying3
    obtain ⟨b, hb⟩ := int_at Try.underlying152 h 1 rfl cellsInt Try.underlying3
    obtain ⟨c, hc⟩ := int_at Try.underlying152 h 2 rfl cellsInt Try.underlying3
    obtain ⟨d, hd⟩ := int_at Try.underlying152 h 3 rfl cellsInt Try.underlying3
    simp at ha hb hc hd
    subst ha hb hc hd
    exact ⟨⟨a, b, c, d⟩, rfl⟩

-- (not in this seat: type laws.Step)

-- (not in this seat: type laws.Cost)

-- (not in this seat: type []laws.Step)

theorem opens_byte : Opens Try.prog 5 (plain fun n : { n : Nat // n < 256 } => [.int .u8 (n.1 : Nat)]) := by
  intro H enc w spare held fuel cs x h
  obtain ⟨n, hc, hx, hh⟩ := DataW.trod_int Try.underlying5 h
  have hw : 0 ≤ n ∧ n ≤ 255 := by
    simp [Lit.wf] at hh
    have h1 : IntKind.u8.min = 0 := by decide
    have h2 : IntKind.u8.max = 255 := by decide
    omega
  refine ⟨⟨n.toNat, by omega⟩, ?_⟩
  rw [hc]
  show [Value.int .u8 n] = [Value.int .u8 ((n.toNat : Nat) : Int)]
  rw [Int.toNat_of_nonneg (by omega)]

set_option maxRecDepth 100000 in
theorem is_bytes {H : Type} {enc : TypeId × Value → H} {w : World} {r : Reach} {base : Nat} {v : Value} {d : DataW H} {ps : List MemPlace} (hv : Value.okWide Try.prog w r base 43 v) (h : DataW.Trod enc Try.prog w 0 (fun _ => true) true 43 v d ps) :
    ∃ xs : List Nat, Sl 1 (plain fun n : Nat => [.int .u8 n]) (Old w) w v xs ∧ (∀ x ∈ xs, x < 256) ∧ ∀ a n c, v = .slice a n c → n ≤ c := by
  obtain ⟨a, len, cap, rfl⟩ := WideShapes.okWide_slice Try.underlying43 hv
  obtain ⟨fuel, hf⟩ := h
  obtain ⟨xs, ⟨a', cap', hv', hx⟩, _, hc⟩ := open_sl (n := 1) Try.underlying43 (by kernel_rfl) (by omega) opens_byte hf
  refine ⟨xs.map (·.1), ⟨a', cap', by simpa using hv', fun i x hi => ?_⟩, fun x hx => ?_, hc⟩
  · rw [List.getElem?_map] at hi
    obtain ⟨y, hy, rfl⟩ := Option.map_eq_some_iff.1 hi
    exact hx i y hy
  · obtain ⟨y, _, rfl⟩ := List.mem_map.1 hx
    exact y.2
end Go.Bu
