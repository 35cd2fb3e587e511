/- Maps of the program's own, by ints: what lies at each key. -/
import Derived.Test.YtcainddboblpbaaKit
import Derived.Maps.OwnOps
import Derived.Maps.Views
set_option linter.unusedVariables false
set_option linter.unusedSimpArgs false
namespace Go.Bu
open Go Go.RowKit Go.Plan Go.Proofs

abbrev RV (v : Value) : Option (DataW Value × List MemPlace) := some (.held v, [])
def MapOf (P : Program) (k : TypeId) (w : World) (b n : Nat) (g : Int → Option Value) : Prop :=
  ∃ D : DataW Value, w.ownsMap P k RV b n D ∧ ∀ x : Int, (Lit.int .i64 x).wf = true → ∀ z, D.atKey (.int .i64 x) z = match g x with | some v => .held v | none => z

section
variable {P : Program} {k e t : TypeId} {w : World} {b n : Nat} {g : Int → Option Value}
theorem MapOf.lookup (h : MapOf P k w b n g) (hk : P.underlying k = some (.int .i64)) (ht : P.underlying t = some (.map k e)) {z : Value} (hz : (zeroValue e).run P w = .ok z w) {x : Int} (hx : (Lit.int .i64 x).wf = true) (c : Bool) :
    (Instr.lookup t (.map (some b)) (.int .i64 x) c).run P w = .ok (if c then .tuple #[(g x).getD z, .bool (g x).isSome] else (g x).getD z) w := by
  obtain ⟨D, ⟨es, clock, hb, F, hs, rfl⟩, hg⟩ := h
  have h1 := hg x hx .nil
  rcases Maps.fit_look c (Maps.int_keyed hk) ht hz hb F (Maps.keyOf_int_mk hk hx) with ⟨hrun, _, hat⟩ | ⟨e0, y, _, _, hrun, hR, hat, _⟩
  · rw [hat] at h1
    cases hgx : g x with
    | none => rw [hrun]; rfl
    | some v => rw [hgx] at h1; cases h1
  · rw [hat] at h1
    obtain rfl := Option.some.inj hR
    cases hgx : g x with
    | none => rw [hgx] at h1; cases h1
    | some v =>
      rw [hgx] at h1
      injection h1 with h1
      subst h1
      rw [hrun]; rfl
theorem MapOf.update (h : MapOf P k w b n g) (hk : P.underlying k = some (.int .i64)) (ht : P.underlying t = some (.map k e)) (hn : n < maxLen) {x : Int} (hx : (Lit.int .i64 x).wf = true) (v : Value) :
    ∃ w', (Instr.mapUpdate t (.map (some b)) (.int .i64 x) v).run P w = .ok () w' ∧ MapOf P k w' b (n + 1) (fun y => if y = x then some v else g y) ∧ w.grownBy w' (some b) := by
  obtain ⟨D, hD, hg⟩ := h
  have hkey := Maps.keyOf_int_mk (P := P) hk hx
  obtain ⟨w', h1, h2, h3⟩ := hD.update (Maps.int_keyed hk) ht hn (val := v) (d := .held v) (ps := []) hkey rfl
  refine ⟨w', h1, ⟨_, h2, fun y hy z => ?_⟩, h3⟩
  dsimp only
  by_cases hyx : y = x
  · subst hyx
    rw [if_pos rfl]
    obtain ⟨es, clock, _, _, _, hd⟩ := hD
    exact Maps.atKey_put_same ⟨_, hd⟩ ((Maps.int_keyed hk).key hkey) _ _
  · rw [if_neg hyx, Maps.atKey_put_other (by simp; exact hyx)]
    exact hg y hy z
theorem MapOf.kept {w' : World} {row : Option Nat} (h : MapOf P k w b n g) (hg : w.grownBy w' row) (hne : some b ≠ row) : MapOf P k w' b n g := by
  obtain ⟨D, hD, h1⟩ := h
  exact ⟨D, hD.kept hg hne, h1⟩
theorem MapOf.alloc2 {o : Obj} (h : MapOf P k w b n g) : MapOf P k (w.alloc o) b n g := h.kept (World.grownBy_alloc w o none) (by simp)
theorem MapOf.lt (h : MapOf P k w b n g) : b < w.heap.size := by obtain ⟨D, ⟨es, clock, hb, _⟩, _⟩ := h; exact heap_lt hb
theorem MapOf.chg {L : List Nat} {w' : World} (h : MapOf P k w b n g) (hx : Chg L w w') (hb : b ∉ L) : MapOf P k w' b n g := by
  obtain ⟨D, ⟨es, clock, hb', F, hs, hd⟩, h1⟩ := h
  exact ⟨D, ⟨es, clock, by rw [hx.block b (heap_lt hb') hb]; exact hb', F, hs, hd⟩, h1⟩
theorem MapOf.ext {w' : World} (h : MapOf P k w b n g) (hx : Ext w w') : MapOf P k w' b n g := h.chg (L := []) (Chg.of_ext hx) (by simp)
theorem MapOf.made (P : Program) (k : TypeId) (w : World) : MapOf P k (w.alloc (.map #[] 0)) w.heap.size 0 (fun _ => none) :=
  ⟨_, World.ownsMap_made w P k RV, fun x _ z => rfl⟩
theorem wpList_mapUpd {ops : Array Oper} {rest : List Oper} {o : Oper} {a : Act} {Q : Exit → Act → World → Prop} (hg : o.guard = none) (m x v : Operand) (hop : o.op = Op.mapUpdate t m x v)
    (hk : P.underlying k = some (.int .i64)) (ht : P.underlying t = some (.map k e)) (hm : a.eval m = .map (some b)) (h : MapOf P k w b n g) (hn : n < maxLen) {y : Int} (hx : a.eval x = .int .i64 y) (hy : (Lit.int .i64 y).wf = true) {val : Value} (hv : a.eval v = val)
    (hK : ∀ w', MapOf P k w' b (n + 1) (fun z => if z = y then some val else g z) → w.grownBy w' (some b) → wpList P ops Q rest (a.put o.dst undef) w') : wpList P ops Q (o :: rest) a w := by
  refine wpList_plain hg fun K' hK' => ?_
  obtain ⟨w', hrun, r1, r2⟩ := h.update hk ht hn hy val
  unfold Oper.wp
  simp [execOp, hop, hm, hx, hv, hrun, Result.andThen]
  exact hK' _ _ (hK w' r1 r2)
end

theorem i64_wf {x : Int} (h0 : -9223372036854775808 ≤ x) (h1 : x ≤ 9223372036854775807) : (Lit.int .i64 x).wf = true := by
  have h2 : IntKind.i64.min = -9223372036854775808 := by decide
  simp [Lit.wf, h2]; omega
/-- the numbers that were met, in a map -/
def metG (L : List Int) (x : Int) : Option Value := if L.contains x then some (.int .i64 1) else none
theorem metG_cons (L : List Int) (x : Int) : (fun z => if z = x then some (.int .i64 1) else metG L z) = metG (x :: L) := by
  funext z
  unfold metG
  by_cases h : z = x
  · subst h; simp
  · simp [h]
end Go.Bu
