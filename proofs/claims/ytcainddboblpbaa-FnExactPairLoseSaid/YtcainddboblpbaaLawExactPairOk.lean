/- The law FnExactPairOk holds of every input. -/
import Derived.Test.YtcainddboblpbaaToP
import Derived.Test.YtcainddboblpbaaPairS
import Derived.Test.YtcainddboblpbaaStoreI
set_option linter.unusedVariables false
set_option linter.unusedSimpArgs false
namespace Go.Bu
open Go Go.RowKit Go.Plan Go.Proofs

def PairV (p : Pair) (v : Value) (w' : World) : Prop := ∃ f' d' g' e' L' K', v = .agg #[f', d', g', e', .int .i64 p.lost] ∧ OwnStore w' f' d' p.A L' ∧ OwnStore w' g' e' p.B K'
theorem PairTo.ret {w w' : World} {p : Pair} {e : Ending} (h : PairTo w p e w') : RetP w (PairV p) e w' := by
  obtain ⟨f, d, g, h, L, K, h1, h2, h3, h4, _, _⟩ := h
  exact ⟨_, h1, h2, f, d, g, h, L, K, rfl, h3, h4⟩
theorem PairV.stab {w w' : World} {p : Pair} {v : Value} (h : PairV p v w) (hx : Ext w w') : PairV p v w' := by
  obtain ⟨f, d, g, h, L, K, h1, h3, h4⟩ := h
  exact ⟨f, d, g, h, L, K, h1, h3.ext hx, h4.ext hx⟩

theorem PairV.own {w : World} {p : Pair} {f d g e : Value} (h : PairV p (.agg #[f, d, g, e, .int .i64 p.lost]) w) : ∃ L K, OwnStore w f d p.A L ∧ OwnStore w g e p.B K := by
  obtain ⟨f2, d2, g2, e2, L, K, he, q1, q2⟩ := h
  injection he with he
  simp at he
  obtain ⟨rfl, rfl, rfl, rfl⟩ := he
  exact ⟨L, K, q1, q2⟩

-- (not in this seat: function laws.FnExactPairOk)