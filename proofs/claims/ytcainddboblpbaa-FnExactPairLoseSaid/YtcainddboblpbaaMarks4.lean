/- Pairs that calls return: read, compared, marked, held. -/
import Derived.Test.YtcainddboblpbaaMarks3
import Derived.Test.YtcainddboblpbaaLoseI
set_option linter.unusedVariables false
set_option linter.unusedSimpArgs false
namespace Go.Bu
open Go Go.RowKit Go.Plan Go.Proofs

/-- a pair that a call has made, its blocks named -/
def PairL (w : World) (v : Value) (p : Pair) (M : List Nat) : Prop := (v = nilPair ∧ p = pair0 ∧ M = []) ∨ ∃ f d g e L K, v = .agg #[f, d, g, e, .int .i64 p.lost] ∧ OwnStore w f d p.A L ∧ OwnStore w g e p.B K ∧ (L ++ K).Nodup ∧ M = L ++ K ∧ Shape4 p.A ∧ Shape4 p.B
section
variable {w w' : World} {v : Value} {p : Pair} {M N : List Nat} {base : Nat}
theorem PairO.l (h : PairO base w v p) : ∃ M, PairL w v p M ∧ ∀ b ∈ M, base ≤ b := by
  rcases h with ⟨h1, h2⟩ | ⟨f, d, g, e, L, K, h1, h2, h3, h4, h5, h6, h7⟩
  · exact ⟨[], .inl ⟨h1, h2, rfl⟩, fun b hb => by cases hb⟩
  · exact ⟨L ++ K, .inr ⟨f, d, g, e, L, K, h1, h2, h3, h4, rfl, h6, h7⟩, h5⟩
theorem PairL.ext (h : PairL w v p M) (hx : Ext w w') : PairL w' v p M := h.imp id fun ⟨f, d, g, e, L, K, h1, h2, h3, h4⟩ => ⟨f, d, g, e, L, K, h1, h2.ext hx, h3.ext hx, h4⟩
theorem PairL.chg (h : PairL w v p M) (hx : Chg N w w') (hm : ∀ b ∈ M, b ∉ N) : PairL w' v p M := h.imp id fun ⟨f, d, g, e, L, K, h1, h2, h3, h4, h5, h6⟩ =>
  ⟨f, d, g, e, L, K, h1, h2.chg hx (fun b hb => hm b (by rw [h5]; exact List.mem_append_left _ hb)), h3.chg hx (fun b hb => hm b (by rw [h5]; exact List.mem_append_right _ hb)), h4, h5, h6⟩
theorem PairL.lt (h : PairL w v p M) : ∀ b ∈ M, b < w.heap.size := by
  rcases h with ⟨_, _, rfl⟩ | ⟨f, d, g, e, L, K, _, h2, h3, _, rfl, _⟩
  · intro b hb; cases hb
  · intro b hb
    rcases List.mem_append.1 hb with hb | hb
    · exact h2.lt b hb
    · exact h3.lt b hb
theorem PairL.forms (h : PairL w v p M) : ∃ a n c b m k a' n' c' b' m' k', v = .agg #[.slice a n c, .slice b m k, .slice a' n' c', .slice b' m' k', .int .i64 p.lost] := by
  rcases h with ⟨rfl, rfl, _⟩ | ⟨f, d, g, e, L, K, rfl, h2, h3, _⟩
  · exact ⟨none, 0, 0, none, 0, 0, none, 0, 0, none, 0, 0, rfl⟩
  · obtain ⟨a, n, c, b, m, k, rfl, rfl⟩ := h2.forms
    obtain ⟨a', n', c', b', m', k', rfl, rfl⟩ := h3.forms
    exact ⟨a, n, c, b, m, k, a', n', c', b', m', k', rfl⟩
theorem Shape4.small {s : Store} (h : Shape4 s) : Small s := ⟨by rw [h.flash]; omega, fun b hb => by rw [h.pages b hb]; omega, by rw [h.disk]; omega⟩
theorem small0 : Small ⟨[], []⟩ := ⟨by simp, fun b hb => (by cases hb), by simp⟩
theorem PairL.small (h : PairL w v p M) : Small p.A ∧ Small p.B := by
  rcases h with ⟨_, rfl, _⟩ | ⟨f, d, g, e, L, K, _, _, _, _, _, h6, h7⟩
  · exact ⟨small0, small0⟩
  · exact ⟨h6.small, h7.small⟩
theorem storeV0 (w : World) : StoreV w (.slice none 0 0) (.slice none 0 0) ⟨[], []⟩ := ⟨⟨_, _, rfl, fun i x hi => by cases hi⟩, ⟨_, _, rfl, fun i x hi => by cases hi⟩⟩
theorem PairL.read {f d g e : Value} {l : Int} (h : PairL w (.agg #[f, d, g, e, .int .i64 l]) p M) : l = p.lost ∧ StoreV w f d p.A ∧ StoreV w g e p.B := by
  rcases h with ⟨h1, rfl, _⟩ | ⟨f', d', g', e', L, K, h1, h2, h3, _⟩
  · unfold nilPair at h1
    injection h1 with h1
    simp at h1
    obtain ⟨rfl, rfl, rfl, rfl, rfl⟩ := h1
    exact ⟨rfl, storeV0 w, storeV0 w⟩
  · injection h1 with h1
    simp at h1
    obtain ⟨rfl, rfl, rfl, rfl, rfl⟩ := h1
    exact ⟨rfl, ⟨h2.flash, h2.disk⟩, h3.flash, h3.disk⟩
end

theorem eqPair_l (f d g e f' d' g' e' : Value) (l l' : Int) (p : Pair) (M N : List Nat) (w : World) (h : PairL w (.agg #[f, d, g, e, .int .i64 l]) p M) (h' : PairL w (.agg #[f', d', g', e', .int .i64 l']) p N) :
    Calls Try.prog 13 #[.agg #[f, d, g, e, .int .i64 l], .agg #[f', d', g', e', .int .i64 l']] w (Ret w (.bool true)) := by
  obtain ⟨rfl, hA, hB⟩ := h.read
  obtain ⟨rfl, hA', hB'⟩ := h'.read
  have := eqPair_c f f' d d' g g' e e' p p w hA.1 hA'.1 hA.2 hA'.2 (h.small.1.fits _) (h.small.1.fitsI _) hB.1 hB'.1 hB.2 hB'.2 (h.small.2.fits _) (h.small.2.fitsI _)
  rw [pairEq_refl] at this
  exact this

/-- a pair that was marked -/
def PairH (w : World) (v : Value) (M : List Nat) (k : Int) : Prop := (v = nilPair ∧ M = [] ∧ k = 1) ∨ ∃ f d g e n s t L K, v = .agg #[f, d, g, e, .int .i64 n] ∧ OwnStore w f d s L ∧ OwnStore w g e t K ∧ M = L ++ K ∧ Marked s 1 ∧ Marked t 91 ∧ k = 181
theorem PairH.ext {w w' : World} {v : Value} {M : List Nat} {k : Int} (h : PairH w v M k) (hx : Ext w w') : PairH w' v M k := h.imp id fun ⟨f, d, g, e, n, s, t, L, K, h1, h2, h3, h4⟩ => ⟨f, d, g, e, n, s, t, L, K, h1, h2.ext hx, h3.ext hx, h4⟩
theorem PairH.k {w : World} {v : Value} {M : List Nat} {k : Int} (h : PairH w v M k) : 0 ≤ k ∧ k ≤ 181 := by
  rcases h with ⟨_, _, rfl⟩ | ⟨f, d, g, e, n, s, t, L, K, _, _, _, _, _, _, rfl⟩ <;> omega

theorem nilInt {w : World} : Ints (Old w) w (.slice none 0 0) [] := ⟨_, _, rfl, fun i x hi => by cases hi⟩
theorem markNilB (fn : Nat) (hfn : fn = 60 ∨ fn = 67 ∨ fn = 15 ∨ fn = 16) (x : Int) (w : World) : Calls Try.prog fn #[.slice none 0 0, .int .i64 x] w (Ret w (.int .i64 x)) := by
  rcases hfn with rfl | rfl | rfl | rfl
  · go_enter Try.func60, Try.ntmps60
    go_wp2
    go_loop [1, 5] (fun y i => i = .int .i64 0 ∧ y = .int .i64 x) (fun _ i => 0)
    case atStart => exact ⟨rfl, rfl⟩
    case round =>
      obtain ⟨rfl, rfl⟩ := hrel
      go_wp2
      go_ret
      exact ⟨rfl, ext_refl _⟩
  · go_enter Try.func67, Try.ntmps67
    go_wp2
    go_loop [1, 5] (fun y i => i = .int .i64 0 ∧ y = .int .i64 x) (fun _ i => 0)
    case atStart => exact ⟨rfl, rfl⟩
    case round =>
      obtain ⟨rfl, rfl⟩ := hrel
      go_wp2
      go_ret
      exact ⟨rfl, ext_refl _⟩
  · go_enter Try.func15, Try.ntmps15
    go_wp2
    go_loop [1, 5] (fun y i => i = .int .i64 0 ∧ y = .int .i64 x) (fun _ i => 0)
    case atStart => exact ⟨rfl, rfl⟩
    case round =>
      obtain ⟨rfl, rfl⟩ := hrel
      go_wp2
      go_ret
      exact ⟨rfl, ext_refl _⟩
  · go_enter Try.func16, Try.ntmps16
    go_wp2
    go_loop [1, 5] (fun y i => i = .int .i64 0 ∧ y = .int .i64 x) (fun _ i => 0)
    case atStart => exact ⟨rfl, rfl⟩
    case round =>
      obtain ⟨rfl, rfl⟩ := hrel
      go_wp2
      go_ret
      exact ⟨rfl, ext_refl _⟩
theorem markNilS (w : World) : Calls Try.prog 35 #[.agg #[.slice none 0 0, .slice none 0 0], .int .i64 1] w (Ret w (.int .i64 1)) := by
  go_enter Try.func35, Try.ntmps35
  go_wp2_with fail
  refine (markNilB _ (by simp) 1 _).mono ?_; rintro e1 w1 ⟨rfl, hx1⟩
  have G0 := keep_ext hx1 (hg_new (b := w.heap.size) rfl)
  obtain ⟨g0, gf0⟩ := cellsK G0
  have X1 := ext_trans (ext_alloc (ext_refl w) _) hx1
  go_wp2_with fail
  refine (markNilB _ (by simp) 1 _).mono ?_; rintro e2 w2 ⟨rfl, hx2⟩
  go_wp2_with fail
  go_ret
  exact ⟨rfl, ext_trans X1 hx2⟩
theorem heldNilS (w : World) : Calls Try.prog 44 #[.agg #[.slice none 0 0, .slice none 0 0], .int .i64 1] w (Ret w (.int .i64 1)) := by
  go_enter Try.func44, Try.ntmps44
  go_wp2_with fail
  refine (markNilB _ (by simp) 1 _).mono ?_; rintro e1 w1 ⟨rfl, hx1⟩
  have G0 := keep_ext hx1 (hg_new (b := w.heap.size) rfl)
  obtain ⟨g0, gf0⟩ := cellsK G0
  have X1 := ext_trans (ext_alloc (ext_refl w) _) hx1
  go_wp2_with fail
  refine (markNilB _ (by simp) 1 _).mono ?_; rintro e2 w2 ⟨rfl, hx2⟩
  go_wp2_with fail
  go_ret
  exact ⟨rfl, ext_trans X1 hx2⟩
theorem markNilP (w : World) : Calls Try.prog 14 #[nilPair, .int .i64 1] w (Ret w (.int .i64 1)) := by
  unfold nilPair
  go_enter Try.func14, Try.ntmps14
  go_wp2_with fail
  refine (markNilS _).mono ?_; rintro e1 w1 ⟨rfl, hx1⟩
  have G0 := keep_ext hx1 (hg_new (b := w.heap.size) rfl)
  obtain ⟨g0, gf0⟩ := cellsK G0
  have X1 := ext_trans (ext_alloc (ext_refl w) _) hx1
  go_wp2_with fail
  refine (markNilS _).mono ?_; rintro e2 w2 ⟨rfl, hx2⟩
  go_wp2_with fail
  go_ret
  exact ⟨rfl, ext_trans X1 hx2⟩
theorem heldNilP (w : World) : Calls Try.prog 19 #[nilPair, .int .i64 1] w (Ret w (.int .i64 1)) := by
  unfold nilPair
  go_enter Try.func19, Try.ntmps19
  go_wp2_with fail
  refine (heldNilS _).mono ?_; rintro e1 w1 ⟨rfl, hx1⟩
  have G0 := keep_ext hx1 (hg_new (b := w.heap.size) rfl)
  obtain ⟨g0, gf0⟩ := cellsK G0
  have X1 := ext_trans (ext_alloc (ext_refl w) _) hx1
  go_wp2_with fail
  refine (heldNilS _).mono ?_; rintro e2 w2 ⟨rfl, hx2⟩
  go_wp2_with fail
  go_ret
  exact ⟨rfl, ext_trans X1 hx2⟩

theorem markPair_l (v : Value) (p : Pair) (M : List Nat) (w : World) (h : PairL w v p M) :
    Calls Try.prog 14 #[v, .int .i64 1] w (fun e w' => ∃ k, e = .returned (.int .i64 k) ∧ Chg M w w' ∧ PairH w' v M k) := by
  rcases h with ⟨rfl, rfl, rfl⟩ | ⟨f, d, g, e, L, K, rfl, h2, h3, h4, rfl, h6, h7⟩
  · exact (markNilP w).mono fun e w' ⟨he, hx⟩ => ⟨1, he, Chg.of_ext hx, .inl ⟨rfl, rfl, rfl⟩⟩
  · exact (markPair_c f d g e p.lost p.A p.B L K 1 w h2 h3 h4 h6 h7 (by omega) (by omega)).mono fun r w' ⟨he, hc, s, t, o1, o2, m1, m2⟩ => ⟨181, he, hc, .inr ⟨f, d, g, e, p.lost, s, t, L, K, rfl, o1, o2, rfl, m1, m2, rfl⟩⟩
theorem heldPair_l (v : Value) (M : List Nat) (k : Int) (w : World) (h : PairH w v M k) : Calls Try.prog 19 #[v, .int .i64 1] w (Ret w (.int .i64 k)) := by
  rcases h with ⟨rfl, rfl, rfl⟩ | ⟨f, d, g, e, n, s, t, L, K, rfl, o1, o2, rfl, m1, m2, rfl⟩
  · exact heldNilP w
  · exact heldPair_c f d g e n s t L K 1 w o1 o2 m1 m2 (by omega) (by omega)
end Go.Bu
