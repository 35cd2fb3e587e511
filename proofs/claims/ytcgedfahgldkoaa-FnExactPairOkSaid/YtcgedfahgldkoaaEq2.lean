/- The laws' comparisons of stores and pairs: eqStore, eqPair, lqFlash, lqStore, lqPair. -/
import Derived.Test.YtcgedfahgldkoaaEq
set_option linter.unusedVariables false
set_option linter.unusedSimpArgs false
namespace Go.Bu
open Go Go.RowKit Go.Plan Go.Proofs

/-- one of two, block by block and page by page, is of a size that counters bear -/
def Fits (xs ys : List Block) : Prop := (xs.length ≤ 1048576 ∨ ys.length ≤ 1048576) ∧ ∀ (i : Nat) (h : i < xs.length) (h2 : i < ys.length), xs[i].pages.length ≤ 1048576 ∨ ys[i].pages.length ≤ 1048576
def FitsI (xs ys : List Int) : Prop := xs.length ≤ 1048576 ∨ ys.length ≤ 1048576

theorem eqStore_c (f g d e : Value) (s t : Store) (w : World) (hf : Flash (Old w) w f s.flash) (hg : Flash (Old w) w g t.flash) (hd : Ints (Old w) w d s.disk) (he : Ints (Old w) w e t.disk) (hn : Fits s.flash t.flash) (hm : FitsI s.disk t.disk) :
    Calls Try.prog 39 #[.agg #[f, d], .agg #[g, e]] w (Ret w (.bool (storeEq s t))) := by
  have hE : ∀ o1 o2, Ext w ((w.alloc o1).alloc o2) := fun o1 o2 => ext_alloc (ext_alloc (ext_refl _) _) _
  have HE := Lib.hid hE; clear hE
  go_enter Try.func39, Try.ntmps39
  go_wp2_with fail
  refine (eqBlockS_c _ _ s.flash t.flash _ (hf.ext (HE.out _ _)) (hg.ext (HE.out _ _)) hn.1 hn.2).mono ?_
  rintro e1 w1 ⟨rfl, hx⟩
  have hc := (bcell hx).1
  have hX : Ext w w1 := ext_trans (HE.out _ _) hx
  go_wp2_with (go_at_call 56; refine (eqIntS_c _ _ s.disk t.disk _ (hd.ext hX) (he.ext hX) hm).mono ?_; rintro e2 w2 ⟨rfl, hx2⟩)
  · go_ret
    exact ⟨by simp_all [storeEq, flashEq], hX⟩
  all_goals
    go_ret
    exact ⟨by simp_all [storeEq, flashEq, intsEq], ext_trans hX ‹_›⟩

theorem eqPair_c (f g d e f' g' d' e' : Value) (p q : Pair) (w : World) (hf : Flash (Old w) w f p.A.flash) (hg : Flash (Old w) w g q.A.flash) (hd : Ints (Old w) w d p.A.disk) (he : Ints (Old w) w e q.A.disk) (hn : Fits p.A.flash q.A.flash) (hm : FitsI p.A.disk q.A.disk)
    (hf' : Flash (Old w) w f' p.B.flash) (hg' : Flash (Old w) w g' q.B.flash) (hd' : Ints (Old w) w d' p.B.disk) (he' : Ints (Old w) w e' q.B.disk) (hn' : Fits p.B.flash q.B.flash) (hm' : FitsI p.B.disk q.B.disk) :
    Calls Try.prog 22 #[.agg #[f, d, f', d', .int .i64 p.lost], .agg #[g, e, g', e', .int .i64 q.lost]] w (Ret w (.bool (pairEq p q))) := by
  have hE : ∀ o1 o2, Ext w ((w.alloc o1).alloc o2) := fun o1 o2 => ext_alloc (ext_alloc (ext_refl _) _) _
  have HE := Lib.hid hE; clear hE
  go_enter Try.func22, Try.ntmps22
  go_wp2_with fail
  refine (eqStore_c _ _ _ _ p.A q.A _ (hf.ext (HE.out _ _)) (hg.ext (HE.out _ _)) (hd.ext (HE.out _ _)) (he.ext (HE.out _ _)) hn hm).mono ?_
  rintro e1 w1 ⟨rfl, hx⟩
  have hc := (bcell hx).1
  have hX : Ext w w1 := ext_trans (HE.out _ _) hx
  have hz0 : w.heap.size < w1.heap.size := by have := hx.size; simp at this; omega
  have hz1 : w.heap.size + 1 < w1.heap.size := by have := hx.size; simp at this; omega
  go_wp2_with (go_at_call 39; refine (eqStore_c _ _ _ _ p.B q.B _ (hf'.ext hX) (hg'.ext hX) (hd'.ext hX) (he'.ext hX) hn' hm').mono ?_; rintro e2 w2 ⟨rfl, hx2⟩; have hc2 := (bcell hx2).1)
  · go_ret
    exact ⟨by simp_all [pairEq], hX⟩
  all_goals
    go_ret
    exact ⟨by simp_all [pairEq], ext_trans hX ‹_›⟩

-- (not in this seat: function laws.lqFlash)

-- (not in this seat: function laws.lqStore)

-- (not in this seat: function laws.lqPair)