/- The reference's PairOk; equality with itself. -/
import Derived.Test.YtcainddboblpbaaStoreS
import Derived.Test.YtcainddboblpbaaOpenP
import Derived.Test.YtcainddboblpbaaEq2
set_option linter.unusedVariables false
set_option linter.unusedSimpArgs false
namespace Go.Bu
open Go Go.RowKit Go.Plan Go.Proofs

theorem listEq_refl' {α : Type} {eq : α → α → Bool} (h : ∀ x, eq x x = true) : ∀ xs : List α, listEq eq xs xs = true
  | [] => rfl
  | x :: xs => by simp [listEq, h x, listEq_refl' h xs]
theorem storeEq_refl (s : Store) : storeEq s s = true := by
  unfold storeEq flashEq intsEq
  rw [listEq_refl' (fun b => by simp [blockEq, listEq_refl' (eq := pageEq) (fun p => by simp [pageEq, recEq]) b.pages]) s.flash, listEq_refl' (fun x => by simp [intEq]) s.disk]; rfl
theorem pairEq_refl (p : Pair) : pairEq p p = true := by simp [pairEq, storeEq_refl]
theorem Small.fits {s : Store} (h : Small s) (f : List Block) : Fits s.flash f := ⟨.inl h.1, fun i hi _ => .inl (h.2.1 _ (List.getElem_mem hi))⟩
theorem Small.fits' {s : Store} (h : Small s) (f : List Block) : Fits f s.flash := ⟨.inr h.1, fun i _ hi => .inr (h.2.1 _ (List.getElem_mem hi))⟩
theorem Small.fitsI {s : Store} (h : Small s) (d : List Int) : FitsI s.disk d := .inl h.2.2
theorem Small.fitsI' {s : Store} (h : Small s) (d : List Int) : FitsI d s.disk := .inr h.2.2
def pairOkB (p : Pair) : Bool := inB p.lost 0 2 && (storeOkB p.A && storeOkB p.B)

theorem specPairOk_c (f d g e : Value) (p : Pair) (w : World) (hA : StoreV w f d p.A) (hB : StoreV w g e p.B) (hsA : p.A.flash.length ≤ 1048576) (hsB : p.B.flash.length ≤ 1048576) :
    Calls Try.prog 22 #[.agg #[f, d, g, e, .int .i64 p.lost]] w (Ret w (.bool (pairOkB p))) := by
  have hFA := fun (w' : World) (hx : Ext w w') => specStoreOk_c f d p.A w' (hA.ext hx) hsA
  have hFB := fun (w' : World) (hx : Ext w w') => specStoreOk_c g e p.B w' (hB.ext hx) hsB
  unfold pairOkB
  obtain ⟨a1, c1, rfl⟩ := hA.1.form
  obtain ⟨a2, c2, rfl⟩ := hA.2.form
  obtain ⟨a3, c3, rfl⟩ := hB.1.form
  obtain ⟨a4, c4, rfl⟩ := hB.2.form
  generalize storeOkB p.A = u at *
  generalize storeOkB p.B = v at *
  generalize hi : inB p.lost 0 2 = q at *
  cases u
  · go_enter Try.func22, Try.ntmps22
    go_wp2_with fail
    refine (hFA _ (ext_alloc (ext_refl _) _)).mono ?_; rintro e1 w1 ⟨rfl, hx1⟩
    go_wp2_with fail
    go_ret
    exact ⟨by cases q <;> rfl, ext_trans (ext_alloc (ext_refl w) _) hx1⟩
  · cases v
    · go_enter Try.func22, Try.ntmps22
      go_wp2_with fail
      refine (hFA _ (ext_alloc (ext_refl _) _)).mono ?_; rintro e1 w1 ⟨rfl, hx1⟩
      have G1 := keep_ext hx1 (hg_new (b := w.heap.size) rfl)
      obtain ⟨g1, gf1⟩ := cellsK G1
      have l1 := heap_lt G1
      have X1 := ext_trans (ext_alloc (ext_refl w) _) hx1
      clear hFA
      go_wp2_with fail
      refine (hFB _ X1).mono ?_; rintro e2 w2 ⟨rfl, hx2⟩
      go_wp2_with fail
      go_ret
      exact ⟨by cases q <;> rfl, ext_trans X1 hx2⟩
    · go_enter Try.func22, Try.ntmps22
      go_wp2_with fail
      refine (hFA _ (ext_alloc (ext_refl _) _)).mono ?_; rintro e1 w1 ⟨rfl, hx1⟩
      have G1 := keep_ext hx1 (hg_new (b := w.heap.size) rfl)
      obtain ⟨g1, gf1⟩ := cellsK G1
      have l1 := heap_lt G1
      have X1 := ext_trans (ext_alloc (ext_refl w) _) hx1
      clear hFA
      go_wp2_with fail
      refine (hFB _ X1).mono ?_; rintro e2 w2 ⟨rfl, hx2⟩
      replace G1 := keep_ext hx2 G1
      have X2 := ext_trans X1 hx2
      clear g1 gf1 l1 hFB
      obtain ⟨g1, gf1⟩ := cellsK G1
      have l1 := heap_lt G1
      go_wp2_with (go_at_call 36; refine (l6In_c _ _ _ _).mono ?_; rw [hi]; rintro e w' ⟨rfl, rfl⟩)
      go_ret
      exact ⟨by cases q <;> rfl, X2⟩
end Go.Bu
