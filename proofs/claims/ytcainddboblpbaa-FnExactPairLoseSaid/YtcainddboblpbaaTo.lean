/- The laws' copies of arguments into the program's types: toRec, toPage, .. -/
import Derived.Test.YtcainddboblpbaaOwn
import Derived.Test.YtcainddboblpbaaProg
import Derived.ProofKit
import Derived.KernelRfl
import Derived.Lib.Hide
import Derived.Deep.MidRow
import Derived.Laws.MakeOwn
set_option linter.unusedVariables false
set_option linter.unusedSimpArgs false
namespace Go.Bu
open Go Go.RowKit Go.Plan Go.Proofs

theorem toRec_c (r : Rec) (w : World) : Calls Try.prog 127 #[recA r] w (Ret w (recA r)) := by
  go_enter Try.func127, Try.ntmps127
  go_wp2
  refine bodyPost_ret (v := recA r) (by simp [results, Try.results127, go_sem]) rfl ⟨rfl, ?_⟩
  exact ext_alloc (ext_alloc (ext_alloc (ext_refl _) _) _) _

theorem toPage_c (p : Page) (w : World) : Calls Try.prog 116 #[pageA p] w (Ret w (pageA p)) := by
  go_enter Try.func116, Try.ntmps116
  go_wp2_with fail
  refine (toRec_c p.r _).mono ?_; rintro e1 w1 ⟨rfl, hx⟩
  obtain ⟨hc, hf, hz0, hz1, hz2, hX⟩ := after3 hx
  go_wp2
  refine bodyPost_ret (v := pageA p) (by simp [results, Try.results116, go_sem, hc, hf, hz0, hz1, hz2]) rfl ⟨rfl, ?_⟩
  ((repeat (first | with_reducible (refine ext_set2 ?_ ?_); focus (first | exact Nat.le_refl _ | (dsimp only; omega) | (simp; omega)) | with_reducible refine ext_alloc2 ?_)); with_reducible exact hX)

-- (not in this seat: function laws.toStep)

-- (not in this seat: function laws.toEvent)

-- (not in this seat: function laws.toStepS)

-- (not in this seat: function laws.toEventS)