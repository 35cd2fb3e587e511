/- Steps of an event, as the reference says them: l21Steps, PlaySteps. -/
import Derived.Test.YtcainddboblpbaaSteps
set_option linter.unusedVariables false
set_option linter.unusedSimpArgs false
namespace Go.Bu
open Go Go.RowKit Go.Plan Go.Proofs

theorem ext_of1 {w w' : World} {a : Obj} (h : Ext (w.alloc a) w') : Ext w w' := ext_trans (ext_alloc (ext_refl _) _) h
theorem ext_of2 {w w' : World} {a b : Obj} (h : Ext ((w.alloc a).alloc b) w') : Ext w w' := ext_trans (ext_alloc (ext_alloc (ext_refl _) _) _) h
theorem size_of1 {w : World} {a : Obj} : w.heap.size ≤ (w.alloc a).heap.size := by simp
theorem size_of2 {w : World} {a b : Obj} : w.heap.size ≤ ((w.alloc a).alloc b).heap.size := by simp; omega
theorem orderB_flash {s : Store} (h : storeOkB s = true) : StoreP s := ⟨storeOk_flash h, storeOk_disk h⟩

set_option maxHeartbeats 1000000 in
theorem l21Steps_c (fv dv : Value) (s : Store) (e : Event) (w : World) (h : StoreV w fv dv s) (hok : StoreP s) :
    Calls Try.prog 124 #[.agg #[fv, dv], eventA e] w (RetS w (playSteps s e)) := by
  have HO := Lib.hid hok; clear hok
  have hsv := h
  obtain ⟨hF, hD⟩ := h
  obtain ⟨fa, fc, rfl⟩ := hF.form
  obtain ⟨da, dc, rfl⟩ := hD.form
  obtain ⟨k, ea, eb, ec, et⟩ := e
  have hw : ∀ a b : Obj, StoreV ((w.alloc a).alloc b) (.slice fa s.flash.length fc) (.slice da s.disk.length dc) s := fun a b => hsv.ext (ext_alloc (ext_alloc (ext_refl _) _) _)
  have HV := Lib.hid hw; clear hw
  by_cases h1 : k = 1
  · subst h1
    have hq : playSteps s ⟨1, ea, eb, ec, et⟩ = writeSteps s.flash 1 ea eb := rfl
    rw [hq]; clear hq
    go_enter Try.func124, Try.ntmps124
    go_wp2_with fail
    refine (l12Write_c _ _ s 1 ea eb _ (HV.out _ _) HO.out.flash).mono ?_; rintro e1 w1 ⟨v1, rfl, hx1, hS, hl⟩
    go_wp2_with fail
    go_ret
    exact ⟨_, rfl, ext_of2 hx1, hS.base size_of2, hl⟩
  by_cases h2 : k = 2
  · subst h2
    have hq : playSteps s ⟨2, ea, eb, ec, et⟩ = addrStep (flushSteps s) ea := rfl
    rw [hq]; clear hq
    go_enter Try.func124, Try.ntmps124
    go_wp2_with fail
    refine (l12Flush_c _ _ s ea _ (HV.out _ _) HO.out).mono ?_; rintro e1 w1 ⟨v1, rfl, hx1, hS, hl⟩
    go_wp2_with fail
    go_ret
    exact ⟨_, rfl, ext_of2 hx1, hS.base size_of2, hl⟩
  by_cases h3 : k = 3
  · subst h3
    have hq : playSteps s ⟨3, ea, eb, ec, et⟩ = addrStep (fillSteps s) ea := rfl
    rw [hq]; clear hq
    go_enter Try.func124, Try.ntmps124
    go_wp2_with fail
    refine (l12Fill_c _ _ s ea _ (HV.out _ _) HO.out).mono ?_; rintro e1 w1 ⟨v1, rfl, hx1, hS, hl⟩
    go_wp2_with fail
    go_ret
    exact ⟨_, rfl, ext_of2 hx1, hS.base size_of2, hl⟩
  · have hq : playSteps s ⟨k, ea, eb, ec, et⟩ = [] := by unfold playSteps; rw [if_neg h1, if_neg h2, if_neg h3]
    rw [hq]; clear hq
    have b1 : (k == 1) = false := by simpa using h1
    have b2 : (k == 2) = false := by simpa using h2
    have b3 : (k == 3) = false := by simpa using h3
    clear h1 h2 h3
    go_enter Try.func124, Try.ntmps124
    go_wp2_with fail
    go_ret
    exact ⟨_, rfl, by go_grown, SRow.empty (hg_new (by simp)) (by omega), by simp⟩

-- (not in this seat: function spec.PlaySteps)