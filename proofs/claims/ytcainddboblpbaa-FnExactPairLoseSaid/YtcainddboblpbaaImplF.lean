/- The program's side of a flash: freePages, partlyUsed, blockShape. -/
import Derived.Test.YtcainddboblpbaaFind
import Derived.Test.YtcainddboblpbaaOk
import Derived.Test.YtcainddboblpbaaKit
set_option linter.unusedVariables false
set_option linter.unusedSimpArgs false
namespace Go.Bu
open Go Go.RowKit Go.Plan Go.Proofs

set_option maxHeartbeats 400000 in
theorem freePages_c (pv : Value) (ps : List Page) (worn : Int) (w : World) (h : Pages (Old w) w pv ps) (hn : ps.length ≤ 1048576) :
    Calls Try.prog 100 #[.agg #[pv, .int .i64 worn]] w (Ret w (.int .i64 (cleanN ps))) := by
  obtain ⟨a, cap, rfl⟩ := h.form
  obtain ⟨A, hA⟩ : ∃ A, cleanN ps = A := ⟨_, rfl⟩
  rw [hA]
  unfold cleanN at hA
  have HA := Lib.hid hA; clear hA
  go_enter Try.func100, Try.ntmps100
  have X0 := ext_refl w
  go_wp2
  go_loopw [3, 9] (fun n y wr => ∃ (k : Nat) (m : Int), k ≤ ps.length ∧ y = .int .i64 k ∧ n = .int .i64 m ∧ 0 ≤ m ∧ m ≤ k ∧ Ext w wr ∧ Hid ((ps.drop k).foldl cleanStep m = A)) (fun _ y _ => ps.length - (intOf y).toNat)
  case atStart => exact ⟨0, 0, by omega, rfl, rfl, by omega, by omega, (by ((repeat (first | with_reducible (refine ext_set2 ?_ ?_); focus (first | exact Nat.le_refl _ | (dsimp only; omega) | (simp; omega)) | with_reducible refine ext_alloc2 ?_)); with_reducible exact X0)), HA⟩
  case round =>
    obtain ⟨k, m, hk, rfl, rfl, hm0, hm1, hx, HR⟩ := hrel
    by_cases hlt : k < ps.length
    · obtain ⟨b, o, rfl, hb, e0, e1, e2, e3, e4⟩ := (h.ext hx).at5 hlt
      rw [foldl_drop _ _ _ _ hlt] at HR
      go_wp2
      all_goals
        try simp only [beq_iff_eq, Bool.not_eq_true, beq_eq_false_iff_ne, ne_eq, bne_iff_ne, bne_eq_false_iff_eq, decide_eq_true_eq, decide_eq_false_iff_not] at *
        refine ⟨⟨k + 1, cleanStep m ps[k], by omega, by go_num, ?_, ?_, ?_, (by ((repeat (first | with_reducible (refine ext_set2 ?_ ?_); focus (first | exact Nat.le_refl _ | (dsimp only; omega) | (simp; omega)) | with_reducible refine ext_alloc2 ?_)); with_reducible exact hx)), HR⟩, by simp [intOf]; omega⟩
        · first | rw [cleanStep, if_pos (by assumption)] | rw [cleanStep, if_neg (by assumption)]
        · unfold cleanStep; split <;> omega
        · unfold cleanStep; split <;> omega
    · obtain rfl : k = ps.length := by omega
      rw [foldl_end] at HR
      have hr := HR.out
      subst hr
      go_wp2
      go_ret
      exact ⟨rfl, (by ((repeat (first | with_reducible (refine ext_set2 ?_ ?_); focus (first | exact Nat.le_refl _ | (dsimp only; omega) | (simp; omega)) | with_reducible refine ext_alloc2 ?_)); with_reducible exact hx))⟩

def partB (ps : List Page) : Bool := decide (0 < cleanN ps) && decide (cleanN ps < 4)
theorem partlyUsed_c (pv : Value) (ps : List Page) (worn : Int) (w : World) (h : Pages (Old w) w pv ps) (hn : ps.length ≤ 1048576) :
    Calls Try.prog 78 #[.agg #[pv, .int .i64 worn]] w (Ret w (.bool (partB ps))) := by
  obtain ⟨a, cap, rfl⟩ := h.form
  obtain ⟨A, hA⟩ : ∃ A, cleanN ps = A := ⟨_, rfl⟩
  have hp : partB ps = (decide (0 < A) && decide (A < 4)) := by unfold partB; rw [hA]
  rw [hp]
  have HC : ∀ w', Ext w w' → Calls Try.prog 100 #[.agg #[.slice a ps.length cap, .int .i64 worn]] w' (Ret w' (.int .i64 A)) := fun w' hx => hA ▸ freePages_c _ ps worn w' (h.ext hx) hn
  clear hp hA
  go_enter Try.func78, Try.ntmps78
  go_wp2_with fail
  refine (HC _ (ext_alloc (ext_refl _) _)).mono ?_; rintro e1 w1 ⟨rfl, hx1⟩
  have X1 : Ext w w1 := ext_trans (ext_alloc (ext_refl _) _) hx1
  go_wp2
  all_goals
    try simp only [beq_iff_eq, Bool.not_eq_true, beq_eq_false_iff_ne, ne_eq, bne_iff_ne, bne_eq_false_iff_eq, decide_eq_true_eq, decide_eq_false_iff_not] at *
    go_ret
    exact ⟨by simp [*]; try omega, X1⟩

def freeScan : Bool → List Page → Bool
  | _, [] => true
  | fr, p :: ps => if fr && p.state != 0 then false else freeScan (p.state == 0) ps
def shapeB (ps : List Page) (worn : Int) : Bool := ps.length == 4 && inB worn 0 200 && freeScan false ps
theorem freeScan_drop (fr : Bool) (ps : List Page) (k : Nat) (h : k < ps.length) : freeScan fr (ps.drop k) = if fr && ps[k].state != 0 then false else freeScan (ps[k].state == 0) (ps.drop (k + 1)) := by
  rw [List.drop_eq_getElem_cons h, freeScan]

set_option maxHeartbeats 400000 in
theorem blockShape_c (pv : Value) (ps : List Page) (worn : Int) (w : World) (h : Pages (Old w) w pv ps) (hn : ps.length ≤ 1048576) :
    Calls Try.prog 98 #[.agg #[pv, .int .i64 worn]] w (Ret w (.bool (shapeB ps worn))) := by
  obtain ⟨a, cap, rfl⟩ := h.form
  obtain ⟨A, hA⟩ : ∃ A, freeScan false ps = A := ⟨_, rfl⟩
  have X0 := ext_refl w
  by_cases h4 : ps.length = 4
  · by_cases hw : 0 ≤ worn ∧ worn ≤ 200
    · have hs : shapeB ps worn = A := by unfold shapeB; rw [hA, h4, inB_iff.2 hw]; rfl
      rw [hs]
      have HA : Hid (freeScan false (ps.drop 0) = A) := Lib.hid (by rw [List.drop_zero]; exact hA)
      clear hs hA
      obtain ⟨hw0, hw1⟩ := hw
      go_enter Try.func98, Try.ntmps98
      go_wp2
      go_loopw [3, 23] (fun n y wr => ∃ (k : Nat) (fr : Bool), k ≤ 4 ∧ y = .int .i64 k ∧ n = .bool fr ∧ Ext w wr ∧ Hid (freeScan fr (ps.drop k) = A)) (fun _ y _ => 4 - (intOf y).toNat)
      case atStart => exact ⟨0, false, by omega, rfl, rfl, (by ((repeat (first | with_reducible (refine ext_set2 ?_ ?_); focus (first | exact Nat.le_refl _ | (dsimp only; omega) | (simp; omega)) | with_reducible refine ext_alloc2 ?_)); with_reducible exact X0)), HA⟩
      case round =>
        obtain ⟨k, fr, hk, rfl, rfl, hx, HR⟩ := hrel
        by_cases hlt : k < 4
        · have hkl : k < ps.length := by omega
          obtain ⟨b, o, rfl, hb, e0, e1, e2, e3, e4⟩ := (h.ext hx).at5 hkl
          rw [freeScan_drop _ _ _ hkl] at HR
          cases fr
          · go_wp2
            refine ⟨⟨k + 1, ps[k].state == 0, by omega, by go_num, rfl, (by ((repeat (first | with_reducible (refine ext_set2 ?_ ?_); focus (first | exact Nat.le_refl _ | (dsimp only; omega) | (simp; omega)) | with_reducible refine ext_alloc2 ?_)); with_reducible exact hx)), Lib.hid ?_⟩, by simp [intOf]; omega⟩
            have hr := HR.out
            simpa using hr
          · go_wp2
            · rename_i hst
              have hr := HR.out
              rw [hst] at hr
              replace hr : false = A := hr
              subst hr
              go_ret
              exact ⟨rfl, (by ((repeat (first | with_reducible (refine ext_set2 ?_ ?_); focus (first | exact Nat.le_refl _ | (dsimp only; omega) | (simp; omega)) | with_reducible refine ext_alloc2 ?_)); with_reducible exact hx))⟩
            · rename_i hst
              refine ⟨⟨k + 1, ps[k].state == 0, by omega, by go_num, rfl, (by ((repeat (first | with_reducible (refine ext_set2 ?_ ?_); focus (first | exact Nat.le_refl _ | (dsimp only; omega) | (simp; omega)) | with_reducible refine ext_alloc2 ?_)); with_reducible exact hx)), Lib.hid ?_⟩, by simp [intOf]; omega⟩
              have hr := HR.out
              rw [hst] at hr
              simpa using hr
        · obtain rfl : k = 4 := by omega
          have hr := HR.out
          rw [← h4, List.drop_length] at hr
          subst hr
          go_wp2
          go_ret
          exact ⟨rfl, (by ((repeat (first | with_reducible (refine ext_set2 ?_ ?_); focus (first | exact Nat.le_refl _ | (dsimp only; omega) | (simp; omega)) | with_reducible refine ext_alloc2 ?_)); with_reducible exact hx))⟩
    · have hs : shapeB ps worn = false := by unfold shapeB; rw [show inB worn 0 200 = false from inB_no.2 (by omega)]; simp
      rw [hs]
      clear hA hs
      go_enter Try.func98, Try.ntmps98
      go_wp2
      all_goals
        try simp only [beq_iff_eq, Bool.not_eq_true, beq_eq_false_iff_ne, ne_eq, bne_iff_ne, bne_eq_false_iff_eq, decide_eq_true_eq, decide_eq_false_iff_not] at *
        first
        | (exfalso; omega)
        | (go_ret; exact ⟨rfl, (by ((repeat (first | with_reducible (refine ext_set2 ?_ ?_); focus (first | exact Nat.le_refl _ | (dsimp only; omega) | (simp; omega)) | with_reducible refine ext_alloc2 ?_)); with_reducible exact X0))⟩)
  · have hs : shapeB ps worn = false := by unfold shapeB; simp [h4]
    rw [hs]
    clear hA hs
    go_enter Try.func98, Try.ntmps98
    go_wp2
    all_goals
      try simp only [beq_iff_eq, Bool.not_eq_true, beq_eq_false_iff_ne, ne_eq, bne_iff_ne, bne_eq_false_iff_eq, decide_eq_true_eq, decide_eq_false_iff_not] at *
      first
      | (exfalso; omega)
      | (go_ret; exact ⟨rfl, (by ((repeat (first | with_reducible (refine ext_set2 ?_ ?_); focus (first | exact Nat.le_refl _ | (dsimp only; omega) | (simp; omega)) | with_reducible refine ext_alloc2 ?_)); with_reducible exact X0))⟩)
end Go.Bu
