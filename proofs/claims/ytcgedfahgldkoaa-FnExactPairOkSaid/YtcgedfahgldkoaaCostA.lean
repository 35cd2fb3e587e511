/- What two cost: l6In, l22Ok, l22Add, costOk, both CostAdd, toCost. -/
import Derived.Test.YtcgedfahgldkoaaEq
set_option linter.unusedVariables false
set_option linter.unusedSimpArgs false
namespace Go.Bu
open Go Go.RowKit Go.Plan Go.Proofs

def inB (n lo hi : Int) : Bool := decide (lo ≤ n) && decide (n ≤ hi)
theorem inB_iff {n lo hi : Int} : inB n lo hi = true ↔ lo ≤ n ∧ n ≤ hi := by simp [inB]
theorem inB_no {n lo hi : Int} : inB n lo hi = false ↔ n < lo ∨ hi < n := by
  rw [← Bool.not_eq_true, inB_iff]; omega
def costOkB (c : Cost) : Bool := inB c.writes 0 9999 && inB c.wipes 0 9999 && inB c.disks 0 9999
def costSum (a b : Cost) : Cost := ⟨a.writes + b.writes, a.wipes + b.wipes, a.disks + b.disks⟩
def cost0 : Cost := ⟨0, 0, 0⟩
def costAdd (a b : Cost) : Cost := if costOkB a && costOkB b then costSum a b else cost0

def RetSame (w : World) (v : Value) (e : Ending) (w' : World) : Prop := e = .returned v ∧ w = w'
theorem RetSame.ret {w w' : World} {v : Value} {e : Ending} (h : RetSame w v e w') : Ret w v e w' := ⟨h.1, by rw [← h.2]; exact ext_refl _⟩

theorem l6In_c (n lo hi : Int) (w : World) : Calls Try.prog 48 #[.int .i64 n, .int .i64 lo, .int .i64 hi] w (RetSame w (.bool (inB n lo hi))) := by
  go_enter Try.func48, Try.ntmps48
  go_wp2
  · go_ret; exact ⟨by simp [inB, *], rfl⟩
  · go_ret
    refine ⟨?_, rfl⟩
    have : ¬ lo ≤ n := by omega
    simp [inB, this]

theorem toCost_c (c : Cost) (w : World) : Calls Try.prog 10 #[costA c] w (Ret w (costA c)) := by
  go_enter Try.func10, Try.ntmps10
  go_wp2
  refine bodyPost_ret (v := costA c) (by simp [results, Try.results10, go_sem]) rfl ⟨rfl, ?_⟩
  exact ext_alloc (ext_alloc (ext_alloc (ext_refl _) _) _) _

theorem l22Ok_c (c : Cost) (w : World) : Calls Try.prog 30 #[costA c] w (Ret w (.bool (costOkB c))) := by
  go_enter Try.func30, Try.ntmps30
  go_wp2_with (go_at_call 48; refine (l6In_c _ _ _ _).mono ?_; rintro e w' ⟨rfl, rfl⟩)
  all_goals
    refine bodyPost_ret (results_tmp rfl _ _ _) rfl ⟨?_, ext_alloc (ext_refl _) _⟩
    simp [costOkB, *]

theorem costOk_c (c : Cost) (w : World) : Calls Try.prog 32 #[costA c] w (Ret w (.bool (costOkB c))) := by
  have i0 : ∀ w, (Instr.index 87 (.agg #[.int .i64 c.writes, .int .i64 c.wipes, .int .i64 c.disks]) (.int .i64 0)).run Try.prog w = .ok (.int .i64 c.writes) w := fun _ => by kernel_rfl
  have i1 : ∀ w, (Instr.index 87 (.agg #[.int .i64 c.writes, .int .i64 c.wipes, .int .i64 c.disks]) (.int .i64 1)).run Try.prog w = .ok (.int .i64 c.wipes) w := fun _ => by kernel_rfl
  have i2 : ∀ w, (Instr.index 87 (.agg #[.int .i64 c.writes, .int .i64 c.wipes, .int .i64 c.disks]) (.int .i64 2)).run Try.prog w = .ok (.int .i64 c.disks) w := fun _ => by kernel_rfl
  go_enter Try.func32, Try.ntmps32
  go_wp2
  go_loop [12] (fun i => ∃ k : Nat, k ≤ 3 ∧ i = .int .i64 k ∧ (0 < k → inB c.writes 0 9999 = true) ∧ (1 < k → inB c.wipes 0 9999 = true) ∧ (2 < k → inB c.disks 0 9999 = true)) (fun i => 3 - (intOf i).toNat)
  case atStart => exact ⟨0, by omega, rfl, by omega, by omega, by omega⟩
  case round =>
    obtain ⟨k, hk, rfl, hk1, hk2, hk3⟩ := hrel
    have H1 := Lib.hid hk1; have H2 := Lib.hid hk2; have H3 := Lib.hid hk3
    clear hk1 hk2 hk3
    rcases (show k = 0 ∨ k = 1 ∨ k = 2 ∨ k = 3 by omega) with rfl | rfl | rfl | rfl
    · by_cases h : 0 ≤ c.writes ∧ c.writes ≤ 9999
      · obtain ⟨h1, h2⟩ := h
        go_wp2
        go_round
        case rel => exact ⟨1, by omega, by go_num, fun _ => inB_iff.2 ⟨h1, h2⟩, by omega, by omega⟩
        case measure => simp [intOf]
      · have hf : costOkB c = false := by
          have : inB c.writes 0 9999 = false := inB_no.2 (by omega)
          simp [costOkB, this]
        have HF := Lib.hid hf; clear hf
        go_wp2
        all_goals
          go_ret
          exact ⟨by rw [HF.out]; rfl, ext_alloc (ext_refl _) _⟩
    · by_cases h : 0 ≤ c.wipes ∧ c.wipes ≤ 9999
      · obtain ⟨h1, h2⟩ := h
        go_wp2
        go_round
        case rel => exact ⟨2, by omega, by go_num, fun _ => H1.out (by omega), fun _ => inB_iff.2 ⟨h1, h2⟩, by omega⟩
        case measure => simp [intOf]
      · have hf : costOkB c = false := by
          have : inB c.wipes 0 9999 = false := inB_no.2 (by omega)
          simp [costOkB, this]
        have HF := Lib.hid hf; clear hf
        go_wp2
        all_goals
          go_ret
          exact ⟨by rw [HF.out]; rfl, ext_alloc (ext_refl _) _⟩
    · by_cases h : 0 ≤ c.disks ∧ c.disks ≤ 9999
      · obtain ⟨h1, h2⟩ := h
        go_wp2
        go_round
        case rel => exact ⟨3, by omega, by go_num, fun _ => H1.out (by omega), fun _ => H2.out (by omega), fun _ => inB_iff.2 ⟨h1, h2⟩⟩
        case measure => simp [intOf]
      · have hf : costOkB c = false := by
          have : inB c.disks 0 9999 = false := inB_no.2 (by omega)
          simp [costOkB, this]
        have HF := Lib.hid hf; clear hf
        go_wp2
        all_goals
          go_ret
          exact ⟨by rw [HF.out]; rfl, ext_alloc (ext_refl _) _⟩
    · go_wp2
      go_ret
      refine ⟨?_, ext_alloc (ext_refl _) _⟩
      rw [costOkB, H1.out (by omega), H2.out (by omega), H3.out (by omega)]; rfl

theorem l22Add_c (a b : Cost) (w : World) (ha : costOkB a = true) (hb : costOkB b = true) : Calls Try.prog 31 #[costA a, costA b] w (Ret w (costA (costSum a b))) := by
  simp only [costOkB, Bool.and_eq_true, inB_iff] at ha hb
  obtain ⟨⟨⟨a1, a2⟩, a3, a4⟩, a5, a6⟩ := ha
  obtain ⟨⟨⟨b1, b2⟩, b3, b4⟩, b5, b6⟩ := hb
  go_enter Try.func31, Try.ntmps31
  go_wp2
  refine bodyPost_ret (v := costA (costSum a b)) (by simp [results, Try.results31, go_sem, costSum]) rfl ⟨rfl, ?_⟩
  exact ext_alloc (ext_alloc (ext_alloc (ext_refl _) _) _) _

theorem specCostAdd_c (a b : Cost) (w : World) : Calls Try.prog 9 #[costA a, costA b] w (Ret w (costA (costAdd a b))) := by
  by_cases ha : costOkB a = true
  · by_cases hb : costOkB b = true
    · have HR : Hid (costAdd a b = costSum a b) := by unfold Hid; simp [costAdd, ha, hb]
      go_enter Try.func9, Try.ntmps9
      go_wp2_with fail
      refine (l22Ok_c a _).mono ?_; rintro e1 w1 ⟨rfl, hx⟩
      obtain ⟨hc, hf, hz0, hz1, hz2, hX⟩ := after3 hx
      go_wp2_with fail
      refine (l22Ok_c b _).mono ?_; rintro e2 w2 ⟨rfl, hx2⟩
      obtain ⟨hc2, hf2⟩ := bcell hx2
      have hz3 : w.heap.size + 1 + 1 < w2.heap.size := by have := hx2.size; omega
      have hX2 : Ext w w2 := ext_trans hX hx2
      go_wp2_with fail
      refine (l22Add_c a b _ ha hb).mono ?_; rintro e3 w3 ⟨rfl, hx3⟩
      obtain ⟨hc3, hf3⟩ := bcell hx3
      have hz4 : w.heap.size + 1 + 1 < w3.heap.size := by have := hx3.size; omega
      have hX3 : Ext w w3 := ext_trans hX2 hx3
      go_wp2_with fail
      refine bodyPost_ret (v := costA (costSum a b)) (by simp [results, Try.results9, go_sem, hc3, hc2, hc, hf3, hf2, hf, hz0, hz1, hz2, hz3, hz4]) rfl ⟨by rw [HR.out], ?_⟩
      exact ext_set (ext_set (ext_set hX3 (by simp; omega) _) (by simp; omega) _) (by simp; omega) _
    · have HR : Hid (costAdd a b = cost0) := by unfold Hid; simp [costAdd, ha, hb]
      go_enter Try.func9, Try.ntmps9
      go_wp2_with fail
      refine (l22Ok_c a _).mono ?_; rintro e1 w1 ⟨rfl, hx⟩
      obtain ⟨hc, hf, hz0, hz1, hz2, hX⟩ := after3 hx
      go_wp2_with fail
      refine (l22Ok_c b _).mono ?_; rintro e2 w2 ⟨rfl, hx2⟩
      obtain ⟨hc2, hf2⟩ := bcell hx2
      have hz3 : w.heap.size + 1 + 1 < w2.heap.size := by have := hx2.size; omega
      have hX2 : Ext w w2 := ext_trans hX hx2
      have hb' : costOkB b = false := by simpa using hb
      go_wp2_with fail
      refine bodyPost_ret (v := costA cost0) (by simp [results, Try.results9, go_sem, cost0, hc2, hc, hf2, hf, hz0, hz1, hz2, hz3]) rfl ⟨by rw [HR.out], ?_⟩
      exact ext_set (ext_set (ext_set hX2 (by simp; omega) _) (by simp; omega) _) (by simp; omega) _
  · have HR : Hid (costAdd a b = cost0) := by unfold Hid; simp [costAdd, ha]
    have ha' : costOkB a = false := by simpa using ha
    go_enter Try.func9, Try.ntmps9
    go_wp2_with fail
    refine (l22Ok_c a _).mono ?_; rintro e1 w1 ⟨rfl, hx⟩
    obtain ⟨hc, hf, hz0, hz1, hz2, hX⟩ := after3 hx
    go_wp2_with fail
    refine bodyPost_ret (v := costA cost0) (by simp [results, Try.results9, go_sem, cost0, hc, hf, hz0, hz1, hz2]) rfl ⟨by rw [HR.out], ?_⟩
    exact ext_set (ext_set (ext_set hX (by simp; omega) _) (by simp; omega) _) (by simp; omega) _

theorem implCostAdd_c (a b : Cost) (w : World) : Calls Try.prog 11 #[costA a, costA b] w (Ret w (costA (costAdd a b))) := by
  by_cases ha : costOkB a = true
  · by_cases hb : costOkB b = true
    · have HR : Hid (costAdd a b = costSum a b) := by unfold Hid; simp [costAdd, ha, hb]
      have ha' := ha
      have hb' := hb
      simp only [costOkB, Bool.and_eq_true, inB_iff] at ha' hb'
      obtain ⟨⟨⟨a1, a2⟩, a3, a4⟩, a5, a6⟩ := ha'
      obtain ⟨⟨⟨b1, b2⟩, b3, b4⟩, b5, b6⟩ := hb'
      go_enter Try.func11, Try.ntmps11
      go_wp2_with fail
      refine (costOk_c a _).mono ?_; rintro e1 w1 ⟨rfl, hx⟩
      obtain ⟨hc, hf, hz0, hz1, hz2, hX⟩ := after3 hx
      go_wp2_with fail
      refine (costOk_c b _).mono ?_; rintro e2 w2 ⟨rfl, hx2⟩
      obtain ⟨hc2, hf2⟩ := bcell hx2
      have hz3 : w.heap.size + 1 + 1 < w2.heap.size := by have := hx2.size; omega
      have hX2 : Ext w w2 := ext_trans hX hx2
      go_wp2_with fail
      refine bodyPost_ret (v := costA (costSum a b)) (by simp [results, Try.results11, go_sem, costSum, hc2, hc, hf2, hf, hz0, hz1, hz2, hz3]) rfl ⟨by rw [HR.out], ?_⟩
      exact ext_set (ext_set (ext_set hX2 (by simp; omega) _) (by simp; omega) _) (by simp; omega) _
    · have HR : Hid (costAdd a b = cost0) := by unfold Hid; simp [costAdd, ha, hb]
      go_enter Try.func11, Try.ntmps11
      go_wp2_with fail
      refine (costOk_c a _).mono ?_; rintro e1 w1 ⟨rfl, hx⟩
      obtain ⟨hc, hf, hz0, hz1, hz2, hX⟩ := after3 hx
      go_wp2_with fail
      refine (costOk_c b _).mono ?_; rintro e2 w2 ⟨rfl, hx2⟩
      obtain ⟨hc2, hf2⟩ := bcell hx2
      have hz3 : w.heap.size + 1 + 1 < w2.heap.size := by have := hx2.size; omega
      have hX2 : Ext w w2 := ext_trans hX hx2
      have hb' : costOkB b = false := by simpa using hb
      go_wp2_with fail
      refine bodyPost_ret (v := costA cost0) (by simp [results, Try.results11, go_sem, cost0, hc2, hc, hf2, hf, hz0, hz1, hz2, hz3]) rfl ⟨by rw [HR.out], ?_⟩
      exact ext_set (ext_set (ext_set hX2 (by simp; omega) _) (by simp; omega) _) (by simp; omega) _
  · have HR : Hid (costAdd a b = cost0) := by unfold Hid; simp [costAdd, ha]
    have ha' : costOkB a = false := by simpa using ha
    go_enter Try.func11, Try.ntmps11
    go_wp2_with fail
    refine (costOk_c a _).mono ?_; rintro e1 w1 ⟨rfl, hx⟩
    obtain ⟨hc, hf, hz0, hz1, hz2, hX⟩ := after3 hx
    go_wp2_with fail
    refine bodyPost_ret (v := costA cost0) (by simp [results, Try.results11, go_sem, cost0, hc, hf, hz0, hz1, hz2]) rfl ⟨by rw [HR.out], ?_⟩
    exact ext_set (ext_set (ext_set hX (by simp; omega) _) (by simp; omega) _) (by simp; omega) _

end Go.Bu
