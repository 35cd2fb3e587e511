/- Stores, as the reference reads them: StoreOk, l11Read, l11Dirty. -/
import Derived.Test.YtcainddboblpbaaOrder
set_option linter.unusedVariables false
set_option linter.unusedSimpArgs false
namespace Go.Bu
open Go Go.RowKit Go.Plan Go.Proofs

/-- a store's value, as it is handed on -/
def StoreV (w : World) (fv dv : Value) (s : Store) : Prop := Flash (Old w) w fv s.flash ∧ Ints (Old w) w dv s.disk
theorem StoreV.ext {w w' : World} {fv dv : Value} {s : Store} (h : StoreV w fv dv s) (hx : Ext w w') : StoreV w' fv dv s := ⟨h.1.ext hx, h.2.ext hx⟩

def badDisk (r : Rec) (d : Int) : Bool := !inB d 0 9 || (decide (0 < r.seq) && r.kind == 2 && r.val != d)
def diskScan (f : List Block) : Nat → List Int → Bool
  | _, [] => true
  | i, d :: ds => if badDisk (last f ((i : Int) + 1)) d then false else diskScan f (i + 1) ds
def storeOkB (s : Store) : Bool := orderB s.flash && s.disk.length == 6 && diskScan s.flash 0 s.disk
theorem diskScan_drop (f : List Block) (ds : List Int) (k : Nat) (h : k < ds.length) : diskScan f k (ds.drop k) = if badDisk (last f ((k : Int) + 1)) ds[k] then false else diskScan f (k + 1) (ds.drop (k + 1)) := by
  rw [List.drop_eq_getElem_cons h]; rfl

theorem orderB_ok {f : List Block} (h : orderB f = true) : flashOkB f = true := by simp only [orderB, Bool.and_eq_true] at h; exact h.1
theorem pages_short {f : List Block} (h : flashOkB f = true) : ∀ b ∈ f, b.pages.length ≤ 1048576 := fun b hb => by have := (flashOk_block h hb).1; omega
theorem storeOk_order {s : Store} (h : storeOkB s = true) : orderB s.flash = true := by simp only [storeOkB, Bool.and_eq_true] at h; exact h.1.1
theorem storeOk_flash {s : Store} (h : storeOkB s = true) : flashOkB s.flash = true := orderB_ok (storeOk_order h)
theorem storeOk_disk {s : Store} (h : storeOkB s = true) : s.disk.length = 6 := by simp only [storeOkB, Bool.and_eq_true, beq_iff_eq] at h; exact h.1.2

def readN (s : Store) (n : Nat) : Int := if 0 < (last s.flash ((n : Int) + 1)).seq then (last s.flash ((n : Int) + 1)).val else s.disk.getD n 0
def dirtyB (s : Store) (addr : Int) : Bool := decide (0 < (last s.flash addr).seq) && (last s.flash addr).kind == 1

set_option maxHeartbeats 1000000 in
theorem l11Dirty_c (fv dv : Value) (s : Store) (addr : Int) (w : World) (h : StoreV w fv dv s) (hn : s.flash.length ≤ 1048576) (hp : ∀ b ∈ s.flash, b.pages.length ≤ 1048576) :
    Calls Try.prog 132 #[.agg #[fv, dv], .int .i64 addr] w (Ret w (.bool (dirtyB s addr))) := by
  have HP := Lib.hid hp; clear hp
  have HD : Hid (dirtyB s addr = (decide (0 < (last s.flash addr).seq) && (last s.flash addr).kind == 1)) := Lib.hid rfl
  obtain ⟨hF, hD⟩ := h
  obtain ⟨fa, fc, rfl⟩ := hF.form
  obtain ⟨da, dc, rfl⟩ := hD.form
  go_enter Try.func132, Try.ntmps132
  go_wp2_with fail
  refine (l3Last_c _ s.flash addr _ (hF.ext (ext_alloc (ext_refl _) _)) hn HP.out).mono ?_; rintro e1 w1 ⟨rfl, hx⟩
  obtain ⟨hc, hf, hz, hX⟩ := after1 hx
  generalize last s.flash addr = r at *
  go_wp2_with fail
  all_goals
    go_ret
    try simp only [beq_iff_eq, Bool.not_eq_true, beq_eq_false_iff_ne, ne_eq, bne_iff_ne, bne_eq_false_iff_eq, decide_eq_true_eq, decide_eq_false_iff_not] at *
    exact ⟨by rw [HD.out]; first | (simp [*]; done) | (simp [*]; omega), by go_grown⟩

set_option maxHeartbeats 1000000 in
theorem l11Read_c (fv dv : Value) (s : Store) (n : Nat) (w : World) (h : StoreV w fv dv s) (hn : s.flash.length ≤ 1048576) (hp : ∀ b ∈ s.flash, b.pages.length ≤ 1048576) (hd : n < s.disk.length) (hd2 : s.disk.length ≤ 1048576) :
    Calls Try.prog 56 #[.agg #[fv, dv], .int .i64 ((n : Int) + 1)] w (Ret w (.int .i64 (readN s n))) := by
  have HP := Lib.hid hp; clear hp
  have HD : Hid (readN s n = if 0 < (last s.flash ((n : Int) + 1)).seq then (last s.flash ((n : Int) + 1)).val else s.disk[n]) := Lib.hid (by simp [readN, hd])
  obtain ⟨hF, hD⟩ := h
  obtain ⟨fa, fc, rfl⟩ := hF.form
  obtain ⟨da, dc, rfl⟩ := hD.form
  obtain ⟨b, o, rfl, hb, e0⟩ := hD.at1 hd
  have hb' : b < w.heap.size := hb
  go_enter Try.func56, Try.ntmps56
  go_wp2_with fail
  refine (l3Last_c _ s.flash ((n : Int) + 1) _ (hF.ext (ext_alloc (ext_refl _) _)) hn HP.out).mono ?_; rintro e1 w1 ⟨rfl, hx⟩
  obtain ⟨hc, hf, hz, hX⟩ := after1 hx
  have hbw : b < w1.heap.size := Nat.lt_trans hb' hz
  generalize last s.flash ((n : Int) + 1) = r at *
  go_wp2_with fail
  all_goals
    go_ret
    try simp only [beq_iff_eq, Bool.not_eq_true, beq_eq_false_iff_ne, ne_eq, bne_iff_ne, bne_eq_false_iff_eq, decide_eq_true_eq, decide_eq_false_iff_not] at *
    exact ⟨by rw [HD.out]; first | rw [if_pos (by omega)]; rfl | rw [if_neg (by omega)]; rfl, by go_grown⟩

set_option maxHeartbeats 2000000 in
theorem specStoreOk_c (fv dv : Value) (s : Store) (w : World) (h : StoreV w fv dv s) (hn : s.flash.length ≤ 1048576) :
    Calls Try.prog 47 #[.agg #[fv, dv]] w (Ret w (.bool (storeOkB s))) := by
  obtain ⟨hF, hD⟩ := h
  obtain ⟨fa, fc, rfl⟩ := hF.form
  obtain ⟨da, dc, rfl⟩ := hD.form
  have HQ : Hid (storeOkB s = (orderB s.flash && s.disk.length == 6 && diskScan s.flash 0 s.disk)) := Lib.hid rfl
  by_cases hok : orderB s.flash = true ∧ s.disk.length = 6
  · obtain ⟨hok, hlen⟩ := hok
    have HP := Lib.hid (pages_short (orderB_ok hok))
    have HL := Lib.hid hlen
    have hne : (((s.disk.length : Nat) : Int) != 6) = false := by simp [hlen]
    have HQ2 : Hid (diskScan s.flash 0 (s.disk.drop 0) = storeOkB s) := Lib.hid (by rw [HQ.out, hok, hlen]; rfl)
    clear hlen HQ
    generalize storeOkB s = A at *
    go_enter Try.func47, Try.ntmps47
    go_wp2_with fail
    refine (specFindOrder_c _ s.flash _ (hF.ext (ext_alloc (ext_refl _) _)) hn).mono ?_; rintro e1 w1 ⟨rfl, hx⟩
    rw [hok]
    have G := keep_ext hx (hg_new (w := w) rfl)
    obtain ⟨hc, hf, hz, hX⟩ := after1 hx
    go_wp2_with fail
    clear hc hf hz hne
    go_loopw [3] (fun y wr => ∃ (i : Nat), i ≤ 6 ∧ y = .int .i64 i ∧ Ext w wr ∧ Hid (diskScan s.flash i (s.disk.drop i) = A) ∧ wr.heap[w.heap.size]? = some (.cells #[.slice fa s.flash.length fc, .slice da s.disk.length dc] 32 (0, 0))) (fun y _ => 6 - (intOf y).toNat)
    case atStart => exact ⟨0, by omega, rfl, hX, HQ2, G⟩
    case round =>
      clear hX HQ2 G
      obtain ⟨i, hi, rfl, hX, HR, G⟩ := hrel
      obtain ⟨g0, gf⟩ := cellsK G
      by_cases hlt : i < 6
      · have hil : i < s.disk.length := by have := HL.out; omega
        obtain ⟨b, o, rfl, hb, e0⟩ := hD.at1 hil
        have hb' : b < w.heap.size := hb
        have hbw : b < wr.heap.size := Nat.lt_of_lt_of_le hb' hX.size
        have hbs := heap_lt G
        rw [diskScan_drop _ _ _ hil] at HR
        go_wp2_with fail
        refine (l3Last_c _ s.flash ((i : Int) + 1) _ (hF.ext hX) hn HP.out).mono ?_; rintro e2 w2 ⟨rfl, hx2⟩
        generalize last s.flash ((i : Int) + 1) = r at *
        have X2 := ext_trans hX hx2
        have G2 := keep_ext hx2 G
        obtain ⟨g2, gf2⟩ := cellsK G2
        obtain ⟨hc2, hf2⟩ := bcell X2
        have hbw2 : b < w2.heap.size := Nat.lt_of_lt_of_le hb' X2.size
        have hbs2 := heap_lt G2
        clear g0 gf G hbw hbs hX
        go_wp2_with fail
        refine wp_region_ext [5] [0, 1, 2, 3, 4, 5, 6, 7, 8, 9, 10, 11, 12, 13, 14, 15, 16, 17, 18, 19, 20, 21, 22, 23, 24] [] [] (by kernel_rfl) (by kernel_rfl) ?late ?_
        case late => exact fun f hf => absurd hf List.not_mem_nil
        refine Rob.y (v := ?_) rfl rfl (fun w1 hx hH => ?_) ?_; rotate_left
        · go_simp; first | done | rfl | exact (Bool.not_not _).symm
        simp only [Act.put, List.setIfInBounds_toArray, List.set_cons_succ, List.set_cons_zero]
        refine Rob.y (v := ?_) rfl rfl (fun w1 hx hH => ?_) ?_; rotate_left
        · (obtain ⟨hcx, hfx⟩ := bcell hx); go_simp; first | done | rfl
        simp only [Act.put, List.setIfInBounds_toArray, List.set_cons_succ, List.set_cons_zero]
        refine Rob.y (v := ?_) rfl rfl (fun w1 hx hH => ?_) ?_; rotate_left
        · go_simp; first | done | rfl | exact (Bool.not_not _).symm
        simp only [Act.put, List.setIfInBounds_toArray, List.set_cons_succ, List.set_cons_zero]
        iterate 2
          refine Rob.y (v := ?_) rfl rfl (fun w1 hx hH => ?_) ?_; rotate_left
          · (obtain ⟨hcx, hfx⟩ := bcell hx); go_simp; first | done | rfl
          simp only [Act.put, List.setIfInBounds_toArray, List.set_cons_succ, List.set_cons_zero]
        refine Rob.cv (.bool (inB s.disk[i] 0 9)) rfl rfl rfl (fun _ _ => ext_trans) (fun w1 hx hH => ?_) (fun lo5 hi5 hlo5 hhi5 => ?_)
        · unfold RunTo; go_simp; exact (((l6In_c _ _ _ _).mono fun _ _ => RetSame.ret)).mono fun e w' h => h.to
        simp only [Act.put, List.setIfInBounds_toArray, List.set_cons_succ, List.set_cons_zero]
        refine Rob.y (v := ?_) rfl rfl (fun w1 hx hH => ?_) ?_; rotate_left
        · go_simp; first | done | rfl | exact (Bool.not_not _).symm
        simp only [Act.put, List.setIfInBounds_toArray, List.set_cons_succ, List.set_cons_zero]
        refine Rob.yB (b := ?_) rfl rfl (fun w1 hx hH => ?_) (fun hb7 => ?_) (fun hb7 => ?_); rotate_left
        · go_simp; first | done | rfl | exact (Bool.not_not _).symm
        focus
          try contradiction
          all_goals
            simp only [Act.put, List.setIfInBounds_toArray, List.set_cons_succ, List.set_cons_zero]
            iterate 16
              refine Rob.no rfl rfl ?_
              simp only [Act.put, List.setIfInBounds_toArray, List.set_cons_succ, List.set_cons_zero]
            refine Rob.y (v := ?_) rfl rfl (fun w1 hx hH => ?_) ?_; rotate_left
            · go_simp; first | done | rfl | exact (Bool.not_not _).symm
            simp only [Act.put, List.setIfInBounds_toArray, List.set_cons_succ, List.set_cons_zero]
        rotate_right
        focus
          try contradiction
          all_goals
            simp only [Act.put, List.setIfInBounds_toArray, List.set_cons_succ, List.set_cons_zero]
            refine Rob.yg (v := ?_) rfl rfl (fun w1 hx hH => ?_) ?_; rotate_left
            · go_simp; first | done | rfl | exact (Bool.not_not _).symm
            simp only [Act.put, List.setIfInBounds_toArray, List.set_cons_succ, List.set_cons_zero]
            refine Rob.yB (b := ?_) rfl rfl (fun w1 hx hH => ?_) (fun hb9 => ?_) (fun hb9 => ?_); rotate_left
            · go_simp; first | done | rfl | exact (Bool.not_not _).symm
            focus
              try contradiction
              all_goals
                simp only [Act.put, List.setIfInBounds_toArray, List.set_cons_succ, List.set_cons_zero]
                refine Rob.yg (v := ?_) rfl rfl (fun w1 hx hH => ?_) ?_; rotate_left
                · go_simp; first | done | rfl | exact (Bool.not_not _).symm
                simp only [Act.put, List.setIfInBounds_toArray, List.set_cons_succ, List.set_cons_zero]
                refine Rob.yg (v := ?_) rfl rfl (fun w1 hx hH => ?_) ?_; rotate_left
                · (obtain ⟨hcx, hfx⟩ := bcell hx); go_simp; first | done | rfl
                simp only [Act.put, List.setIfInBounds_toArray, List.set_cons_succ, List.set_cons_zero]
                iterate 2
                  refine Rob.yg (v := ?_) rfl rfl (fun w1 hx hH => ?_) ?_; rotate_left
                  · go_simp; first | done | rfl | exact (Bool.not_not _).symm
                  simp only [Act.put, List.setIfInBounds_toArray, List.set_cons_succ, List.set_cons_zero]
                refine Rob.yB (b := ?_) rfl rfl (fun w1 hx hH => ?_) (fun hb14 => ?_) (fun hb14 => ?_); rotate_left
                · go_simp; first | done | rfl | exact (Bool.not_not _).symm
                focus
                  try contradiction
                  all_goals
                    simp only [Act.put, List.setIfInBounds_toArray, List.set_cons_succ, List.set_cons_zero]
                    refine Rob.yg (v := ?_) rfl rfl (fun w1 hx hH => ?_) ?_; rotate_left
                    · go_simp; first | done | rfl | exact (Bool.not_not _).symm
                    simp only [Act.put, List.setIfInBounds_toArray, List.set_cons_succ, List.set_cons_zero]
                    refine Rob.yg (v := ?_) rfl rfl (fun w1 hx hH => ?_) ?_; rotate_left
                    · (obtain ⟨hcx, hfx⟩ := bcell hx); go_simp; first | done | rfl
                    simp only [Act.put, List.setIfInBounds_toArray, List.set_cons_succ, List.set_cons_zero]
                    refine Rob.yg (v := ?_) rfl rfl (fun w1 hx hH => ?_) ?_; rotate_left
                    · go_simp; first | done | rfl | exact (Bool.not_not _).symm
                    simp only [Act.put, List.setIfInBounds_toArray, List.set_cons_succ, List.set_cons_zero]
                    refine Rob.yg (v := ?_) rfl rfl (fun w1 hx hH => ?_) ?_; rotate_left
                    · (obtain ⟨hcx, hfx⟩ := bcell hx); go_simp; first | done | rfl
                    simp only [Act.put, List.setIfInBounds_toArray, List.set_cons_succ, List.set_cons_zero]
                    refine Rob.yg (v := ?_) rfl rfl (fun w1 hx hH => ?_) ?_; rotate_left
                    · go_simp; first | done | rfl | exact (Bool.not_not _).symm
                    simp only [Act.put, List.setIfInBounds_toArray, List.set_cons_succ, List.set_cons_zero]
                    iterate 2
                      refine Rob.yg (v := ?_) rfl rfl (fun w1 hx hH => ?_) ?_; rotate_left
                      · (obtain ⟨hcx, hfx⟩ := bcell hx); go_simp; first | done | rfl
                      simp only [Act.put, List.setIfInBounds_toArray, List.set_cons_succ, List.set_cons_zero]
                    iterate 2
                      refine Rob.yg (v := ?_) rfl rfl (fun w1 hx hH => ?_) ?_; rotate_left
                      · go_simp; first | done | rfl | exact (Bool.not_not _).symm
                      simp only [Act.put, List.setIfInBounds_toArray, List.set_cons_succ, List.set_cons_zero]
                    refine Rob.y (v := ?_) rfl rfl (fun w1 hx hH => ?_) ?_; rotate_left
                    · go_simp; first | done | rfl | exact (Bool.not_not _).symm
                    simp only [Act.put, List.setIfInBounds_toArray, List.set_cons_succ, List.set_cons_zero]
                rotate_right
                focus
                  try contradiction
                  all_goals
                    simp only [Act.put, List.setIfInBounds_toArray, List.set_cons_succ, List.set_cons_zero]
                    iterate 8
                      refine Rob.no rfl rfl ?_
                      simp only [Act.put, List.setIfInBounds_toArray, List.set_cons_succ, List.set_cons_zero]
                    refine Rob.yg (v := ?_) rfl rfl (fun w1 hx hH => ?_) ?_; rotate_left
                    · go_simp; first | done | rfl | exact (Bool.not_not _).symm
                    simp only [Act.put, List.setIfInBounds_toArray, List.set_cons_succ, List.set_cons_zero]
                    refine Rob.y (v := ?_) rfl rfl (fun w1 hx hH => ?_) ?_; rotate_left
                    · go_simp; first | done | rfl | exact (Bool.not_not _).symm
                    simp only [Act.put, List.setIfInBounds_toArray, List.set_cons_succ, List.set_cons_zero]
            rotate_right
            focus
              try contradiction
              all_goals
                simp only [Act.put, List.setIfInBounds_toArray, List.set_cons_succ, List.set_cons_zero]
                iterate 3
                  refine Rob.no rfl rfl ?_
                  simp only [Act.put, List.setIfInBounds_toArray, List.set_cons_succ, List.set_cons_zero]
                refine Rob.yg (v := ?_) rfl rfl (fun w1 hx hH => ?_) ?_; rotate_left
                · go_simp; first | done | rfl | exact (Bool.not_not _).symm
                simp only [Act.put, List.setIfInBounds_toArray, List.set_cons_succ, List.set_cons_zero]
                refine Rob.yB (b := ?_) rfl rfl (fun w1 hx hH => ?_) (fun hb14 => ?_) (fun hb14 => ?_); rotate_left
                · go_simp; first | done | rfl | exact (Bool.not_not _).symm
                focus
                  try contradiction
                  all_goals
                    simp only [Act.put, List.setIfInBounds_toArray, List.set_cons_succ, List.set_cons_zero]
                    refine Rob.yg (v := ?_) rfl rfl (fun w1 hx hH => ?_) ?_; rotate_left
                    · go_simp; first | done | rfl | exact (Bool.not_not _).symm
                    simp only [Act.put, List.setIfInBounds_toArray, List.set_cons_succ, List.set_cons_zero]
                    refine Rob.yg (v := ?_) rfl rfl (fun w1 hx hH => ?_) ?_; rotate_left
                    · (obtain ⟨hcx, hfx⟩ := bcell hx); go_simp; first | done | rfl
                    simp only [Act.put, List.setIfInBounds_toArray, List.set_cons_succ, List.set_cons_zero]
                    refine Rob.yg (v := ?_) rfl rfl (fun w1 hx hH => ?_) ?_; rotate_left
                    · go_simp; first | done | rfl | exact (Bool.not_not _).symm
                    simp only [Act.put, List.setIfInBounds_toArray, List.set_cons_succ, List.set_cons_zero]
                    refine Rob.yg (v := ?_) rfl rfl (fun w1 hx hH => ?_) ?_; rotate_left
                    · (obtain ⟨hcx, hfx⟩ := bcell hx); go_simp; first | done | rfl
                    simp only [Act.put, List.setIfInBounds_toArray, List.set_cons_succ, List.set_cons_zero]
                    refine Rob.yg (v := ?_) rfl rfl (fun w1 hx hH => ?_) ?_; rotate_left
                    · go_simp; first | done | rfl | exact (Bool.not_not _).symm
                    simp only [Act.put, List.setIfInBounds_toArray, List.set_cons_succ, List.set_cons_zero]
                    iterate 2
                      refine Rob.yg (v := ?_) rfl rfl (fun w1 hx hH => ?_) ?_; rotate_left
                      · (obtain ⟨hcx, hfx⟩ := bcell hx); go_simp; first | done | rfl
                      simp only [Act.put, List.setIfInBounds_toArray, List.set_cons_succ, List.set_cons_zero]
                    iterate 2
                      refine Rob.yg (v := ?_) rfl rfl (fun w1 hx hH => ?_) ?_; rotate_left
                      · go_simp; first | done | rfl | exact (Bool.not_not _).symm
                      simp only [Act.put, List.setIfInBounds_toArray, List.set_cons_succ, List.set_cons_zero]
                    refine Rob.y (v := ?_) rfl rfl (fun w1 hx hH => ?_) ?_; rotate_left
                    · go_simp; first | done | rfl | exact (Bool.not_not _).symm
                    simp only [Act.put, List.setIfInBounds_toArray, List.set_cons_succ, List.set_cons_zero]
                rotate_right
                focus
                  try contradiction
                  all_goals
                    simp only [Act.put, List.setIfInBounds_toArray, List.set_cons_succ, List.set_cons_zero]
                    iterate 8
                      refine Rob.no rfl rfl ?_
                      simp only [Act.put, List.setIfInBounds_toArray, List.set_cons_succ, List.set_cons_zero]
                    refine Rob.yg (v := ?_) rfl rfl (fun w1 hx hH => ?_) ?_; rotate_left
                    · go_simp; first | done | rfl | exact (Bool.not_not _).symm
                    simp only [Act.put, List.setIfInBounds_toArray, List.set_cons_succ, List.set_cons_zero]
                    refine Rob.y (v := ?_) rfl rfl (fun w1 hx hH => ?_) ?_; rotate_left
                    · go_simp; first | done | rfl | exact (Bool.not_not _).symm
                    simp only [Act.put, List.setIfInBounds_toArray, List.set_cons_succ, List.set_cons_zero]
        all_goals
          refine fin_nil (fun w3 hx3 _ => ?_)
          have X3 := ext_trans (ext_alloc X2 _) hx3
          have G3 := keep_ext hx3 (hg_alloc G2)
          go_wp2_with fail
        all_goals try
          go_ret
          have hr := HR.out
          rw [if_pos (by simp [badDisk, *])] at hr
          exact ⟨by rw [← hr]; rfl, X3⟩
        all_goals
          have hr := HR.out
          rw [if_neg (by simp [badDisk, *])] at hr
          exact ⟨⟨i + 1, by omega, by go_num, X3, Lib.hid hr, G3⟩, by simp [intOf]; omega⟩
      · obtain rfl : i = 6 := by omega
        rw [List.drop_eq_nil_of_le (by have := HL.out; omega), diskScan] at HR
        have hr := HR.out
        subst hr
        go_wp2
        go_ret
        exact ⟨rfl, hX⟩
  · have hf : storeOkB s = false := by
      rw [HQ.out]; simp only [Bool.and_eq_false_iff, beq_eq_false_iff_ne]
      by_cases h1 : orderB s.flash = true
      · exact .inl (.inr fun h2 => hok ⟨h1, h2⟩)
      · exact .inl (.inl (by simpa using h1))
    have HF := Lib.hid hf; clear hf HQ
    cases ho : orderB s.flash with
    | false =>
      have HO := Lib.hid ho; clear ho hok
      go_enter Try.func47, Try.ntmps47
      go_wp2_with fail
      refine (specFindOrder_c _ s.flash _ (hF.ext (ext_alloc (ext_refl _) _)) hn).mono ?_; rintro e1 w1 ⟨rfl, hx⟩
      obtain ⟨hc, hf, hz, hX⟩ := after1 hx
      rw [HO.out]
      go_wp2_with fail
      go_ret
      exact ⟨by rw [HF.out]; rfl, hX⟩
    | true =>
      have hl : ¬ s.disk.length = 6 := fun h => hok ⟨ho, h⟩
      have hne : (((s.disk.length : Nat) : Int) != 6) = true := by simp; omega
      have HO := Lib.hid ho; clear ho hok hl
      go_enter Try.func47, Try.ntmps47
      go_wp2_with fail
      refine (specFindOrder_c _ s.flash _ (hF.ext (ext_alloc (ext_refl _) _)) hn).mono ?_; rintro e1 w1 ⟨rfl, hx⟩
      obtain ⟨hc, hf, hz, hX⟩ := after1 hx
      rw [HO.out]
      go_wp2_with fail
      go_ret
      exact ⟨by rw [HF.out]; rfl, hX⟩
end Go.Bu
