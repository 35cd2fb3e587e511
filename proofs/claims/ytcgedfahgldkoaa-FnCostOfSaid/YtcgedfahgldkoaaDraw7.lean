/- Drawn stores. -/
import Derived.Test.YtcgedfahgldkoaaDraw6
set_option linter.unusedVariables false
set_option linter.unusedSimpArgs false
namespace Go.Bu
open Go Go.RowKit Go.Plan Go.Proofs

/-- what a drawn store is -/
def StoreΦ (w : World) (v : Value) (w' : World) : Prop := ∃ (c : SC) (s : Store), v = .agg #[c.fv s, c.dv s] ∧ OwnS c w' s ∧ (∀ b ∈ c.L, w.heap.size ≤ b) ∧ s.flash.length ≤ 4 ∧ (∀ b ∈ s.flash, b.pages.length ≤ 4) ∧ s.disk.length ≤ 6

def SC.dt (c : SC) : SC := ⟨c.F, c.ps, ⟨c.D.b, c.D.o + 1, c.D.cap, c.D.T⟩⟩
theorem OwnS.dt {c : SC} {w : World} {s : Store} (h : OwnS c w s) : OwnS c.dt w ⟨s.flash, s.disk.tail⟩ := ⟨⟨h.flash.row, h.flash.len, h.flash.pages⟩, h.disk.tail, h.nd⟩
theorem OwnS.disk1 {c : SC} {w : World} {s : Store} (h : OwnS c w s) {i : Nat} (hi : i < s.disk.length) (z : Int) : OwnS c (w.setCell ⟨c.D.b, c.D.o + i, none⟩ (.int .i64 z)) ⟨s.flash, s.disk.set i z⟩ := by
  refine ⟨h.flash.keep fun b hb => Below.heap_setCell _ _ _ _ (SC.D_ne h.nd b hb), ?_, h.nd⟩
  have := OwnAt.set1 (n := 1) (enc := intC) (fun _ => rfl) h.disk hi (j := 0) (by omega) (.int .i64 z) z rfl
  simpa using this
theorem OwnS.reflash {c c' : SC} {w : World} {s : Store} {f : List Block} (h : OwnS c w s) (hf : FlashAt c' w f) (hnd : c'.fl.Nodup) (hb : ∀ b ∈ c'.fl, c.D.b < b) : OwnS ⟨c'.F, c'.ps, c.D⟩ w ⟨f, s.disk⟩ := by
  refine ⟨⟨hf.row, hf.len, hf.pages⟩, h.disk, ?_⟩
  show (c'.fl ++ [c.D.b]).Nodup
  refine List.nodup_append.2 ⟨hnd, by simp, fun a ha b hb' => ?_⟩
  obtain rfl := List.mem_singleton.1 hb'
  have := hb a ha; omega
theorem OwnS.worn {c : SC} {w : World} {s : Store} (h : OwnS c w s) {i : Nat} {p : At} (hi : i < s.flash.length) (hp : c.ps[i]? = some p) (n : Int) : OwnS c (w.setCell ⟨c.F.b, c.F.o + i * 2 + 1, none⟩ (.int .i64 n)) ⟨s.flash.set i ⟨s.flash[i].pages, n⟩, s.disk⟩ :=
  ⟨h.flash.worn (SC.fl_nd h.nd) hi hp n, h.disk.keep (Below.heap_setCell _ _ _ _ (SC.D_ne h.nd _ (by simp [SC.fl])).symm), h.nd⟩

theorem four_int (a b c d : Int) {k : Nat} (h : k < 4) : ∃ z : Int, (#[.int .i64 a, .int .i64 b, .int .i64 c, .int .i64 d] : Array Value)[k]? = some (.int .i64 z) := by
  rcases (show k = 0 ∨ k = 1 ∨ k = 2 ∨ k = 3 by omega) with rfl | rfl | rfl | rfl
  all_goals exact ⟨_, rfl⟩

set_option maxRecDepth 20000 in
set_option maxHeartbeats 4000000 in
theorem l71Store_c (R K : Nat) (w : World) (h : Rk w R (K + 420 + 1 + 1 + 57 * 7)) :
    Calls Try.prog 61 #[.pointer (some ⟨R, 0, none⟩)] w (DrawV R K w (StoreΦ w)) := by
  have hR := h.lt
  have HK := h; clear h
  have C := Chg.refl [R] w
  go_enter Try.func61, Try.ntmps61
  go_wp2_with fail
  refine (l71Play_c R (K + 420 + 1) _ (by ((repeat (first | (with_reducible apply Rk.set2; focus (dsimp only; omega)) | with_reducible apply Rk.alloc2)); with_reducible exact HK))).mono ?_; rintro e1 w1 ⟨v1, rfl, C1, HK1, c, s, ev, es, H0, rfl, OS, hP, hL, hH, hrow, hD, hel⟩
  obtain ⟨ea, ecap, rfl⟩ := hrow.form
  have hsh := hP.shape
  have hsz := C1.size
  have G2 := C1.keep (hg_new (b := w.heap.size) rfl) (by simp; omega)
  simp only [World.alloc, Array.size_push] at hL hsz
  have HLB : Hid (∀ b ∈ c.L, w.heap.size < b ∧ b < w1.heap.size) := Lib.hid fun b hb => ⟨by have := hL b hb; omega, OS.lt b hb⟩
  have HRL : Hid (∀ b ∈ c.L, b ∉ [R]) := Lib.hid fun b hb => by have := HLB.out b hb; simp; omega
  have HNB : Hid (∀ b, (b ≤ w.heap.size ∨ w1.heap.size ≤ b) → b ∉ c.L) := Lib.hid fun b hb hm => by have := HLB.out b hm; omega
  have hFb := HLB.out _ (fl_L _ (show c.F.b ∈ c.fl by simp [SC.fl]))
  have hDb := HLB.out c.D.b (by simp [SC.L])
  have HF4 : Hid (s.flash.length = 4) := Lib.hid hsh.flash
  have HD6 : Hid (s.disk.length = 6) := Lib.hid hP.disk
  have H4 : Hid (∀ b ∈ s.flash, b.pages.length = 4) := Lib.hid hsh.pages
  have hfv : c.fv s = c.F.v 4 := by unfold SC.fv; rw [hsh.flash]
  have hdv : c.dv s = c.D.v 6 := by unfold SC.dv; rw [hP.disk]
  rw [hfv, hdv]
  replace HK := HK1
  replace C := C.then_sets C1 (by ((repeat (first | with_reducible (refine Chg.set2 ?_ ?_); focus (exact Or.inr (by dsimp only; omega)) | with_reducible refine Chg.alloc2 ?_)); with_reducible exact C))
  clear hsh hP hL hH hrow hD hel HK1 C1 hfv hdv
  have l2 := heap_lt G2
  go_wp2_with fail
  refine (pick_k R 30 _ (by ((repeat (first | (with_reducible apply Rk.set2; focus (dsimp only; omega)) | with_reducible apply Rk.alloc2)); with_reducible exact HK))).mono ?_; rintro e2 w2 ⟨r, rfl, hr0, hr1, hC, HK1⟩
  replace C := C.then_sets hC (by ((repeat (first | with_reducible (refine Chg.set2 ?_ ?_); focus (exact Or.inr (by dsimp only; omega)) | with_reducible refine Chg.alloc2 ?_)); with_reducible exact C))
  replace HK := HK1; clear HK1
  replace G2 := hC.keep (b := w.heap.size) (by (repeat (first | with_reducible apply hg_here | (with_reducible apply hg_set; focus (dsimp only; omega)) | with_reducible apply hg_alloc)); with_reducible exact G2) (by simp; omega)
  have G4 := hC.keep (hg_new (b := w1.heap.size) rfl) (by simp; omega)
  replace OS := OwnS.chg (by ((repeat (first | (with_reducible apply OwnS.set2; focus (exact HNB.out _ (by dsimp only; omega))) | with_reducible apply OwnS.alloc2)); with_reducible exact OS)) hC HRL.out
  have l4 := heap_lt G4
  obtain ⟨g2, gf2⟩ := cellsK G2
  obtain ⟨g4, gf4⟩ := cellsK G4
  clear hC hr1
  have hn4 : w1.heap.size ≠ R := by omega
  go_wp2_with fail
  · skip
    refine wp_region_rdM HK [3, 6] [0, 1, 2, 5, 3, 6] [(4, .cells #[.int .i64 (-1), .int .i64 10, .int .i64 0, .int .i64 5] 3 (0, 0), fun b => .slice (some ⟨b, 0, none⟩) 4 4)] [7, 8] [9, 10] (by kernel_rfl) (by kernel_rfl) ?late ?_
    case late =>
      intro f hf
      obtain rfl := List.mem_singleton.1 hf
      refine ⟨_, rfl, fun a w => ?_⟩
      go_simp
    refine Rob.y (v := ?_) rfl rfl (fun w1 hx hH => ?_) ?_; rotate_left
    · go_simp; first | done | rfl | exact (Bool.not_not _).symm
    simp only [Act.put, List.setIfInBounds_toArray, List.set_cons_succ, List.set_cons_zero]
    refine Rob.y (v := ?_) rfl rfl (fun w1 hx hH => ?_) ?_; rotate_left
    · (obtain ⟨hcx, hfx⟩ := chgcell hx); go_simp; first | done | rfl
    simp only [Act.put, List.setIfInBounds_toArray, List.set_cons_succ, List.set_cons_zero]
    iterate 2
      refine Rob.y (v := ?_) rfl rfl (fun w1 hx hH => ?_) ?_; rotate_left
      · go_simp; first | done | rfl | exact (Bool.not_not _).symm
      simp only [Act.put, List.setIfInBounds_toArray, List.set_cons_succ, List.set_cons_zero]
    refine Rob.pick (m := 6) rfl rfl rfl (by omega) (fun _ _ h hx => h.trans hx) (fun w1 hx HK hH => ?_) (fun lo3 hi3 r3 hrl3 hru3 hlo3 hhi3 => ?_)
    · unfold RunTo; go_simp; exact (pick_k R _ _ HK).mono fun e w' h => h.run
    simp only [Act.put, List.setIfInBounds_toArray, List.set_cons_succ, List.set_cons_zero]
    obtain ⟨i, rfl⟩ : ∃ i : Nat, r3 = i := ⟨r3.toNat, by omega⟩
    have hiI : (i : Int) < 6 := hru3 (by omega)
    refine Rob.pick (m := 4) rfl rfl rfl (by omega) (fun _ _ h hx => h.trans hx) (fun w1 hx HK hH => ?_) (fun lo6 hi6 r6 hrl6 hru6 hlo6 hhi6 => ?_)
    · unfold RunTo; go_simp; exact (pick_k R _ _ HK).mono fun e w' h => h.run
    simp only [Act.put, List.setIfInBounds_toArray, List.set_cons_succ, List.set_cons_zero]
    obtain ⟨k, rfl⟩ : ∃ k : Nat, r6 = k := ⟨r6.toNat, by omega⟩
    have hkI : (k : Int) < 4 := hru6 (by omega)
    obtain ⟨z, hz⟩ := four_int (-1) 10 0 5 (show k < 4 by omega)
    have HZ := Lib.hid hz
    clear hz
    refine fin_oneM (fun w3 lb hx3 HK3 _ hge hlt hob hout => ?_)
    simp only [dstOf, List.getElem?_cons_succ, List.getElem?_cons_zero, Option.bind_some, Act.put, List.setIfInBounds_toArray, List.set_cons_succ, List.set_cons_zero, List.filterMap_cons, List.filterMap_nil]
    refine Mid.y (v := ?_) rfl rfl ?_ ?_; rotate_left
    · go_simp; rfl
    simp only [dstOf, List.getElem?_cons_succ, List.getElem?_cons_zero, Option.bind_some, Act.put, List.setIfInBounds_toArray, List.set_cons_succ, List.set_cons_zero, List.filterMap_cons, List.filterMap_nil]
    have k2 : w3.cell? ⟨lb, k, none⟩ = some (.int .i64 z) := by rw [cell_block hob]; exact HZ.out
    refine Mid.y (v := .int .i64 z) rfl rfl ?_ ?_
    · go_simp
    simp only [dstOf, List.getElem?_cons_succ, List.getElem?_cons_zero, Option.bind_some, Act.put, List.setIfInBounds_toArray, List.set_cons_succ, List.set_cons_zero, List.filterMap_cons, List.filterMap_nil]
    refine Mid.nil ?_
    simp only [dstOf, List.getElem?_cons_succ, List.getElem?_cons_zero, Option.bind_some, Act.put, List.setIfInBounds_toArray, List.set_cons_succ, List.set_cons_zero, List.filterMap_cons, List.filterMap_nil]
    have hdl : i < s.disk.length := by rw [HD6.out]; omega
    have OS3 := OS.chg hx3 HRL.out
    have hdc : w3.cell? ⟨c.D.b, c.D.o + i, none⟩ = some (.int .i64 s.disk[i]) := by have := OS3.disk.cell (List.getElem?_eq_getElem hdl) (j := 0) rfl; simpa using this
    have hdf := OS3.disk.frozen
    have hne : R ≠ w1.heap.size := by omega
    have C3 := C.trans hx3
    have G23 := hx3.keep G2 (by simp; omega)
    have G43 := hx3.keep G4 (by simp; omega)
    obtain ⟨g23, gf23⟩ := cellsK G23
    obtain ⟨g43, gf43⟩ := cellsK G43
    have l4' := heap_lt G43
    have HO3 := Lib.hid (OS3.disk1 hdl z)
    clear OS3
    go_wp2_with fail
    refine bodyPost_ret (v := .agg #[c.F.v 4, c.D.v 6]) (by simp [results, Try.results61, go_sem, g23, gf23, g43, gf43]) rfl ⟨_, rfl, (by ((repeat (first | with_reducible (refine Chg.set2 ?_ ?_); focus (exact Or.inr (by dsimp only; omega)) | with_reducible refine Chg.alloc2 ?_)); with_reducible exact C3)), Rk.less (by ((repeat (first | (with_reducible apply Rk.set2; focus (dsimp only; omega)) | with_reducible apply Rk.alloc2)); with_reducible exact HK3)) (by omega), c, ⟨s.flash, s.disk.set i z⟩, by simp only [SC.fv, SC.dv, List.length_set, HF4.out, HD6.out], ?_, fun b hb => by have := HLB.out b hb; omega, by rw [HF4.out]; omega, fun b hb => by rw [H4.out b hb]; omega, by rw [List.length_set, HD6.out]; omega⟩
    have HO4 := HO3.out
    ((repeat (first | (with_reducible apply OwnS.set2; focus (exact HNB.out _ (by dsimp only; omega))) | with_reducible apply OwnS.alloc2)); with_reducible exact HO4)
  · have HO := Lib.hid OS.dt
    refine bodyPost_ret (v := .agg #[c.F.v 4, c.dt.D.v 5]) (by simp [results, Try.results61, go_sem, g2, gf2, g4, gf4, SC.dt]) rfl ⟨_, rfl, (by ((repeat (first | with_reducible (refine Chg.set2 ?_ ?_); focus (exact Or.inr (by dsimp only; omega)) | with_reducible refine Chg.alloc2 ?_)); with_reducible exact C)), Rk.less (by ((repeat (first | (with_reducible apply Rk.set2; focus (dsimp only; omega)) | with_reducible apply Rk.alloc2)); with_reducible exact HK)) (by omega), c.dt, ⟨s.flash, s.disk.tail⟩, by simp only [SC.fv, SC.dv, SC.dt, List.length_tail, HF4.out, HD6.out], ?_, fun b hb => by have := HLB.out b hb; omega, by rw [HF4.out]; omega, fun b hb => by rw [H4.out b hb]; omega, by rw [List.length_tail, HD6.out]; omega⟩
    have HNB : Hid (∀ b, (b ≤ w.heap.size ∨ w1.heap.size ≤ b) → b ∉ c.dt.L) := HNB
    have HO1 := HO.out
    ((repeat (first | (with_reducible apply OwnS.set2; focus (exact HNB.out _ (by dsimp only; omega))) | with_reducible apply OwnS.alloc2)); with_reducible exact HO1)
  · refine (l71Flash_c R K _ (HK.less (by omega))).mono ?_; rintro e3 w3 ⟨v3, rfl, hC, HK3, c', f', rfl, hF, hnd', hb', hl', hp'⟩
    have C3 := C.trans hC
    have OS3 := OS.chg hC HRL.out
    have HO := Lib.hid (OS3.reflash hF hnd' (fun b hb => by have := hb' b hb; omega))
    have HNB : Hid (∀ b, (b ≤ w.heap.size ∨ b = w1.heap.size) → b ∉ (⟨c'.F, c'.ps, c.D⟩ : SC).L) := Lib.hid fun b hb hm => by
      rcases List.mem_append.1 hm with hm | hm
      · have := hb' b hm; omega
      · have hbD : b = c.D.b := List.mem_singleton.1 hm; omega
    have HLB3 : Hid (∀ b ∈ (⟨c'.F, c'.ps, c.D⟩ : SC).L, w.heap.size ≤ b) := Lib.hid fun b hm => by
      rcases List.mem_append.1 hm with hm | hm
      · have := hb' b hm; omega
      · have hbD : b = c.D.b := List.mem_singleton.1 hm; omega
    have HP3 := Lib.hid hp'
    replace G2 := hC.keep G2 (by simp; omega)
    replace G4 := hC.keep G4 (by simp; omega)
    have l4' := heap_lt G4
    clear g2 gf2 g4 gf4 hF hnd' hb' hC OS3 hp'
    obtain ⟨g2, gf2⟩ := cellsK G2
    obtain ⟨g4, gf4⟩ := cellsK G4
    go_wp2_with fail
    refine bodyPost_ret (v := .agg #[c'.F.v f'.length, c.D.v 6]) (by simp [results, Try.results61, go_sem, g2, gf2, g4, gf4]) rfl ⟨_, rfl, (by ((repeat (first | with_reducible (refine Chg.set2 ?_ ?_); focus (exact Or.inr (by dsimp only; omega)) | with_reducible refine Chg.alloc2 ?_)); with_reducible exact C3)), Rk.less (by ((repeat (first | (with_reducible apply Rk.set2; focus (dsimp only; omega)) | with_reducible apply Rk.alloc2)); with_reducible exact HK3)) (by omega), ⟨c'.F, c'.ps, c.D⟩, ⟨f', s.disk⟩, by simp only [SC.fv, SC.dv, HD6.out], ?_, HLB3.out, hl', HP3.out, by rw [HD6.out]; omega⟩
    have HO1 := HO.out
    ((repeat (first | (with_reducible apply OwnS.set2; focus (exact HNB.out _ (by dsimp only; omega))) | with_reducible apply OwnS.alloc2)); with_reducible exact HO1)
  · go_wp2_with fail
    go_loopw [5] (fun y wr => ∃ (n : Nat) (s' : Store), y = .int .i64 n ∧ n ≤ 4 ∧ Chg [R] w wr ∧ OwnS c wr s' ∧ Hid (s'.flash.length = 4 ∧ s'.disk.length = 6 ∧ ∀ b ∈ s'.flash, b.pages.length = 4) ∧ Rk wr R K ∧
      wr.heap[w.heap.size]? = some (.cells #[.slice none 0 0, .slice none 0 0] 43 (0, 0)) ∧ wr.heap[w1.heap.size]? = some (.cells #[c.F.v 4, c.D.v 6] 43 (0, 0))) (fun y _ => 4 - (intOf y).toNat)
    case atStart => exact ⟨0, s, rfl, by omega, C, OS, Lib.hid ⟨HF4.out, HD6.out, H4.out⟩, HK.less (by omega), G2, G4⟩
    case round =>
      clear C OS G2 G4 HK g2 gf2 g4 gf4 l2 l4
      obtain ⟨n, s', rfl, hn, C, OS, HS, HK, G2, G4⟩ := hrel
      obtain ⟨g2, gf2⟩ := cellsK G2
      obtain ⟨g4, gf4⟩ := cellsK G4
      have l4 := heap_lt G4
      by_cases hlt : n < 4
      · have hns : n < s'.flash.length := by rw [HS.out.1]; exact hlt
        have hnI : (n : Int) < 4 := by omega
        obtain ⟨p, hp⟩ : ∃ p, c.ps[n]? = some p := ⟨_, List.getElem?_eq_getElem (by rw [OS.flash.len]; exact hns)⟩
        obtain ⟨q1, q2⟩ := OS.flash.two hns hp
        have q3 := OS.flash.row.frozen
        have OS2 := Lib.hid (OS.worn hns hp 200)
        clear OS
        go_wp2_with fail
        refine ⟨⟨n + 1, _, by go_num, by omega, (by ((repeat (first | with_reducible (refine Chg.set2 ?_ ?_); focus (exact Or.inr (by dsimp only; omega)) | with_reducible refine Chg.alloc2 ?_)); with_reducible exact C)), OS2.out, Lib.hid ⟨by rw [List.length_set]; exact HS.out.1, HS.out.2.1, fun b hb => ?_⟩, (by ((repeat (first | (with_reducible apply Rk.set2; focus (dsimp only; omega)) | with_reducible apply Rk.alloc2)); with_reducible exact HK)), (by (repeat (first | with_reducible apply hg_here | (with_reducible apply hg_set; focus (dsimp only; omega)) | with_reducible apply hg_alloc)); with_reducible exact G2), (by (repeat (first | with_reducible apply hg_here | (with_reducible apply hg_set; focus (dsimp only; omega)) | with_reducible apply hg_alloc)); with_reducible exact G4)⟩, by simp [intOf]; omega⟩
        rcases List.mem_or_eq_of_mem_set hb with hb | rfl
        · exact HS.out.2.2 b hb
        · exact HS.out.2.2 s'.flash[n] (List.getElem_mem _)
      · obtain rfl : n = 4 := by omega
        go_wp2_with fail
        refine bodyPost_ret (v := .agg #[c.F.v 4, c.D.v 6]) (by simp [results, Try.results61, go_sem, g2, gf2, g4, gf4]) rfl ⟨_, rfl, (by ((repeat (first | with_reducible (refine Chg.set2 ?_ ?_); focus (exact Or.inr (by dsimp only; omega)) | with_reducible refine Chg.alloc2 ?_)); with_reducible exact C)), (by ((repeat (first | (with_reducible apply Rk.set2; focus (dsimp only; omega)) | with_reducible apply Rk.alloc2)); with_reducible exact HK)), c, s', by simp only [SC.fv, SC.dv, HS.out.1, HS.out.2.1], ?_, fun b hb => by have := HLB.out b hb; omega, by rw [HS.out.1]; omega, fun b hb => by rw [HS.out.2.2 b hb]; omega, by rw [HS.out.2.1]; omega⟩
        ((repeat (first | (with_reducible apply OwnS.set2; focus (exact HNB.out _ (by dsimp only; omega))) | with_reducible apply OwnS.alloc2)); with_reducible exact OS)
  · refine bodyPost_ret (v := .agg #[c.F.v 4, c.D.v 6]) (by simp [results, Try.results61, go_sem, g2, gf2, g4, gf4]) rfl ⟨_, rfl, (by ((repeat (first | with_reducible (refine Chg.set2 ?_ ?_); focus (exact Or.inr (by dsimp only; omega)) | with_reducible refine Chg.alloc2 ?_)); with_reducible exact C)), Rk.less (by ((repeat (first | (with_reducible apply Rk.set2; focus (dsimp only; omega)) | with_reducible apply Rk.alloc2)); with_reducible exact HK)) (by omega), c, s, by simp only [SC.fv, SC.dv, HF4.out, HD6.out], ?_, fun b hb => by have := HLB.out b hb; omega, by rw [HF4.out]; omega, fun b hb => by rw [H4.out b hb]; omega, by rw [HD6.out]; omega⟩
    ((repeat (first | (with_reducible apply OwnS.set2; focus (exact HNB.out _ (by dsimp only; omega))) | with_reducible apply OwnS.alloc2)); with_reducible exact OS)
end Go.Bu
