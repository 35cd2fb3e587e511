/- Drawn stores, often full ones. -/
import Derived.Test.YtcgedfahgldkoaaDraw7
set_option linter.unusedVariables false
set_option linter.unusedSimpArgs false
namespace Go.Bu
open Go Go.RowKit Go.Plan Go.Proofs

theorem StoreP.of_ok {s : Store} (h : storeOkB s = true) : StoreP s := ⟨storeOk_flash h, storeOk_disk h⟩

set_option maxRecDepth 20000 in
set_option maxHeartbeats 4000000 in
theorem l71Full_c (R K : Nat) (w : World) (h : Rk w R (K + 36 + 420 + 1 + 1 + 57 * 7)) :
    Calls Try.prog 42 #[.pointer (some ⟨R, 0, none⟩)] w (DrawV R K w (StoreΦ w)) := by
  have hR := h.lt
  have HK := h; clear h
  have C := Chg.refl [R] w
  go_enter Try.func42, Try.ntmps42
  go_wp2_with fail
  refine (l71Store_c R (K + 36) _ (by ((repeat (first | (with_reducible apply Rk.set2; focus (dsimp only; omega)) | with_reducible apply Rk.alloc2)); with_reducible exact HK))).mono ?_; rintro e1 w1 ⟨v1, rfl, C1, HK1, c, s0, rfl, OS, hL, hf, hp, hd⟩
  have hsz := C1.size
  have G2 := C1.keep (hg_new (b := w.heap.size) rfl) (by simp; omega)
  simp only [World.alloc, Array.size_push] at hL hsz
  have HLB : Hid (∀ b ∈ c.L, w.heap.size < b ∧ b < w1.heap.size) := Lib.hid fun b hb => ⟨by have := hL b hb; omega, OS.lt b hb⟩
  have HRL : Hid (∀ b ∈ c.L, b ∉ [R]) := Lib.hid fun b hb => by have := HLB.out b hb; simp; omega
  have HNB : Hid (∀ b, (b ≤ w.heap.size ∨ w1.heap.size ≤ b) → b ∉ c.L) := Lib.hid fun b hb hm => by have := HLB.out b hm; omega
  have HB0 : Hid (s0.flash.length ≤ 4 ∧ (∀ b ∈ s0.flash, b.pages.length ≤ 4) ∧ s0.disk.length ≤ 6) := Lib.hid ⟨hf, hp, hd⟩
  replace HK := HK1
  replace C := C.then_sets C1 (by ((repeat (first | with_reducible (refine Chg.set2 ?_ ?_); focus (exact Or.inr (by dsimp only; omega)) | with_reducible refine Chg.alloc2 ?_)); with_reducible exact C))
  clear hL hf hp hd HK1 C1
  have l2 := heap_lt G2
  go_wp2_with fail
  go_loopw [4] (fun y wr => ∃ (n : Nat) (s : Store), y = .int .i64 n ∧ n ≤ 12 ∧ Chg [R] w wr ∧ OwnS c wr s ∧ Hid (s.flash.length = s0.flash.length ∧ s.disk.length = s0.disk.length) ∧ Hid (∀ b ∈ s.flash, b.pages.length ≤ 4) ∧ Rk wr R (K + 3 * (12 - n)) ∧
    wr.heap[w.heap.size]? = some (.cells #[.slice none 0 0, .slice none 0 0] 43 (0, 0)) ∧ wr.heap[w1.heap.size]? = some (.cells #[c.fv s0, c.dv s0] 43 (0, 0))) (fun y _ => 12 - (intOf y).toNat)
  case atStart => exact ⟨0, s0, rfl, by omega, (by ((repeat (first | with_reducible (refine Chg.set2 ?_ ?_); focus (exact Or.inr (by dsimp only; omega)) | with_reducible refine Chg.alloc2 ?_)); with_reducible exact C)), (by ((repeat (first | (with_reducible apply OwnS.set2; focus (exact HNB.out _ (by dsimp only; omega))) | with_reducible apply OwnS.alloc2)); with_reducible exact OS)), Lib.hid ⟨rfl, rfl⟩, Lib.hid HB0.out.2.1, Rk.less (by ((repeat (first | (with_reducible apply Rk.set2; focus (dsimp only; omega)) | with_reducible apply Rk.alloc2)); with_reducible exact HK)) (by omega), (by (repeat (first | with_reducible apply hg_here | (with_reducible apply hg_set; focus (dsimp only; omega)) | with_reducible apply hg_alloc)); with_reducible exact G2), hg_new rfl⟩
  case round =>
    clear C OS G2 HK l2
    obtain ⟨n, s, rfl, hn, C, OS, HE, HP4, HK, G2, G3⟩ := hrel
    obtain ⟨g2, gf2⟩ := cellsK G2
    obtain ⟨g3, gf3⟩ := cellsK G3
    have l3 := heap_lt G3
    obtain ⟨q1, q2⟩ := SC.same (c := c) HE.out
    have hfin : ∀ wr', Chg [R] w wr' → OwnS c wr' s → Rk wr' R K → Hid (DrawV R K w (StoreΦ w) (.returned (.agg #[c.fv s0, c.dv s0])) wr') := fun wr' hC hO hK =>
      Lib.hid ⟨_, rfl, hC, hK, c, s, by rw [q1, q2], hO, fun b hb => by have := HLB.out b hb; omega, by rw [HE.out.1]; exact HB0.out.1, HP4.out, by rw [HE.out.2]; exact HB0.out.2.2⟩
    have hso : Calls Try.prog 47 #[.agg #[c.fv s0, c.dv s0]] wr (Ret wr (.bool (storeOkB s))) := by
      rw [← q1, ← q2]
      exact specStoreOk_c _ _ s _ ⟨OS.fl, OS.dk⟩ (by have := HB0.out.1; have := HE.out.1; omega)
    have HSO := Lib.hid hso; clear hso
    obtain ⟨bo, hbo⟩ : ∃ bo, storeOkB s = bo := ⟨_, rfl⟩
    rw [hbo] at HSO
    have HBO := Lib.hid hbo; clear hbo
    by_cases hlt : n < 12
    · have hnI : (n : Int) < 12 := by omega
      have HP : bo = true → StoreP s := fun h => StoreP.of_ok (HBO.out.trans h)
      cases bo
      · go_wp2_with fail
        refine HSO.out.mono ?_; rintro e3 w3 ⟨rfl, hx3⟩
        have C3 := C.trans (Chg.of_ext hx3)
        have OS3 := OS.ext hx3
        have HK3 : Rk w3 R K := (HK.less (by omega)).ext hx3
        replace G2 := keep_ext hx3 G2
        replace G3 := keep_ext hx3 G3
        have l3' := heap_lt G3
        obtain ⟨g23, gf23⟩ := cellsK G2
        obtain ⟨g33, gf33⟩ := cellsK G3
        go_wp2_with fail
        refine bodyPost_ret (v := .agg #[c.fv s0, c.dv s0]) (by simp [results, Try.results42, go_sem, g23, gf23, g33, gf33]) rfl (hfin _ (by ((repeat (first | with_reducible (refine Chg.set2 ?_ ?_); focus (exact Or.inr (by dsimp only; omega)) | with_reducible refine Chg.alloc2 ?_)); with_reducible exact C3)) (by ((repeat (first | (with_reducible apply OwnS.set2; focus (exact HNB.out _ (by dsimp only; omega))) | with_reducible apply OwnS.alloc2)); with_reducible exact OS3)) (by ((repeat (first | (with_reducible apply Rk.set2; focus (dsimp only; omega)) | with_reducible apply Rk.alloc2)); with_reducible exact HK3))).out
      · have HPs := Lib.hid (HP rfl)
        clear HP
        go_wp2_with fail
        refine HSO.out.mono ?_; rintro e3 w3 ⟨rfl, hx3⟩
        replace C := C.trans (Chg.of_ext hx3)
        replace OS := OS.ext hx3
        replace HK := HK.ext hx3
        replace G2 := keep_ext hx3 G2
        replace G3 := keep_ext hx3 G3
        have l3' := heap_lt G3
        clear g2 gf2 g3 gf3 HSO hx3
        obtain ⟨m, hm⟩ : ∃ m, 12 - n = m + 1 := ⟨11 - n, by omega⟩
        rw [hm] at HK
        have HK0 : Rk w3 R (K + 3 * m + 2 + 1) := HK.less (by omega)
        go_wp2_with fail
        refine (pick_k R 8 _ HK0).mono ?_; rintro e4 w4 ⟨r, rfl, hr0, hr1, hC, HK1⟩
        replace C := C.trans hC
        replace OS := OS.chg hC HRL.out
        replace HK := HK1; clear HK1 HK0
        replace G2 := hC.keep G2 (by simp; omega)
        replace G3 := hC.keep G3 (by simp; omega)
        have l3'' := heap_lt G3
        obtain ⟨g2, gf2⟩ := cellsK G2
        obtain ⟨g3, gf3⟩ := cellsK G3
        clear hC hr1
        go_wp2_with fail
        · obtain ⟨oi, ob, hob⟩ : ∃ oi ob, openB s.flash = (oi, ob) := ⟨_, _, rfl⟩
          have hop : Calls Try.prog 62 #[c.fv s0] w4 (Ret w4 (.tuple #[.int .i64 oi, .bool ob])) := by
            have := l3Open_c (c.fv s) s.flash w4 OS.fl (by have := HB0.out.1; have := HE.out.1; omega) (fun b hb => by have := HP4.out b hb; omega)
            rw [hob, q1] at this; exact this
          refine hop.mono ?_; rintro e5 w5 ⟨rfl, hx5⟩
          replace C := C.trans (Chg.of_ext hx5)
          replace OS := OS.ext hx5
          replace HK := HK.ext hx5
          replace G2 := keep_ext hx5 G2
          replace G3 := keep_ext hx5 G3
          have l35 := heap_lt G3
          clear g2 gf2 g3 gf3 hx5 hop hob
          obtain ⟨g2, gf2⟩ := cellsK G2
          obtain ⟨g3, gf3⟩ := cellsK G3
          cases ob
          · go_wp2_with fail
            have HK3 : Rk w5 R K := HK.less (by omega)
            refine bodyPost_ret (v := .agg #[c.fv s0, c.dv s0]) (by simp [results, Try.results42, go_sem, g2, gf2, g3, gf3]) rfl (hfin _ (by ((repeat (first | with_reducible (refine Chg.set2 ?_ ?_); focus (exact Or.inr (by dsimp only; omega)) | with_reducible refine Chg.alloc2 ?_)); with_reducible exact C)) (by ((repeat (first | (with_reducible apply OwnS.set2; focus (exact HNB.out _ (by dsimp only; omega))) | with_reducible apply OwnS.alloc2)); with_reducible exact OS)) (by ((repeat (first | (with_reducible apply Rk.set2; focus (dsimp only; omega)) | with_reducible apply Rk.alloc2)); with_reducible exact HK3))).out
          · have hn3 : w1.heap.size ≠ R := by omega
            have HK8 : Rk w5 R (K + 3 * m + 1 + 1) := HK
            have HOS := Lib.hid OS
            clear OS HK
            go_wp2_with fail
            refine wp_region_rd HK8 [2, 5] [0, 1, 4, 2, 3, 5, 6] [] [7, 8] (by kernel_rfl) (by kernel_rfl) ?late ?_
            case late => exact fun f hf => absurd hf List.not_mem_nil
            refine Rob.y (v := ?_) rfl rfl (fun w1 hx hH => ?_) ?_; rotate_left
            · (obtain ⟨hcx, hfx⟩ := chgcell hx); go_simp; first | done | rfl
            simp only [Act.put, List.setIfInBounds_toArray, List.set_cons_succ, List.set_cons_zero]
            iterate 2
              refine Rob.y (v := ?_) rfl rfl (fun w1 hx hH => ?_) ?_; rotate_left
              · go_simp; first | done | rfl | exact (Bool.not_not _).symm
              simp only [Act.put, List.setIfInBounds_toArray, List.set_cons_succ, List.set_cons_zero]
            refine Rob.pick (m := 6) rfl rfl rfl (by omega) (fun _ _ h hx => h.trans hx) (fun w1 hx HK hH => ?_) (fun lo2 hi2 r2 hrl2 hru2 hlo2 hhi2 => ?_)
            · unfold RunTo; go_simp; exact (pick_k R _ _ HK).mono fun e w' h => h.run
            simp only [Act.put, List.setIfInBounds_toArray, List.set_cons_succ, List.set_cons_zero]
            refine Rob.y (v := ?_) rfl rfl (fun w1 hx hH => ?_) ?_; rotate_left
            · go_simp; first | done | rfl | exact (Bool.not_not _).symm
            simp only [Act.put, List.setIfInBounds_toArray, List.set_cons_succ, List.set_cons_zero]
            refine Rob.pick (m := 10) rfl rfl rfl (by omega) (fun _ _ h hx => h.trans hx) (fun w1 hx HK hH => ?_) (fun lo5 hi5 r5 hrl5 hru5 hlo5 hhi5 => ?_)
            · unfold RunTo; go_simp; exact (pick_k R _ _ HK).mono fun e w' h => h.run
            simp only [Act.put, List.setIfInBounds_toArray, List.set_cons_succ, List.set_cons_zero]
            refine Rob.y (v := ?_) rfl rfl (fun w1 hx hH => ?_) ?_; rotate_left
            · go_simp; first | done | rfl | exact (Bool.not_not _).symm
            simp only [Act.put, List.setIfInBounds_toArray, List.set_cons_succ, List.set_cons_zero]
            refine fin_tailC (fun w6 hx6 HK6 _ => ?_)
            simp only [dstOf, List.getElem?_cons_succ, List.getElem?_cons_zero, Option.bind_some, Act.put, List.setIfInBounds_toArray, List.set_cons_succ, List.set_cons_zero, List.filterMap_cons, List.filterMap_nil]
            have hb2 : r2 < 6 := hru2 (by omega)
            have hb5 : r5 < 10 := hru5 (by omega)
            have C6 := C.trans hx6
            have OS6 := HOS.out.chg hx6 HRL.out
            replace G2 := hx6.keep G2 (by simp; omega)
            replace G3 := hx6.keep G3 (by simp; omega)
            clear hru2 hru5
            go_wp2_with fail
            refine (l21Do_v c s s0 ⟨1, 1 + r2, r5, 9, false⟩ _ OS6 HPs.out HE.out).mono ?_; rintro e7 w7 ⟨rfl, hC7, hO7⟩
            have C7 := C6.then_new hC7 (fun b hb => by have := HLB.out b hb; omega)
            replace G2 := hC7.keep G2 (fun hm => by have := HLB.out _ hm; omega)
            replace G3 := hC7.keep G3 (fun hm => by have := HLB.out _ hm; omega)
            have HK7 := HK6.chg hC7 (fun b hb => by have := HLB.out b hb; omega)
            obtain ⟨hl1, hl2⟩ := playDoS_len s ⟨1, 1 + r2, r5, 9, false⟩
            have HPn := Lib.hid (HPs.out.play ⟨1, 1 + r2, r5, 9, false⟩)
            have l37 := heap_lt G3
            clear g2 gf2 g3 gf3 hC7
            obtain ⟨g3, gf3⟩ := cellsK G3
            generalize playDoS s ⟨1, 1 + r2, r5, 9, false⟩ = s2 at *
            go_wp2_with fail
            refine ⟨⟨n + 1, s2, by go_num, by omega, (by ((repeat (first | with_reducible (refine Chg.set2 ?_ ?_); focus (exact Or.inr (by dsimp only; omega)) | with_reducible refine Chg.alloc2 ?_)); with_reducible exact C7)), (by ((repeat (first | (with_reducible apply OwnS.set2; focus (exact HNB.out _ (by dsimp only; omega))) | with_reducible apply OwnS.alloc2)); with_reducible exact hO7)), Lib.hid ⟨hl1.trans HE.out.1, hl2.trans HE.out.2⟩, Lib.hid fun b hb => by rw [HPn.out.shape.pages b hb]; omega, Rk.less (by ((repeat (first | (with_reducible apply Rk.set2; focus (dsimp only; omega)) | with_reducible apply Rk.alloc2)); with_reducible exact HK7)) (by omega), (by (repeat (first | with_reducible apply hg_here | (with_reducible apply hg_set; focus (dsimp only; omega)) | with_reducible apply hg_alloc)); with_reducible exact G2), hgo (by (repeat (first | with_reducible apply hg_here | (with_reducible apply hg_set; focus (dsimp only; omega)) | with_reducible apply hg_alloc)); with_reducible exact G3) ?_⟩, by simp [intOf]; omega⟩
            simp
        · have HK3 : Rk w4 R K := HK.less (by omega)
          refine bodyPost_ret (v := .agg #[c.fv s0, c.dv s0]) (by simp [results, Try.results42, go_sem, g2, gf2, g3, gf3]) rfl (hfin _ (by ((repeat (first | with_reducible (refine Chg.set2 ?_ ?_); focus (exact Or.inr (by dsimp only; omega)) | with_reducible refine Chg.alloc2 ?_)); with_reducible exact C)) (by ((repeat (first | (with_reducible apply OwnS.set2; focus (exact HNB.out _ (by dsimp only; omega))) | with_reducible apply OwnS.alloc2)); with_reducible exact OS)) (by ((repeat (first | (with_reducible apply Rk.set2; focus (dsimp only; omega)) | with_reducible apply Rk.alloc2)); with_reducible exact HK3))).out
    · obtain rfl : n = 12 := by omega
      clear HSO
      go_wp2_with fail
      have HK3 : Rk wr R K := HK.less (by omega)
      refine bodyPost_ret (v := .agg #[c.fv s0, c.dv s0]) (by simp [results, Try.results42, go_sem, g2, gf2, g3, gf3]) rfl (hfin _ (by ((repeat (first | with_reducible (refine Chg.set2 ?_ ?_); focus (exact Or.inr (by dsimp only; omega)) | with_reducible refine Chg.alloc2 ?_)); with_reducible exact C)) (by ((repeat (first | (with_reducible apply OwnS.set2; focus (exact HNB.out _ (by dsimp only; omega))) | with_reducible apply OwnS.alloc2)); with_reducible exact OS)) (by ((repeat (first | (with_reducible apply Rk.set2; focus (dsimp only; omega)) | with_reducible apply Rk.alloc2)); with_reducible exact HK3))).out
end Go.Bu
