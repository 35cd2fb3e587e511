/- Drawn flashes and stores. -/
import Derived.Test.YtcgedfahgldkoaaDraw5
set_option linter.unusedVariables false
set_option linter.unusedSimpArgs false
namespace Go.Bu
open Go Go.RowKit Go.Plan Go.Proofs

/-! ### parts of a flash -/
theorem OwnAt.tail {α : Type} {n : Nat} {enc : α → List Value} {T : TypeId} {w : World} {B o : Nat} {xs : List α} (h : OwnAt n enc T w B o xs) : OwnAt n enc T w B (o + n) xs.tail := by
  obtain ⟨c, hc, hi⟩ := h
  refine ⟨c, hc, fun i x hx j u hu => ?_⟩
  rw [List.getElem?_tail] at hx
  have := hi (i + 1) x hx j u hu
  rw [Nat.succ_mul] at this
  rw [show o + n + i * n + j = o + (i * n + n) + j by omega]; exact this
def SC.tl (c : SC) : SC := ⟨⟨c.F.b, c.F.o + 2, c.F.cap, c.F.T⟩, c.ps.tail, c.D⟩
theorem rowsOf_tail (f : List Block) (ps : List At) : rowsOf f.tail ps.tail = (rowsOf f ps).tail := by cases f <;> cases ps <;> simp [rowsOf]
theorem FlashAt.tail {c : SC} {w : World} {f : List Block} (h : FlashAt c w f) : FlashAt c.tl w f.tail := by
  refine ⟨?_, by simp [SC.tl, h.len], fun i x p hx hp => h.pages (i + 1) x p (by rw [← List.getElem?_tail]; exact hx) (by rw [← List.getElem?_tail]; exact hp)⟩
  show OwnAt 2 rowC _ w _ _ (rowsOf f.tail c.ps.tail)
  rw [rowsOf_tail]; exact h.row.tail
theorem SC.tl_sub (c : SC) : List.Sublist c.tl.fl c.fl := ((List.tail_sublist _).map _).cons_cons _
def SC.cut (c : SC) (k : Nat) (p : At) : SC := ⟨c.F, c.ps.set k ⟨p.b, p.o + 5, p.cap, p.T⟩, c.D⟩
theorem SC.cut_fl {c : SC} {k : Nat} {p : At} (hp : c.ps[k]? = some p) : (c.cut k p).fl = c.fl := by
  unfold SC.fl SC.cut
  congr 1
  apply List.ext_getElem?
  intro j
  rw [List.getElem?_map, List.getElem?_map, List.getElem?_set]
  by_cases hkj : k = j
  · subst hkj; rw [if_pos rfl, hp, if_pos (List.getElem?_eq_some_iff.1 hp).1]; rfl
  · rw [if_neg hkj]
theorem zipWith_set2 {f : List Block} {ps : List At} {i : Nat} {x : Block} {p : At} (h : ps.length = f.length) : rowsOf (f.set i x) (ps.set i p) = (rowsOf f ps).set i (rowOf x p) := by
  unfold rowsOf
  apply List.ext_getElem?
  intro j
  rw [List.getElem?_zipWith, List.getElem?_set, List.getElem?_set, List.getElem?_set, List.getElem?_zipWith]
  by_cases hij : i = j
  · subst hij
    rw [if_pos rfl, if_pos rfl, if_pos rfl]
    by_cases hf : i < f.length
    · rw [if_pos hf, if_pos (by omega), if_pos (by rw [List.length_zipWith]; omega)]
    · rw [if_neg hf, if_neg (by omega), if_neg (by rw [List.length_zipWith]; omega)]
  · rw [if_neg hij, if_neg hij, if_neg hij]
theorem FlashAt.cut {c : SC} {w : World} {f : List Block} (h : FlashAt c w f) (hnd : c.fl.Nodup) {k : Nat} {p : At} {x : Block} (hx : f[k]? = some x) (hp : c.ps[k]? = some p) :
    FlashAt (c.cut k p) (w.setCell ⟨c.F.b, c.F.o + k * 2, none⟩ ((⟨p.b, p.o + 5, p.cap, p.T⟩ : At).v (x.pages.length - 1))) (f.set k ⟨x.pages.tail, x.worn⟩) := by
  obtain ⟨hk, rfl⟩ := List.getElem?_eq_some_iff.1 hx
  have hrl : k < (rowsOf f c.ps).length := by rw [rowsOf_len h.len]; exact hk
  have hget : (rowsOf f c.ps)[k] = rowOf f[k] p := by
    have := rowsOf_get (List.getElem?_eq_getElem hk) hp
    rw [List.getElem?_eq_getElem hrl] at this; exact Option.some.inj this
  refine ⟨?_, by simp [SC.cut, h.len], fun j y q hy hq => ?_⟩
  · show OwnAt 2 rowC _ _ _ _ (rowsOf (f.set k _) (c.ps.set k _))
    rw [zipWith_set2 h.len]
    exact OwnAt.set1 (n := 2) (enc := rowC) (fun _ => rfl) h.row hrl (j := 0) (by omega) _ _ (by rw [hget]; simp [rowOf])
  · replace hq : (c.ps.set k (⟨p.b, p.o + 5, p.cap, p.T⟩ : At))[j]? = some q := hq
    rw [List.getElem?_set] at hy hq
    by_cases hkj : k = j
    · subst hkj
      rw [if_pos rfl, if_pos hk] at hy
      rw [if_pos rfl, if_pos (by rw [h.len]; exact hk)] at hq
      obtain rfl := Option.some.inj hy; obtain rfl := Option.some.inj hq
      exact (h.pages k f[k] p (List.getElem?_eq_getElem hk) hp).tail.keep (Below.heap_setCell _ _ _ _ (SC.F_ne hnd hp))
    · rw [if_neg hkj] at hy hq
      exact (h.pages j y q hy hq).keep (Below.heap_setCell _ _ _ _ (SC.F_ne hnd hq))

/-- what a drawn flash is -/
def FlashΦ (w : World) (v : Value) (w' : World) : Prop := ∃ (c : SC) (f : List Block), v = c.F.v f.length ∧ FlashAt c w' f ∧ c.fl.Nodup ∧ (∀ b ∈ c.fl, w.heap.size ≤ b) ∧ f.length ≤ 4 ∧ ∀ b ∈ f, b.pages.length ≤ 4

set_option maxRecDepth 20000 in
set_option maxHeartbeats 4000000 in
theorem l71Flash_c (R K : Nat) (w : World) (h : Rk w R (K + 20 + 1 + 57 * 7)) :
    Calls Try.prog 80 #[.pointer (some ⟨R, 0, none⟩)] w (DrawV R K w (FlashΦ w)) := by
  have hR := h.lt
  have HK := h; clear h
  have C := Chg.refl [R] w
  go_enter Try.func80, Try.ntmps80
  go_wp2_with fail
  refine (l71Play_c R (K + 20) _ HK).mono ?_; rintro e1 w1 ⟨v1, rfl, C1, HK1, c, s, ev, es, H0, rfl, hO, hP, hL, hH, hrow, hD, hel⟩
  obtain ⟨ea, ecap, rfl⟩ := hrow.form
  have hsh := hP.shape
  have hnd := SC.fl_nd hO.nd
  have HND := Lib.hid hnd
  have FA := hO.flash
  have HL := Lib.hid hL
  have HRF : Hid (∀ b ∈ c.fl, b ∉ [R]) := Lib.hid fun b hb => by have := hL b (fl_L b hb); simp; omega
  have HNF : Hid (∀ b, w1.heap.size ≤ b → b ∉ c.fl) := Lib.hid fun b hb hm => by have := FA.lt b hm; omega
  have HSH := Lib.hid hsh
  replace HK := HK1
  replace C := C1
  have hsz := C1.size
  have hf4 := hsh.flash
  have H4 : Hid (∀ b ∈ s.flash, b.pages.length = 4) := Lib.hid hsh.pages
  have HFL : Hid (∀ b ∈ c.fl, w.heap.size ≤ b) := Lib.hid fun b hb => (HL.out b (fl_L b hb)).1
  have hFb := HL.out _ (fl_L _ (show c.F.b ∈ c.fl by simp [SC.fl]))
  have hFlt := FA.lt _ (show c.F.b ∈ c.fl by simp [SC.fl])
  have hfv : c.fv s = c.F.v 4 := by unfold SC.fv; rw [hf4]
  rw [hfv]
  obtain ⟨da, dn, dc, hdv⟩ : ∃ a n k, c.dv s = .slice a n k := ⟨_, _, _, rfl⟩
  rw [hdv]
  clear hfv hdv
  generalize s.flash = f at *
  clear hsh hO hP hL hH hrow hD hel HK1 C1 hnd
  have HF4 := Lib.hid hf4
  clear hf4
  go_wp2_with fail
  refine (pick_k R 20 _ (by ((repeat (first | (with_reducible apply Rk.set2; focus (dsimp only; omega)) | with_reducible apply Rk.alloc2)); with_reducible exact HK))).mono ?_; rintro e2 w2 ⟨r, rfl, hr0, hr1, hC, HK1⟩
  replace C := C.then_sets hC (by ((repeat (first | with_reducible (refine Chg.set2 ?_ ?_); focus (exact Or.inr (by dsimp only; omega)) | with_reducible refine Chg.alloc2 ?_)); with_reducible exact C))
  replace HK := HK1; clear HK1
  have G4 := hC.keep (hg_new (b := w1.heap.size) rfl) (by simp; omega)
  replace FA := FlashAt.chg (by ((repeat (first | (with_reducible apply FlashAt.set2; focus (exact HNF.out _ (by dsimp only; omega))) | with_reducible apply FlashAt.alloc2)); with_reducible exact FA)) hC HRF.out
  have l4 := heap_lt G4
  obtain ⟨g4, gf4⟩ := cellsK G4
  clear hC
  go_wp2_with fail
  · clear hr1
    refine wp_region_rd HK [4, 9, 11, 13] [0, 1, 2, 3, 8, 10, 12, 4, 5, 6, 7, 9, 11, 13, 14, 15] [] [16] (by kernel_rfl) (by kernel_rfl) ?late ?_
    case late => exact fun f hf => absurd hf List.not_mem_nil
    iterate 7
      refine Rob.y (v := ?_) rfl rfl (fun w1 hx hH => ?_) ?_; rotate_left
      · go_simp; first | done | rfl | exact (Bool.not_not _).symm
      simp only [Act.put, List.setIfInBounds_toArray, List.set_cons_succ, List.set_cons_zero]
    refine Rob.pick (m := 4) rfl rfl rfl (by omega) (fun _ _ h hx => h.trans hx) (fun w1 hx HK hH => ?_) (fun lo4 hi4 r4 hrl4 hru4 hlo4 hhi4 => ?_)
    · unfold RunTo; go_simp; exact (pick_k R _ _ HK).mono fun e w' h => h.run
    simp only [Act.put, List.setIfInBounds_toArray, List.set_cons_succ, List.set_cons_zero]
    obtain ⟨i, rfl⟩ : ∃ i : Nat, r4 = i := ⟨r4.toNat, by omega⟩
    have hiI : (i : Int) < 4 := hru4 (by omega)
    have hI : i < f.length := by have := HF4.out; omega
    obtain ⟨p, hp⟩ : ∃ p, c.ps[i]? = some p := ⟨_, List.getElem?_eq_getElem (by rw [FA.len]; exact hI)⟩
    obtain ⟨x, hX⟩ : ∃ x, f[i]? = some x := ⟨_, List.getElem?_eq_getElem hI⟩
    have hpx := H4.out x (List.mem_of_getElem? hX)
    obtain ⟨q1, q2⟩ := FA.two' hX hp
    rw [hpx] at q1
    have hF1 : c.F.b < w2.heap.size := FA.lt _ (by simp [SC.fl])
    have hF2 : c.F.b ≠ R := by omega
    refine Rob.y (v := ?_) rfl rfl (fun w1 hx hH => ?_) ?_; rotate_left
    · (obtain ⟨hcx, hfx⟩ := chgcell hx); go_simp; first | done | rfl
    simp only [Act.put, List.setIfInBounds_toArray, List.set_cons_succ, List.set_cons_zero]
    refine Rob.y (v := ?_) rfl rfl (fun w1 hx hH => ?_) ?_; rotate_left
    · go_simp; first | done | rfl | exact (Bool.not_not _).symm
    simp only [Act.put, List.setIfInBounds_toArray, List.set_cons_succ, List.set_cons_zero]
    refine Rob.y (v := ?_) rfl rfl (fun w1 hx hH => ?_) ?_; rotate_left
    · (obtain ⟨hcx, hfx⟩ := chgcell hx); go_simp; first | done | rfl
    simp only [Act.put, List.setIfInBounds_toArray, List.set_cons_succ, List.set_cons_zero]
    refine Rob.pick (m := 4) rfl rfl rfl (by omega) (fun _ _ h hx => h.trans hx) (fun w1 hx HK hH => ?_) (fun lo9 hi9 r9 hrl9 hru9 hlo9 hhi9 => ?_)
    · unfold RunTo; go_simp; exact (pick_k R _ _ HK).mono fun e w' h => h.run
    simp only [Act.put, List.setIfInBounds_toArray, List.set_cons_succ, List.set_cons_zero]
    obtain ⟨k, rfl⟩ : ∃ k : Nat, r9 = k := ⟨r9.toNat, by omega⟩
    have hkI : (k : Int) < 4 := hru9 (by omega)
    refine Rob.pick (m := 4) rfl rfl rfl (by omega) (fun _ _ h hx => h.trans hx) (fun w1 hx HK hH => ?_) (fun lo11 hi11 r11 hrl11 hru11 hlo11 hhi11 => ?_)
    · unfold RunTo; go_simp; exact (pick_k R _ _ HK).mono fun e w' h => h.run
    simp only [Act.put, List.setIfInBounds_toArray, List.set_cons_succ, List.set_cons_zero]
    refine Rob.draw0 (K := K + 10) (fun v => ∃ r, v = recA r) rfl rfl rfl (by omega) (fun _ _ h hx => h.trans hx) (fun w1 hx HK hH => ?_) (fun lo13 hi13 v13 hv13 hlo13 hhi13 => ?_)
    · unfold RunTo; go_simp; exact (l71Rec_c R _ _ HK).mono fun e w' h => h.run
    simp only [Act.put, List.setIfInBounds_toArray, List.set_cons_succ, List.set_cons_zero]
    obtain ⟨rr, rfl⟩ := hv13
    refine Rob.y (v := ?_) rfl rfl (fun w1 hx hH => ?_) ?_; rotate_left
    · go_simp; first | done | rfl | exact (Bool.not_not _).symm
    simp only [Act.put, List.setIfInBounds_toArray, List.set_cons_succ, List.set_cons_zero]
    refine Rob.y (v := ?_) rfl rfl (fun w1 hx hH => ?_) ?_; rotate_left
    · (obtain ⟨hcx, hfx⟩ := chgcell hx); go_simp; first | done | rfl
    simp only [Act.put, List.setIfInBounds_toArray, List.set_cons_succ, List.set_cons_zero]
    refine fin_tailC (fun w3 hx3 HK3 _ => ?_)
    simp only [dstOf, List.getElem?_cons_succ, List.getElem?_cons_zero, Option.bind_some, Act.put, List.setIfInBounds_toArray, List.set_cons_succ, List.set_cons_zero, List.filterMap_cons, List.filterMap_nil]
    have FA3 := FlashAt.chg FA hx3 HRF.out
    have hpl : p.b ∈ c.fl := List.mem_cons_of_mem _ (List.mem_map.2 ⟨p, List.mem_of_getElem? hp, rfl⟩)
    have hkl : k < x.pages.length := by rw [hpx]; omega
    have hth := FA3.there hX hp hkl
    have hF := FA3.page' HND.out hX hp hkl ⟨r11, rr⟩
    have hC := setAll_chg (L := c.fl) (o := p.o + k * 5) (Chg.refl _ w3) hpl (pageC ⟨r11, rr⟩)
    have C3 := (C.trans hx3).then_new hC HFL.out
    have HK4 := HK3.chg hC (fun b hb => by have := HFL.out b hb; omega)
    have HF := Lib.hid hF; have HC3 := Lib.hid C3; clear hF hC C3
    refine wpList_store_mid rfl 115 _ _ rfl p.b (p.o + k * 5) (pageC ⟨r11, rr⟩).toArray rfl rfl hth (by kernel_rfl) (by simp [Value.oneCell']) ?_
    refine wpList_nil ?_
    change Exit.inBlock _ _ _ _ (setAll w3 p.b (p.o + k * 5) (pageC ⟨r11, rr⟩))
    generalize setAll w3 p.b (p.o + k * 5) (pageC ⟨r11, rr⟩) = w4 at *
    go_wp2_with fail
    refine bodyPost_ret (v := c.F.v 4) (by simp [results, Try.results80, go_sem]) rfl ⟨_, rfl, HC3.out, HK4.less (by omega), c, _, by rw [List.length_set, HF4.out], HF.out, HND.out, HFL.out, by rw [List.length_set, HF4.out]; omega, fun b hb => ?_⟩
    rcases List.mem_or_eq_of_mem_set hb with hb | rfl
    · rw [H4.out b hb]; omega
    · simp [hpx]
  · refine (pick_k R 4 _ HK).mono ?_; rintro e3 w3 ⟨r3, rfl, a3, b3, hC, HK1⟩
    replace C := C.trans hC
    replace HK := HK1; clear HK1
    replace FA := FlashAt.chg FA hC HRF.out
    obtain ⟨i, rfl⟩ : ∃ i : Nat, r3 = i := ⟨r3.toNat, by omega⟩
    have hiI : (i : Int) < 4 := b3 (by omega)
    have hI : i < f.length := by have := HF4.out; omega
    obtain ⟨p, hp⟩ : ∃ p, c.ps[i]? = some p := ⟨_, List.getElem?_eq_getElem (by rw [FA.len]; exact hI)⟩
    have l3 := hC.size
    clear hC hr1
    go_wp2_with ((go_at_call 43; ((with_reducible refine (pick_k R 3 _ (by ((repeat (first | (with_reducible apply Rk.set2; focus (dsimp only; omega)) | with_reducible apply Rk.alloc2)); with_reducible exact HK))).mono ?_)); rintro e1 w1 ⟨r, rfl, hr0, hr1, hC, HK1⟩; replace C := C.then_sets hC (by ((repeat (first | with_reducible (refine Chg.set2 ?_ ?_); focus (exact Or.inr (by dsimp only; omega)) | with_reducible refine Chg.alloc2 ?_)); with_reducible exact C)); replace HK := HK1; clear HK1; have G5 := hC.keep (b := w3.heap.size) (hg_new (by simp)) (by simp; omega); (try clear g5 gf5); obtain ⟨g5, gf5⟩ := cellsK G5; have l5 := heap_lt G5; replace FA := FlashAt.chg (by ((repeat (first | (with_reducible apply FlashAt.set2; focus (exact HNF.out _ (by dsimp only; omega))) | with_reducible apply FlashAt.alloc2)); with_reducible exact FA)) hC HRF.out; clear hC); obtain ⟨q1, q2⟩ := FA.two hI hp; have q3 := FA.row.frozen; rcases (show r = 0 ∨ r = 1 ∨ r = 2 by have := hr1 (by omega); omega) with rfl | rfl | rfl)
    all_goals
      refine bodyPost_ret (v := c.F.v 4) (by simp [results, Try.results80, go_sem]) rfl ⟨_, rfl, (by ((repeat (first | with_reducible (refine Chg.set2 ?_ ?_); focus (exact Or.inr (by dsimp only; omega)) | with_reducible refine Chg.alloc2 ?_)); with_reducible exact C)), Rk.less (by ((repeat (first | (with_reducible apply Rk.set2; focus (dsimp only; omega)) | with_reducible apply Rk.alloc2)); with_reducible exact HK)) (by omega), c, f.set i ⟨f[i].pages, _⟩, by rw [List.length_set, HF4.out], FA.worn HND.out hI hp _, HND.out, HFL.out, by rw [List.length_set, HF4.out]; omega, fun b hb => ?_⟩
      rcases List.mem_or_eq_of_mem_set hb with hb | rfl
      · rw [H4.out b hb]; omega
      · exact Nat.le_of_eq (H4.out f[i] (List.getElem_mem _))
  · refine bodyPost_ret (v := c.tl.F.v 3) ?_ rfl ⟨_, rfl, C, HK.less (by omega), c.tl, f.tail, by rw [List.length_tail, HF4.out], FA.tail, HND.out.sublist c.tl_sub, fun b hb => HFL.out b (c.tl_sub.subset hb), by rw [List.length_tail, HF4.out]; omega, fun b hb => by rw [H4.out b (List.mem_of_mem_tail hb)]; omega⟩
    simp [results, Try.results80, go_sem, SC.tl]
  · refine (pick_k R 4 _ HK).mono ?_; rintro e3 w3 ⟨r3, rfl, a3, b3, hC, HK1⟩
    replace C := C.trans hC
    replace HK := HK1; clear HK1
    replace FA := FlashAt.chg FA hC HRF.out
    obtain ⟨i, rfl⟩ : ∃ i : Nat, r3 = i := ⟨r3.toNat, by omega⟩
    have hiI : (i : Int) < 4 := b3 (by omega)
    have hI : i < f.length := by have := HF4.out; omega
    obtain ⟨p, hp⟩ : ∃ p, c.ps[i]? = some p := ⟨_, List.getElem?_eq_getElem (by rw [FA.len]; exact hI)⟩
    obtain ⟨x, hX⟩ : ∃ x, f[i]? = some x := ⟨_, List.getElem?_eq_getElem hI⟩
    have hpx := H4.out x (List.mem_of_getElem? hX)
    obtain ⟨q1, q2⟩ := FA.two' hX hp
    rw [hpx] at q1
    have q3 := FA.row.frozen
    have l3 := hC.size
    clear hC hr1
    go_wp2_with fail
    have hcut := FA.cut HND.out hX hp
    rw [hpx] at hcut
    refine bodyPost_ret (v := c.F.v 4) (by simp [results, Try.results80, go_sem]) rfl ⟨_, rfl, (by ((repeat (first | with_reducible (refine Chg.set2 ?_ ?_); focus (exact Or.inr (by dsimp only; omega)) | with_reducible refine Chg.alloc2 ?_)); with_reducible exact C)), Rk.less (by ((repeat (first | (with_reducible apply Rk.set2; focus (dsimp only; omega)) | with_reducible apply Rk.alloc2)); with_reducible exact HK)) (by omega), c.cut i p, f.set i ⟨x.pages.tail, x.worn⟩, by rw [List.length_set, HF4.out]; rfl, ?_, by rw [SC.cut_fl hp]; exact HND.out, by rw [SC.cut_fl hp]; exact HFL.out, by rw [List.length_set, HF4.out]; omega, fun b hb => ?_⟩
    · exact hcut
    · rcases List.mem_or_eq_of_mem_set hb with hb | rfl
      · rw [H4.out b hb]; omega
      · simp [hpx]
  · refine bodyPost_ret (v := c.F.v 4) (by simp [results, Try.results80, go_sem]) rfl ⟨_, rfl, C, HK.less (by omega), c, f, by rw [HF4.out], FA, HND.out, HFL.out, by rw [HF4.out]; omega, fun b hb => by rw [H4.out b hb]; omega⟩
end Go.Bu
