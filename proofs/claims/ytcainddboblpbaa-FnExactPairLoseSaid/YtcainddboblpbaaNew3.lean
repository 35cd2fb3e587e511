/- New stores and pairs of both sides. -/
import Derived.Test.YtcainddboblpbaaNew2
set_option linter.unusedVariables false
set_option linter.unusedSimpArgs false
namespace Go.Bu
open Go Go.RowKit Go.Plan Go.Proofs

/-- a flash made by a call: its blocks lie between lo and hi -/
def FlashP (lo hi : Nat) (v : Value) (w : World) : Prop := ∃ B bs, OwnFlash w v newFlash B bs ∧ (B :: bs).Nodup ∧ ∀ b ∈ B :: bs, lo ≤ b ∧ b < hi
theorem FlashP.ext {lo hi : Nat} {v : Value} {w w' : World} (h : FlashP lo hi v w) (hx : Ext w w') : FlashP lo hi v w' := by
  obtain ⟨B, bs, h1, h2, h3⟩ := h; exact ⟨B, bs, h1.ext hx, h2, h3⟩

theorem FlashP.form {lo hi : Nat} {v : Value} {w : World} (h : FlashP lo hi v w) : ∃ a cap, v = .slice a 4 cap := by
  obtain ⟨B, bs, ⟨rows, ⟨T, o, cap, hv, _⟩, hr, _⟩, _⟩ := h; exact ⟨_, _, by rw [hv, hr]; rfl⟩

theorem cells2 {w : World} {B T : Nat} {c0 c1 : Value} (h : w.heap[B]? = some (.cells #[c0, c1] T (0, 0))) : w.cell? ⟨B, 0, none⟩ = some c0 ∧ w.cell? ⟨B, 1, none⟩ = some c1 ∧ ∀ j, w.frozen? ⟨B, j, none⟩ = false :=
  ⟨by rw [cell_block h]; rfl, by rw [cell_block h]; rfl, frozen_block h⟩

def FlashNews (w : World) (e : Ending) (w' : World) : Prop := ∃ v, e = .returned v ∧ RetC w FlashP v w'
theorem FlashNews.to {w w' : World} {e : Ending} (h : FlashNews w e w') : ∃ v, e = .returned v ∧ RetC w FlashP v w' := h

theorem specFlashNews (w : World) : Calls Try.prog 62 #[] w (FlashNews w) :=
  (specFlashNew_c w).mono fun e w' ⟨v, B, bs, he, hx, ho, hn, hb⟩ => ⟨v, he, hx, B, bs, ho, hn, fun b hm => ⟨hb b hm, ho.lt b hm⟩⟩
theorem implFlashNews (w : World) : Calls Try.prog 66 #[] w (FlashNews w) :=
  (implFlashNew_c w).mono fun e w' ⟨v, B, bs, he, hx, ho, hn, hb⟩ => ⟨v, he, hx, B, bs, ho, hn, fun b hm => ⟨hb b hm, ho.lt b hm⟩⟩

/-- six noughts that a make has laid -/
theorem OwnV.six {w : World} {B T : Nat} (h : w.heap[B]? = some (.cells #[.int .i64 0, .int .i64 0, .int .i64 0, .int .i64 0, .int .i64 0, .int .i64 0] T (0, 0))) : OwnInts w (.slice (some ⟨B, 0, none⟩) 6 6) newStore.disk B := by
  refine ⟨T, 0, 0, rfl, _, h, fun i x hx j u hu => ?_⟩
  have hi : i < 6 := (List.getElem?_eq_some_iff.1 hx).1
  have hj : j < 1 := (List.getElem?_eq_some_iff.1 hu).1
  obtain rfl : j = 0 := by omega
  rcases (show i = 0 ∨ i = 1 ∨ i = 2 ∨ i = 3 ∨ i = 4 ∨ i = 5 by omega) with rfl | rfl | rfl | rfl | rfl | rfl <;> (simp [newStore] at hx; subst hx; simp at hu; subst hu; rfl)

def StoreNews (w : World) (e : Ending) (w' : World) : Prop := ∃ f d L, e = .returned (.agg #[f, d]) ∧ Ext w w' ∧ OwnStore w' f d newStore L ∧ L.Nodup ∧ ∀ b ∈ L, w.heap.size ≤ b

set_option maxHeartbeats 1000000 in
theorem specStoreNew_c (w : World) : Calls Try.prog 38 #[] w (StoreNews w) := by
  have hmk : ∀ w : World, (Instr.makeSlice 23 (.int .i64 6) (.int .i64 6)).run Try.prog w = .ok (.slice (some ⟨w.heap.size, 0, none⟩) 6 6) (w.alloc (.cells #[.int .i64 0, .int .i64 0, .int .i64 0, .int .i64 0, .int .i64 0, .int .i64 0] 3)) := fun w => by kernel_rfl
  go_enter Try.func38, Try.ntmps38
  go_wp2_with fail
  refine wp_region_ext [0] [0] [(1, .cells #[.int .i64 0, .int .i64 0, .int .i64 0, .int .i64 0, .int .i64 0, .int .i64 0] 3, fun b => .slice (some ⟨b, 0, none⟩) 6 6)] [2, 3] (by kernel_rfl) (by kernel_rfl) ?late ?_
  case late =>
    intro f hf
    obtain rfl := List.mem_singleton.1 hf
    refine ⟨_, rfl, fun a w => ?_⟩
    go_simp
  refine Rob.c (FlashP) rfl rfl rfl (fun _ _ => ext_trans) (fun _ _ _ _ _ => fun h hx => h.ext hx) (fun w1 hx hH => ?_) (fun lo0 hi0 v0 hlo0 hhi0 hv0 => ?_)
  · unfold RunTo; go_simp; exact (specFlashNews _).mono fun e w' h => h.to
  simp only [Act.put, List.setIfInBounds_toArray, List.set_cons_succ, List.set_cons_zero]
  refine fin_one (fun w1 b hS hH hb hlt ho hout => ?_)
  simp only [dstOf, List.getElem?_cons_succ, List.getElem?_cons_zero, Option.bind_some, Act.put, List.setIfInBounds_toArray, List.set_cons_succ, List.set_cons_zero, List.filterMap_cons, List.filterMap_nil]
  obtain ⟨hx1, hP⟩ := hS
  obtain ⟨a, cap, rfl⟩ := hP.form
  have G0 := keep_ext hx1 (alloc_get_new rfl)
  obtain ⟨c0, c1, cf⟩ := cells2 G0
  have hlo : w.heap.size < lo0 := by simp at hlo0; omega
  have hbw : w.heap.size < b := by simp at hb; omega
  have HD := Lib.hid (OwnV.six ho); have HP := Lib.hid hP
  have HO := Lib.hid hout
  have X1 : Ext w w1 := ext_trans (ext_alloc (ext_refl _) _) hx1
  clear hmk hv0 hP ho hout G0
  refine wpList_plain rfl (fun K hK => ?_)
  go_simp
  refine hK _ _ ?_
  clear hK K
  refine wpList_plain rfl (fun K hK => ?_)
  go_simp
  refine hK _ _ ?_
  clear hK K
  refine wpList_nil ?_
  go_wp2
  refine bodyPost_ret (v := .agg #[.slice a 4 cap, .slice (some ⟨b, 0, none⟩) 6 6]) (by simp [results, Try.results38, go_sem, c0, c1, cf]) rfl ?_
  obtain ⟨B, bs, hO, hn, hbs⟩ := HP.out
  have hkeep : ∀ (u1 u2 : Value) (x : Nat), x ≠ w.heap.size → ((w1.setCell ⟨w.heap.size, 0, none⟩ u1).setCell ⟨w.heap.size, 1, none⟩ u2).heap[x]? = w1.heap[x]? := fun u1 u2 x hx => by rw [setCell_other hx, setCell_other hx]
  refine ⟨_, _, B :: bs ++ [b], rfl, ext_set (ext_set X1 (Nat.le_refl _) _) (Nat.le_refl _) _, ⟨B, bs, b, rfl, hO.keep fun x hm => hkeep _ _ x (by have := hbs x hm; omega), HD.out.keep (hkeep _ _ b (by omega))⟩, ?_, fun x hm => ?_⟩
  · rw [List.nodup_append]
    refine ⟨hn, by simp, fun x hm y hy => ?_⟩
    rw [List.mem_singleton] at hy
    subst hy
    rintro rfl
    have := HO.out (lo0, hi0) (by simp)
    have := hbs x hm
    simp at *
    omega
  · rcases List.mem_append.1 hm with hm | hm
    · have := hbs x hm; omega
    · rw [List.mem_singleton] at hm; omega

set_option maxHeartbeats 1000000 in
theorem implStoreNew_c (w : World) : Calls Try.prog 42 #[] w (StoreNews w) := by
  have hmk : ∀ w : World, (Instr.makeSlice 23 (.int .i64 6) (.int .i64 6)).run Try.prog w = .ok (.slice (some ⟨w.heap.size, 0, none⟩) 6 6) (w.alloc (.cells #[.int .i64 0, .int .i64 0, .int .i64 0, .int .i64 0, .int .i64 0, .int .i64 0] 3)) := fun w => by kernel_rfl
  go_enter Try.func42, Try.ntmps42
  go_wp2_with fail
  refine wp_region_ext [0] [0] [(1, .cells #[.int .i64 0, .int .i64 0, .int .i64 0, .int .i64 0, .int .i64 0, .int .i64 0] 3, fun b => .slice (some ⟨b, 0, none⟩) 6 6)] [2, 3] (by kernel_rfl) (by kernel_rfl) ?late ?_
  case late =>
    intro f hf
    obtain rfl := List.mem_singleton.1 hf
    refine ⟨_, rfl, fun a w => ?_⟩
    go_simp
  refine Rob.c (FlashP) rfl rfl rfl (fun _ _ => ext_trans) (fun _ _ _ _ _ => fun h hx => h.ext hx) (fun w1 hx hH => ?_) (fun lo0 hi0 v0 hlo0 hhi0 hv0 => ?_)
  · unfold RunTo; go_simp; exact (implFlashNews _).mono fun e w' h => h.to
  simp only [Act.put, List.setIfInBounds_toArray, List.set_cons_succ, List.set_cons_zero]
  refine fin_one (fun w1 b hS hH hb hlt ho hout => ?_)
  simp only [dstOf, List.getElem?_cons_succ, List.getElem?_cons_zero, Option.bind_some, Act.put, List.setIfInBounds_toArray, List.set_cons_succ, List.set_cons_zero, List.filterMap_cons, List.filterMap_nil]
  obtain ⟨hx1, hP⟩ := hS
  obtain ⟨a, cap, rfl⟩ := hP.form
  have G0 := keep_ext hx1 (alloc_get_new rfl)
  obtain ⟨c0, c1, cf⟩ := cells2 G0
  have hlo : w.heap.size < lo0 := by simp at hlo0; omega
  have hbw : w.heap.size < b := by simp at hb; omega
  have HD := Lib.hid (OwnV.six ho); have HP := Lib.hid hP
  have HO := Lib.hid hout
  have X1 : Ext w w1 := ext_trans (ext_alloc (ext_refl _) _) hx1
  clear hmk hv0 hP ho hout G0
  refine wpList_plain rfl (fun K hK => ?_)
  go_simp
  refine hK _ _ ?_
  clear hK K
  refine wpList_plain rfl (fun K hK => ?_)
  go_simp
  refine hK _ _ ?_
  clear hK K
  refine wpList_nil ?_
  go_wp2
  refine bodyPost_ret (v := .agg #[.slice a 4 cap, .slice (some ⟨b, 0, none⟩) 6 6]) (by simp [results, Try.results42, go_sem, c0, c1, cf]) rfl ?_
  obtain ⟨B, bs, hO, hn, hbs⟩ := HP.out
  have hkeep : ∀ (u1 u2 : Value) (x : Nat), x ≠ w.heap.size → ((w1.setCell ⟨w.heap.size, 0, none⟩ u1).setCell ⟨w.heap.size, 1, none⟩ u2).heap[x]? = w1.heap[x]? := fun u1 u2 x hx => by rw [setCell_other hx, setCell_other hx]
  refine ⟨_, _, B :: bs ++ [b], rfl, ext_set (ext_set X1 (Nat.le_refl _) _) (Nat.le_refl _) _, ⟨B, bs, b, rfl, hO.keep fun x hm => hkeep _ _ x (by have := hbs x hm; omega), HD.out.keep (hkeep _ _ b (by omega))⟩, ?_, fun x hm => ?_⟩
  · rw [List.nodup_append]
    refine ⟨hn, by simp, fun x hm y hy => ?_⟩
    rw [List.mem_singleton] at hy
    subst hy
    rintro rfl
    have := HO.out (lo0, hi0) (by simp)
    have := hbs x hm
    simp at *
    omega
  · rcases List.mem_append.1 hm with hm | hm
    · have := hbs x hm; omega
    · rw [List.mem_singleton] at hm; omega


def PairNews (w : World) (e : Ending) (w' : World) : Prop := ∃ f d g h L K, e = .returned (.agg #[f, d, g, h, .int .i64 0]) ∧ Ext w w' ∧ OwnStore w' f d newStore L ∧ OwnStore w' g h newStore K ∧ (L ++ K).Nodup ∧ ∀ b ∈ L ++ K, w.heap.size ≤ b

theorem OwnStore.forms {w : World} {f d : Value} {s : Store} {L : List Nat} (h : OwnStore w f d s L) : ∃ a m c b n e, f = .slice a m c ∧ d = .slice b n e := by
  obtain ⟨B, bs, D, rfl, ⟨rows, ⟨T, o, cap, hv, _⟩, _⟩, ⟨T', o', cap', hv', _⟩⟩ := h
  exact ⟨_, _, _, _, _, _, hv, hv'⟩

set_option maxHeartbeats 1000000 in
theorem specPairNew_c (w : World) : Calls Try.prog 68 #[] w (PairNews w) := by
  go_enter Try.func68, Try.ntmps68
  go_wp2_with fail
  refine (specStoreNew_c _).mono ?_; rintro e1 w1 ⟨f, d, L, rfl, hx1, hO1, hn1, hb1⟩
  obtain ⟨a1, m1, c1, a2, m2, c2, rfl, rfl⟩ := hO1.forms
  have G0 := keep_ext hx1 (alloc_get_new rfl)
  have X1 : Ext w w1 := ext_trans (ext_alloc (ext_refl _) _) hx1
  simp at hb1
  go_wp2_with fail
  refine (specStoreNew_c _).mono ?_; rintro e2 w2 ⟨g, h, K, rfl, hx2, hO2, hn2, hb2⟩
  obtain ⟨a3, m3, c3, a4, m4, c4, rfl, rfl⟩ := hO2.forms
  replace G0 := keep_ext hx2 G0
  have hlt1 := hO1.lt
  have z1 := hx1.size
  simp at z1
  have X2 : Ext w w2 := ext_trans X1 hx2
  have HO1 := Lib.hid (hO1.ext hx2); have HO2 := Lib.hid hO2
  clear hO1 hO2 X1
  have hc : ∀ j (hj : j < 5), (w2.cell? ⟨w.heap.size, j, none⟩).isSome = true := fun j hj => by
    rw [cell_block G0]
    rcases (show j = 0 ∨ j = 1 ∨ j = 2 ∨ j = 3 ∨ j = 4 by omega) with rfl | rfl | rfl | rfl | rfl <;> rfl
  obtain ⟨q0, q1, q2, q3, q4, qf⟩ := cells5 G0
  go_wp2_with fail
  refine bodyPost_ret (v := .agg #[.slice a1 m1 c1, .slice a2 m2 c2, .slice a3 m3 c3, .slice a4 m4 c4, .int .i64 0]) (by simp [results, Try.results68, go_sem, q0, q1, q2, q3, q4, qf]) rfl ?_
  have hk : ∀ x, x ≠ w.heap.size → (setAll w2 w.heap.size 0 [.slice a1 m1 c1, .slice a2 m2 c2, .slice a3 m3 c3, .slice a4 m4 c4, .int .i64 0]).heap[x]? = w2.heap[x]? := fun x hx => setAll_other _ hx _ _ _
  refine ⟨_, _, _, _, L, K, rfl, ext_setAll X2 (Nat.le_refl _) 0 [.slice a1 m1 c1, .slice a2 m2 c2, .slice a3 m3 c3, .slice a4 m4 c4, .int .i64 0], HO1.out.keep fun x hm => hk x (by have := hb1 x hm; omega), HO2.out.keep fun x hm => hk x (by have := hb2 x hm; omega), ?_, fun x hm => ?_⟩
  · rw [List.nodup_append]
    exact ⟨hn1, hn2, fun x hx y hy e => by have := hlt1 x hx; have := hb2 y hy; omega⟩
  · rcases List.mem_append.1 hm with hm | hm
    · have := hb1 x hm; omega
    · have := hb2 x hm; omega

set_option maxHeartbeats 1000000 in
theorem implPairNew_c (w : World) : Calls Try.prog 26 #[] w (PairNews w) := by
  go_enter Try.func26, Try.ntmps26
  go_wp2_with fail
  refine (implStoreNew_c _).mono ?_; rintro e1 w1 ⟨f, d, L, rfl, hx1, hO1, hn1, hb1⟩
  obtain ⟨a1, m1, c1, a2, m2, c2, rfl, rfl⟩ := hO1.forms
  have G0 := keep_ext hx1 (alloc_get_new rfl)
  have X1 : Ext w w1 := ext_trans (ext_alloc (ext_refl _) _) hx1
  simp at hb1
  go_wp2_with fail
  refine (implStoreNew_c _).mono ?_; rintro e2 w2 ⟨g, h, K, rfl, hx2, hO2, hn2, hb2⟩
  obtain ⟨a3, m3, c3, a4, m4, c4, rfl, rfl⟩ := hO2.forms
  replace G0 := keep_ext hx2 G0
  have hlt1 := hO1.lt
  have z1 := hx1.size
  simp at z1
  have X2 : Ext w w2 := ext_trans X1 hx2
  have HO1 := Lib.hid (hO1.ext hx2); have HO2 := Lib.hid hO2
  clear hO1 hO2 X1
  have hc : ∀ j (hj : j < 5), (w2.cell? ⟨w.heap.size, j, none⟩).isSome = true := fun j hj => by
    rw [cell_block G0]
    rcases (show j = 0 ∨ j = 1 ∨ j = 2 ∨ j = 3 ∨ j = 4 by omega) with rfl | rfl | rfl | rfl | rfl <;> rfl
  obtain ⟨q0, q1, q2, q3, q4, qf⟩ := cells5 G0
  go_wp2_with fail
  refine bodyPost_ret (v := .agg #[.slice a1 m1 c1, .slice a2 m2 c2, .slice a3 m3 c3, .slice a4 m4 c4, .int .i64 0]) (by simp [results, Try.results26, go_sem, q0, q1, q2, q3, q4, qf]) rfl ?_
  have hk : ∀ x, x ≠ w.heap.size → (setAll w2 w.heap.size 0 [.slice a1 m1 c1, .slice a2 m2 c2, .slice a3 m3 c3, .slice a4 m4 c4, .int .i64 0]).heap[x]? = w2.heap[x]? := fun x hx => setAll_other _ hx _ _ _
  refine ⟨_, _, _, _, L, K, rfl, ext_setAll X2 (Nat.le_refl _) 0 [.slice a1 m1 c1, .slice a2 m2 c2, .slice a3 m3 c3, .slice a4 m4 c4, .int .i64 0], HO1.out.keep fun x hm => hk x (by have := hb1 x hm; omega), HO2.out.keep fun x hm => hk x (by have := hb2 x hm; omega), ?_, fun x hm => ?_⟩
  · rw [List.nodup_append]
    exact ⟨hn1, hn2, fun x hx y hy e => by have := hlt1 x hx; have := hb2 y hy; omega⟩
  · rcases List.mem_append.1 hm with hm | hm
    · have := hb1 x hm; omega
    · have := hb2 x hm; omega

end Go.Bu
