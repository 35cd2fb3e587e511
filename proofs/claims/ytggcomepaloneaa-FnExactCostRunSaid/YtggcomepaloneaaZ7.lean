/- The program's PlaySteps, playAll, playBegun and PlayDo. append of rows of steps that may be empty. The program's playAll, playBegun and PlayDo. What steps cost: CostOf of both sides. What steps cost, plain. A channel in one goroutine: the walk of code that sends, closes and receives where nothing waits. The program's cost of events: what it sends over a channel of its own, summed. Readers with enough left: what the laws' draws ask of them; drawn events and records. Drawn plays: events, and the store behind them. Drawn records, flashes, stores. Drawn flashes and stores. Drawn stores. Drawn stores, often full ones. -/
import Derived.Test.YtggcomepaloneaaZ6
import Derived.Test.YtggcomepaloneaaZ3
import Derived.Test.YtggcomepaloneaaZ2
import Derived.Test.YtggcomepaloneaaZ1
import Derived.Conc.LoneCalls
import Derived.Test.YtggcomepaloneaaZ5
set_option maxHeartbeats 2000000
set_option linter.unusedVariables false
set_option linter.unusedSimpArgs false
namespace Go.Bu
open Go Go.RowKit Go.Plan Go.Proofs

theorem StoreV.small {w : World} {f d : Value} {s : Store} (h : storeOkB s = true) : Small s := ⟨by have := (storeOk_shape h).flash; omega, pages_short (storeOk_flash h), by have := storeOk_disk h; omega⟩
theorem playerPut_c (fv dv : Value) (s : Store) (e : Event) (w : World) (h : StoreV w fv dv s) (hok : storeOkB s = true) :
    Calls Try.prog 37 #[.agg #[fv, dv], eventA e] w (RetS w (writeSteps s.flash 1 e.a e.b)) := by
  have hP := fun (w' : World) (hx : Ext w w') => implStepsPut_c fv dv s e.a e.b w' (h.ext hx) (StoreV.small (w := w) (f := fv) (d := dv) hok)
  rw [show putSteps2 s e.a e.b = writeSteps s.flash 1 e.a e.b by unfold putSteps2; rw [if_pos hok]] at hP
  obtain ⟨a1, n1, rfl⟩ := h.1.form
  obtain ⟨a2, n2, rfl⟩ := h.2.form
  obtain ⟨k, ea, eb, ec, et⟩ := e
  dsimp only at hP ⊢
  clear h hok
  go_enter Try.func37, Try.ntmps37
  go_wp2_with fail
  refine (hP _ (ext_alloc (ext_alloc (ext_refl _) _) _)).mono ?_; rintro e2 w2 ⟨v, rfl, hx2, hS, hl⟩
  go_wp2_with fail
  go_ret
  exact ⟨_, rfl, ext_of2 hx2, hS.base size_of2, hl⟩
theorem playerFlush_c (fv dv : Value) (s : Store) (e : Event) (w : World) (h : StoreV w fv dv s) (hok : storeOkB s = true) :
    Calls Try.prog 38 #[.agg #[fv, dv], eventA e] w (RetS w (addrStep (flushSteps s) e.a)) := by
  have hP := fun (w' : World) (hx : Ext w w') => implStepsFlush_c fv dv s e.a w' (h.ext hx) hok
  obtain ⟨a1, n1, rfl⟩ := h.1.form
  obtain ⟨a2, n2, rfl⟩ := h.2.form
  obtain ⟨k, ea, eb, ec, et⟩ := e
  dsimp only at hP ⊢
  clear h hok
  go_enter Try.func38, Try.ntmps38
  go_wp2_with fail
  refine (hP _ (ext_alloc (ext_alloc (ext_refl _) _) _)).mono ?_; rintro e2 w2 ⟨v, rfl, hx2, hS, hl⟩
  go_wp2_with fail
  go_ret
  exact ⟨_, rfl, ext_of2 hx2, hS.base size_of2, hl⟩
theorem playerFill_c (fv dv : Value) (s : Store) (e : Event) (w : World) (h : StoreV w fv dv s) (hok : storeOkB s = true) :
    Calls Try.prog 39 #[.agg #[fv, dv], eventA e] w (RetS w (addrStep (fillSteps s) e.a)) := by
  have hP := fun (w' : World) (hx : Ext w w') => implStepsFill_c fv dv s e.a w' (h.ext hx) hok
  obtain ⟨a1, n1, rfl⟩ := h.1.form
  obtain ⟨a2, n2, rfl⟩ := h.2.form
  obtain ⟨k, ea, eb, ec, et⟩ := e
  dsimp only at hP ⊢
  clear h hok
  go_enter Try.func39, Try.ntmps39
  go_wp2_with fail
  refine (hP _ (ext_alloc (ext_alloc (ext_refl _) _) _)).mono ?_; rintro e2 w2 ⟨v, rfl, hx2, hS, hl⟩
  go_wp2_with fail
  go_ret
  exact ⟨_, rfl, ext_of2 hx2, hS.base size_of2, hl⟩

set_option maxRecDepth 20000 in
set_option maxHeartbeats 4000000 in
theorem implPlaySteps_c (fv dv : Value) (s : Store) (e : Event) (w : World) (h : StoreV w fv dv s) (hok : storeOkB s = true) :
    Calls Try.prog 20 #[.agg #[fv, dv], eventA e] w (RetS w (playSteps s e)) := by
  have hmf : ∀ (fn : Fn) (first cap : Array Value) (w : World), (Instr.makeFunc fn first cap).run Try.prog w = .ok (.func fn first cap) w := fun _ _ _ _ => rfl
  have hP := fun (w' : World) (hx : Ext w w') => playerPut_c fv dv s e w' (h.ext hx) hok
  have hF := fun (w' : World) (hx : Ext w w') => playerFlush_c fv dv s e w' (h.ext hx) hok
  have hL := fun (w' : World) (hx : Ext w w') => playerFill_c fv dv s e w' (h.ext hx) hok
  have HQ : Hid (playSteps s e = if e.kind = 1 then writeSteps s.flash 1 e.a e.b else if e.kind = 2 then addrStep (flushSteps s) e.a else if e.kind = 3 then addrStep (fillSteps s) e.a else []) := Lib.hid rfl
  obtain ⟨a1, n1, rfl⟩ := h.1.form
  obtain ⟨a2, n2, rfl⟩ := h.2.form
  generalize playSteps s e = PS at *
  generalize writeSteps s.flash 1 e.a e.b = W1 at *
  generalize addrStep (flushSteps s) e.a = W2 at *
  generalize addrStep (fillSteps s) e.a = W3 at *
  obtain ⟨k, ea, eb, ec, et⟩ := e
  dsimp only [eventA] at *
  clear h hok
  obtain ⟨W4, hW4⟩ : ∃ W4, ((((w.alloc (.cells #[.slice a1 s.flash.length n1, .slice a2 s.disk.length n2] 41)).alloc (.cells #[.int .i64 k, .int .i64 ea, .int .i64 eb, .int .i64 ec, .bool et] 31)).alloc (.cells #[.slice a1 s.flash.length n1, .slice a2 s.disk.length n2] 66)).alloc (.cells #[.nilFunc, .nilFunc, .nilFunc, .nilFunc] 68)) = W4 := ⟨_, rfl⟩
  have X4 : Ext w W4 := by rw [← hW4]; exact ext_alloc (ext_alloc (ext_alloc (ext_alloc (ext_refl _) _) _) _) _
  have G3 : W4.heap[w.heap.size + 1]? = some (.cells #[.int .i64 k, .int .i64 ea, .int .i64 eb, .int .i64 ec, .bool et] 31 (0, 0)) := by rw [← hW4]; exact hg_alloc (hg_alloc (hg_new (by simp)))
  have G6 : W4.heap[w.heap.size + 1 + 1 + 1]? = some (.cells #[.nilFunc, .nilFunc, .nilFunc, .nilFunc] 68 (0, 0)) := by rw [← hW4]; exact hg_new (by simp)
  have hth : W4.there (w.heap.size + 1 + 1 + 1) 0 4 := fun j hj => by
    rw [Nat.zero_add, cell_block G6, frozen_block G6, Array.getElem?_eq_getElem (by simpa using hj)]; exact ⟨rfl, rfl⟩
  obtain ⟨W5, hW5⟩ : ∃ W5, setAll W4 (w.heap.size + 1 + 1 + 1) 0 [.nilFunc, .func (.func 37) #[.agg #[.slice a1 s.flash.length n1, .slice a2 s.disk.length n2]] #[], .func (.func 38) #[.agg #[.slice a1 s.flash.length n1, .slice a2 s.disk.length n2]] #[], .func (.func 39) #[.agg #[.slice a1 s.flash.length n1, .slice a2 s.disk.length n2]] #[]] = W5 := ⟨_, rfl⟩
  obtain ⟨c6, hc6, hc6s, hc6g⟩ := setAll_block [.nilFunc, .func (.func 37) #[.agg #[.slice a1 s.flash.length n1, .slice a2 s.disk.length n2]] #[], .func (.func 38) #[.agg #[.slice a1 s.flash.length n1, .slice a2 s.disk.length n2]] #[], .func (.func 39) #[.agg #[.slice a1 s.flash.length n1, .slice a2 s.disk.length n2]] #[]] W4 0 _ G6 (by simp)
  have G65 : W5.heap[w.heap.size + 1 + 1 + 1]? = some (.cells c6 68 (0, 0)) := by rw [← hW5]; exact hc6
  have G35 : W5.heap[w.heap.size + 1]? = some (.cells #[.int .i64 k, .int .i64 ea, .int .i64 eb, .int .i64 ec, .bool et] 31 (0, 0)) := by rw [← hW5, setAll_other _ (by omega)]; exact G3
  have X5 : Ext w W5 := by rw [← hW5]; exact ext_trans (ext_refl w) (by
    have hb := setAll_below (w.heap.size + 1 + 1 + 1) w.heap.size (by omega) [.nilFunc, .func (.func 37) #[.agg #[.slice a1 s.flash.length n1, .slice a2 s.disk.length n2]] #[], .func (.func 38) #[.agg #[.slice a1 s.flash.length n1, .slice a2 s.disk.length n2]] #[], .func (.func 39) #[.agg #[.slice a1 s.flash.length n1, .slice a2 s.disk.length n2]] #[]] W4 0
    exact ⟨hb.os.trans X4.os, hb.tape.trans X4.tape, hb.output.trans X4.output, Nat.le_trans X4.size hb.size, fun b hb' => (hb.block b hb').trans (X4.block b hb')⟩)
  have HC6 := Lib.hid hc6g
  have HW5 := Lib.hid hW5
  have HW4 := Lib.hid hW4
  clear hW5 hc6 hc6s hc6g
  clear hW4
  by_cases h1 : k = 1
  · subst h1
    have hq : PS = W1 := by rw [HQ.out, if_pos rfl]
    subst hq
    have C6 : W5.cell? ⟨w.heap.size + 1 + 1 + 1, 1, none⟩ = some (.func (.func 37) #[.agg #[.slice a1 s.flash.length n1, .slice a2 s.disk.length n2]] #[]) := by rw [cell_block G65, HC6.out 1]; rfl
    clear hF hL HQ
    go_enter Try.func20, Try.ntmps20
    go_wp2_with (rw [HW4.out]; refine wpList_store_mid rfl 68 _ _ rfl (w.heap.size + 1 + 1 + 1) 0 #[.nilFunc, .func (.func 37) #[.agg #[.slice a1 s.flash.length n1, .slice a2 s.disk.length n2]] #[], .func (.func 38) #[.agg #[.slice a1 s.flash.length n1, .slice a2 s.disk.length n2]] #[], .func (.func 39) #[.agg #[.slice a1 s.flash.length n1, .slice a2 s.disk.length n2]] #[]] rfl rfl hth (by kernel_rfl) (by simp [Value.oneCell']) ?_; change wpList _ _ _ _ _ (setAll W4 (w.heap.size + 1 + 1 + 1) 0 [.nilFunc, .func (.func 37) #[.agg #[.slice a1 s.flash.length n1, .slice a2 s.disk.length n2]] #[], .func (.func 38) #[.agg #[.slice a1 s.flash.length n1, .slice a2 s.disk.length n2]] #[], .func (.func 39) #[.agg #[.slice a1 s.flash.length n1, .slice a2 s.disk.length n2]] #[]]); rw [HW5.out]; clear G3 G6 hth; obtain ⟨q3, qf3⟩ := cellsK G35)
    refine wp_region_ext [5] [0, 1, 2, 3, 4, 5, 6] [] [] (by kernel_rfl) (by kernel_rfl) ?late ?_
    case late => exact fun f hf => absurd hf List.not_mem_nil
    refine Rob.y (v := ?_) rfl rfl (fun w1 hx hH => ?_) ?_; rotate_left
    · go_simp; first | done | rfl | exact (Bool.not_not _).symm
    simp only [Act.put, List.setIfInBounds_toArray, List.set_cons_succ, List.set_cons_zero]
    iterate 4
      refine Rob.y (v := ?_) rfl rfl (fun w1 hx hH => ?_) ?_; rotate_left
      · (obtain ⟨z3, zf3⟩ := cellsK (keep_ext hx G35); have zc := cell_ext hx C6); go_simp; first | done | rfl
      simp only [Act.put, List.setIfInBounds_toArray, List.set_cons_succ, List.set_cons_zero]
    refine Rob.c ((fun lo hi v w' => SRow lo w' v PS ∧ PS.length ≤ 7)) rfl rfl rfl (fun _ _ => ext_trans) (fun _ _ _ _ _ => fun h hx => ⟨h.1.ext hx, h.2⟩) (fun w1 hx hH => ?_) (fun lo5 hi5 v5 hlo5 hhi5 hv5 => ?_)
    · unfold RunTo; go_simp; exact ((hP _ (ext_trans X5 hx))).mono fun e w' h => h.to
    simp only [Act.put, List.setIfInBounds_toArray, List.set_cons_succ, List.set_cons_zero]
    obtain ⟨_, hv5⟩ := hv5
    obtain ⟨a5, c5, rfl⟩ := hv5.1.form
    refine Rob.y (v := ?_) rfl rfl (fun w1 hx hH => ?_) ?_; rotate_left
    · go_simp; first | done | rfl | exact (Bool.not_not _).symm
    simp only [Act.put, List.setIfInBounds_toArray, List.set_cons_succ, List.set_cons_zero]
    refine fin_nil (fun w6 hx6 _ => ?_)
    obtain ⟨hx6, hS, hl⟩ := hx6
    have s5 := X5.size
    have X6 := ext_trans X5 hx6
    have HS := Lib.hid hS
    clear hS hv5 q3 qf3
    go_wp2_with fail
    go_ret
    exact ⟨_, rfl, X6, HS.out.base (by omega), hl⟩
  by_cases h2 : k = 2
  · subst h2
    have hq : PS = W2 := by rw [HQ.out, if_neg (by decide), if_pos rfl]
    subst hq
    have C6 : W5.cell? ⟨w.heap.size + 1 + 1 + 1, 2, none⟩ = some (.func (.func 38) #[.agg #[.slice a1 s.flash.length n1, .slice a2 s.disk.length n2]] #[]) := by rw [cell_block G65, HC6.out 2]; rfl
    clear hP hL HQ
    go_enter Try.func20, Try.ntmps20
    go_wp2_with (rw [HW4.out]; refine wpList_store_mid rfl 68 _ _ rfl (w.heap.size + 1 + 1 + 1) 0 #[.nilFunc, .func (.func 37) #[.agg #[.slice a1 s.flash.length n1, .slice a2 s.disk.length n2]] #[], .func (.func 38) #[.agg #[.slice a1 s.flash.length n1, .slice a2 s.disk.length n2]] #[], .func (.func 39) #[.agg #[.slice a1 s.flash.length n1, .slice a2 s.disk.length n2]] #[]] rfl rfl hth (by kernel_rfl) (by simp [Value.oneCell']) ?_; change wpList _ _ _ _ _ (setAll W4 (w.heap.size + 1 + 1 + 1) 0 [.nilFunc, .func (.func 37) #[.agg #[.slice a1 s.flash.length n1, .slice a2 s.disk.length n2]] #[], .func (.func 38) #[.agg #[.slice a1 s.flash.length n1, .slice a2 s.disk.length n2]] #[], .func (.func 39) #[.agg #[.slice a1 s.flash.length n1, .slice a2 s.disk.length n2]] #[]]); rw [HW5.out]; clear G3 G6 hth; obtain ⟨q3, qf3⟩ := cellsK G35)
    refine wp_region_ext [5] [0, 1, 2, 3, 4, 5, 6] [] [] (by kernel_rfl) (by kernel_rfl) ?late ?_
    case late => exact fun f hf => absurd hf List.not_mem_nil
    refine Rob.y (v := ?_) rfl rfl (fun w1 hx hH => ?_) ?_; rotate_left
    · go_simp; first | done | rfl | exact (Bool.not_not _).symm
    simp only [Act.put, List.setIfInBounds_toArray, List.set_cons_succ, List.set_cons_zero]
    iterate 4
      refine Rob.y (v := ?_) rfl rfl (fun w1 hx hH => ?_) ?_; rotate_left
      · (obtain ⟨z3, zf3⟩ := cellsK (keep_ext hx G35); have zc := cell_ext hx C6); go_simp; first | done | rfl
      simp only [Act.put, List.setIfInBounds_toArray, List.set_cons_succ, List.set_cons_zero]
    refine Rob.c ((fun lo hi v w' => SRow lo w' v PS ∧ PS.length ≤ 7)) rfl rfl rfl (fun _ _ => ext_trans) (fun _ _ _ _ _ => fun h hx => ⟨h.1.ext hx, h.2⟩) (fun w1 hx hH => ?_) (fun lo5 hi5 v5 hlo5 hhi5 hv5 => ?_)
    · unfold RunTo; go_simp; exact ((hF _ (ext_trans X5 hx))).mono fun e w' h => h.to
    simp only [Act.put, List.setIfInBounds_toArray, List.set_cons_succ, List.set_cons_zero]
    obtain ⟨_, hv5⟩ := hv5
    obtain ⟨a5, c5, rfl⟩ := hv5.1.form
    refine Rob.y (v := ?_) rfl rfl (fun w1 hx hH => ?_) ?_; rotate_left
    · go_simp; first | done | rfl | exact (Bool.not_not _).symm
    simp only [Act.put, List.setIfInBounds_toArray, List.set_cons_succ, List.set_cons_zero]
    refine fin_nil (fun w6 hx6 _ => ?_)
    obtain ⟨hx6, hS, hl⟩ := hx6
    have s5 := X5.size
    have X6 := ext_trans X5 hx6
    have HS := Lib.hid hS
    clear hS hv5 q3 qf3
    go_wp2_with fail
    go_ret
    exact ⟨_, rfl, X6, HS.out.base (by omega), hl⟩
  by_cases h3 : k = 3
  · subst h3
    have hq : PS = W3 := by rw [HQ.out, if_neg (by decide), if_neg (by decide), if_pos rfl]
    subst hq
    have C6 : W5.cell? ⟨w.heap.size + 1 + 1 + 1, 3, none⟩ = some (.func (.func 39) #[.agg #[.slice a1 s.flash.length n1, .slice a2 s.disk.length n2]] #[]) := by rw [cell_block G65, HC6.out 3]; rfl
    clear hP hF HQ
    go_enter Try.func20, Try.ntmps20
    go_wp2_with (rw [HW4.out]; refine wpList_store_mid rfl 68 _ _ rfl (w.heap.size + 1 + 1 + 1) 0 #[.nilFunc, .func (.func 37) #[.agg #[.slice a1 s.flash.length n1, .slice a2 s.disk.length n2]] #[], .func (.func 38) #[.agg #[.slice a1 s.flash.length n1, .slice a2 s.disk.length n2]] #[], .func (.func 39) #[.agg #[.slice a1 s.flash.length n1, .slice a2 s.disk.length n2]] #[]] rfl rfl hth (by kernel_rfl) (by simp [Value.oneCell']) ?_; change wpList _ _ _ _ _ (setAll W4 (w.heap.size + 1 + 1 + 1) 0 [.nilFunc, .func (.func 37) #[.agg #[.slice a1 s.flash.length n1, .slice a2 s.disk.length n2]] #[], .func (.func 38) #[.agg #[.slice a1 s.flash.length n1, .slice a2 s.disk.length n2]] #[], .func (.func 39) #[.agg #[.slice a1 s.flash.length n1, .slice a2 s.disk.length n2]] #[]]); rw [HW5.out]; clear G3 G6 hth; obtain ⟨q3, qf3⟩ := cellsK G35)
    refine wp_region_ext [5] [0, 1, 2, 3, 4, 5, 6] [] [] (by kernel_rfl) (by kernel_rfl) ?late ?_
    case late => exact fun f hf => absurd hf List.not_mem_nil
    refine Rob.y (v := ?_) rfl rfl (fun w1 hx hH => ?_) ?_; rotate_left
    · go_simp; first | done | rfl | exact (Bool.not_not _).symm
    simp only [Act.put, List.setIfInBounds_toArray, List.set_cons_succ, List.set_cons_zero]
    iterate 4
      refine Rob.y (v := ?_) rfl rfl (fun w1 hx hH => ?_) ?_; rotate_left
      · (obtain ⟨z3, zf3⟩ := cellsK (keep_ext hx G35); have zc := cell_ext hx C6); go_simp; first | done | rfl
      simp only [Act.put, List.setIfInBounds_toArray, List.set_cons_succ, List.set_cons_zero]
    refine Rob.c ((fun lo hi v w' => SRow lo w' v PS ∧ PS.length ≤ 7)) rfl rfl rfl (fun _ _ => ext_trans) (fun _ _ _ _ _ => fun h hx => ⟨h.1.ext hx, h.2⟩) (fun w1 hx hH => ?_) (fun lo5 hi5 v5 hlo5 hhi5 hv5 => ?_)
    · unfold RunTo; go_simp; exact ((hL _ (ext_trans X5 hx))).mono fun e w' h => h.to
    simp only [Act.put, List.setIfInBounds_toArray, List.set_cons_succ, List.set_cons_zero]
    obtain ⟨_, hv5⟩ := hv5
    obtain ⟨a5, c5, rfl⟩ := hv5.1.form
    refine Rob.y (v := ?_) rfl rfl (fun w1 hx hH => ?_) ?_; rotate_left
    · go_simp; first | done | rfl | exact (Bool.not_not _).symm
    simp only [Act.put, List.setIfInBounds_toArray, List.set_cons_succ, List.set_cons_zero]
    refine fin_nil (fun w6 hx6 _ => ?_)
    obtain ⟨hx6, hS, hl⟩ := hx6
    have s5 := X5.size
    have X6 := ext_trans X5 hx6
    have HS := Lib.hid hS
    clear hS hv5 q3 qf3
    go_wp2_with fail
    go_ret
    exact ⟨_, rfl, X6, HS.out.base (by omega), hl⟩
  · have hq : PS = [] := by rw [HQ.out, if_neg h1, if_neg h2, if_neg h3]
    subst hq
    clear hP hF hL HQ
    by_cases hk : k < 1
    · go_enter Try.func20, Try.ntmps20
      go_wp2_with (rw [HW4.out]; refine wpList_store_mid rfl 68 _ _ rfl (w.heap.size + 1 + 1 + 1) 0 #[.nilFunc, .func (.func 37) #[.agg #[.slice a1 s.flash.length n1, .slice a2 s.disk.length n2]] #[], .func (.func 38) #[.agg #[.slice a1 s.flash.length n1, .slice a2 s.disk.length n2]] #[], .func (.func 39) #[.agg #[.slice a1 s.flash.length n1, .slice a2 s.disk.length n2]] #[]] rfl rfl hth (by kernel_rfl) (by simp [Value.oneCell']) ?_; change wpList _ _ _ _ _ (setAll W4 (w.heap.size + 1 + 1 + 1) 0 [.nilFunc, .func (.func 37) #[.agg #[.slice a1 s.flash.length n1, .slice a2 s.disk.length n2]] #[], .func (.func 38) #[.agg #[.slice a1 s.flash.length n1, .slice a2 s.disk.length n2]] #[], .func (.func 39) #[.agg #[.slice a1 s.flash.length n1, .slice a2 s.disk.length n2]] #[]]); rw [HW5.out]; clear G3 G6 hth; obtain ⟨q3, qf3⟩ := cellsK G35)
      go_ret
      exact ⟨_, rfl, X5, SRow.nil _ _, by simp⟩
    · have hk3 : 3 < k := by omega
      clear h1 h2 h3
      go_enter Try.func20, Try.ntmps20
      go_wp2_with (rw [HW4.out]; refine wpList_store_mid rfl 68 _ _ rfl (w.heap.size + 1 + 1 + 1) 0 #[.nilFunc, .func (.func 37) #[.agg #[.slice a1 s.flash.length n1, .slice a2 s.disk.length n2]] #[], .func (.func 38) #[.agg #[.slice a1 s.flash.length n1, .slice a2 s.disk.length n2]] #[], .func (.func 39) #[.agg #[.slice a1 s.flash.length n1, .slice a2 s.disk.length n2]] #[]] rfl rfl hth (by kernel_rfl) (by simp [Value.oneCell']) ?_; change wpList _ _ _ _ _ (setAll W4 (w.heap.size + 1 + 1 + 1) 0 [.nilFunc, .func (.func 37) #[.agg #[.slice a1 s.flash.length n1, .slice a2 s.disk.length n2]] #[], .func (.func 38) #[.agg #[.slice a1 s.flash.length n1, .slice a2 s.disk.length n2]] #[], .func (.func 39) #[.agg #[.slice a1 s.flash.length n1, .slice a2 s.disk.length n2]] #[]]); rw [HW5.out]; clear G3 G6 hth; obtain ⟨q3, qf3⟩ := cellsK G35)
      go_ret
      exact ⟨_, rfl, X5, SRow.nil _ _, by simp⟩
end Go.Bu

set_option linter.unusedVariables false
set_option linter.unusedSimpArgs false
namespace Go.Bu
open Go Go.RowKit Go.Plan Go.Proofs

theorem run_append_zero {P : Program} (w : World) (t ty e : TypeId) (i : TypeInfo) (ht : P.underlying t = some (.slice e)) (hi : P.info? e = some i) (b : Option Addr) (n cap : Nat) (hnc : n ≤ cap) (x : Option Addr) (c : Nat) :
    (Builtin.append_ #[t, t] ty #[.slice b n cap, .slice x 0 c]).run P w = .ok (.slice b n cap) w := by
  cases x with
  | none => cases b <;> simp [Builtin.append_, run_underlying ht, sizeOf, typeInfo, hi, Builtin.lenOf, Builtin.firstCells, hnc, storeCells]
  | some a =>
    have hfc := run_firstCells_some (P := P) w i.size 0 a 0 c [] (by simp) (by simp)
    cases b <;> simp [Builtin.append_, run_underlying ht, sizeOf, typeInfo, hi, Builtin.lenOf, hfc, hnc, storeCells]

/-- append of a row of steps, empty or not, to another one -/
theorem wpList_appStepsA {w : World} {ops : Array Oper} {rest : List Oper} {o : Oper} {a : Act} {Q : Exit → Act → World → Prop} (hgd : o.guard = none) (s x : Operand)
    (ho : o.op = .call { callee := .builtin .append, args := #[s, x], argTypes := #[45, 45] }) {base base2 : Nat} {v u : Value} {xs ys : List Step} (hs : a.eval s = v) (hown : SRow base w v xs)
    (hx : a.eval x = u) (hu : SRow base2 w u ys) (hlen : xs.length + ys.length ≤ 1000000) (hbase : base ≤ w.heap.size)
    (h : ∀ v' w', SRow base w' v' (xs ++ ys) → w.grownBy w' v.ownBlock → wpList Try.prog ops Q rest (a.put o.dst v') w') : wpList Try.prog ops Q (o :: rest) a w := by
  by_cases hne : ys = []
  · subst hne
    obtain ⟨ua, uc, rfl⟩ := hu.form
    have hinfo : ∃ i, Try.prog.info? 64 = some i := by
      have : ((Try.prog.info? 64).isSome) = true := by kernel_rfl
      exact Option.isSome_iff_exists.1 this
    obtain ⟨i, hi⟩ := hinfo
    have hfin := h v w (by rw [List.append_nil]; exact hown) ⟨rfl, rfl, rfl, Nat.le_refl _, fun _ _ _ => rfl⟩
    have hv : ∃ b n cap, v = .slice b n cap ∧ n ≤ cap := by
      rcases hown.2 with ⟨rfl, h0⟩ | ⟨g, cap, cur, rfl, _, _, hc, _⟩
      · exact ⟨none, 0, 0, rfl, Nat.le_refl _⟩
      · exact ⟨_, _, cap, rfl, hc⟩
    obtain ⟨b, n, cap, rfl, hnc⟩ := hv
    refine wpList_plain hgd fun K hK' => ?_
    unfold Oper.wp
    simp [execOp, ho, resolve, invoke, builtin, hs, hx, run_append_zero w 45 o.type 64 i Try.underlying45 hi b n cap hnc ua uc, Result.andThen]
    exact hK' _ _ hfin
  · exact wpList_appSteps hgd s x ho hs hown hx hu hne hlen hbase h

/-- a row of steps made since base, or one that has no room -/
def OutRow (base : Nat) (w : World) (v : Value) (xs : List Step) : Prop := (∃ b, v = .slice (some b) 0 0 ∧ xs = []) ∨ SRow base w v xs
theorem OutRow.form {base : Nat} {w : World} {v : Value} {xs : List Step} (h : OutRow base w v xs) : ∃ a cap, v = .slice a xs.length cap := by
  rcases h with ⟨b, rfl, rfl⟩ | h
  · exact ⟨_, _, rfl⟩
  · exact h.form
theorem OutRow.steps {base : Nat} {w : World} {v : Value} {xs : List Step} (h : OutRow base w v xs) : Steps' (Old w) w v xs := by
  rcases h with ⟨b, rfl, rfl⟩ | h
  · exact ⟨_, _, rfl, fun i x hx => by simp at hx⟩
  · exact h.steps

theorem wpList_appOut {w : World} {ops : Array Oper} {rest : List Oper} {o : Oper} {a : Act} {Q : Exit → Act → World → Prop} (hgd : o.guard = none) (s x : Operand)
    (ho : o.op = .call { callee := .builtin .append, args := #[s, x], argTypes := #[45, 45] }) {base base2 : Nat} {v u : Value} {xs ys : List Step} (hs : a.eval s = v) (hown : OutRow base w v xs)
    (hx : a.eval x = u) (hu : SRow base2 w u ys) (hlen : xs.length + ys.length ≤ 1000000) (hbase : base ≤ w.heap.size)
    (h : ∀ v' w' ob, OutRow base w' v' (xs ++ ys) → w.grownBy w' ob → (∀ g, ob = some g → base ≤ g ∧ g < w.heap.size) → wpList Try.prog ops Q rest (a.put o.dst v') w') : wpList Try.prog ops Q (o :: rest) a w := by
  rcases hown with ⟨b, rfl, rfl⟩ | hown
  · have hinfo : ((Try.prog.info? 64).bind (fun i => i.zero.map fun z => (z.cells.size, i.size, i.bytes))) = some (8, 8, 64) := by kernel_rfl
    obtain ⟨i, hi, hi2⟩ := Option.bind_eq_some_iff.1 hinfo
    obtain ⟨z, hz, he⟩ := Option.map_eq_some_iff.1 hi2
    obtain ⟨hzs, he⟩ := Prod.mk.inj he
    obtain ⟨hsize, hby⟩ := Prod.mk.inj he
    by_cases hne : ys = []
    · subst hne
      obtain ⟨ua, uc, rfl⟩ := hu.form
      have hfin := h _ w none (.inl ⟨b, rfl, rfl⟩) ⟨rfl, rfl, rfl, Nat.le_refl _, fun _ _ _ => rfl⟩ (fun g hg => by cases hg)
      refine wpList_plain hgd fun K hK' => ?_
      unfold Oper.wp
      simp [execOp, ho, resolve, invoke, builtin, hs, hx, run_append_zero w 45 o.type 64 i Try.underlying45 hi (some b) 0 0 (Nat.le_refl _) ua uc, Result.andThen]
      exact hK' _ _ hfin
    · have hu2 := hu
      rcases hu.2 with ⟨rfl, h0⟩ | ⟨g, cap, cur, rfl, _, hh, _, _, _, ht⟩
      · exact absurd (List.length_eq_zero_iff.1 h0) hne
      have h1c : ∀ c ∈ ys.flatMap stepC, c.oneCell' = true := fun c hc => by
        obtain ⟨y, _, hy⟩ := List.mem_flatMap.1 hc
        simp at hy
        rcases hy with rfl | rfl | rfl | rfl | rfl | rfl | rfl | rfl <;> rfl
      have hpos : 0 < ys.length := List.length_pos_iff.2 hne
      simp only [List.length_nil, Nat.zero_add] at hlen
      obtain ⟨v', w', hr, h2, h3⟩ := run_append_arg_grows (P := Try.prog) w 45 o.type 64 i z 8 64 Try.underlying45 hi hz hsize hby hzs (by omega) b 0 0 [] rfl (by simp) ⟨g, 0, none⟩ ys.length cap (ys.flatMap stepC) hu2.1 (hu2.cells rfl) (by omega) (by simp [maxLen]; omega) (by omega)
      have hfin := h v' w' none (.inr (by
        rw [List.nil_append] at h2 ⊢
        rw [Nat.zero_add] at h2
        exact SRow.base h2 hbase)) h3 (fun g hg => by cases hg)
      refine wpList_plain hgd fun K hK' => ?_
      unfold Oper.wp
      simp [execOp, ho, resolve, invoke, builtin, hs, hx, hr, Result.andThen]
      exact hK' _ _ hfin
  · exact wpList_appStepsA hgd s x ho hs hown hx hu hlen hbase fun v' w' h1 h2 => h v' w' _ (.inr h1) h2 fun g hg => hown.lt g hg
end Go.Bu

set_option linter.unusedVariables false
set_option linter.unusedSimpArgs false
namespace Go.Bu
open Go Go.RowKit Go.Plan Go.Proofs

/-- a store of which each address was flushed, and by which steps -/
def allPairStep (a : Store × List Step) (n : Nat) : Store × List Step := (allStep a.1 n, a.2 ++ flushSteps a.1 n)
def allPair (s : Store) : Store × List Step := addrs6.foldl allPairStep (s, [])
theorem allPair_fst (s : Store) : (allPair s).1 = playAllS s := by
  have : ∀ (xs : List Nat) (a : Store × List Step), (xs.foldl allPairStep a).1 = xs.foldl allStep a.1 := by
    intro xs
    induction xs with
    | nil => exact fun _ => rfl
    | cons x xs ih => intro a; rw [List.foldl_cons, List.foldl_cons, ih]; rfl
  exact this addrs6 (s, [])
def PlayAllΦ (w : World) (s : Store) (e : Ending) (w' : World) : Prop := ∃ f d L v, e = .returned (.tuple #[.agg #[f, d], v]) ∧ Ext w w' ∧ OwnStore w' f d (playAllS s) L ∧ L.Nodup ∧ (∀ b ∈ L, w.heap.size ≤ b) ∧ SRow w.heap.size w' v (allPair s).2 ∧ (allPair s).2.length ≤ 42

set_option maxRecDepth 20000 in
set_option maxHeartbeats 4000000 in
theorem playAll_c (g e : Value) (s : Store) (w : World) (hB : StoreV w g e s) (hok : storeOkB s = true) :
    Calls Try.prog 55 #[.agg #[g, e]] w (PlayAllΦ w s) := by
  have hsh := storeOk_shape hok
  have hSC := fun (w' : World) (hx : Ext w w') => storeCopy_c g e s w' (hB.ext hx) hsh.flash hsh.pages hsh.disk
  have HOK := Lib.hid hok
  obtain ⟨a3, n3, rfl⟩ := hB.1.form
  obtain ⟨a4, n4, rfl⟩ := hB.2.form
  have HR0 : Hid ((addrs6.drop 0).foldl allPairStep (s, []) = allPair s) := Lib.hid rfl
  have HF := Lib.hid (allPair_fst s)
  clear hB hsh hok
  go_enter Try.func55, Try.ntmps55
  go_wp2_with fail
  refine (hSC _ (ext_alloc (ext_alloc (ext_refl _) _) _)).mono ?_; rintro e1 w1 ⟨f1, d1, L1, rfl, hx1, hO1, hn1, hb1⟩
  have X1 := ext_trans (ext_alloc (ext_alloc (ext_refl w) _) _) hx1
  have G2 := keep_ext hx1 (hg_new (b := w.heap.size + 1) (by simp))
  have s1 := hx1.size
  simp at s1
  have hb1' : Hid (∀ b ∈ L1, w.heap.size + 2 ≤ b) := Lib.hid fun b hb => by have := hb1 b hb; simp at this; omega
  obtain ⟨q1, m1, c1, q2, m2, c2, rfl, rfl⟩ := hO1.forms
  have hlL := hO1.lt
  have XA : Ext w1 (w1.alloc (.cells #[.slice q1 m1 c1, .slice q2 m2 c2] 41)) := ext_alloc (ext_refl _) _
  have GP : (w1.alloc (.cells #[.slice q1 m1 c1, .slice q2 m2 c2] 41)).heap[w1.heap.size]? = some (.cells #[.slice q1 m1 c1, .slice q2 m2 c2] 41 (0, 0)) := hg_new rfl
  have X2 := ext_trans X1 XA
  replace G2 := keep_ext XA G2
  have HO := Lib.hid (hO1.ext XA)
  have HN := Lib.hid hn1
  have HLL : Hid (∀ b ∈ L1, w.heap.size + 2 ≤ b) := hb1'
  clear hSC hx1 hb1 XA hO1 hn1 hlL hb1' X1
  obtain ⟨P, hP⟩ : ∃ P, w1.heap.size = P := ⟨_, rfl⟩
  have hPw : w.heap.size + 2 ≤ P := by omega
  go_wp2_with fail
  rw [hP] at GP
  clear hP s1
  go_loopw [5, 6] (fun v y wr => ∃ (k : Nat) (t : Store) (acc : List Step) (f d : Value) (L : List Nat), k ≤ 6 ∧ y = .int .i64 ((k : Int) + 1) ∧ Ext w wr ∧ wr.heap[P]? = some (.cells #[f, d] 41 (0, 0)) ∧ Hid (OwnStore wr f d t L) ∧ Hid L.Nodup ∧ Hid (∀ b ∈ L, w.heap.size + 2 ≤ b) ∧ Hid (storeOkB t = true) ∧
    Hid (SRow w.heap.size wr v acc) ∧ acc.length ≤ 7 * k ∧ Hid ((addrs6.drop k).foldl allPairStep (t, acc) = allPair s) ∧ wr.heap[w.heap.size + 1]? = some (.cells #[.slice none 0 0, .slice none 0 0] 41 (0, 0))) (fun _ y _ => 7 - (intOf y).toNat)
  case atStart => exact ⟨0, s, [], _, _, L1, by omega, rfl, X2, GP, HO, HN, HLL, HOK, Lib.hid (SRow.nil _ _), by simp, HR0, G2⟩
  case round =>
    clear HO HN HOK HR0 G2 GP X2 HLL
    obtain ⟨k, t, acc, f, d, L, hk, rfl, hX, GP, HO, HN, HB, HST, HS, hal, HR, G2⟩ := hrel
    obtain ⟨b1, k1, j1, b2, k2, j2, rfl, rfl⟩ := HO.out.forms
    obtain ⟨va, vc, rfl⟩ := HS.out.form
    obtain ⟨gp, gpf⟩ := cellsK GP
    have lP := heap_lt GP
    by_cases hlt : k < 6
    · rw [foldl_drop _ _ _ _ (show k < addrs6.length from hlt), addrs6_get] at HR
      have hfl := fun (w' : World) (hx : Ext wr w') => implStepsFlush_c _ _ t ((k : Int) + 1) w' (HO.out.ext hx).v HST.out
      rw [addrStep_at (flushSteps t) k hlt] at hfl
      have hto := fun (sv : Value) (w' : World) (hx : Ext wr w') (hS : Steps' (Old w') w' sv (flushSteps t k)) (hl : (flushSteps t k).length ≤ 7) => implStepsTo_c _ _ t sv _ ((flushSteps t k).length : Nat) false w' (HO.out.ext hx).v HST.out hS (flush_V (flashOk_iff.1 (storeOk_flash HST.out)) hlt) (by omega) ⟨by omega, by omega⟩
      rw [toSteps_all] at hto
      have HST2 := Lib.hid (storeOk_flush HST.out hlt)
      rw [show allPairStep (t, acc) k = (allStep t k, acc ++ flushSteps t k) from rfl] at HR
      rw [show allStep t k = doAll t (flushSteps t k) from rfl] at HR HST2
      generalize doAll t (flushSteps t k) = t2 at *
      generalize flushSteps t k = fs at *
      have hk1 : (k : Int) + 1 ≤ 6 := by omega
      go_wp2_with fail
      refine (hfl _ (ext_refl _)).mono ?_; rintro e4 w4 ⟨sv, rfl, hx4, hS, hwl⟩
      obtain ⟨sa, sc, rfl⟩ := hS.form
      replace GP := keep_ext hx4 GP
      have HSS := Lib.hid hS
      clear gp gpf hfl hS
      obtain ⟨gp, gpf⟩ := cellsK GP
      have lP := heap_lt GP
      go_wp2_with fail
      refine (hto _ _ hx4 HSS.out.steps hwl).mono ?_; rintro e5 w5 ⟨f5, d5, M, rfl, hx5, hOM, hnM, hbM⟩
      have X5 := ext_trans hx4 hx5
      obtain ⟨q3, m3, c3, q4, m4, c4, rfl, rfl⟩ := hOM.forms
      replace GP := keep_ext hx5 GP
      have G2' := keep_ext X5 G2
      have lP5 := heap_lt GP
      have hX5 := ext_trans hX X5
      have HOM := Lib.hid hOM
      have HNM := Lib.hid hnM
      have s4 := hx4.size
      have sX := hX.size
      have s5 := hX5.size
      have HBM : Hid (∀ b ∈ M, w4.heap.size ≤ b) := Lib.hid hbM
      have hneP : ¬ (w5.heap.size = P) := by omega
      have hvl : ∀ gq, (Value.slice va acc.length vc).ownBlock = some gq → gq < wr.heap.size := fun gq hq => (HS.out.lt gq hq).2
      have HVL := Lib.hid hvl
      have HS5 := Lib.hid (HS.out.ext X5)
      have HSF := Lib.hid (HSS.out.ext hx5)
      have hC : Chg [P] w5 (((w5.setCell ⟨P, 0, none⟩ (.slice q3 m3 c3)).setCell ⟨P, 1, none⟩ (.slice q4 m4 c4)).alloc (.cells #[.slice q3 m3 c3, .slice q4 m4 c4] 41)) :=
        (((Chg.refl _ _).set (p := ⟨P, 0, none⟩) (.inl (by simp)) _).set (p := ⟨P, 1, none⟩) (.inl (by simp)) _).alloc' _
      have hne1 := own_ne HS5.out GP (by decide)
      have hne2 := own_ne HSF.out GP (by decide)
      have XW : Ext ((w5.setCell ⟨P, 0, none⟩ (.slice q3 m3 c3)).setCell ⟨P, 1, none⟩ (.slice q4 m4 c4)) (((w5.setCell ⟨P, 0, none⟩ (.slice q3 m3 c3)).setCell ⟨P, 1, none⟩ (.slice q4 m4 c4)).alloc (.cells #[.slice q3 m3 c3, .slice q4 m4 c4] 41)) := ext_alloc (ext_refl _) _
      have HS6 := Lib.hid (SRow.ext (ownsRow_setCell_other (ownsRow_setCell_other HS5.out hne1 (.slice q3 m3 c3)) hne1 (.slice q4 m4 c4)) XW)
      have HSF6 := Lib.hid (SRow.ext (ownsRow_setCell_other (ownsRow_setCell_other HSF.out hne2 (.slice q3 m3 c3)) hne2 (.slice q4 m4 c4)) XW)
      have GP6 : (((w5.setCell ⟨P, 0, none⟩ (.slice q3 m3 c3)).setCell ⟨P, 1, none⟩ (.slice q4 m4 c4)).alloc (.cells #[.slice q3 m3 c3, .slice q4 m4 c4] 41)).heap[P]? = some (.cells #[.slice q3 m3 c3, .slice q4 m4 c4] 41 (0, 0)) := hg_alloc (hgo (hg_here (hg_here GP)) rfl)
      have HOM6 := Lib.hid (HOM.out.chg hC fun b hb hm => by have := HBM.out b hb; simp at hm; omega)
      have G26 := hC.keep G2' (by simp; omega)
      have X6 := hC.ext hX5 (by simp; omega)
      have sC := hC.size
      have HX6 := Lib.hid X6
      have HG26 := Lib.hid G26
      have HGP6 := Lib.hid GP6
      clear gp gpf hto HSS hx5 hOM hnM hbM HS HO hvl hx4 X5 hne1 hne2 XW HS5 HSF HOM hC GP6 G26 X6 G2'
      obtain ⟨gp, gpf⟩ := cellsK GP
      go_wp2_with (refine wpList_appStepsA rfl _ _ rfl rfl HS6.out rfl HSF6.out (by omega) (by omega) (fun v' w' hS' hg => ?_))
      have hOM7 : OwnStore w' (.slice q3 m3 c3) (.slice q4 m4 c4) t2 M := HOM6.out.keep fun b hb => hg.block b (HOM6.out.lt b hb) fun e => by
        have := HVL.out b e.symm
        have := HBM.out b hb
        omega
      refine ⟨⟨k + 1, t2, acc ++ fs, _, _, M, by omega, by go_num, ext_grown HX6.out HS6.out hg, keep_grown HGP6.out (by decide) HS6.out hg, Lib.hid hOM7, HNM, Lib.hid fun b hb => by have := HBM.out b hb; omega, HST2, Lib.hid hS', by simp; omega, HR, keep_grown HG26.out (by decide) HS6.out hg⟩, by simp [intOf]; omega⟩
    · obtain rfl : k = 6 := by omega
      have hr := HR.out
      rw [List.drop_eq_nil_of_le (by simp [addrs6])] at hr
      have hr : (t, acc) = allPair s := hr
      obtain ⟨g2, gf2⟩ := cellsK G2
      have l2 := heap_lt G2
      have HT : Hid (t = playAllS s ∧ acc = (allPair s).2) := Lib.hid ⟨by rw [← HF.out, ← hr], by rw [← hr]⟩
      go_wp2_with fail
      refine bodyPost_ret (v := .tuple #[.agg #[.slice b1 k1 j1, .slice b2 k2 j2], .slice va acc.length vc]) (by simp [results, Try.results55, go_sem, g2, gf2]) rfl ⟨_, _, L, _, rfl, ?_, ?_, HN.out, fun b hb => by have := HB.out b hb; omega, ?_, ?_⟩
      · ((repeat (first | with_reducible (refine ext_set2 ?_ ?_); focus (first | exact Nat.le_refl _ | (dsimp only; omega) | (simp; omega)) | with_reducible refine ext_alloc2 ?_)); with_reducible exact hX)
      · rw [← HT.out.1]
        refine HO.out.keep fun b hb => ?_
        have := HB.out b hb
        iterate 2 rw [setCell_other (by omega)]
      · have hne := own_ne HS.out G2 (by decide)
        rw [← HT.out.2]
        exact ownsRow_setCell_other (ownsRow_setCell_other HS.out hne _) hne _
      · rw [← HT.out.2]; omega

set_option maxRecDepth 20000 in
set_option maxHeartbeats 4000000 in
theorem implStepsTo_neg (fv dv : Value) (s : Store) (sv : Value) (xs : List Step) (cut : Int) (torn : Bool) (w : World) (h : StoreV w fv dv s) (hx : Steps' (Old w) w sv xs) (hcut : cut < 0) :
    Calls Try.prog 56 #[.agg #[fv, dv], sv, .int .i64 cut, .bool torn] w (Ret w (.tuple #[.agg #[.slice none 0 0, .slice none 0 0], .bool false])) := by
  obtain ⟨a1, n1, rfl⟩ := h.1.form
  obtain ⟨a2, n2, rfl⟩ := h.2.form
  obtain ⟨sa, sc, rfl⟩ := hx.form
  clear h hx
  have G8 := hg_new (w := w.alloc (.cells #[.slice a1 s.flash.length n1, .slice a2 s.disk.length n2] 41)) (b := w.heap.size + 1) (x := .cells #[.slice none 0 0, .slice none 0 0] 41) (by simp)
  obtain ⟨g8, gf8⟩ := cellsK G8
  go_enter Try.func56, Try.ntmps56
  go_wp2_with fail
  refine bodyPost_ret (v := .tuple #[.agg #[.slice none 0 0, .slice none 0 0], .bool false]) (by simp [results, Try.results56, go_sem, g8, gf8]) rfl ⟨rfl, ?_⟩
  exact ext_alloc (ext_alloc (ext_refl _) _) _

/-- how many steps are begun -/
def begunN (n : Nat) (c : Int) (torn : Bool) : Int := if torn = true ∧ min c n < n then min c n + 1 else min c n
def begunS (s : Store) (e : Event) : List Step := if e.kind = 4 then (allPair s).2 else if e.c < 0 then [] else (playSteps s e).take (begunN (playSteps s e).length e.c e.torn).toNat
def BegunΦ (w : World) (s : Store) (e : Event) (en : Ending) (w' : World) : Prop := ∃ f d L v, en = .returned (.tuple #[.agg #[f, d], v]) ∧ Ext w w' ∧ OwnStore w' f d (playDoS s e) L ∧ L.Nodup ∧ (∀ b ∈ L, w.heap.size ≤ b) ∧ Steps' (Old w') w' v (begunS s e) ∧ (begunS s e).length ≤ 42
theorem srow_chg {L : List Nat} {w w' : World} {base : Nat} {e : TypeId} {size n : Nat} {v : Value} {xs : List Value} (h : w.ownsRow base e size v n xs) (hx : Chg L w w') (hL : ∀ b ∈ L, b < base) : w'.ownsRow base e size v n xs := by
  obtain ⟨h1, h2⟩ := h
  refine ⟨h1, h2.imp id fun ⟨g, cap, cur, hv, hb, hh, hr⟩ => ⟨g, cap, cur, hv, hb, hx.keep hh fun hm => by have := hL g hm; omega, hr⟩⟩
theorem Sl.take' {w : World} {a : Option Addr} {len cap : Nat} {xs : List Step} (h : Steps' (Old w) w (.slice a len cap) xs) (n : Nat) (hn : n ≤ xs.length) : Steps' (Old w) w (.slice a n cap) (xs.take n) := by
  obtain ⟨a', c', he, hc⟩ := h
  injection he with h1 h2 h3
  subst h1; subst h3
  refine ⟨a, cap, by rw [List.length_take, Nat.min_eq_left hn], fun i x hi => hc i x ?_⟩
  rw [List.getElem?_take] at hi
  split at hi
  · exact hi
  · cases hi

set_option maxRecDepth 20000 in
set_option maxHeartbeats 4000000 in
theorem playBegun_c (g e : Value) (s : Store) (ev : Event) (w : World) (hB : StoreV w g e s) (hok : storeOkB s = true) (hc : -9223372036854775808 ≤ ev.c ∧ ev.c ≤ 9223372036854775807) :
    Calls Try.prog 32 #[.agg #[g, e], eventA ev] w (BegunΦ w s ev) := by
  have hsh := storeOk_shape hok
  have hSC := fun (w' : World) (hx : Ext w w') => storeCopy_c g e s w' (hB.ext hx) hsh.flash hsh.pages hsh.disk
  have hPA := fun (w' : World) (hx : Ext w w') => playAll_c g e s w' (hB.ext hx) hok
  have hPS := fun (w' : World) (hx : Ext w w') => implPlaySteps_c g e s ev w' (hB.ext hx) hok
  have hTO := fun (sv : Value) (w' : World) (hx : Ext w w') (hS : Steps' (Old w') w' sv (playSteps s ev)) (hl : (playSteps s ev).length ≤ 7) (h0 : 0 ≤ ev.c) => implStepsTo_c g e s sv _ ev.c ev.torn w' (hB.ext hx) hok hS (play_V (flashOk_iff.1 (storeOk_flash hok)) ev) (by omega) ⟨h0, hc.2⟩
  have hTN := fun (sv : Value) (w' : World) (hx : Ext w w') (hS : Steps' (Old w') w' sv (playSteps s ev)) (h0 : ev.c < 0) => implStepsTo_neg g e s sv _ ev.c ev.torn w' (hB.ext hx) hS h0
  have HD : Hid (playDoS s ev = if ev.kind = 4 then playAllS s else if ev.c < 0 then s else toSteps s (playSteps s ev) ev.c ev.torn) := Lib.hid rfl
  have HBG : Hid (begunS s ev = if ev.kind = 4 then (allPair s).2 else if ev.c < 0 then [] else (playSteps s ev).take (begunN (playSteps s ev).length ev.c ev.torn).toNat) := Lib.hid rfl
  unfold BegunΦ
  obtain ⟨a3, n3, rfl⟩ := hB.1.form
  obtain ⟨a4, n4, rfl⟩ := hB.2.form
  generalize playDoS s ev = DO at *
  generalize begunS s ev = BG at *
  generalize playSteps s ev = PS at *
  obtain ⟨k, ea, eb, ec, et⟩ := ev
  dsimp only [eventA] at *
  clear hB hok hsh
  by_cases h4 : k = 4
  · subst h4
    have hd : DO = playAllS s := by rw [HD.out, if_pos rfl]
    have hb : BG = (allPair s).2 := by rw [HBG.out, if_pos rfl]
    subst hd; subst hb
    clear hSC hPS hTO hTN HD HBG
    go_enter Try.func32, Try.ntmps32
    go_wp2_with fail
    refine (hPA _ (ext_alloc (ext_alloc (ext_alloc (ext_refl _) _) _) _)).mono ?_; rintro e1 w1 ⟨f, d, L, v, rfl, hx1, hO, hn, hb, hS, hl⟩
    have X1 := ext_trans (ext_alloc (ext_alloc (ext_alloc (ext_refl w) _) _) _) hx1
    have G4 := keep_ext hx1 (hg_new (b := w.heap.size + 1 + 1) (by simp))
    obtain ⟨b1, k1, j1, b2, k2, j2, rfl, rfl⟩ := hO.forms
    obtain ⟨va, vc, rfl⟩ := hS.form
    have HO := Lib.hid hO
    have HN := Lib.hid hn
    have HB : Hid (∀ b ∈ L, w.heap.size + 3 ≤ b) := Lib.hid fun b hm => by have := hb b hm; simp at this; omega
    have HS := Lib.hid hS
    obtain ⟨g4, gf4⟩ := cellsK G4
    clear hPA hx1 hO hn hb hS
    have s1 := X1.size
    go_wp2_with fail
    refine bodyPost_ret (v := .tuple #[.agg #[.slice b1 k1 j1, .slice b2 k2 j2], .slice va (allPair s).2.length vc]) (by simp [results, Try.results32, go_sem, g4, gf4]) rfl ⟨_, _, L, _, rfl, ?_, ?_, HN.out, fun b hb => by have := HB.out b hb; omega, ?_, ?_⟩
    · ((repeat (first | with_reducible (refine ext_set2 ?_ ?_); focus (first | exact Nat.le_refl _ | (dsimp only; omega) | (simp; omega)) | with_reducible refine ext_alloc2 ?_)); with_reducible exact X1)
    · refine HO.out.keep fun b hb => ?_
      have := HB.out b hb
      iterate 2 rw [setCell_other (by omega)]
    · have hne := own_ne HS.out G4 (by decide)
      refine SRow.steps (base := w.heap.size + 3) ?_
      exact ownsRow_setCell_other (ownsRow_setCell_other (HS.out.base (by simp)) hne _) hne _
    · exact hl
  · have hd : DO = if ec < 0 then s else toSteps s PS ec et := by rw [HD.out, if_neg h4]
    have hb : BG = if ec < 0 then [] else PS.take (begunN PS.length ec et).toNat := by rw [HBG.out, if_neg h4]
    clear hPA HD HBG
    go_enter Try.func32, Try.ntmps32
    go_wp2_with fail
    refine (hPS _ (ext_alloc (ext_alloc (ext_alloc (ext_refl _) _) _) _)).mono ?_; rintro e1 w1 ⟨sv, rfl, hx1, hS, hl⟩
    have X1 := ext_trans (ext_alloc (ext_alloc (ext_alloc (ext_refl w) _) _) _) hx1
    have G2 := keep_ext hx1 (hg_alloc (hg_alloc (hg_new (w := w) (b := w.heap.size) (x := .cells #[.slice a3 s.flash.length n3, .slice a4 s.disk.length n4] 41) rfl)))
    have G3 := keep_ext hx1 (hg_alloc (hg_new (b := w.heap.size + 1) (by simp)))
    have G4 := keep_ext hx1 (hg_new (b := w.heap.size + 1 + 1) (by simp))
    obtain ⟨va, vc, rfl⟩ := hS.form
    have hcap : PS.length ≤ vc := by
      rcases hS.2 with ⟨h1, h2⟩ | ⟨g, cap, cur, h1, h2, h3, h4, h5, h6⟩
      · omega
      · injection h1 with e1 e2 e3
        subst e3
        omega
    have HS := Lib.hid hS.steps
    have HR : Hid (SRow (w.heap.size + 3) w1 (.slice va PS.length vc) PS) := Lib.hid (hS.base (by simp))
    obtain ⟨g2, gf2⟩ := cellsK G2
    obtain ⟨g3, gf3⟩ := cellsK G3
    obtain ⟨g4, gf4⟩ := cellsK G4
    clear hPS hS
    have s1 := hx1.size
    simp at s1
    clear hx1
    by_cases hneg : ec < 0
    · rw [if_pos hneg] at hd hb
      subst hd; subst hb
      clear hTO
      go_wp2_with fail
      refine (hTN _ _ X1 HS.out hneg).mono ?_; rintro e2 w2 ⟨rfl, hx2⟩
      have X2 := ext_trans X1 hx2
      have s2 := hx2.size
      have XA : Ext w2 (w2.alloc (.cells #[.slice none 0 0, .slice none 0 0] 41)) := ext_alloc (ext_refl _) _
      have X3 := ext_trans X2 XA
      replace G2 := keep_ext XA (keep_ext hx2 G2)
      replace G4 := keep_ext XA (keep_ext hx2 G4)
      clear g2 gf2 g3 gf3 g4 gf4 hTN hx2 XA
      obtain ⟨g2, gf2⟩ := cellsK G2
      obtain ⟨g4, gf4⟩ := cellsK G4
      go_wp2_with fail
      refine (hSC _ X3).mono ?_; rintro e4 w4 ⟨f, d, L, rfl, hx4, hO, hn, hbb⟩
      have X4 := ext_trans X3 hx4
      replace G4 := keep_ext hx4 G4
      obtain ⟨b1, k1, j1, b2, k2, j2, rfl, rfl⟩ := hO.forms
      have s3 := X3.size
      have HN := Lib.hid hn
      have HO := Lib.hid hO
      have HB : Hid (∀ b ∈ L, w.heap.size + 3 ≤ b) := Lib.hid fun b hm => by have := hbb b hm; simp at this; have := X2.size; omega
      clear g2 gf2 g4 gf4 hSC hx4 G2 hn hO hbb
      obtain ⟨g4, gf4⟩ := cellsK G4
      have s4 := X4.size
      go_wp2_with fail
      refine bodyPost_ret (v := .tuple #[.agg #[.slice b1 k1 j1, .slice b2 k2 j2], .slice none 0 0]) (by simp [results, Try.results32, go_sem, g4, gf4]) rfl ⟨_, _, L, _, rfl, ?_, ?_, HN.out, fun b hb => by have := HB.out b hb; omega, ⟨none, 0, rfl, fun i x hi => by cases hi⟩, by simp⟩
      · ((repeat (first | with_reducible (refine ext_set2 ?_ ?_); focus (first | exact Nat.le_refl _ | (dsimp only; omega) | (simp; omega)) | with_reducible refine ext_alloc2 ?_)); with_reducible exact X4)
      · refine HO.out.keep fun b hb => ?_
        have := HB.out b hb
        iterate 2 rw [setCell_other (by omega)]
    · rw [if_neg hneg] at hd hb
      subst hd
      clear hTN hSC
      go_wp2_with fail
      refine (hTO _ _ X1 HS.out hl (by omega)).mono ?_; rintro e2 w2 ⟨f, d, L, rfl, hx2, hO, hn, hbb⟩
      have X2 := ext_trans X1 hx2
      have s2 := hx2.size
      replace G3 := keep_ext hx2 G3
      replace G4 := keep_ext hx2 G4
      obtain ⟨b1, k1, j1, b2, k2, j2, rfl, rfl⟩ := hO.forms
      have HN := Lib.hid hn
      have HB : Hid (∀ b ∈ L, w.heap.size + 3 ≤ b) := Lib.hid fun b hm => by have := hbb b hm; omega
      have hlO := hO.lt
      have XA : Ext w2 (w2.alloc (.cells #[.slice b1 k1 j1, .slice b2 k2 j2] 41)) := ext_alloc (ext_refl _) _
      have G7 : (w2.alloc (.cells #[.slice b1 k1 j1, .slice b2 k2 j2] 41)).heap[w2.heap.size]? = some (.cells #[.slice b1 k1 j1, .slice b2 k2 j2] 41 (0, 0)) := hg_new rfl
      have HO := Lib.hid (hO.ext XA)
      have X3 := ext_trans X2 XA
      have HS3 := Lib.hid (HR.out.ext (ext_trans hx2 XA))
      replace G3 := keep_ext XA G3
      replace G4 := keep_ext XA G4
      clear g2 gf2 g3 gf3 g4 gf4 hTO hx2 G2 hO hn hbb XA hlO
      obtain ⟨g3, gf3⟩ := cellsK G3
      obtain ⟨g4, gf4⟩ := cellsK G4
      have s3 := X3.size
      have H7 := Lib.hid G7
      have lP := heap_lt G7
      obtain ⟨P, hP⟩ : ∃ P, w2.heap.size = P := ⟨_, rfl⟩
      have hPw : w.heap.size + 3 ≤ P := by omega
      generalize hW : w2.alloc (.cells #[.slice b1 k1 j1, .slice b2 k2 j2] 41) = w3 at *
      rw [hP] at G7 H7 lP
      have hc1 : ∀ (w' : World) (Z : Int) (M : Nat), Z = M → M ≤ PS.length → (Instr.slice 45 (.slice va PS.length vc) none (some (.int .i64 Z)) none).run Try.prog w' = .ok (.slice va M vc) w' := fun w' Z M hZ hM => by
        subst hZ
        rw [run_slice_h w' 45 va PS.length vc (by kernel_rfl) .i64 M (by omega) (by omega)]
        rw [show (sizeOf (Try.prog.elem 45)).run Try.prog w' = .ok 8 w' by kernel_rfl]
        simp only [Result.andThen, sliced, Int.toNat_natCast, Nat.sub_zero]
        first | done | (split <;> simp [Addr.add])
      have HC1 := Lib.hid hc1
      clear hc1
      by_cases c1 : (PS.length : Int) < ec
      · have hnl : ¬ ((PS.length : Int) < PS.length) := by omega
        cases et
        all_goals
          have hc := fun w' => HC1.out w' (PS.length : Int) PS.length (by omega) (by omega)
          have hb2 : Hid (BG = PS.take PS.length) := Lib.hid (by rw [hb]; congr 1; unfold begunN; rw [if_neg (by omega)]; omega)
          clear hb
          go_wp2_with fail
          try rw [hP]
          try rw [hW]
          clear g3 gf3
          refine wp_region_st [4] G4 [0, 1, 2, 3, 4, 5] [] [] (by kernel_rfl) (by kernel_rfl) ?late ?_
          case late => exact fun f hf => absurd hf List.not_mem_nil
          refine Rob.y (v := ?_) rfl rfl (fun w1 hx hH => ?_) ?_; rotate_left
          · (obtain ⟨q7, qf7⟩ := cellsK (hx.1.keep G7 (by simp; omega))); go_simp; first | done | rfl
          simp only [Act.put, List.setIfInBounds_toArray, List.set_cons_succ, List.set_cons_zero]
          iterate 2
            refine Rob.y (v := ?_) rfl rfl (fun w1 hx hH => ?_) ?_; rotate_left
            · go_simp; first | done | rfl | exact (Bool.not_not _).symm
            simp only [Act.put, List.setIfInBounds_toArray, List.set_cons_succ, List.set_cons_zero]
          refine Rob.y (v := ?_) rfl rfl (fun w1 hx hH => ?_) ?_; rotate_left
          · (obtain ⟨q7, qf7⟩ := cellsK (hx.1.keep G7 (by simp; omega))); go_simp; first | done | rfl
          simp only [Act.put, List.setIfInBounds_toArray, List.set_cons_succ, List.set_cons_zero]
          refine Rob.st rfl rfl rfl rfl rfl rfl (by kernel_rfl) (by kernel_rfl) rfl (by omega) (fun lo4 hi4 hlo4 hhi4 => ?_)
          simp only [Act.put, List.setIfInBounds_toArray, List.set_cons_succ, List.set_cons_zero]
          refine Rob.y (v := ?_) rfl rfl (fun w1 hx hH => ?_) ?_; rotate_left
          · go_simp; first | done | rfl | exact (Bool.not_not _).symm
          simp only [Act.put, List.setIfInBounds_toArray, List.set_cons_succ, List.set_cons_zero]
          refine fin_nil (fun w5 hx5 _ => ?_)
          obtain ⟨⟨hC, -⟩, G⟩ := hx5
          have X5 := hC.ext X3 (by simp; omega)
          replace HO := Lib.hid (HO.out.chg hC (fun b hb hm => by have := HB.out b hb; simp at hm; omega))
          have HS5 := Lib.hid (SRow.steps (srow_chg HS3.out hC (by simp)))
          clear g4 gf4
          obtain ⟨g4, gf4⟩ := cellsK G
          go_wp2_with fail
          refine bodyPost_ret (v := .tuple #[.agg #[.slice b1 k1 j1, .slice b2 k2 j2], .slice va PS.length vc]) (by simp [results, Try.results32, go_sem, g4, gf4]) rfl ⟨_, _, L, _, rfl, X5, HO.out, HN.out, fun b hb => by have := HB.out b hb; omega, ?_, ?_⟩
          · rw [hb2.out]
            exact Sl.take' HS5.out _ (by omega)
          · rw [hb2.out, List.length_take]
            omega
      by_cases c2 : (PS.length : Int) = ec
      · subst c2
        clear c1
        cases et
        all_goals
          have hc := fun w' => HC1.out w' (PS.length : Int) PS.length (by omega) (by omega)
          have hb2 : Hid (BG = PS.take PS.length) := Lib.hid (by rw [hb]; congr 1; unfold begunN; rw [if_neg (by omega)]; omega)
          clear hb
          go_wp2_with fail
          try rw [hP]
          try rw [hW]
          clear g3 gf3
          refine wp_region_st [4] G4 [0, 1, 2, 3, 4, 5] [] [] (by kernel_rfl) (by kernel_rfl) ?late ?_
          case late => exact fun f hf => absurd hf List.not_mem_nil
          refine Rob.y (v := ?_) rfl rfl (fun w1 hx hH => ?_) ?_; rotate_left
          · (obtain ⟨q7, qf7⟩ := cellsK (hx.1.keep G7 (by simp; omega))); go_simp; first | done | rfl
          simp only [Act.put, List.setIfInBounds_toArray, List.set_cons_succ, List.set_cons_zero]
          iterate 2
            refine Rob.y (v := ?_) rfl rfl (fun w1 hx hH => ?_) ?_; rotate_left
            · go_simp; first | done | rfl | exact (Bool.not_not _).symm
            simp only [Act.put, List.setIfInBounds_toArray, List.set_cons_succ, List.set_cons_zero]
          refine Rob.y (v := ?_) rfl rfl (fun w1 hx hH => ?_) ?_; rotate_left
          · (obtain ⟨q7, qf7⟩ := cellsK (hx.1.keep G7 (by simp; omega))); go_simp; first | done | rfl
          simp only [Act.put, List.setIfInBounds_toArray, List.set_cons_succ, List.set_cons_zero]
          refine Rob.st rfl rfl rfl rfl rfl rfl (by kernel_rfl) (by kernel_rfl) rfl (by omega) (fun lo4 hi4 hlo4 hhi4 => ?_)
          simp only [Act.put, List.setIfInBounds_toArray, List.set_cons_succ, List.set_cons_zero]
          refine Rob.y (v := ?_) rfl rfl (fun w1 hx hH => ?_) ?_; rotate_left
          · go_simp; first | done | rfl | exact (Bool.not_not _).symm
          simp only [Act.put, List.setIfInBounds_toArray, List.set_cons_succ, List.set_cons_zero]
          refine fin_nil (fun w5 hx5 _ => ?_)
          obtain ⟨⟨hC, -⟩, G⟩ := hx5
          have X5 := hC.ext X3 (by simp; omega)
          replace HO := Lib.hid (HO.out.chg hC (fun b hb hm => by have := HB.out b hb; simp at hm; omega))
          have HS5 := Lib.hid (SRow.steps (srow_chg HS3.out hC (by simp)))
          clear g4 gf4
          obtain ⟨g4, gf4⟩ := cellsK G
          go_wp2_with fail
          refine bodyPost_ret (v := .tuple #[.agg #[.slice b1 k1 j1, .slice b2 k2 j2], .slice va PS.length vc]) (by simp [results, Try.results32, go_sem, g4, gf4]) rfl ⟨_, _, L, _, rfl, X5, HO.out, HN.out, fun b hb => by have := HB.out b hb; omega, ?_, ?_⟩
          · rw [hb2.out]
            exact Sl.take' HS5.out _ (by omega)
          · rw [hb2.out, List.length_take]
            omega
      obtain ⟨m, rfl⟩ : ∃ m : Nat, ec = m := ⟨ec.toNat, by omega⟩
      by_cases ct : et = true
      · subst ct
        have hc := fun w' => HC1.out w' ((m : Int) + 1) (m + 1) (by omega) (by omega)
        have hb2 : Hid (BG = PS.take (m + 1)) := Lib.hid (by rw [hb]; congr 1; unfold begunN; rw [if_pos ⟨rfl, by omega⟩]; omega)
        clear hb
        go_wp2_with fail
        try rw [hP]
        try rw [hW]
        clear g3 gf3
        refine wp_region_st [4] G4 [0, 1, 2, 3, 4, 5] [] [] (by kernel_rfl) (by kernel_rfl) ?late ?_
        case late => exact fun f hf => absurd hf List.not_mem_nil
        refine Rob.y (v := ?_) rfl rfl (fun w1 hx hH => ?_) ?_; rotate_left
        · (obtain ⟨q7, qf7⟩ := cellsK (hx.1.keep G7 (by simp; omega))); go_simp; first | done | rfl
        simp only [Act.put, List.setIfInBounds_toArray, List.set_cons_succ, List.set_cons_zero]
        iterate 2
          refine Rob.y (v := ?_) rfl rfl (fun w1 hx hH => ?_) ?_; rotate_left
          · go_simp; first | done | rfl | exact (Bool.not_not _).symm
          simp only [Act.put, List.setIfInBounds_toArray, List.set_cons_succ, List.set_cons_zero]
        refine Rob.y (v := ?_) rfl rfl (fun w1 hx hH => ?_) ?_; rotate_left
        · (obtain ⟨q7, qf7⟩ := cellsK (hx.1.keep G7 (by simp; omega))); go_simp; first | done | rfl
        simp only [Act.put, List.setIfInBounds_toArray, List.set_cons_succ, List.set_cons_zero]
        refine Rob.st rfl rfl rfl rfl rfl rfl (by kernel_rfl) (by kernel_rfl) rfl (by omega) (fun lo4 hi4 hlo4 hhi4 => ?_)
        simp only [Act.put, List.setIfInBounds_toArray, List.set_cons_succ, List.set_cons_zero]
        refine Rob.y (v := ?_) rfl rfl (fun w1 hx hH => ?_) ?_; rotate_left
        · go_simp; first | done | rfl | exact (Bool.not_not _).symm
        simp only [Act.put, List.setIfInBounds_toArray, List.set_cons_succ, List.set_cons_zero]
        refine fin_nil (fun w5 hx5 _ => ?_)
        obtain ⟨⟨hC, -⟩, G⟩ := hx5
        have X5 := hC.ext X3 (by simp; omega)
        replace HO := Lib.hid (HO.out.chg hC (fun b hb hm => by have := HB.out b hb; simp at hm; omega))
        have HS5 := Lib.hid (SRow.steps (srow_chg HS3.out hC (by simp)))
        clear g4 gf4
        obtain ⟨g4, gf4⟩ := cellsK G
        go_wp2_with fail
        refine bodyPost_ret (v := .tuple #[.agg #[.slice b1 k1 j1, .slice b2 k2 j2], .slice va (m + 1) vc]) (by simp [results, Try.results32, go_sem, g4, gf4]) rfl ⟨_, _, L, _, rfl, X5, HO.out, HN.out, fun b hb => by have := HB.out b hb; omega, ?_, ?_⟩
        · rw [hb2.out]
          exact Sl.take' HS5.out _ (by omega)
        · rw [hb2.out, List.length_take]
          omega
      · obtain rfl : et = false := by simpa using ct
        clear ct
        have hc := fun w' => HC1.out w' (m : Int) m (by omega) (by omega)
        have hb2 : Hid (BG = PS.take m) := Lib.hid (by rw [hb]; congr 1; unfold begunN; rw [if_neg (by simp)]; omega)
        clear hb
        go_wp2_with fail
        try rw [hP]
        try rw [hW]
        clear g3 gf3
        refine wp_region_st [4] G4 [0, 1, 2, 3, 4, 5] [] [] (by kernel_rfl) (by kernel_rfl) ?late ?_
        case late => exact fun f hf => absurd hf List.not_mem_nil
        refine Rob.y (v := ?_) rfl rfl (fun w1 hx hH => ?_) ?_; rotate_left
        · (obtain ⟨q7, qf7⟩ := cellsK (hx.1.keep G7 (by simp; omega))); go_simp; first | done | rfl
        simp only [Act.put, List.setIfInBounds_toArray, List.set_cons_succ, List.set_cons_zero]
        iterate 2
          refine Rob.y (v := ?_) rfl rfl (fun w1 hx hH => ?_) ?_; rotate_left
          · go_simp; first | done | rfl | exact (Bool.not_not _).symm
          simp only [Act.put, List.setIfInBounds_toArray, List.set_cons_succ, List.set_cons_zero]
        refine Rob.y (v := ?_) rfl rfl (fun w1 hx hH => ?_) ?_; rotate_left
        · (obtain ⟨q7, qf7⟩ := cellsK (hx.1.keep G7 (by simp; omega))); go_simp; first | done | rfl
        simp only [Act.put, List.setIfInBounds_toArray, List.set_cons_succ, List.set_cons_zero]
        refine Rob.st rfl rfl rfl rfl rfl rfl (by kernel_rfl) (by kernel_rfl) rfl (by omega) (fun lo4 hi4 hlo4 hhi4 => ?_)
        simp only [Act.put, List.setIfInBounds_toArray, List.set_cons_succ, List.set_cons_zero]
        refine Rob.y (v := ?_) rfl rfl (fun w1 hx hH => ?_) ?_; rotate_left
        · go_simp; first | done | rfl | exact (Bool.not_not _).symm
        simp only [Act.put, List.setIfInBounds_toArray, List.set_cons_succ, List.set_cons_zero]
        refine fin_nil (fun w5 hx5 _ => ?_)
        obtain ⟨⟨hC, -⟩, G⟩ := hx5
        have X5 := hC.ext X3 (by simp; omega)
        replace HO := Lib.hid (HO.out.chg hC (fun b hb hm => by have := HB.out b hb; simp at hm; omega))
        have HS5 := Lib.hid (SRow.steps (srow_chg HS3.out hC (by simp)))
        clear g4 gf4
        obtain ⟨g4, gf4⟩ := cellsK G
        go_wp2_with fail
        refine bodyPost_ret (v := .tuple #[.agg #[.slice b1 k1 j1, .slice b2 k2 j2], .slice va m vc]) (by simp [results, Try.results32, go_sem, g4, gf4]) rfl ⟨_, _, L, _, rfl, X5, HO.out, HN.out, fun b hb => by have := HB.out b hb; omega, ?_, ?_⟩
        · rw [hb2.out]
          exact Sl.take' HS5.out _ (by omega)
        · rw [hb2.out, List.length_take]
          omega
end Go.Bu

set_option linter.unusedVariables false
set_option linter.unusedSimpArgs false
namespace Go.Bu
open Go Go.RowKit Go.Plan Go.Proofs

def costStep (c : Cost) (s : Step) : Cost :=
  if s.kind = 3 then ⟨c.writes + 1, c.wipes, c.disks⟩ else if s.kind = 2 then ⟨c.writes, c.wipes + 1, c.disks⟩ else if s.kind = 1 then ⟨c.writes, c.wipes, c.disks + 1⟩ else c
def costOf (xs : List Step) : Cost := xs.foldl costStep cost0

def costBound (c : Cost) (k : Int) : Prop := 0 ≤ c.writes ∧ c.writes ≤ k ∧ 0 ≤ c.wipes ∧ c.wipes ≤ k ∧ 0 ≤ c.disks ∧ c.disks ≤ k

theorem costOf_take (xs : List Step) (k : Nat) (h : k < xs.length) : costOf (xs.take (k + 1)) = costStep (costOf (xs.take k)) xs[k] := by
  rw [← take_snoc xs k h, costOf, List.foldl_append]; rfl

theorem cells3 {w : World} {B T : Nat} {c : Cost} (h : w.heap[B]? = some (.cells (costC c).toArray T (0, 0))) : w.cell? ⟨B, 0, none⟩ = some (.int .i64 c.writes) ∧ w.cell? ⟨B, 1, none⟩ = some (.int .i64 c.wipes) ∧ w.cell? ⟨B, 2, none⟩ = some (.int .i64 c.disks) ∧ ∀ j, w.frozen? ⟨B, j, none⟩ = false :=
  ⟨by rw [cell_block h]; rfl, by rw [cell_block h]; rfl, by rw [cell_block h]; rfl, frozen_block h⟩

set_option maxHeartbeats 1000000 in
theorem specCostOf_c (v : Value) (xs : List Step) (w : World) (hp : Steps' (Old w) w v xs) (hn : xs.length ≤ 1048576) : Calls Try.prog 23 #[v] w (Ret w (costA (costOf xs))) := by
  obtain ⟨a, cap, rfl⟩ := hp.form
  go_enter Try.func23, Try.ntmps23
  go_wp2
  go_loopw [4] (fun i wr => ∃ (k : Nat) (c : Cost), k ≤ xs.length ∧ i = .int .i64 k ∧ Ext w wr ∧ w.heap.size + 1 < wr.heap.size ∧ c = costOf (xs.take k) ∧ costBound c k ∧
    wr.heap[w.heap.size]? = some (.cells (costC cost0).toArray 26 (0, 0)) ∧ wr.heap[w.heap.size + 1]? = some (.cells (costC c).toArray 26 (0, 0))) (fun i _ => xs.length - (intOf i).toNat)
  case atStart => 
    refine ⟨0, cost0, Nat.zero_le _, rfl, ext_alloc (ext_alloc (ext_refl _) _) _, by simp, rfl, by simp [costBound, cost0], ?_, ?_⟩
    · rw [alloc_get_old (by simp), alloc_get_new rfl]; rfl
    · rw [alloc_get_new (by simp)]; rfl
  case round =>
    obtain ⟨k, c, hk, rfl, hx, hsz, hc, ⟨b1, b2, b3, b4, b5, b6⟩, g0, g1⟩ := hrel
    obtain ⟨e0, e1, e2, ef⟩ := cells3 g1
    have HC := Lib.hid hc; clear hc
    by_cases hlt : k < xs.length
    · obtain ⟨b, o, rfl, hb, h0, h1, h2, h3, h4, h5, h6, h7⟩ := (hp.ext hx).at8 hlt
      have HT := Lib.hid (costOf_take xs k hlt)
      clear h1 h2 h3 h4 h5 h6 h7
      go_wp2
      all_goals
        clear e0 e1 e2 ef h0
        simp only [beq_iff_eq, Bool.not_eq_true, beq_eq_false_iff_ne, ne_eq] at *
        refine ⟨⟨k + 1, costStep c xs[k], by omega, by go_num, ?_, ?_, ?_, ?_, ?_, ?_⟩, by simp [intOf]; omega⟩
        · first | with_reducible exact hx | with_reducible exact ext_set hx (by dsimp only; omega) _
        · first | with_reducible exact hsz | (rw [setCell_size]; exact hsz)
        · rw [HT.out, ← HC.out]
        · unfold costStep costBound; (repeat' split) <;> (try dsimp only) <;> omega
        · first | with_reducible exact g0 | (rw [setCell_other (by omega)]; exact g0)
        · first
            | (rw [setCell_block g1]; unfold costStep; (repeat' split) <;> first | rfl | (exfalso; omega))
            | (rw [g1]; unfold costStep; (repeat' split) <;> first | rfl | (exfalso; omega))
    · obtain rfl : k = xs.length := by omega
      obtain ⟨d0, d1, d2, df⟩ := cells3 g0
      go_wp2
      refine bodyPost_ret (v := costA c) (by simp [results, Try.results23, go_sem, e0, e1, e2, ef, d0, d1, d2, df]) rfl ⟨?_, ?_⟩
      · rw [HC.out, List.take_length]
      · ((repeat (first | with_reducible (refine ext_set2 ?_ ?_); focus (first | exact Nat.le_refl _ | (dsimp only; omega) | (simp; omega)) | with_reducible refine ext_alloc2 ?_)); with_reducible exact hx)

set_option maxHeartbeats 1000000 in
theorem implCostOf_c (v : Value) (xs : List Step) (w : World) (hp : Steps' (Old w) w v xs) (hn : xs.length ≤ 1048576) : Calls Try.prog 19 #[v] w (Ret w (costA (costOf xs))) := by
  obtain ⟨a, cap, rfl⟩ := hp.form
  go_enter Try.func19, Try.ntmps19
  go_wp2
  go_loopw [8] (fun i wr => ∃ (k : Nat) (c : Cost), k ≤ xs.length ∧ i = .int .i64 k ∧ Ext w wr ∧ w.heap.size + 1 < wr.heap.size ∧ c = costOf (xs.take k) ∧ costBound c k ∧
    wr.heap[w.heap.size]? = some (.cells (costC cost0).toArray 26 (0, 0)) ∧ wr.heap[w.heap.size + 1]? = some (.cells (costC c).toArray 26 (0, 0))) (fun i _ => xs.length - (intOf i).toNat)
  case atStart => 
    refine ⟨0, cost0, Nat.zero_le _, rfl, ext_alloc (ext_alloc (ext_refl _) _) _, by simp, rfl, by simp [costBound, cost0], ?_, ?_⟩
    · rw [alloc_get_old (by simp), alloc_get_new rfl]; rfl
    · rw [alloc_get_new (by simp)]; rfl
  case round =>
    obtain ⟨k, c, hk, rfl, hx, hsz, hc, ⟨b1, b2, b3, b4, b5, b6⟩, g0, g1⟩ := hrel
    obtain ⟨e0, e1, e2, ef⟩ := cells3 g1
    have HC := Lib.hid hc; clear hc
    by_cases hlt : k < xs.length
    · obtain ⟨b, o, rfl, hb, h0, h1, h2, h3, h4, h5, h6, h7⟩ := (hp.ext hx).at8 hlt
      have HT := Lib.hid (costOf_take xs k hlt)
      go_wp2
      all_goals
        clear e0 e1 e2 ef h0 h1 h2 h3 h4 h5 h6 h7
        simp only [beq_iff_eq, Bool.not_eq_true, beq_eq_false_iff_ne, ne_eq] at *
        refine ⟨⟨k + 1, costStep c xs[k], by omega, by go_num, ?_, ?_, ?_, ?_, ?_, ?_⟩, by simp [intOf]; omega⟩
        · first | with_reducible exact ext_alloc hx _ | with_reducible exact ext_alloc (ext_set hx (by dsimp only; omega) _) _
        · first | (simp; rw [setCell_size]; omega) | (simp; omega)
        · rw [HT.out, ← HC.out]
        · unfold costStep costBound; (repeat' split) <;> (try dsimp only) <;> omega
        · rw [alloc_get_old (by first | omega | (rw [setCell_size]; omega))]; first | with_reducible exact g0 | (rw [setCell_other (by omega)]; exact g0)
        · rw [alloc_get_old (by first | omega | (rw [setCell_size]; omega))]
          first
            | (rw [setCell_block g1]; unfold costStep; (repeat' split) <;> first | rfl | (exfalso; omega))
            | (rw [g1]; unfold costStep; (repeat' split) <;> first | rfl | (exfalso; omega))
    · obtain rfl : k = xs.length := by omega
      obtain ⟨d0, d1, d2, df⟩ := cells3 g0
      go_wp2
      refine bodyPost_ret (v := costA c) (by simp [results, Try.results19, go_sem, e0, e1, e2, ef, d0, d1, d2, df]) rfl ⟨?_, ?_⟩
      · rw [HC.out, List.take_length]
      · ((repeat (first | with_reducible (refine ext_set2 ?_ ?_); focus (first | exact Nat.le_refl _ | (dsimp only; omega) | (simp; omega)) | with_reducible refine ext_alloc2 ?_)); with_reducible exact hx)

end Go.Bu

set_option linter.unusedVariables false
set_option linter.unusedSimpArgs false
namespace Go.Bu
open Go Go.RowKit Go.Plan Go.Proofs

theorem costFold_add : ∀ (xs : List Step) (c : Cost), xs.foldl costStep c = costSum c (xs.foldl costStep cost0)
  | [], c => by simp [costSum, cost0]
  | x :: xs, c => by
    rw [List.foldl_cons, List.foldl_cons, costFold_add xs (costStep c x), costFold_add xs (costStep cost0 x)]
    unfold costStep costSum cost0
    split
    · simp; omega
    · split
      · simp; omega
      · split <;> simp
        omega
theorem costOf_app (a b : List Step) : costOf (a ++ b) = costSum (costOf a) (costOf b) := by
  unfold costOf; rw [List.foldl_append, costFold_add b]
theorem costOf_bound (xs : List Step) : costBound (costOf xs) xs.length := by
  have : ∀ (xs : List Step) (c : Cost) (k : Int), costBound c k → costBound (xs.foldl costStep c) (k + xs.length) := by
    intro xs
    induction xs with
    | nil => intro c k h; simpa using h
    | cons x xs ih =>
      intro c k h
      rw [List.foldl_cons]
      have h1 : costBound (costStep c x) (k + 1) := by
        unfold costBound at *; unfold costStep
        (repeat' split) <;> (try dsimp only) <;> omega
      have := ih _ _ h1
      rw [show k + ((x :: xs).length : Int) = k + 1 + xs.length by simp; omega]
      exact this
  have h := this xs cost0 0 (by simp [costBound, cost0])
  rw [Int.zero_add] at h; exact h
theorem costOf_ok {xs : List Step} (h : xs.length ≤ 9999) : costOkB (costOf xs) = true := by
  have := costOf_bound xs
  unfold costBound at this
  simp only [costOkB, Bool.and_eq_true, inB_iff]; omega
theorem costOf_cut (xs : List Step) (k : Nat) (h : xs.length ≤ 9999) : costAdd (costOf (xs.take k)) (costOf (xs.drop k)) = costOf xs := by
  have h1 := costOf_ok (xs := xs.take k) (by rw [List.length_take]; omega)
  have h2 := costOf_ok (xs := xs.drop k) (by rw [List.length_drop]; omega)
  unfold costAdd
  rw [h1, h2, ← costOf_app, List.take_append_drop]; rfl
def costN (c : Cost) : Int := c.writes + c.wipes + c.disks
theorem costN_step (c : Cost) (x : Step) : costN (costStep c x) = costN c + if x.kind = 1 ∨ x.kind = 2 ∨ x.kind = 3 then 1 else 0 := by
  unfold costN costStep
  split
  · rw [if_pos (by omega)]; dsimp only; omega
  · split
    · rw [if_pos (by omega)]; dsimp only; omega
    · split
      · rw [if_pos (by omega)]; dsimp only; omega
      · rw [if_neg (by omega)]; omega
end Go.Bu

set_option linter.unusedVariables false
set_option linter.unusedSimpArgs false
namespace Go.Bu
open Go Go.RowKit Go.Plan

section
variable {P : Program} {Q : Exit → Act → World → Prop} {a : Act} {w : World} {ops : Array Oper}

/-- as the kit's word on code, of a frame that was called in the plain way -/
def WpN (P : Program) (c : Code) (Q : Exit → Act → World → Prop) (a : Act) (w : World) : Prop :=
  ∀ (b : Frame) (k : List Item) (cs : List Frame), b.kind = .normal → ∃ e a' w', Q e a' w' ∧ Arrives P (lone (b.at a (.code c :: k)) cs w) b k cs e a' w'
/-- the operations of a region that are still to come -/
def OpsN (P : Program) (ops : Array Oper) (Q : Exit → Act → World → Prop) (l : List Nat) (a : Act) (w : World) : Prop :=
  ∀ (b : Frame) (k : List Item) (cs : List Frame), b.kind = .normal → ∃ e a' w', Q e a' w' ∧ Arrives P (lone (b.at a (.inRegion ops l :: k)) cs w) b k cs e a' w'

theorem WpN.of {c : Code} (h : c.wp P Q a w) : WpN P c Q a w := fun b k cs _ => h b k cs

/-- an exit that passes a piece of code that is still to come -/
theorem passCode {m : Machine} {b : Frame} {x : Item} {k : List Item} {cs : List Frame} {e : Exit} {a : Act} {w : World} (hx : x.plain = true) (hn : e ≠ .normal) (h : Arrives P m b (x :: k) cs e a w) : Arrives P m b k cs e a w :=
  Arrives.pass hx (fun _ _ => .inl hn) h
theorem then_other {next : Act → World → Prop} {e : Exit} (hn : e ≠ .normal) (h : Exit.then next Q e a w) : Q e a w := by
  cases e <;> first | exact h | exact absurd rfl hn

theorem WpN.seqN {x y : Code} (h : WpN P x (Exit.then (fun a w => WpN P y Q a w) Q) a w) : WpN P (.seq x y) Q a w := by
  intro b k cs hk
  obtain ⟨e, a1, w1, hq, harr⟩ := h b (.code y :: k) cs hk
  by_cases hn : e = .normal
  · subst hn
    obtain ⟨e2, a2, w2, hq2, harr2⟩ := hq b k cs hk
    exact ⟨e2, a2, w2, hq2, harr2.of_steps (Steps.head step_seq harr)⟩
  · exact ⟨e, a1, w1, then_other hn hq, (passCode rfl hn harr).of_steps (.one step_seq)⟩
/-- a piece of code that does not speak to the channel, and what follows -/
theorem WpN.seq {x y : Code} (h : ∀ K : Act → World → Prop, (∀ a w, WpN P y Q a w → K a w) → x.wp P (Exit.then K Q) a w) : WpN P (.seq x y) Q a w :=
  .seqN (.of (h _ fun _ _ h => h))
theorem WpN.seqK {x y : Code} (h : ∀ K : Act → World → Prop, (∀ a w, WpN P y Q a w → K a w) → WpN P x (Exit.then K Q) a w) : WpN P (.seq x y) Q a w :=
  .seqN (h _ fun _ _ h => h)

theorem WpN.block {id : Nat} {c : Code} (h : WpN P c (Exit.inBlock id Q) a w) : WpN P (.block id c) Q a w := by
  intro b k cs hk
  obtain ⟨e, a1, w1, hq, harr⟩ := h b (.inBlock id :: k) cs hk
  cases e with
  | normal => exact ⟨.normal, a1, w1, hq, Steps.head step_block (Steps.trans harr (.one step_inBlock))⟩
  | exit j =>
    by_cases hj : j = id
    · subst hj
      have hq' : Q .normal a1 w1 := by simpa [Exit.inBlock] using hq
      exact ⟨.normal, a1, w1, hq', Steps.head step_block (harr k (by simp [exitTo]))⟩
    · have hq' : Q (.exit j) a1 w1 := by simpa [Exit.inBlock, hj] using hq
      refine ⟨.exit j, a1, w1, hq', fun k' hk' => Steps.head step_block (harr k' ?_)⟩
      have hne : (id == j) = false := beq_eq_false_iff_ne.2 (Ne.symm hj)
      simp [exitTo, hne, hk']
  | goto l => exact ⟨_, a1, w1, hq, fun k' hk' => Steps.head step_block (harr k' (by simp [gotoIn, hk']))⟩
  | ret => exact ⟨_, a1, w1, hq, Arrives.of_steps (.one step_block) harr⟩
  | panic ch => exact ⟨_, a1, w1, hq, Arrives.of_steps (.one step_block) harr⟩
  | outgrown => exact ⟨_, a1, w1, hq, Arrives.of_steps (b := b) (k := k) (cs := cs) (e := .outgrown) (.one step_block) harr⟩

theorem WpN.loop {c : Code} (I : Act → World → Prop) (μ : Act → World → Nat) (h0 : I a w)
    (round : ∀ a w, I a w → WpN P c (Exit.then (fun a' w' => I a' w' ∧ μ a' w' < μ a w) Q) a w) : WpN P (.loop c) Q a w := by
  intro b k cs hk
  have key : ∀ n a w, μ a w = n → I a w → ∃ e a' w', Q e a' w' ∧ Arrives P (lone (b.at a (.code c :: .inLoop c :: k)) cs w) b k cs e a' w' := by
    intro n
    induction n using Nat.strongRecOn with
    | _ n ih =>
      intro a w hn hI
      obtain ⟨e, a1, w1, hq, harr⟩ := round a w hI b (.inLoop c :: k) cs hk
      by_cases he : e = .normal
      · subst he
        obtain ⟨hI1, hlt⟩ := hq
        obtain ⟨e2, a2, w2, hq2, harr2⟩ := ih (μ a1 w1) (hn ▸ hlt) a1 w1 rfl hI1
        exact ⟨e2, a2, w2, hq2, harr2.of_steps (Steps.trans harr (.one step_inLoop))⟩
      · exact ⟨e, a1, w1, then_other he hq, passCode rfl he harr⟩
  obtain ⟨e, a', w', hq, harr⟩ := key _ a w rfl h0
  exact ⟨e, a', w', hq, harr.of_steps (.one step_loop)⟩

theorem WpN.region {id : Nat} (h : OpsN P ops Q (List.range ops.size) a w) : WpN P (.region id ops false) Q a w := by
  intro b k cs hk
  obtain ⟨e, a', w', hq, harr⟩ := h b k cs hk
  exact ⟨e, a', w', hq, harr.of_steps (.one step_region)⟩

theorem calls_of_wpN {f : FuncId} {fn : Func} {c : Code} {args : Array Value} {R : Ending → World → Prop} (hf : P.funcs[f]? = some fn) (hb : fn.body = some c)
    (h : WpN P c (bodyPost P fn R) { tmps := args ++ Array.replicate (fn.ntmps - args.size) undef, defers := [] } w) : Calls P f args w R := by
  intro cs
  have henter : Frame.enter P f args .normal = ({ (default : Frame) with fn := f, kind := .normal } : Frame).at { tmps := args ++ Array.replicate (fn.ntmps - args.size) undef, defers := [] } [.code c] := by
    simp [Frame.enter, Frame.at, hf, hb]
  obtain ⟨e, a', w', hq, harr⟩ := h { (default : Frame) with fn := f, kind := .normal } [] cs rfl
  rw [← henter] at harr
  cases e with
  | normal =>
    obtain ⟨hd, v, hr, hR⟩ := hq
    exact ⟨.returned v, w', _, hR, Steps.trans harr (.one step_end), rfl, rfl, hd, rfl, fn, hf, hr⟩
  | ret =>
    obtain ⟨hd, v, hr, hR⟩ := hq
    obtain ⟨todo, hs⟩ := harr
    exact ⟨.returned v, w', _, hR, hs, rfl, rfl, hd, rfl, fn, hf, hr⟩
  | panic chain =>
    obtain ⟨hd, hR⟩ := hq
    obtain ⟨todo, hs⟩ := harr
    exact ⟨.panicked chain, w', _, hR, hs, rfl, rfl, hd, fn, hf⟩
  | exit j => exact hq.elim
  | goto l => exact hq.elim
  | outgrown => exact ⟨.outgrown, w', { (default : Frame) with fn := f, kind := .normal }, hq, harr.resolve_left (by simp), rfl, trivial⟩

theorem OpsN.nil (h : Q .normal a w) : OpsN P ops Q [] a w := fun b k cs _ => ⟨.normal, a, w, h, .one step_region_end⟩

section
variable {i : Nat} {rest : List Nat} {o : Oper}
theorem finish_of (ho : ops[i]? = some o) (b : Frame) (k : List Item) (v : Value) : (b.at a (.inRegion ops (i :: rest) :: k)).finish v = b.at (a.put o.dst v) (.inRegion ops rest :: k) := by
  rw [Frame.finish_at, ho]; rfl

theorem OpsN.val {v : Value} {w' : World} (ho : ops[i]? = some o) (hw : Region.wanted o (yielded ops a.tmps) = true) (hr : (execOp a.eval o).run P w = .ok (.value v) w') (h : OpsN P ops Q rest (a.put o.dst v) w') : OpsN P ops Q (i :: rest) a w := by
  intro b k cs hk
  obtain ⟨e, a', w2, hq, harr⟩ := h b k cs hk
  refine ⟨e, a', w2, hq, harr.of_steps (.one (step_lone_go ?_))⟩
  rw [stepG_op ho hw, ← finish_of ho b k v]
  simp [stepG.apply, hr]

theorem OpsN.call {f : FuncId} {args : Array Value} {w' : World} (ho : ops[i]? = some o) (hw : Region.wanted o (yielded ops a.tmps) = true) (hr : (execOp a.eval o).run P w = .ok (.enter f args) w')
    (h : Calls P f args w' fun e w2 => ∃ v, e = .returned v ∧ OpsN P ops Q rest (a.put o.dst v) w2) : OpsN P ops Q (i :: rest) a w := by
  intro b k cs hk
  obtain ⟨e, w2, fr, ⟨v, rfl, hn⟩, hsteps, _, hleave⟩ := h (b.at a (.inRegion ops (i :: rest) :: k) :: cs)
  obtain ⟨e, a', w3, hq, harr⟩ := hn b k cs hk
  have henter : step P (lone (b.at a (.inRegion ops (i :: rest) :: k)) cs w) = .next (lone (Frame.enter P f args .normal) (b.at a (.inRegion ops (i :: rest) :: k) :: cs) w') :=
    step_lone_go (by rw [stepG_op ho hw]; simp [stepG.apply, hr, Frame.at])
  refine ⟨e, a', w3, hq, harr.of_steps (Steps.head henter (Steps.trans hsteps (.one ?_)))⟩
  rw [← finish_of ho b k v]
  exact step_leave_returned hleave

/-- one step of the machine -/
theorem OpsN.step {v : Value} {w' : World} (ho : ops[i]? = some o) (hs : ∀ (b : Frame) (k : List Item) (cs : List Frame), b.kind = .normal → step P (lone (b.at a (.inRegion ops (i :: rest) :: k)) cs w) = .next (lone ((b.at a (.inRegion ops (i :: rest) :: k)).finish v) cs w'))
    (h : OpsN P ops Q rest (a.put o.dst v) w') : OpsN P ops Q (i :: rest) a w := by
  intro b k cs hk
  obtain ⟨e, a', w2, hq, harr⟩ := h b k cs hk
  refine ⟨e, a', w2, hq, harr.of_steps (.one ?_)⟩
  rw [hs b k cs hk, finish_of ho b k v]

open Go.Conc in
/-- a send into a buffer with room -/
theorem OpsN.send {c cap s r : Nat} {buf : Array Value} {v z : Value} {tm : Bool} (ho : ops[i]? = some o) (hw : Region.wanted o (yielded ops a.tmps) = true)
    (hr : (execOp a.eval o).run P w = .ok (.comm #[scase c v z] true .send) w) (hc : w.heap[c]? = some (.chan cap buf false s r tm)) (hroom : buf.size < cap)
    (h : OpsN P ops Q rest (a.put o.dst undef) (w.setChan c cap (buf.push v) false (s + 1) r tm)) : OpsN P ops Q (i :: rest) a w :=
  .step ho (fun b k cs hk => step_lone_send_room (fr := b.at a (.inRegion ops (i :: rest) :: k)) (stepG_comm ho hw (by rw [hk]; decide) hr) hc hroom) h

open Go.Conc in
/-- a receive, with the word whether there was something, from a buffer that holds something -/
theorem OpsN.recv {c cap s r : Nat} {buf : Array Value} {z : Value} {tm closed : Bool} (ho : ops[i]? = some o) (hw : Region.wanted o (yielded ops a.tmps) = true)
    (hr : (execOp a.eval o).run P w = .ok (.comm #[rcase c z] true (.recv true)) w) (hc : w.heap[c]? = some (.chan cap buf closed s r tm)) (hsome : 0 < buf.size)
    (h : OpsN P ops Q rest (a.put o.dst (.tuple #[buf.getD 0 undef, .bool true])) (w.setChan c cap (buf.extract 1 buf.size) closed s (r + 1) tm)) : OpsN P ops Q (i :: rest) a w :=
  .step ho (fun b k cs hk => step_lone_recv_buf (fr := b.at a (.inRegion ops (i :: rest) :: k)) true (stepG_comm ho hw (by rw [hk]; decide) hr) hc hsome) h

open Go.Conc in
/-- .. from a closed channel that holds nothing -/
theorem OpsN.recvShut {c cap s r : Nat} {z : Value} {tm : Bool} (ho : ops[i]? = some o) (hw : Region.wanted o (yielded ops a.tmps) = true)
    (hr : (execOp a.eval o).run P w = .ok (.comm #[rcase c z] true (.recv true)) w) (hc : w.heap[c]? = some (.chan cap #[] true s r tm))
    (h : OpsN P ops Q rest (a.put o.dst (.tuple #[z, .bool false])) w) : OpsN P ops Q (i :: rest) a w :=
  .step ho (fun b k cs hk => step_lone_recv_shut (fr := b.at a (.inRegion ops (i :: rest) :: k)) true (stepG_comm ho hw (by rw [hk]; decide) hr) hc) h
end
end
end Go.Bu

set_option linter.unusedVariables false
set_option linter.unusedSimpArgs false
namespace Go.Bu
open Go Go.RowKit Go.Plan Go.Proofs

/-- what each event costs -/
def evCost (s : Store) (e : Event) : Cost := costOf (begunS s e)
def evCosts : Store → List Event → List Cost
  | _, [] => []
  | s, e :: es => evCost s e :: evCosts (playDoS s e) es
def evStore (s : Store) (es : List Event) : Store := es.foldl playDoS s
def sumCost (cs : List Cost) : Cost := cs.foldl costSum cost0
def runCost (es : List Event) : Cost := sumCost (evCosts newStore es)

theorem evCosts_len : ∀ (es : List Event) (s : Store), (evCosts s es).length = es.length
  | [], _ => rfl
  | _ :: es, s => by simp [evCosts, evCosts_len es]
theorem evCosts_take : ∀ (es : List Event) (s : Store) (k : Nat) (hk : k < es.length), (evCosts s es).take (k + 1) = (evCosts s es).take k ++ [evCost (evStore s (es.take k)) es[k]]
  | [], _, _, hk => by simp at hk
  | e :: es, s, 0, _ => by simp [evCosts, evStore]
  | e :: es, s, k + 1, hk => by
    have := evCosts_take es (playDoS s e) k (by simpa using hk)
    simp only [evCosts, List.take_succ_cons, List.cons_append, List.cons.injEq, true_and, List.getElem_cons_succ] at this ⊢
    rw [this]; rfl
theorem evStore_take (s : Store) (es : List Event) (k : Nat) (hk : k < es.length) : evStore s (es.take (k + 1)) = playDoS (evStore s (es.take k)) es[k] := by
  unfold evStore
  rw [List.take_succ_eq_append_getElem hk, List.foldl_append]; rfl

theorem Sl.at5 {D : Nat → Prop} {w : World} {a : Option Addr} {len cap : Nat} {xs : List Event} (h : Events D w (.slice a len cap) xs) {k : Nat} (hk : k < xs.length) :
    ∃ b o, a = some ⟨b, o, none⟩ ∧ D b ∧ w.cell? ⟨b, o + k * 5, none⟩ = some (.int .i64 xs[k].kind) ∧ w.cell? ⟨b, o + k * 5 + 1, none⟩ = some (.int .i64 xs[k].a) ∧ w.cell? ⟨b, o + k * 5 + 2, none⟩ = some (.int .i64 xs[k].b) ∧
      w.cell? ⟨b, o + k * 5 + 3, none⟩ = some (.int .i64 xs[k].c) ∧ w.cell? ⟨b, o + k * 5 + 4, none⟩ = some (.bool xs[k].torn) := by
  obtain ⟨b, o, ha, hb, hc⟩ := Sl.at h hk
  exact ⟨b, o, ha, hb, by simpa using hc 0 _ rfl, hc 1 _ rfl, hc 2 _ rfl, hc 3 _ rfl, hc 4 _ rfl⟩

theorem sumCost_bound : ∀ (cs : List Cost) (c : Cost) (n : Int), costBound c n → (∀ x ∈ cs, costBound x 42) → costBound (cs.foldl costSum c) (n + 42 * cs.length)
  | [], c, n, h, _ => by simpa using h
  | x :: cs, c, n, h, hx => by
    have h1 := hx x (by simp)
    have := sumCost_bound cs (costSum c x) (n + 42) (by unfold costBound costSum at *; dsimp only; omega) fun y hy => hx y (by simp [hy])
    rw [List.foldl_cons, List.length_cons]
    have e : n + 42 * (((cs.length + 1 : Nat)) : Int) = n + 42 + 42 * cs.length := by push_cast; omega
    rw [e]; exact this
theorem costOk_of {c : Cost} {n : Int} (h : costBound c n) (hn : n ≤ 9999) : costOkB c = true := by
  obtain ⟨h1, h2, h3, h4, h5, h6⟩ := h
  unfold costOkB
  simp only [Bool.and_eq_true, inB_iff]
  omega
theorem evStore_ok : ∀ (es : List Event) (s : Store), storeOkB s = true → storeOkB (evStore s es) = true
  | [], _, h => h
  | e :: es, s, h => evStore_ok es (playDoS s e) (storeOk_play h e)
theorem evCosts_bound {es : List Event} {n : Nat} (h : ∀ k (hk : k < es.length), k < n → costBound (evCost (evStore newStore (es.take k)) es[k]) 42) : ∀ x ∈ evCosts newStore (es.take n), costBound x 42 := by
  induction n with
  | zero => intro x hx; simp [evCosts] at hx
  | succ n ih =>
    intro x hx
    by_cases hn : n < es.length
    · have e := evCosts_take es newStore n hn
      have e2 : evCosts newStore (es.take (n + 1)) = (evCosts newStore es).take (n + 1) := by
        clear ih hx h e
        have : ∀ (es : List Event) (s : Store) (m : Nat), evCosts s (es.take m) = (evCosts s es).take m := by
          intro es
          induction es with
          | nil => intro s m; simp [evCosts]
          | cons e es ih => intro s m; cases m with
            | zero => simp [evCosts]
            | succ m => simp only [List.take_succ_cons, evCosts, ih]
        exact this es newStore (n + 1)
      have e3 : evCosts newStore (es.take n) = (evCosts newStore es).take n := by
        have : ∀ (es : List Event) (s : Store) (m : Nat), evCosts s (es.take m) = (evCosts s es).take m := by
          intro es
          induction es with
          | nil => intro s m; simp [evCosts]
          | cons e es ih => intro s m; cases m with
            | zero => simp [evCosts]
            | succ m => simp only [List.take_succ_cons, evCosts, ih]
        exact this es newStore n
      rw [e2, e, ← e3] at hx
      rcases List.mem_append.1 hx with hx | hx
      · exact ih (fun k hk hkn => h k hk (by omega)) x hx
      · obtain rfl := List.mem_singleton.1 hx
        exact h n hn (by omega)
    · rw [List.take_of_length_le (by omega)] at hx
      refine ih (fun k hk hkn => h k hk (by omega)) x ?_
      rwa [List.take_of_length_le (by omega)]
theorem evCosts_of_take (es : List Event) (s : Store) (m : Nat) : evCosts s (es.take m) = (evCosts s es).take m := by
  induction es generalizing s m with
  | nil => simp [evCosts]
  | cons e es ih => cases m with
    | zero => simp [evCosts]
    | succ m => simp only [List.take_succ_cons, evCosts, ih]

/-- the costs that a channel holds -/
def chanOf (cs : List Cost) : Array Value := (cs.map fun c => costA c).toArray
theorem chanOf_push (cs : List Cost) (c : Cost) : (chanOf cs).push (costA c) = chanOf (cs ++ [c]) := by unfold chanOf; simp
theorem chanOf_drop (cs : List Cost) (k : Nat) : (chanOf (cs.drop k)).extract 1 (chanOf (cs.drop k)).size = chanOf (cs.drop (k + 1)) := by
  unfold chanOf
  rw [← Array.toList_inj]
  simp [List.map_drop, List.drop_drop, Nat.add_comm]
  rw [List.take_of_length_le (by simp; omega)]
theorem chanOf_get (cs : List Cost) (k : Nat) (hk : k < cs.length) : (chanOf (cs.drop k)).getD 0 undef = costA cs[k] := by
  unfold chanOf
  rw [List.drop_eq_getElem_cons hk]; simp [List.getElem?_eq_getElem hk]
theorem sets3 {w : World} {B : Nat} {c : Cost} {T : TypeId} (h : w.heap[B]? = some (.cells (costC c).toArray T (0, 0))) (d : Cost) : ∃ w', (((w.setCell ⟨B, 0, none⟩ (.int .i64 d.writes)).setCell ⟨B, 1, none⟩ (.int .i64 d.wipes)).setCell ⟨B, 2, none⟩ (.int .i64 d.disks)) = w' ∧ w'.heap[B]? = some (.cells (costC d).toArray T (0, 0)) ∧ Chg [B] w w' :=
  ⟨_, rfl, hgo (hg_here (hg_here (hg_here h))) rfl, (((Chg.refl _ _).set (p := ⟨B, 0, none⟩) (.inl (by simp)) _).set (p := ⟨B, 1, none⟩) (.inl (by simp)) _).set (p := ⟨B, 2, none⟩) (.inl (by simp)) _⟩
theorem setsS {w : World} {B : Nat} {f d : Value} {T : TypeId} (h : w.heap[B]? = some (.cells #[f, d] T (0, 0))) (f' d' : Value) : ∃ w', (w.setCell ⟨B, 0, none⟩ f').setCell ⟨B, 1, none⟩ d' = w' ∧ w'.heap[B]? = some (.cells #[f', d'] T (0, 0)) ∧ Chg [B] w w' :=
  ⟨_, rfl, hgo (hg_here (hg_here h)) rfl, ((Chg.refl _ _).set (p := ⟨B, 0, none⟩) (.inl (by simp)) _).set (p := ⟨B, 1, none⟩) (.inl (by simp)) _⟩
/-- how much a channel holds -/
def chanLen (c : Nat) (w : World) : Nat := match w.heap[c]? with | some (.chan _ buf _ _ _ _) => buf.size | _ => 0
theorem chanLen_eq {c cap s r : Nat} {w : World} {buf : Array Value} {cl tm : Bool} (h : w.heap[c]? = some (.chan cap buf cl s r tm)) : chanLen c w = buf.size := by unfold chanLen; rw [h]
theorem chan_chg {P : Program} (w : World) (c cap : Nat) (buf : Array Value) (cl : Bool) (s r : Nat) (tm : Bool) : Chg [c] w (w.setChan c cap buf cl s r tm) :=
  ⟨rfl, rfl, rfl, by rw [Go.Conc.size_setChan]; exact Nat.le_refl _, fun k hk hn => by simp only [World.setChan]; rw [Array.getElem?_setIfInBounds_ne (by simp at hn; omega)]⟩

def CostInv (w : World) (p5 : Nat) (v : Value) (xs : List Event) (ac : Act) (wr : World) : Prop := ∃ (k : Nat) (y1 y6 y7 y8 y9 y10 y11 y12 y13 y14 y15 y16 y17 y21 y22 y23 y24 y25 y26 y27 y28 y29 y30 y31 y32 y33 y34 y35 y36 y37 y38 y39 y40 y41 y42 y43 f d : Value) (L : List Nat), ac = ⟨#[v, y1, .pointer (some ⟨w.heap.size, 0, none⟩), .bool false, .chan (some (w.heap.size + 1)), .pointer (some ⟨p5, 0, none⟩), y6, y7, y8, y9, y10, y11, y12, y13, y14, y15, y16, y17, v, .int .i64 xs.length, .int .i64 k, y21, y22, y23, y24, y25, y26, y27, y28, y29, y30, y31, y32, y33, y34, y35, y36, y37, y38, y39, y40, y41, y42, y43], []⟩ ∧ k ≤ xs.length ∧ Ext w wr ∧ wr.heap[w.heap.size + 1]? = some (.chan 60 (chanOf ((evCosts newStore xs).take k)) false k 0 false) ∧ wr.heap[p5]? = some (.cells #[f, d] 41 (0, 0)) ∧ OwnStore wr f d (evStore newStore (xs.take k)) L ∧ (∀ x ∈ L, w.heap.size + 1 < x ∧ x ≠ p5) ∧ wr.heap[w.heap.size]? = some (.cells #[.int .i64 0, .int .i64 0, .int .i64 0] 26 (0, 0)) ∧ (∀ j (hj : j < xs.length), j < k → costBound (evCost (evStore newStore (xs.take j)) xs[j]) 42)

def CostInv2 (w : World) (b10 : Nat) (cs : List Cost) (ac : Act) (wr : World) : Prop := ∃ (j : Nat) (y0 y1 y3 y5 y6 y7 y8 y9 y11 y12 y13 y14 y15 y16 y17 y18 y19 y20 y21 y22 y23 y24 y25 y26 y27 y28 y29 y30 y31 y32 y33 y34 y35 y37 y38 y39 y40 y41 y42 y43 : Value), ac = ⟨#[y0, y1, .pointer (some ⟨w.heap.size, 0, none⟩), y3, .chan (some (w.heap.size + 1)), y5, y6, y7, y8, y9, .pointer (some ⟨b10, 0, none⟩), y11, y12, y13, y14, y15, y16, y17, y18, y19, y20, y21, y22, y23, y24, y25, y26, y27, y28, y29, y30, y31, y32, y33, y34, y35, .chan (some (w.heap.size + 1)), y37, y38, y39, y40, y41, y42, y43], []⟩ ∧ j ≤ cs.length ∧ Ext w wr ∧ wr.heap[w.heap.size + 1]? = some (.chan 60 (chanOf (cs.drop j)) true cs.length j false) ∧ wr.heap[b10]? = some (.cells (costC (sumCost (cs.take j))).toArray 26 (0, 0)) ∧ wr.heap[w.heap.size]? = some (.cells #[.int .i64 0, .int .i64 0, .int .i64 0] 26 (0, 0))

set_option maxRecDepth 20000 in
set_option maxHeartbeats 4000000 in
theorem implCostRun_c (v : Value) (xs : List Event) (w : World) (h : Events (Old w) w v xs) (hc : ∀ e ∈ xs, -9223372036854775808 ≤ e.c ∧ e.c ≤ 9223372036854775807) (hn : xs.length ≤ 1048576) :
    Calls Try.prog 11 #[v] w (Ret w (.tuple #[costA (if xs.length ≤ 60 then runCost xs else cost0), .bool (decide (xs.length ≤ 60))])) := by
  obtain ⟨a, cap, rfl⟩ := h.form
  have hmk : ∀ w : World, (Instr.makeChan 53 (.int .i64 60)).run Try.prog w = .ok (.chan (some w.heap.size)) (w.alloc (.chan 60 #[] false 0 0 false)) := fun w => by kernel_rfl
  refine calls_of_wpN Try.func11 rfl ?_
  simp only [Try.ntmps11, List.size_toArray, List.length_cons, List.length_nil, Nat.reduceAdd, Nat.reduceSub, Array.replicate_succ, Array.replicate_zero, List.push_toArray, List.append_toArray, List.nil_append, List.cons_append]
  by_cases h60 : xs.length ≤ 60
  · rw [if_pos h60, decide_eq_true h60]
    refine WpN.seq fun K hK => ?_
    go_wp2_with fail
    refine WpN.seq fun K hK => ?_
    go_wp2_with fail
    refine WpN.seq fun K hK => ?_
    go_wp2_with fail
    refine WpN.seq fun K hK => ?_
    go_wp2_with fail
    refine (implStoreNew_c _).mono ?_; rintro e1 w1 ⟨f, d, L, rfl, hx1, hO1, hn1, hb1⟩
    obtain ⟨b1, m1, c1, b2, m2, c2, rfl, rfl⟩ := hO1.forms
    have X1 : Ext w w1 := ext_trans (ext_alloc (ext_alloc (ext_refl w) _) _) hx1
    have s1 := hx1.size
    simp at s1
    have G2 : w1.heap[w.heap.size]? = some (.cells #[.int .i64 0, .int .i64 0, .int .i64 0] 26 (0, 0)) := keep_ext hx1 (hg_alloc (hg_new rfl))
    have GC : w1.heap[w.heap.size + 1]? = some (.chan 60 #[] false 0 0 false) := keep_ext hx1 (hg_new (by simp))
    go_wp2_with fail
    refine WpN.seqK fun K hK => ?_
    refine WpN.seq fun K2 hK2 => ?_
    go_wp2_with fail
    refine WpN.block ?_
    refine WpN.loop (CostInv w w1.heap.size (.slice a xs.length cap) xs) (fun ac _ => xs.length - (intOf (ac.eval (.tmp 20))).toNat) ?_ ?_
    · refine ⟨0, _, _, _, _, _, _, _, _, _, _, _, _, _, _, _, _, _, _, _, _, _, _, _, _, _, _, _, _, _, _, _, _, _, _, _, _, _, _, L, rfl, by omega, ext_alloc X1 _, hg_alloc (by simpa [chanOf] using GC), hg_new rfl, (by simpa [evStore] using hO1.ext (ext_alloc (ext_refl _) _)), fun x hx => ?_, hg_alloc G2, fun j hj h0 => by omega⟩
      have := hb1 x hx
      have := hO1.lt x hx
      simp at *
      omega
    intro ac wr hI
    clear hO1 hn1 hb1 G2 GC hx1
    obtain ⟨k, y1, y6, y7, y8, y9, y10, y11, y12, y13, y14, y15, y16, y17, y21, y22, y23, y24, y25, y26, y27, y28, y29, y30, y31, y32, y33, y34, y35, y36, y37, y38, y39, y40, y41, y42, y43, f, d, L', rfl, hk, X, GC, G5, hO, hL, G2, hB⟩ := hI
    by_cases hlt : k < xs.length
    · have hok := evStore_ok (xs.take k) newStore storeOk_new
      have hev := hc _ (List.getElem_mem hlt)
      obtain ⟨eb, eo, rfl, hbe, q0, q1, q2, q3, q4⟩ := (h.ext X).at5 hlt
      obtain ⟨b1, m1, c1, b2, m2, c2, rfl, rfl⟩ := hO.forms
      have hPB := fun (w' : World) (hx : Ext wr w') => playBegun_c _ _ _ xs[k] w' ⟨(hO.ext hx).flash, (hO.ext hx).disk⟩ hok hev
      obtain ⟨g5, gf5⟩ := cellsK G5
      have l5 := heap_lt G5
      have HB := Lib.hid hB
      have HL := Lib.hid hL
      have ET := Lib.hid (evStore_take newStore xs k hlt)
      have CT := Lib.hid (evCosts_take xs newStore k hlt)
      have hcl : ((evCosts newStore xs).take k).length = k := by rw [List.length_take, evCosts_len]; omega
      have HCL := Lib.hid hcl
      clear hB hL hcl
      refine WpN.seq fun K3 hK3 => ?_
      go_wp2_with fail
      refine WpN.seq fun K3 hK3 => ?_
      go_wp2_with fail
      refine WpN.seqK fun K3 hK3 => ?_
      refine WpN.block ?_
      refine WpN.seq fun K4 hK4 => ?_
      go_wp2_with fail
      refine WpN.seq fun K4 hK4 => ?_
      go_wp2_with fail
      refine (hPB _ (ext_alloc (ext_refl _) _)).mono ?_; rintro e2 w2 ⟨f2, d2, L2, v2, rfl, hx2, hO2, hn2, hb2, hS2, hl2⟩
      obtain ⟨b3, m3, c3, b4, m4, c4, rfl, rfl⟩ := hO2.forms
      obtain ⟨av, cv, rfl⟩ := hS2.form
      have X2r : Ext wr w2 := ext_trans (ext_alloc (ext_refl wr) _) hx2
      replace GC := keep_ext X2r GC
      replace G5 := keep_ext X2r G5
      replace G2 := keep_ext X2r G2
      have X2 := ext_trans X X2r
      have s2 := hx2.size
      simp at s2
      have lC := heap_lt GC
      have hb2' : ∀ x ∈ L2, wr.heap.size < x ∧ x < w2.heap.size := fun x hx => ⟨by have := hb2 x hx; simp at this; omega, hO2.lt x hx⟩
      have HB2 := Lib.hid hb2'
      have HO2 := Lib.hid hO2
      have HS2 := Lib.hid hS2
      clear hb2 hb2' hO2 hS2 hx2 g5 gf5 hPB hO q0 q1 q2 q3 q4 X2r X
      go_wp2_with fail
      refine WpN.seqK fun K4 hK4 => ?_
      refine WpN.region ?_
      simp only [List.size_toArray, List.length_cons, List.length_nil, Nat.reduceAdd, List.range, List.range.loop]
      refine OpsN.val (v := ?_) (w' := ?_) rfl rfl ?_ ?_; rotate_left 2
      · go_simp; (repeat' apply And.intro) <;> rfl
      simp only [Act.put, List.setIfInBounds_toArray, List.set_cons_succ, List.set_cons_zero]
      refine OpsN.val (v := ?_) (w' := ?_) rfl rfl ?_ ?_; rotate_left 2
      · go_simp; (repeat' apply And.intro) <;> rfl
      simp only [Act.put, List.setIfInBounds_toArray, List.set_cons_succ, List.set_cons_zero]
      refine OpsN.call (f := ?_) (args := ?_) (w' := ?_) rfl rfl ?_ ?_; rotate_left 3
      · go_simp; (repeat' apply And.intro) <;> rfl
      refine (implCostOf_c _ _ _ (HS2.out.ext (ext_alloc (ext_refl _) _)) (by omega)).mono ?_; rintro e3 w3 ⟨rfl, hx3⟩
      refine ⟨_, rfl, ?_⟩
      simp only [Act.put, List.setIfInBounds_toArray, List.set_cons_succ, List.set_cons_zero]
      have X23 : Ext w2 w3 := ext_trans (ext_alloc (ext_refl w2) _) hx3
      have G8 := keep_ext hx3 (hg_new (w := w2) (b := w2.heap.size) rfl)
      have X3 := ext_trans X2 X23
      replace GC := keep_ext X23 GC
      replace G5 := keep_ext X23 G5
      replace G2 := keep_ext X23 G2
      have lC := heap_lt GC
      refine OpsN.send (c := w.heap.size + 1) (v := costA (costOf (begunS (evStore newStore (xs.take k)) xs[k]))) (z := .tuple #[]) rfl rfl (by simp [execOp, Go.Conc.scase, Act.eval]) GC (by unfold chanOf; simp; have := HCL.out; omega) ?_
      refine OpsN.nil ?_
      rw [chanOf_push]
      have hBd := costOf_bound (begunS (evStore newStore (xs.take k)) xs[k])
      have CC := chan_chg (P := Try.prog) w3 (w.heap.size + 1) 60 (chanOf ((evCosts newStore xs).take k ++ [costOf (begunS (evStore newStore (xs.take k)) xs[k])])) false (k + 1) 0 false
      have GC4 := Go.Conc.heap_setChan w3 (w.heap.size + 1) 60 (chanOf ((evCosts newStore xs).take k ++ [costOf (begunS (evStore newStore (xs.take k)) xs[k])])) false (k + 1) 0 false lC
      have X4 := CC.ext X3 (by simp)
      replace G5 := CC.keep G5 (by simp <;> omega)
      replace G8 := CC.keep G8 (by simp <;> omega)
      replace G2 := CC.keep G2 (by simp <;> omega)
      have HO4 := Lib.hid ((HO2.out.ext X23).chg CC fun x hm hx => by have := HB2.out x hm; simp at hx; omega)
      clear CC GC
      generalize w3.setChan (w.heap.size + 1) 60 (chanOf ((evCosts newStore xs).take k ++ [costOf (begunS (evStore newStore (xs.take k)) xs[k])])) false (k + 1) 0 false = w4 at *
      obtain ⟨g5, gf5⟩ := cellsK G5
      obtain ⟨g8, gf8⟩ := cellsK G8
      refine hK4 _ _ ?_
      obtain ⟨w5, hw5, G55, C5⟩ := setsS G5 (.slice b3 m3 c3) (.slice b4 m4 c4)
      refine WpN.of ?_
      go_wp2_with fail
      try rw [hw5]
      have hlt5 := heap_lt G5
      clear g5 gf5 g8 gf8 hw5
      have X5 := C5.ext X4 (by simp; omega)
      replace GC4 := C5.keep GC4 (by simp; omega)
      replace G2 := C5.keep G2 (by simp; omega)
      have HO5 := HO4.out.chg C5 fun x hm hx => by have := HB2.out x hm; simp at hx; omega
      refine WpN.of ?_
      go_wp2_with fail
      refine ⟨⟨k + 1, _, _, _, _, _, _, _, _, _, _, _, _, _, _, _, _, _, _, _, _, _, _, _, _, _, _, _, _, _, _, _, _, _, _, _, _, _, _, L2, by go_num, by omega, X5, ?_, G55, ?_, fun x hx => ?_, G2, fun j hj hjk => ?_⟩, by simp [intOf, Act.eval] <;> omega⟩
      · rw [CT.out]; exact GC4
      · rw [ET.out]; exact HO5
      · have := HB2.out x hx; omega
      · by_cases hjk2 : j < k
        · exact HB.out j hj hjk2
        · obtain rfl : j = k := by omega
          unfold evCost costBound at *
          omega
    · obtain rfl : k = xs.length := by omega
      have hlen := evCosts_len xs newStore
      rw [List.take_of_length_le (by rw [hlen]; exact Nat.le_refl _)] at GC
      have hBA := evCosts_bound (n := xs.length) hB
      rw [List.take_length] at hBA
      obtain ⟨cs, hcs⟩ : ∃ cs, evCosts newStore xs = cs := ⟨_, rfl⟩
      have HR : Hid (runCost xs = sumCost cs) := Lib.hid (by unfold runCost; rw [hcs])
      rw [hcs] at GC hBA hlen
      have HBA := Lib.hid hBA
      have lC := heap_lt GC
      clear hB hL hO G5 hBA hcs hc h
      refine WpN.seq fun K3 hK3 => ?_
      go_wp2_with fail
      refine WpN.seq fun K3 hK3 => ?_
      go_wp2_with fail
      have hcl := fun ats ty => Go.run_close_open (P := Try.prog) (w := wr) ats ty GC
      refine WpN.seq fun K3 hK3 => ?_
      go_wp2_with fail
      clear hcl
      change WpN _ _ _ _ (wr.setChan (w.heap.size + 1) 60 (chanOf cs) true xs.length 0 false)
      have CC := chan_chg (P := Try.prog) wr (w.heap.size + 1) 60 (chanOf cs) true xs.length 0 false
      have GC4 := Go.Conc.heap_setChan wr (w.heap.size + 1) 60 (chanOf cs) true xs.length 0 false lC
      have X6 := CC.ext X (by simp)
      replace G2 := CC.keep G2 (by simp <;> omega)
      clear CC GC X
      generalize wr.setChan (w.heap.size + 1) 60 (chanOf cs) true xs.length 0 false = w6 at *
      have l6 := heap_lt GC4
      refine WpN.seq fun K3 hK3 => ?_
      go_wp2_with fail
      refine WpN.seqK fun K3 hK3 => ?_
      refine WpN.seq fun K4 hK4 => ?_
      go_wp2_with fail
      refine WpN.block ?_
      refine WpN.loop (CostInv2 w w6.heap.size cs) (fun _ wr => chanLen (w.heap.size + 1) wr) ?_ ?_
      · refine ⟨0, _, _, _, _, _, _, _, _, _, _, _, _, _, _, _, _, _, _, _, _, _, _, _, _, _, _, _, _, _, _, _, _, _, _, _, _, _, _, _, _, rfl, by omega, ext_alloc X6 _, by simpa [hlen] using hg_alloc GC4, hg_new rfl, hg_alloc G2⟩
      clear G2 GC4 X6
      intro ac wr2 hI
      obtain ⟨j, y0, y1, y3, y5, y6, y7, y8, y9, y11, y12, y13, y14, y15, y16, y17, y18, y19, y20, y21, y22, y23, y24, y25, y26, y27, y28, y29, y30, y31, y32, y33, y34, y35, y37, y38, y39, y40, y41, y42, y43, rfl, hj, X, GC, G10, G2⟩ := hI
      rw [hlen] at GC
      have lC := heap_lt GC
      by_cases hlt : j < cs.length
      · refine WpN.seqK fun K4 hK4 => ?_
        refine WpN.region ?_
        simp only [List.size_toArray, List.length_cons, List.length_nil, Nat.reduceAdd, List.range, List.range.loop]
        refine OpsN.recv (c := w.heap.size + 1) (z := costA cost0) rfl rfl (by simp [go_sem, Go.Conc.rcase]; exact ⟨rfl, rfl, rfl⟩) GC (by unfold chanOf; simp; omega) ?_
        rw [chanOf_get cs j hlt, chanOf_drop]
        simp only [Act.put, List.setIfInBounds_toArray, List.set_cons_succ, List.set_cons_zero, List.getElem_toArray, List.getElem_cons_succ, List.getElem_cons_zero]
        refine OpsN.val (v := ?_) (w' := ?_) rfl rfl ?_ ?_; rotate_left 2
        · go_simp; (repeat' apply And.intro) <;> rfl
        simp only [Act.put, List.setIfInBounds_toArray, List.set_cons_succ, List.set_cons_zero, List.getElem_toArray, List.getElem_cons_succ, List.getElem_cons_zero]
        refine OpsN.nil ?_
        have CC := chan_chg (P := Try.prog) wr2 (w.heap.size + 1) 60 (chanOf (cs.drop (j + 1))) true xs.length (j + 1) false
        have GC4 := Go.Conc.heap_setChan wr2 (w.heap.size + 1) 60 (chanOf (cs.drop (j + 1))) true xs.length (j + 1) false lC
        have X7 := CC.ext X (by simp)
        replace G2 := CC.keep G2 (by simp <;> omega)
        replace G10 := CC.keep G10 (by simp <;> omega)
        clear CC X
        have hml : chanLen (w.heap.size + 1) wr2 = cs.length - j := by rw [chanLen_eq GC]; unfold chanOf; simp
        clear GC
        generalize wr2.setChan (w.heap.size + 1) 60 (chanOf (cs.drop (j + 1))) true xs.length (j + 1) false = w7 at *
        have hbj := HBA.out _ (List.getElem_mem hlt)
        have hbs : costBound (sumCost (cs.take j)) (42 * j) := by
          have := sumCost_bound (cs.take j) cost0 0 (by unfold costBound cost0; decide) fun x hx => HBA.out x (List.mem_of_mem_take hx)
          rw [List.length_take, Nat.min_eq_left (by omega), Int.zero_add] at this
          exact this
        have HST : Hid (sumCost (cs.take (j + 1)) = costSum (sumCost (cs.take j)) cs[j]) := Lib.hid (by
          unfold sumCost; rw [List.take_succ_eq_append_getElem hlt, List.foldl_append]; rfl)
        obtain ⟨sj, hsj⟩ : ∃ c, sumCost (cs.take j) = c := ⟨_, rfl⟩
        obtain ⟨cj, hcj⟩ : ∃ c, cs[j] = c := ⟨_, rfl⟩
        rw [hsj] at hbs G10 HST
        rw [hcj] at hbj HST ⊢
        have HAD : Hid (costAdd sj cj = costSum sj cj) := Lib.hid (by unfold costAdd; rw [costOk_of hbs (by omega), costOk_of hbj (by omega)]; rfl)
        have HB2 := Lib.hid (And.intro hbs hbj)
        clear hsj hcj hbs hbj
        obtain ⟨p0, p1, p2, pf⟩ := cells3 G10
        have l10 := heap_lt G10
        refine hK4 _ _ ?_
        refine WpN.seq fun K5 hK5 => ?_
        go_wp2_with fail
        refine WpN.of ?_
        go_wp2_with fail
        refine (implCostAdd_c sj cj _).mono ?_; rintro e8 w8 ⟨rfl, hx8⟩
        rw [HAD.out]
        have Xa : Ext w7 w8 := ext_trans (ext_alloc (ext_refl w7) _) hx8
        replace G10 := keep_ext Xa G10
        replace GC4 := keep_ext Xa GC4
        replace G2 := keep_ext Xa G2
        replace X7 := ext_trans X7 Xa
        clear p0 p1 p2 pf hx8 Xa
        obtain ⟨w9, hw9, G109, C9⟩ := sets3 G10 (costSum sj cj)
        obtain ⟨p0, p1, p2, pf⟩ := cells3 G10
        have l10 := heap_lt G10
        have HML := Lib.hid hml
        clear hml
        go_wp2_with fail
        try rw [hw9]
        have X9 := C9.ext X7 (by simp; omega)
        replace GC4 := C9.keep GC4 (by simp; omega)
        replace G2 := C9.keep G2 (by simp; omega)
        refine ⟨⟨j + 1, _, _, _, _, _, _, _, _, _, _, _, _, _, _, _, _, _, _, _, _, _, _, _, _, _, _, _, _, _, _, _, _, _, _, _, _, _, _, _, _, rfl, by omega, X9, by simpa [hlen] using GC4, by rw [HST.out]; exact G109, G2⟩, ?_⟩
        rw [chanLen_eq GC4, HML.out]
        unfold chanOf
        simp
        omega
      · obtain rfl : j = cs.length := by omega
        rw [List.drop_length] at GC
        rw [List.take_length] at G10
        refine WpN.seqK fun K4 hK4 => ?_
        refine WpN.region ?_
        simp only [List.size_toArray, List.length_cons, List.length_nil, Nat.reduceAdd, List.range, List.range.loop]
        refine OpsN.recvShut (c := w.heap.size + 1) (z := costA cost0) rfl rfl (by simp [go_sem, Go.Conc.rcase]; exact ⟨rfl, rfl, rfl⟩) (show _ = some (Obj.chan 60 #[] true xs.length cs.length false) from GC) ?_
        simp only [Act.put, List.setIfInBounds_toArray, List.set_cons_succ, List.set_cons_zero, List.getElem_toArray, List.getElem_cons_succ, List.getElem_cons_zero]
        refine OpsN.val (v := ?_) (w' := ?_) rfl rfl ?_ ?_; rotate_left 2
        · go_simp; (repeat' apply And.intro) <;> rfl
        simp only [Act.put, List.setIfInBounds_toArray, List.set_cons_succ, List.set_cons_zero, List.getElem_toArray, List.getElem_cons_succ, List.getElem_cons_zero]
        refine OpsN.nil ?_
        obtain ⟨sj, hsj⟩ : ∃ c, sumCost cs = c := ⟨_, rfl⟩
        have HRS : Hid (runCost xs = sj) := Lib.hid (by rw [HR.out, hsj])
        rw [hsj] at G10
        obtain ⟨w9, hw9, G29, C9⟩ := sets3 (c := cost0) G2 sj
        obtain ⟨p0, p1, p2, pf⟩ := cells3 G10
        have l10 := heap_lt G10
        obtain ⟨q, qf⟩ := cellsK G2
        have l2 := heap_lt G2
        clear hsj HR HBA
        have X9 := C9.ext X (by simp)
        refine hK4 _ _ ?_
        refine WpN.seq fun K5 hK5 => ?_
        go_wp2_with fail
        refine WpN.of ?_
        go_wp2_with fail
        try rw [hw9]
        obtain ⟨t0, t1, t2, tf⟩ := cells3 G29
        exact bodyPost_ret (v := .tuple #[costA sj, .bool true]) (by simp [results, Try.results11, go_sem, t0, t1, t2, tf]) rfl ⟨by rw [HRS.out], X9⟩
  · rw [if_neg h60, decide_eq_false h60]
    refine WpN.of ?_
    go_wp2_with fail
    obtain ⟨q, qf⟩ := cellsK (hg_new (w := w) (x := .cells #[.int .i64 0, .int .i64 0, .int .i64 0] 26) (b := w.heap.size) rfl)
    exact bodyPost_ret (v := .tuple #[costA cost0, .bool false]) (by simp [results, Try.results11, go_sem, q, qf, cost0]) rfl ⟨rfl, ext_alloc (ext_refl _) _⟩
end Go.Bu

set_option linter.unusedVariables false
set_option linter.unusedSimpArgs false
namespace Go.Bu
open Go Go.RowKit Go.Plan Go.Proofs

/-- a reader from which K numbers may still be picked -/
def Rk (w : World) (R K : Nat) : Prop := ∃ bv xs p, Rd w R bv xs p ∧ p + K ≤ 1000000

theorem Rk.lt {w : World} {R K : Nat} (h : Rk w R K) : R < w.heap.size := by obtain ⟨bv, xs, p, h, _⟩ := h; exact h.lt
theorem Rk.ext {w w' : World} {R K : Nat} (h : Rk w R K) (hx : Ext w w') : Rk w' R K := by obtain ⟨bv, xs, p, h, hp⟩ := h; exact ⟨bv, xs, p, h.ext hx, hp⟩
theorem Rk.less {w : World} {R K K' : Nat} (h : Rk w R K) (hk : K' ≤ K) : Rk w R K' := by obtain ⟨bv, xs, p, h, hp⟩ := h; exact ⟨bv, xs, p, h, by omega⟩
theorem Rk.set2 {w : World} {R K : Nat} {a : Addr} {u : Value} (ha : R < a.block) (h : Rk w R K) : Rk (w.setCell a u) R K := by obtain ⟨bv, xs, p, h, hp⟩ := h; exact ⟨bv, xs, p, h.set ha u, hp⟩
theorem Rk.alloc2 {w : World} {R K : Nat} {o : Obj} (h : Rk w R K) : Rk (w.alloc o) R K := h.ext (ext_alloc (ext_refl _) _)
theorem Rk.chg {w w' : World} {R K : Nat} {L : List Nat} (h : Rk w R K) (hx : Chg L w w') (hL : ∀ b ∈ L, R < b) : Rk w' R K := by
  obtain ⟨bv, xs, p, h, hp⟩ := h
  have hk : ∀ b, b ≤ R → w'.heap[b]? = w.heap[b]? := fun b hb => hx.block b (Nat.lt_of_le_of_lt hb h.lt) fun hm => by have := hL b hm; omega
  exact ⟨bv, xs, p, ⟨by rw [hk R (Nat.le_refl _)]; exact h.cells, Sl.same (plain_kept _) h.bytes (fun b hb => hk b (Nat.le_of_lt hb)) (fun b hb => hb), h.small, h.len⟩, hp⟩

/-- a pick -/
def Pick (R K : Nat) (m : Int) (w : World) (e : Ending) (w' : World) : Prop := ∃ r : Int, e = .returned (.int .i64 r) ∧ 0 ≤ r ∧ (0 < m → r < m) ∧ Chg [R] w w' ∧ Rk w' R K
theorem pick_k (R : Nat) {K : Nat} (m : Int) (w : World) (h : Rk w R (K + 1)) (hm : m ≤ 1000 := by omega) : Calls Try.prog 43 #[.pointer (some ⟨R, 0, none⟩), .int .i64 m] w (Pick R K m w) := by
  obtain ⟨bv, xs, p, h, hp⟩ := h
  exact (pick_c R bv xs p m w h (by omega) (by omega)).mono fun e w' ⟨r, he, h0, h1, hc, hr⟩ => ⟨r, he, h0, h1, hc, bv, xs, p + 1, hr, by omega⟩

/-- what a draw leaves: a value of which something is known, the reader moved on -/
def DrawV (R K : Nat) (w : World) (Φ : Value → World → Prop) (e : Ending) (w' : World) : Prop := ∃ v, e = .returned v ∧ Chg [R] w w' ∧ Rk w' R K ∧ Φ v w'

theorem Chg.then_sets {L : List Nat} {w w1 w2 w3 : World} (h : Chg L w w1) (hc : Chg L w2 w3) (h2 : Chg L w w2) : Chg L w w3 := h2.trans hc

structure EventD (e : Event) : Prop where
  kind : 1 ≤ e.kind ∧ e.kind ≤ 4
  a : 1 ≤ e.a ∧ e.a ≤ 6
  b : 0 ≤ e.b ∧ e.b ≤ 9
  c : 0 ≤ e.c ∧ e.c ≤ 9

set_option maxHeartbeats 2000000 in
theorem l71Event_c (R K : Nat) (w : World) (h : Rk w R (K + 7)) :
    Calls Try.prog 45 #[.pointer (some ⟨R, 0, none⟩)] w (DrawV R K w fun v _ => ∃ e : Event, v = eventA e ∧ EventD e) := by
  have hR := h.lt
  have HK := h; clear h
  go_enter Try.func45, Try.ntmps45
  have C := Chg.refl [R] w
  go_wp2_with fail
  refine (pick_k R 6 _ (by ((repeat (first | (with_reducible apply Rk.set2; focus (dsimp only; omega)) | with_reducible apply Rk.alloc2)); with_reducible exact HK))).mono ?_; rintro e1 w1 ⟨r1, rfl, a1, b1, hC, HK1⟩
  replace C := C.then_sets hC (by ((repeat (first | with_reducible (refine Chg.set2 ?_ ?_); focus (exact Or.inr (by dsimp only; omega)) | with_reducible refine Chg.alloc2 ?_)); with_reducible exact C))
  have G2 := hC.keep (hg_new (b := w.heap.size) rfl) (by simp; omega)
  replace HK := HK1; clear HK1 hC
  go_wp2_with fail
  refine (pick_k R 10 _ (by ((repeat (first | (with_reducible apply Rk.set2; focus (dsimp only; omega)) | with_reducible apply Rk.alloc2)); with_reducible exact HK))).mono ?_; rintro e2 w2 ⟨r2, rfl, a2, b2, hC, HK1⟩
  replace C := C.then_sets hC (by ((repeat (first | with_reducible (refine Chg.set2 ?_ ?_); focus (exact Or.inr (by dsimp only; omega)) | with_reducible refine Chg.alloc2 ?_)); with_reducible exact C))
  replace G2 := hC.keep (by (repeat (first | with_reducible apply hg_here | (with_reducible apply hg_set; focus (dsimp only; omega)) | with_reducible apply hg_alloc)); with_reducible exact G2) (by simp; omega)
  replace HK := HK1; clear HK1 hC
  have l2 := heap_lt G2
  go_wp2_with fail
  refine (pick_k R 12 _ (by ((repeat (first | (with_reducible apply Rk.set2; focus (dsimp only; omega)) | with_reducible apply Rk.alloc2)); with_reducible exact HK))).mono ?_; rintro e3 w3 ⟨r3, rfl, a3, b3, hC, HK1⟩
  replace C := C.then_sets hC (by ((repeat (first | with_reducible (refine Chg.set2 ?_ ?_); focus (exact Or.inr (by dsimp only; omega)) | with_reducible refine Chg.alloc2 ?_)); with_reducible exact C))
  replace G2 := hC.keep (by (repeat (first | with_reducible apply hg_here | (with_reducible apply hg_set; focus (dsimp only; omega)) | with_reducible apply hg_alloc)); with_reducible exact G2) (by simp; omega)
  have G3 := hC.keep (hg_new (b := w2.heap.size) rfl) (by simp; omega)
  replace HK := HK1; clear HK1 hC
  have l2 := heap_lt G2; have l3 := heap_lt G3
  obtain ⟨g2, gf2⟩ := cellsK G2
  obtain ⟨g3, gf3⟩ := cellsK G3
  have m3 := b3 (by omega)
  go_wp2_with (go_at_call 43; ((with_reducible refine (pick_k R _ _ (by ((repeat (first | (with_reducible apply Rk.set2; focus (dsimp only; omega)) | with_reducible apply Rk.alloc2)); with_reducible exact HK))).mono ?_)); rintro e1 w1 ⟨r, rfl, hr0, hr1, hC, HK1⟩; replace C := C.then_sets hC (by ((repeat (first | with_reducible (refine Chg.set2 ?_ ?_); focus (exact Or.inr (by dsimp only; omega)) | with_reducible refine Chg.alloc2 ?_)); with_reducible exact C)); replace HK := HK1; clear HK1; replace G2 := hC.keep (b := w.heap.size) (by (repeat (first | with_reducible apply hg_here | (with_reducible apply hg_set; focus (dsimp only; omega)) | with_reducible apply hg_alloc)); with_reducible exact G2) (by simp; omega); (try clear g2 gf2); obtain ⟨g2, gf2⟩ := cellsK G2; have l2 := heap_lt G2; replace G3 := hC.keep (b := w2.heap.size) (by (repeat (first | with_reducible apply hg_here | (with_reducible apply hg_set; focus (dsimp only; omega)) | with_reducible apply hg_alloc)); with_reducible exact G3) (by simp; omega); (try clear g3 gf3); obtain ⟨g3, gf3⟩ := cellsK G3; have l3 := heap_lt G3; clear hC)
  all_goals
    try simp only [beq_iff_eq, Bool.not_eq_true, beq_eq_false_iff_ne, ne_eq, bne_iff_ne, bne_eq_false_iff_eq, decide_eq_true_eq, decide_eq_false_iff_not] at *
    refine bodyPost_ret (by simp [results, Try.results45, go_sem, g2, gf2, g3, gf3]; exact ⟨rfl, rfl, rfl, rfl, rfl⟩) rfl ⟨_, rfl, (by ((repeat (first | with_reducible (refine Chg.set2 ?_ ?_); focus (exact Or.inr (by dsimp only; omega)) | with_reducible refine Chg.alloc2 ?_)); with_reducible exact C)), Rk.less (by ((repeat (first | (with_reducible apply Rk.set2; focus (dsimp only; omega)) | with_reducible apply Rk.alloc2)); with_reducible exact HK)) (by omega), ⟨_, _, _, _, _⟩, rfl, ⟨by dsimp only; omega, by dsimp only; omega, by dsimp only; omega, by dsimp only; omega⟩⟩
end Go.Bu

set_option linter.unusedVariables false
set_option linter.unusedSimpArgs false
namespace Go.Bu
open Go Go.RowKit Go.Plan Go.Proofs

/-- events in a row that was made since base -/
abbrev ERow (base : Nat) (w : World) (v : Value) (xs : List Event) : Prop := w.ownsRow base 31 5 v xs.length (xs.flatMap eventC)

theorem ERow.nil (base : Nat) (w : World) : ERow base w (.slice none 0 0) [] := ⟨rfl, .inl ⟨rfl, rfl⟩⟩
theorem ERow.empty {base : Nat} {w : World} {B : Nat} (h : w.heap[B]? = some (.cells #[] 31 (0, 0))) (hb : base ≤ B) : ERow base w (.slice (some ⟨B, 0, none⟩) 0 0) [] := ⟨rfl, .inr ⟨B, 0, #[], rfl, hb, h, Nat.le_refl _, by simp, rfl, rfl⟩⟩
theorem ERow.one {base : Nat} {w : World} {B : Nat} {y : Event} (h : w.heap[B]? = some (.cells (eventC y).toArray 31 (0, 0))) (hb : base ≤ B) : ERow base w (.slice (some ⟨B, 0, none⟩) 1 1) [y] :=
  ⟨rfl, .inr ⟨B, 1, _, rfl, hb, h, Nat.le_refl _, by simp [maxLen], rfl, rfl⟩⟩
theorem ERow.ext {base : Nat} {w w' : World} {v : Value} {xs : List Event} (h : ERow base w v xs) (hx : Ext w w') : ERow base w' v xs := ownsRow_ext h hx
theorem ERow.form {base : Nat} {w : World} {v : Value} {xs : List Event} (h : ERow base w v xs) : ∃ a cap, v = .slice a xs.length cap := by
  obtain ⟨_, h2⟩ := h
  rcases h2 with ⟨rfl, h0⟩ | ⟨g, cap, cur, rfl, _⟩
  · exact ⟨none, 0, by rw [h0]⟩
  · exact ⟨_, cap, rfl⟩
theorem ERow.events {base : Nat} {w : World} {v : Value} {xs : List Event} (h : ERow base w v xs) : Events (Old w) w v xs := by
  rcases h.2 with ⟨rfl, h0⟩ | ⟨g, cap, cur, rfl, _, hh, _, _, _, ht⟩
  · have : xs = [] := List.length_eq_zero_iff.1 h0
    subst this
    exact ⟨none, 0, rfl, fun i x hx => by simp at hx⟩
  · refine ⟨_, cap, rfl, fun i x hx => ⟨g, 0, eventC x, rfl, heap_lt hh, rfl, fun j u hu => ?_⟩⟩
    have := flat_get (enc := eventC) (n := 5) (fun _ => rfl) xs i x j u hx hu
    rw [← ht] at this
    have hlt := (List.getElem?_eq_some_iff.1 this).1
    rw [List.length_take] at hlt
    rw [List.getElem?_take_of_lt (by omega)] at this
    rw [cell_block hh, Nat.zero_add]
    simpa using this

/-- append of one event -/
theorem wpList_appEvent {w : World} {ops : Array Oper} {rest : List Oper} {o : Oper} {a : Act} {Q : Exit → Act → World → Prop} (hgd : o.guard = none) (s x : Operand)
    (ho : o.op = .call { callee := .builtin .append, args := #[s, x], argTypes := #[23, 23] }) {base : Nat} {v : Value} {xs : List Event} (hs : a.eval s = v) (hown : ERow base w v xs)
    {B : Nat} {y : Event} (hx : a.eval x = .slice (some ⟨B, 0, none⟩) 1 1) (hB : w.heap[B]? = some (.cells (eventC y).toArray 31 (0, 0))) (hlen : xs.length ≤ 1000000) (hbase : base ≤ w.heap.size)
    (h : ∀ v' w', ERow base w' v' (xs ++ [y]) → w.grownBy w' v.ownBlock → wpList Try.prog ops Q rest (a.put o.dst v') w') : wpList Try.prog ops Q (o :: rest) a w := by
  refine wpList_app hgd s x 23 ho base 31 5 40 Try.underlying23 (by kernel_rfl) (by omega) v xs.length (xs.flatMap eventC) hs hown ⟨B, 0, none⟩ 1 1 (eventC y) hx rfl (fun j u hu => ?_) (by simp [Value.oneCell']) (by simp [maxLen]; omega) (by omega) hbase (fun v' w' h1 h2 => h v' w' ?_ h2)
  · rw [Addr.add_mid, cell_block hB, Nat.zero_add]; simpa using hu
  · show w'.ownsRow _ _ _ _ _ _
    rw [List.length_append, List.flatMap_append]; simpa using h1


theorem Chg.then_new {R : Nat} {L : List Nat} {w w1 w2 : World} (h : Chg [R] w w1) (hc : Chg L w1 w2) (hL : ∀ b ∈ L, w.heap.size ≤ b) : Chg [R] w w2 :=
  ⟨hc.os.trans h.os, hc.tape.trans h.tape, hc.output.trans h.output, Nat.le_trans h.size hc.size, fun k hk hn => by
    rw [hc.block k (Nat.lt_of_lt_of_le hk h.size) fun hm => by have := hL k hm; omega]; exact h.block k hk hn⟩
theorem Chg.grown {L : List Nat} {w w1 w2 : World} {v : Value} (h : Chg L w w1) {base : Nat} {e : TypeId} {size n : Nat} {xs : List Value} (ho : w1.ownsRow base e size v n xs) (hb : w.heap.size ≤ base) (hg : w1.grownBy w2 v.ownBlock) : Chg L w w2 :=
  ⟨hg.os.trans h.os, hg.tape.trans h.tape, hg.output.trans h.output, Nat.le_trans h.size hg.size, fun k hk hn => by
    rw [hg.block k (Nat.lt_of_lt_of_le hk h.size) fun e => by have := (ho.lt k e.symm).1; omega]; exact h.block k hk hn⟩
theorem OwnS.grown {c : SC} {w w' : World} {s : Store} (h : OwnS c w s) {v : Value} {base : Nat} {e : TypeId} {size n : Nat} {xs : List Value} (ho : w.ownsRow base e size v n xs) (hb : ∀ b ∈ c.L, b < base) (hg : w.grownBy w' v.ownBlock) : OwnS c w' s :=
  h.keep fun b hm => hg.block b (h.lt b hm) fun e => by have := (ho.lt b e.symm).1; have := hb b hm; omega
theorem Rk.grown {w w' : World} {R K : Nat} (h : Rk w R K) {v : Value} {base : Nat} {e : TypeId} {size n : Nat} {xs : List Value} (ho : w.ownsRow base e size v n xs) (hb : R < base) (hg : w.grownBy w' v.ownBlock) : Rk w' R K := by
  obtain ⟨bv, xs', p, h, hp⟩ := h
  have hk : ∀ b, b ≤ R → w'.heap[b]? = w.heap[b]? := fun b hbR => hg.block b (Nat.lt_of_le_of_lt hbR h.lt) fun e => by have := (ho.lt b e.symm).1; omega
  exact ⟨bv, xs', p, ⟨by rw [hk R (Nat.le_refl _)]; exact h.cells, Sl.same (plain_kept _) h.bytes (fun b hb => hk b (Nat.le_of_lt hb)) (fun b hb => hb), h.small, h.len⟩, hp⟩
theorem row_chg {L : List Nat} {w w' : World} {base : Nat} {e : TypeId} {size n : Nat} {v : Value} {xs : List Value} (h : w.ownsRow base e size v n xs) (hx : Chg L w w') (hL : ∀ b ∈ L, b < base) : w'.ownsRow base e size v n xs := by
  obtain ⟨h1, h2⟩ := h
  refine ⟨h1, h2.imp id fun ⟨g, cap, cur, hv, hb, hh, hr⟩ => ⟨g, cap, cur, hv, hb, hx.keep hh fun hm => by have := hL g hm; omega, hr⟩⟩


theorem keep_row {W w w' : World} {b : Nat} {o : Obj} {base size m : Nat} {e : TypeId} {u : Value} {ys : List Value} (h : w.heap[b]? = some o) (hu : W.ownsRow base e size u m ys) (hb : W.heap.size ≤ b) (hg : w.grownBy w' u.ownBlock) : w'.heap[b]? = some o := by
  rw [hg.block b (heap_lt h) fun e => by have := (hu.lt b e.symm).2; omega]; exact h
theorem l21Do_v (c : SC) (s t : Store) (e : Event) (w : World) (h : OwnS c w s) (hs : StoreP s) (hl : s.flash.length = t.flash.length ∧ s.disk.length = t.disk.length) :
    Calls Try.prog 29 #[.agg #[c.fv t, c.dv t], eventA e] w (RetOv c w (c.fv t) (c.dv t) (playDoS s e)) := by
  obtain ⟨h1, h2⟩ := SC.same (c := c) hl
  have := l21Do_c c s e w h hs
  rw [h1, h2] at this
  refine this.mono fun e' w' ⟨he, hc, ho⟩ => ⟨?_, hc, ho⟩
  obtain ⟨h3, h4⟩ := SC.same (c := c) (playDoS_len s e)
  rw [he, h3, h4, h1, h2]

theorem newStore_ok : StoreP newStore := ⟨by decide, rfl⟩

/-- what a drawn play is: events, and the store behind them -/
def PlayΦ (w : World) (v : Value) (w' : World) : Prop := ∃ (c : SC) (s : Store) (ev : Value) (es : List Event) (H : Nat), v = .tuple #[ev, .agg #[c.fv s, c.dv s]] ∧ OwnS c w' s ∧ StoreP s ∧ (∀ b ∈ c.L, w.heap.size ≤ b ∧ b < H) ∧ w.heap.size ≤ H ∧ ERow H w' ev es ∧ (∀ e ∈ es, EventD e) ∧ es.length ≤ 57

set_option maxRecDepth 20000 in
set_option maxHeartbeats 4000000 in
theorem l71Play_c (R K : Nat) (w : World) (h : Rk w R (K + 1 + 57 * 7)) :
    Calls Try.prog 46 #[.pointer (some ⟨R, 0, none⟩)] w (DrawV R K w (PlayΦ w)) := by
  have hR := h.lt
  have HK := h; clear h
  have C := Chg.refl [R] w
  go_enter Try.func46, Try.ntmps46
  go_wp2_with fail
  refine (specStoreNew_c _).mono ?_; rintro e1 w1 hsn
  obtain ⟨fv, dv, L, rfl, hx1, hOS, hnd, hLb⟩ := hsn
  obtain ⟨c, rfl, rfl, rfl, hO⟩ := hOS.at_ hnd
  obtain ⟨s0, hs0⟩ : ∃ s0, newStore = s0 := ⟨_, rfl⟩
  have hP0 : StoreP s0 := hs0 ▸ newStore_ok
  rw [hs0] at hO ⊢
  clear hs0 hOS hnd
  have hb0 : ∀ b ∈ c.L, w.heap.size < b ∧ b < w1.heap.size := fun b hb => ⟨by have := hLb b hb; simp at this; omega, hO.lt b hb⟩
  have HB := Lib.hid hb0
  have HP := Lib.hid hP0
  replace C := C.then_sets (Chg.of_ext hx1) (by ((repeat (first | with_reducible (refine Chg.set2 ?_ ?_); focus (exact Or.inr (by dsimp only; omega)) | with_reducible refine Chg.alloc2 ?_)); with_reducible exact C))
  replace HK := Rk.ext (by ((repeat (first | (with_reducible apply Rk.set2; focus (dsimp only; omega)) | with_reducible apply Rk.alloc2)); with_reducible exact HK)) hx1
  have G3 := keep_ext hx1 (hg_new (b := w.heap.size) rfl)
  have l3 := heap_lt G3
  have HO := Lib.hid hO
  have HRL : Hid (∀ b ∈ c.L, b ∉ [R]) := Lib.hid fun b hb => by have := hb0 b hb; simp; omega
  clear hLb hb0 hP0 hO hx1
  go_wp2_with fail
  refine (pick_k R _ _ (by ((repeat (first | (with_reducible apply Rk.set2; focus (dsimp only; omega)) | with_reducible apply Rk.alloc2)); with_reducible exact HK))).mono ?_; rintro e2 w2 ⟨r, rfl, hr0, hr1, hC, HK1⟩
  replace C := C.then_sets hC (by ((repeat (first | with_reducible (refine Chg.set2 ?_ ?_); focus (exact Or.inr (by dsimp only; omega)) | with_reducible refine Chg.alloc2 ?_)); with_reducible exact C))
  replace HK := HK1; clear HK1
  replace G3 := hC.keep (b := w.heap.size) (by (repeat (first | with_reducible apply hg_here | (with_reducible apply hg_set; focus (dsimp only; omega)) | with_reducible apply hg_alloc)); with_reducible exact G3) (by simp; omega)
  have G4 := hC.keep (b := w1.heap.size) (hg_alloc (hg_new rfl)) (by simp; omega)
  have GE := hC.keep (b := w1.heap.size + 1) (hg_new (by simp)) (by simp; omega)
  have hO2 : OwnS c w2 s0 := ((HO.out.alloc2).alloc2).chg hC HRL.out
  obtain ⟨n0, rfl⟩ : ∃ n : Nat, r = n := ⟨r.toNat, by omega⟩
  have hn57 := hr1 (by omega)
  have HO2 := Lib.hid hO2
  clear hC hO2 HO hr1 hr0
  go_wp2_with fail
  go_loopw [5, 6] (fun ev y wr => ∃ (n : Nat) (s : Store) (es : List Event), y = .int .i64 n ∧ n + es.length ≤ 57 ∧ Chg [R] w wr ∧ OwnS c wr s ∧ Hid (StoreP s) ∧ Hid (s.flash.length = s0.flash.length ∧ s.disk.length = s0.disk.length) ∧ ERow (w1.heap.size + 1) wr ev es ∧ Hid (∀ e ∈ es, EventD e) ∧ Rk wr R (K + 7 * n) ∧
    wr.heap[w.heap.size]? = some (.cells #[.slice none 0 0, .slice none 0 0] 41 (0, 0)) ∧ wr.heap[w1.heap.size]? = some (.cells #[c.fv s0, c.dv s0] 41 (0, 0))) (fun _ y _ => (intOf y).toNat)
  case atStart => exact ⟨n0, s0, [], rfl, by simp; omega, C, HO2.out, HP, Lib.hid ⟨rfl, rfl⟩, ERow.empty GE (by omega), Lib.hid (by simp), HK.less (by omega), G3, G4⟩
  case round =>
    clear C HO2 G3 G4 GE HK HP
    obtain ⟨n, s, es, rfl, hne, C, hO, HP, HE, hrow, HD, HK, G3, G4⟩ := hrel
    obtain ⟨ea, ecap, rfl⟩ := hrow.form
    have l4 := heap_lt G4
    obtain ⟨g3, gf3⟩ := cellsK G3
    obtain ⟨g4, gf4⟩ := cellsK G4
    have HO := Lib.hid hO; have HROW := Lib.hid hrow
    clear hO hrow
    rcases n with _ | n
    · go_wp2_with fail
      refine wp_region_ext [] [0, 1, 2] [] [3] (by kernel_rfl) (by kernel_rfl) ?late ?_
      case late => exact fun f hf => absurd hf List.not_mem_nil
      refine Rob.y (v := ?_) rfl rfl (fun w1 hx hH => ?_) ?_; rotate_left
      · go_simp; first | done | rfl | exact (Bool.not_not _).symm
      simp only [Act.put, List.setIfInBounds_toArray, List.set_cons_succ, List.set_cons_zero]
      refine Rob.y (v := ?_) rfl rfl (fun w1 hx hH => ?_) ?_; rotate_left
      · (obtain ⟨hcx, hfx⟩ := bcell hx); go_simp; first | done | rfl
      simp only [Act.put, List.setIfInBounds_toArray, List.set_cons_succ, List.set_cons_zero]
      refine Rob.y (v := ?_) rfl rfl (fun w1 hx hH => ?_) ?_; rotate_left
      · go_simp; first | done | rfl | exact (Bool.not_not _).symm
      simp only [Act.put, List.setIfInBounds_toArray, List.set_cons_succ, List.set_cons_zero]
      refine fin_tail (fun w5 hx5 _ => ?_)
      simp only [dstOf, List.getElem?_cons_succ, List.getElem?_cons_zero, Option.bind_some, Act.put, List.setIfInBounds_toArray, List.set_cons_succ, List.set_cons_zero, List.filterMap_cons, List.filterMap_nil]
      replace G3 := keep_ext hx5 G3
      replace G4 := keep_ext hx5 G4
      clear g3 gf3 g4 gf4
      obtain ⟨g3, gf3⟩ := cellsK G3
      have l3 := heap_lt G3
      have C5 := C.trans (Chg.of_ext hx5)
      have HK5 := HK.ext hx5
      go_wp2_with fail
      obtain ⟨q1, q2⟩ := SC.same (c := c) HE.out
      refine bodyPost_ret (v := .tuple #[.slice ea es.length ecap, .agg #[c.fv s0, c.dv s0]]) (by simp [results, Try.results46, go_sem, g3, gf3]) rfl ⟨_, rfl, (by ((repeat (first | with_reducible (refine Chg.set2 ?_ ?_); focus (exact Or.inr (by dsimp only; omega)) | with_reducible refine Chg.alloc2 ?_)); with_reducible exact C5)), Rk.less (by ((repeat (first | (with_reducible apply Rk.set2; focus (dsimp only; omega)) | with_reducible apply Rk.alloc2)); with_reducible exact HK5)) (by omega), c, s, .slice ea es.length ecap, es, w1.heap.size + 1, by rw [q1, q2], ?_, HP.out, fun b hb => ⟨by have := HB.out b hb; omega, by have := HB.out b hb; omega⟩, by omega, ?_, HD.out, by omega⟩
      · have ho := HO.out.ext hx5
        have hnb : ∀ b, b ≤ w.heap.size → b ∉ c.L := fun b hb hm => by have := HB.out b hm; omega
        exact (ho.set (hnb _ (Nat.le_refl _)) _).set (hnb _ (Nat.le_refl _)) _
      · have hr := HROW.out.ext hx5
        refine row_chg (L := [w.heap.size]) hr ?_ (by simp; omega)
        exact ((Chg.refl _ _).set (.inl (by simp)) _).set (.inl (by simp)) _
    · have hpos : (0 : Int) < ((n + 1 : Nat) : Int) := by omega
      go_wp2_with fail
      refine (l71Event_c R (K + 7 * n) _ (HK.less (by omega))).mono ?_; rintro e3 w3 ⟨v, rfl, hC, HK3, e, rfl, hE⟩
      have C3 := C.trans hC
      have hO3 := HO.out.chg hC HRL.out
      have hrow3 : ERow (w1.heap.size + 1) w3 (.slice ea es.length ecap) es := row_chg HROW.out hC (by simp; omega)
      replace G3 := hC.keep G3 (by simp; omega)
      replace G4 := hC.keep G4 (by simp; omega)
      have l4' := heap_lt G4
      have HO3 := Lib.hid hO3; have HR3 := Lib.hid hrow3
      have HE3 := Lib.hid hE
      clear hO3 hrow3 hE hC HK C g3 gf3 g4 gf4
      go_wp2_with (refine wpList_appEvent rfl _ _ rfl rfl ((HR3.out.ext (ext_alloc (ext_refl _) _)).ext (ext_alloc (ext_refl _) _)) (y := e) rfl (hg_new (by simp)) (by omega) (by simp; omega) (fun v' w' hS' hg => ?_); replace G3 := keep_grown (hg_alloc (hg_alloc G3)) (by decide) ((HR3.out.ext (ext_alloc (ext_refl _) _)).ext (ext_alloc (ext_refl _) _)) hg; replace G4 := keep_grown (hg_alloc (hg_alloc G4)) (by decide) ((HR3.out.ext (ext_alloc (ext_refl _) _)).ext (ext_alloc (ext_refl _) _)) hg; have G7 := keep_row (hg_alloc (hg_new (b := w3.heap.size) rfl)) HR3.out (Nat.le_refl _) hg; obtain ⟨g4, gf4⟩ := cellsK G4; obtain ⟨g7, gf7⟩ := cellsK G7)
      have hra : ERow (w1.heap.size + 1) ((w3.alloc (.cells (eventC e).toArray 31)).alloc (.cells (eventC e).toArray 31)) (.slice ea es.length ecap) es := (HR3.out.ext (ext_alloc (ext_refl _) _)).ext (ext_alloc (ext_refl _) _)
      have hOa := ((HO3.out.alloc2).alloc2).grown hra (fun b hb => by have := HB.out b hb; omega) hg
      have Ca := Chg.grown ((C3.alloc _).alloc _) hra (by omega) hg
      have HKa := Rk.grown ((HK3.alloc2).alloc2) hra (by omega) hg
      refine (l21Do_v c s s0 e _ hOa HP.out HE.out).mono ?_; rintro e4 w4 ⟨rfl, hC4, hO4⟩
      have C4 := Ca.then_new hC4 (fun b hb => by have := HB.out b hb; omega)
      replace G3 := hC4.keep G3 (fun hm => by have := HB.out _ hm; omega)
      replace G4 := hC4.keep G4 (fun hm => by have := HB.out _ hm; omega)
      have hrow4 := row_chg hS' hC4 (fun b hb => by have := HB.out b hb; omega)
      have HK4 := HKa.chg hC4 (fun b hb => by have := HB.out b hb; omega)
      obtain ⟨hl1, hl2⟩ := playDoS_len s e
      have HPn := Lib.hid (HP.out.play e)
      have HO4 := Lib.hid hO4; have HR4 := Lib.hid hrow4
      have l44 := heap_lt G4
      clear g4 gf4 g7 gf7 hO4 hrow4 hra hOa hS' hg hC4 G7
      obtain ⟨g4, gf4⟩ := cellsK G4
      generalize playDoS s e = s2 at *
      go_wp2_with fail
      refine ⟨⟨n, s2, es ++ [e], by go_num, by simp; omega, (by ((repeat (first | with_reducible (refine Chg.set2 ?_ ?_); focus (exact Or.inr (by dsimp only; omega)) | with_reducible refine Chg.alloc2 ?_)); with_reducible exact C4)), ?_, HPn, Lib.hid ⟨hl1.trans HE.out.1, hl2.trans HE.out.2⟩, ?_, Lib.hid fun x hx => ?_, Rk.less (by ((repeat (first | (with_reducible apply Rk.set2; focus (dsimp only; omega)) | with_reducible apply Rk.alloc2)); with_reducible exact HK4)) (by omega), (by (repeat (first | with_reducible apply hg_here | (with_reducible apply hg_set; focus (dsimp only; omega)) | with_reducible apply hg_alloc)); with_reducible exact G3), hgo (by (repeat (first | with_reducible apply hg_here | (with_reducible apply hg_set; focus (dsimp only; omega)) | with_reducible apply hg_alloc)); with_reducible exact G4) ?_⟩, by simp [intOf]; try omega⟩
      · have hnb : w1.heap.size ∉ c.L := fun hm => by have := HB.out _ hm; omega
        exact (HO4.out.set hnb _).set hnb _
      · refine row_chg (L := [w1.heap.size]) HR4.out ?_ (by simp)
        exact ((Chg.refl _ _).set (.inl (by simp)) _).set (.inl (by simp)) _
      · rcases List.mem_append.1 hx with hx | hx
        · exact HD.out x hx
        · obtain rfl := List.mem_singleton.1 hx; exact HE3.out
      · simp
end Go.Bu

set_option linter.unusedVariables false
set_option linter.unusedSimpArgs false
namespace Go.Bu
open Go Go.RowKit Go.Plan Go.Proofs

/-! ### regions in which numbers are picked -/
theorem chgcell {R : Nat} {W w1 : World} (h : Chg [R] W w1) : (∀ b o, b < W.heap.size → b ≠ R → w1.cell? ⟨b, o, none⟩ = W.cell? ⟨b, o, none⟩) ∧ (∀ b o, b < W.heap.size → b ≠ R → w1.frozen? ⟨b, o, none⟩ = W.frozen? ⟨b, o, none⟩) :=
  ⟨fun b o hb hn => by unfold World.cell?; rw [h.block b hb (by simpa using hn)], fun b o hb hn => by unfold World.frozen?; rw [h.block b hb (by simpa using hn)]⟩

section
variable {P : Program} {l : List Oper} {Q : Exit → Act → World → Prop} {ch L heads : List Nat} {lates : Lates} {tail : List Nat} {B0 : Nat} {S : World → Prop} {iv : List (Nat × Nat)} {H : Nat} {a : Act}
  {fin : (World → Prop) → List (Nat × Nat) → Nat → Act → Prop} {R K K1 : Nat} {W : World}

theorem wp_region_rd (hk : Rk W R K) (ch heads : List Nat) (lates : Lates) (tail : List Nat) {id : Nat} {a : Act} (hm : P.follows .mixedOrders = true)
    (hok : okPlan l ch heads (lates.map (·.1)) tail = true)
    (hlate : ∀ f ∈ lates, ∃ o, l[f.1]? = some o ∧ ∀ (a : Act) (w : World), (execOp a.eval o).run P w = .ok (.value (f.2.2 w.heap.size)) (w.alloc f.2.1))
    (h : Rob P l ch W.heap.size (Fin P l Q W.heap.size lates tail) heads (Chg [R] W) (fun w => Rk w R K) [] W.heap.size a) : (Code.region id l.toArray true).wp P Q a W :=
  wp_region_planC ch heads lates tail hm hok hlate _ (Chg.of_ext (ext_drew W)) (fun _ _ h1 h2 => h1.trans (Chg.of_ext h2)) _ (hk.ext (ext_drew W)) (fun _ _ h1 h2 => h1.ext h2) h

theorem wp_region_rdM (hk : Rk W R K) (ch heads : List Nat) (lates : Lates) (mid tail : List Nat) {id : Nat} {a : Act} (hm : P.follows .mixedOrders = true)
    (hok : okPlanM l ch heads (lates.map (·.1)) mid tail = true)
    (hlate : ∀ f ∈ lates, ∃ o, l[f.1]? = some o ∧ ∀ (a : Act) (w : World), (execOp a.eval o).run P w = .ok (.value (f.2.2 w.heap.size)) (w.alloc f.2.1))
    (h : Rob P l ch W.heap.size (FinM P l Q W.heap.size lates mid tail) heads (Chg [R] W) (fun w => Rk w R K) [] W.heap.size a) : (Code.region id l.toArray true).wp P Q a W :=
  wp_region_planM ch heads lates mid tail hm hok hlate _ (Chg.of_ext (ext_drew W)) (fun _ _ h1 h2 => h1.trans (Chg.of_ext h2)) _ (hk.ext (ext_drew W)) (fun _ _ h1 h2 => h1.ext h2) h

theorem spare_rd {w w' : World} (hR : R < B0) (h : Chg [R] w w') : Spare B0 iv w w' := ⟨h.size, fun b hb hl _ => h.block b hl (by simp; omega)⟩
def DrawR (R K : Nat) (w : World) (Φ : Value → Prop) (v : Value) (w' : World) : Prop := Chg [R] w w' ∧ Rk w' R K ∧ Φ v
def PickΦ (m : Int) (v : Value) : Prop := ∃ r : Int, v = .int .i64 r ∧ 0 ≤ r ∧ (0 < m → r < m)
theorem Pick.run {m : Int} {w w' : World} {e : Ending} (h : Pick R K m w e w') : ∃ v, e = .returned v ∧ DrawR R K w (PickΦ m) v w' := by
  obtain ⟨r, he, h0, h1, hc, hk⟩ := h; exact ⟨_, he, hc, hk, r, rfl, h0, h1⟩
theorem DrawV.run {Φ : Value → Prop} {w w' : World} {e : Ending} (h : DrawV R K w (fun v _ => Φ v) e w') : ∃ v, e = .returned v ∧ DrawR R K w Φ v w' := by
  obtain ⟨v, he, hc, hk, hp⟩ := h; exact ⟨v, he, hc, hk, hp⟩

/-- a draw within a region -/
theorem Rob.draw0 {i : Nat} {o : Oper} (Φ : Value → Prop) (ho : l[i]? = some o) (hc : ch.contains i = true) (hg : Region.wanted o (yielded l.toArray a.tmps) = true) (hR : R < B0)
    (hS : ∀ w w', S w → Chg [R] w w' → S w') (hrun : ∀ w1, S w1 → Rk w1 R K1 → H ≤ w1.heap.size → RunTo P o a.eval w1 (DrawR R K w1 Φ))
    (h : ∀ (lo hi : Nat) (v : Value), Φ v → H ≤ lo → lo ≤ hi → Rob P l ch B0 fin L S (fun w => Rk w R K) (iv ++ [(lo, hi)]) hi (a.put o.dst v)) : Rob P l ch B0 fin (i :: L) S (fun w => Rk w R K1) iv H a := by
  refine Rob.w (fun _ _ v _ => Φ v) (fun _ _ _ w => Rk w R K) ho hc hg (fun _ _ _ _ _ h _ => h) (fun _ _ _ _ _ h hx => h.ext hx) (fun w1 hs hk hh => ?_) (fun lo hi v h1 h2 ⟨_, hv, _⟩ => ?_)
  · have := hrun w1 hs hk hh
    unfold RunTo at *
    revert this
    generalize (execOp a.eval o).run P w1 = r
    cases r with
    | ok n w' =>
      cases n <;> intro this
      case value v => exact ⟨spare_rd hR this.1, hS _ _ hs this.1, this.2.2, this.2.1⟩
      case skip => exact ⟨spare_rd hR this.1, hS _ _ hs this.1, this.2.2, this.2.1⟩
      case enter f args => exact Calls.mono this fun e w'' ⟨v, he, h1, h2, h3⟩ => ⟨v, he, spare_rd hR h1, hS _ _ hs h1, h3, h2⟩
      case row row args => exact Rows.mono this fun v w'' ⟨h1, h2, h3⟩ => ⟨spare_rd hR h1, hS _ _ hs h1, h3, h2⟩
      all_goals exact this
    | halt x w' => exact fun h => h
  · rw [show (fun w => S w ∧ Φ v) = S from funext fun w => by simp [hv]]
    exact h lo hi v hv h1 h2
theorem Rob.pick {i : Nat} {o : Oper} {m : Int} (ho : l[i]? = some o) (hc : ch.contains i = true) (hg : Region.wanted o (yielded l.toArray a.tmps) = true) (hR : R < B0)
    (hS : ∀ w w', S w → Chg [R] w w' → S w') (hrun : ∀ w1, S w1 → Rk w1 R (K + 1) → H ≤ w1.heap.size → RunTo P o a.eval w1 (DrawR R K w1 (PickΦ m)))
    (h : ∀ (lo hi : Nat) (r : Int), 0 ≤ r → (0 < m → r < m) → H ≤ lo → lo ≤ hi → Rob P l ch B0 fin L S (fun w => Rk w R K) (iv ++ [(lo, hi)]) hi (a.put o.dst (.int .i64 r))) : Rob P l ch B0 fin (i :: L) S (fun w => Rk w R (K + 1)) iv H a :=
  Rob.draw0 _ ho hc hg hR hS hrun fun lo hi v ⟨r, hv, h0, h1⟩ hl hh => by subst hv; exact h lo hi r h0 h1 hl hh
end

set_option maxHeartbeats 2000000 in
theorem l71Rec_c (R K : Nat) (w : World) (h : Rk w R (K + 6)) :
    Calls Try.prog 111 #[.pointer (some ⟨R, 0, none⟩)] w (DrawV R K w fun v _ => ∃ r : Rec, v = recA r) := by
  have hR := h.lt
  have HK := h; clear h
  go_enter Try.func111, Try.ntmps111
  have C := Chg.refl [R] w
  go_wp2_with fail
  refine (pick_k R 2 _ (by ((repeat (first | (with_reducible apply Rk.set2; focus (dsimp only; omega)) | with_reducible apply Rk.alloc2)); with_reducible exact HK))).mono ?_; rintro e1 w1 ⟨r1, rfl, a1, b1, hC, HK1⟩
  replace C := C.then_sets hC (by ((repeat (first | with_reducible (refine Chg.set2 ?_ ?_); focus (exact Or.inr (by dsimp only; omega)) | with_reducible refine Chg.alloc2 ?_)); with_reducible exact C))
  have G2 := hC.keep (hg_new (b := w.heap.size) rfl) (by simp; omega)
  replace HK := HK1; clear HK1 hC
  go_wp2_with fail
  refine (pick_k R 40 _ (by ((repeat (first | (with_reducible apply Rk.set2; focus (dsimp only; omega)) | with_reducible apply Rk.alloc2)); with_reducible exact HK))).mono ?_; rintro e2 w2 ⟨r2, rfl, a2, b2, hC, HK1⟩
  replace C := C.then_sets hC (by ((repeat (first | with_reducible (refine Chg.set2 ?_ ?_); focus (exact Or.inr (by dsimp only; omega)) | with_reducible refine Chg.alloc2 ?_)); with_reducible exact C))
  replace G2 := hC.keep (b := w.heap.size) (by (repeat (first | with_reducible apply hg_here | (with_reducible apply hg_set; focus (dsimp only; omega)) | with_reducible apply hg_alloc)); with_reducible exact G2) (by simp; omega)
  replace HK := HK1; clear HK1 hC
  go_wp2_with fail
  refine (pick_k R 6 _ (by ((repeat (first | (with_reducible apply Rk.set2; focus (dsimp only; omega)) | with_reducible apply Rk.alloc2)); with_reducible exact HK))).mono ?_; rintro e3 w3 ⟨r3, rfl, a3, b3, hC, HK1⟩
  replace C := C.then_sets hC (by ((repeat (first | with_reducible (refine Chg.set2 ?_ ?_); focus (exact Or.inr (by dsimp only; omega)) | with_reducible refine Chg.alloc2 ?_)); with_reducible exact C))
  replace G2 := hC.keep (b := w.heap.size) (by (repeat (first | with_reducible apply hg_here | (with_reducible apply hg_set; focus (dsimp only; omega)) | with_reducible apply hg_alloc)); with_reducible exact G2) (by simp; omega)
  replace HK := HK1; clear HK1 hC
  go_wp2_with fail
  refine (pick_k R 10 _ (by ((repeat (first | (with_reducible apply Rk.set2; focus (dsimp only; omega)) | with_reducible apply Rk.alloc2)); with_reducible exact HK))).mono ?_; rintro e4 w4 ⟨r4, rfl, a4, b4, hC, HK1⟩
  replace C := C.then_sets hC (by ((repeat (first | with_reducible (refine Chg.set2 ?_ ?_); focus (exact Or.inr (by dsimp only; omega)) | with_reducible refine Chg.alloc2 ?_)); with_reducible exact C))
  replace G2 := hC.keep (b := w.heap.size) (by (repeat (first | with_reducible apply hg_here | (with_reducible apply hg_set; focus (dsimp only; omega)) | with_reducible apply hg_alloc)); with_reducible exact G2) (by simp; omega)
  replace HK := HK1; clear HK1 hC
  have l2 := heap_lt G2
  go_wp2_with fail
  refine (pick_k R 20 _ (by ((repeat (first | (with_reducible apply Rk.set2; focus (dsimp only; omega)) | with_reducible apply Rk.alloc2)); with_reducible exact HK))).mono ?_; rintro e5 w5 ⟨r5, rfl, a5, b5, hC, HK1⟩
  replace C := C.then_sets hC (by ((repeat (first | with_reducible (refine Chg.set2 ?_ ?_); focus (exact Or.inr (by dsimp only; omega)) | with_reducible refine Chg.alloc2 ?_)); with_reducible exact C))
  replace G2 := hC.keep (b := w.heap.size) (by (repeat (first | with_reducible apply hg_here | (with_reducible apply hg_set; focus (dsimp only; omega)) | with_reducible apply hg_alloc)); with_reducible exact G2) (by simp; omega)
  have G3 := hC.keep (hg_new (b := w4.heap.size) rfl) (by simp; omega)
  replace HK := HK1; clear HK1 hC
  have l2 := heap_lt G2; have l3 := heap_lt G3
  obtain ⟨g2, gf2⟩ := cellsK G2
  obtain ⟨g3, gf3⟩ := cellsK G3
  go_wp2_with (first
    | (go_at_call 43; ((with_reducible refine (pick_k R 4 _ (by ((repeat (first | (with_reducible apply Rk.set2; focus (dsimp only; omega)) | with_reducible apply Rk.alloc2)); with_reducible exact HK))).mono ?_)); rintro e1 w1 ⟨r, rfl, hr0, hr1, hC, HK1⟩; replace C := C.then_sets hC (by ((repeat (first | with_reducible (refine Chg.set2 ?_ ?_); focus (exact Or.inr (by dsimp only; omega)) | with_reducible refine Chg.alloc2 ?_)); with_reducible exact C)); replace HK := HK1; clear HK1; replace G2 := hC.keep (b := w.heap.size) (by (repeat (first | with_reducible apply hg_here | (with_reducible apply hg_set; focus (dsimp only; omega)) | with_reducible apply hg_alloc)); with_reducible exact G2) (by simp; omega); (try clear g2 gf2); obtain ⟨g2, gf2⟩ := cellsK G2; have l2 := heap_lt G2; replace G3 := hC.keep (b := w4.heap.size) (by (repeat (first | with_reducible apply hg_here | (with_reducible apply hg_set; focus (dsimp only; omega)) | with_reducible apply hg_alloc)); with_reducible exact G3) (by simp; omega); (try clear g3 gf3); obtain ⟨g3, gf3⟩ := cellsK G3; have l3 := heap_lt G3; clear hC)
    | ((go_at_call 43; ((with_reducible refine (pick_k R 3 _ (by ((repeat (first | (with_reducible apply Rk.set2; focus (dsimp only; omega)) | with_reducible apply Rk.alloc2)); with_reducible exact HK))).mono ?_)); rintro e1 w1 ⟨r, rfl, hr0, hr1, hC, HK1⟩; replace C := C.then_sets hC (by ((repeat (first | with_reducible (refine Chg.set2 ?_ ?_); focus (exact Or.inr (by dsimp only; omega)) | with_reducible refine Chg.alloc2 ?_)); with_reducible exact C)); replace HK := HK1; clear HK1; replace G2 := hC.keep (b := w.heap.size) (by (repeat (first | with_reducible apply hg_here | (with_reducible apply hg_set; focus (dsimp only; omega)) | with_reducible apply hg_alloc)); with_reducible exact G2) (by simp; omega); (try clear g2 gf2); obtain ⟨g2, gf2⟩ := cellsK G2; have l2 := heap_lt G2; replace G3 := hC.keep (b := w4.heap.size) (by (repeat (first | with_reducible apply hg_here | (with_reducible apply hg_set; focus (dsimp only; omega)) | with_reducible apply hg_alloc)); with_reducible exact G3) (by simp; omega); (try clear g3 gf3); obtain ⟨g3, gf3⟩ := cellsK G3; have l3 := heap_lt G3; have G5 := hC.keep (b := w5.heap.size) (hg_new (by simp)) (by simp; omega); (try clear g5 gf5); obtain ⟨g5, gf5⟩ := cellsK G5; have l5 := heap_lt G5; clear hC); rcases (show r = 0 ∨ r = 1 ∨ r = 2 by have := hr1 (by omega); omega) with rfl | rfl | rfl)
    | ((go_at_call 43; ((with_reducible refine (pick_k R 2 _ (by ((repeat (first | (with_reducible apply Rk.set2; focus (dsimp only; omega)) | with_reducible apply Rk.alloc2)); with_reducible exact HK))).mono ?_)); rintro e1 w1 ⟨r, rfl, hr0, hr1, hC, HK1⟩; replace C := C.then_sets hC (by ((repeat (first | with_reducible (refine Chg.set2 ?_ ?_); focus (exact Or.inr (by dsimp only; omega)) | with_reducible refine Chg.alloc2 ?_)); with_reducible exact C)); replace HK := HK1; clear HK1; replace G2 := hC.keep (b := w.heap.size) (by (repeat (first | with_reducible apply hg_here | (with_reducible apply hg_set; focus (dsimp only; omega)) | with_reducible apply hg_alloc)); with_reducible exact G2) (by simp; omega); (try clear g2 gf2); obtain ⟨g2, gf2⟩ := cellsK G2; have l2 := heap_lt G2; replace G3 := hC.keep (b := w4.heap.size) (by (repeat (first | with_reducible apply hg_here | (with_reducible apply hg_set; focus (dsimp only; omega)) | with_reducible apply hg_alloc)); with_reducible exact G3) (by simp; omega); (try clear g3 gf3); obtain ⟨g3, gf3⟩ := cellsK G3; have l3 := heap_lt G3; have G5 := hC.keep (b := w5.heap.size) (hg_new (by simp)) (by simp; omega); (try clear g5 gf5); obtain ⟨g5, gf5⟩ := cellsK G5; have l5 := heap_lt G5; clear hC); rcases (show r = 0 ∨ r = 1 by have := hr1 (by omega); omega) with rfl | rfl))
  all_goals
    refine bodyPost_ret (by simp [results, Try.results111, go_sem, g2, gf2, g3, gf3]; exact ⟨rfl, rfl, rfl, rfl⟩) rfl ⟨_, rfl, (by ((repeat (first | with_reducible (refine Chg.set2 ?_ ?_); focus (exact Or.inr (by dsimp only; omega)) | with_reducible refine Chg.alloc2 ?_)); with_reducible exact C)), Rk.less (by ((repeat (first | (with_reducible apply Rk.set2; focus (dsimp only; omega)) | with_reducible apply Rk.alloc2)); with_reducible exact HK)) (by omega), ⟨_, _, _, _⟩, rfl⟩

theorem FlashAt.chg {c : SC} {w w' : World} {f : List Block} {L : List Nat} (h : FlashAt c w f) (hx : Chg L w w') (hL : ∀ b ∈ c.fl, b ∉ L) : FlashAt c w' f := h.keep fun b hb => hx.block b (h.lt b hb) (hL b hb)
theorem FlashAt.set2 {c : SC} {w : World} {f : List Block} {p : Addr} {u : Value} (hp : p.block ∉ c.fl) (h : FlashAt c w f) : FlashAt c (w.setCell p u) f := h.keep fun b hb => Below.heap_setCell _ _ _ _ (by rintro rfl; exact hp hb)
theorem FlashAt.alloc2 {c : SC} {w : World} {f : List Block} {o : Obj} (h : FlashAt c w f) : FlashAt c (w.alloc o) f := h.ext (ext_alloc (ext_refl _) _)
end Go.Bu

set_option linter.unusedVariables false
set_option linter.unusedSimpArgs false
namespace Go.Bu
open Go Go.RowKit Go.Plan Go.Proofs

/-! ### parts of a flash -/
theorem OwnAt.tail {α : Type} {n : Nat} {enc : α → List Value} {T : TypeId} {w : World} {B o : Nat} {xs : List α} (h : OwnAt n enc T w B o xs) : OwnAt n enc T w B (o + n) xs.tail := by
  obtain ⟨c, hc, hi⟩ := h
  refine ⟨c, hc, fun i x hx j u hu => ?_⟩
  rw [List.getElem?_tail] at hx
  have := hi (i + 1) x hx j u hu
  rw [Nat.succ_mul] at this
  rw [show o + n + i * n + j = o + (i * n + n) + j by omega]; exact this
def SC.tl (c : SC) : SC := ⟨⟨c.F.b, c.F.o + 2, c.F.cap, c.F.T⟩, c.ps.tail, c.D⟩
theorem rowsOf_tail (f : List Block) (ps : List At) : rowsOf f.tail ps.tail = (rowsOf f ps).tail := by cases f <;> cases ps <;> simp [rowsOf]
theorem FlashAt.tail {c : SC} {w : World} {f : List Block} (h : FlashAt c w f) : FlashAt c.tl w f.tail := by
  refine ⟨?_, by simp [SC.tl, h.len], fun i x p hx hp => h.pages (i + 1) x p (by rw [← List.getElem?_tail]; exact hx) (by rw [← List.getElem?_tail]; exact hp)⟩
  show OwnAt 2 rowC _ w _ _ (rowsOf f.tail c.ps.tail)
  rw [rowsOf_tail]; exact h.row.tail
theorem SC.tl_sub (c : SC) : List.Sublist c.tl.fl c.fl := ((List.tail_sublist _).map _).cons_cons _
def SC.cut (c : SC) (k : Nat) (p : At) : SC := ⟨c.F, c.ps.set k ⟨p.b, p.o + 5, p.cap, p.T⟩, c.D⟩
theorem SC.cut_fl {c : SC} {k : Nat} {p : At} (hp : c.ps[k]? = some p) : (c.cut k p).fl = c.fl := by
  unfold SC.fl SC.cut
  congr 1
  apply List.ext_getElem?
  intro j
  rw [List.getElem?_map, List.getElem?_map, List.getElem?_set]
  by_cases hkj : k = j
  · subst hkj; rw [if_pos rfl, hp, if_pos (List.getElem?_eq_some_iff.1 hp).1]; rfl
  · rw [if_neg hkj]
theorem zipWith_set2 {f : List Block} {ps : List At} {i : Nat} {x : Block} {p : At} (h : ps.length = f.length) : rowsOf (f.set i x) (ps.set i p) = (rowsOf f ps).set i (rowOf x p) := by
  unfold rowsOf
  apply List.ext_getElem?
  intro j
  rw [List.getElem?_zipWith, List.getElem?_set, List.getElem?_set, List.getElem?_set, List.getElem?_zipWith]
  by_cases hij : i = j
  · subst hij
    rw [if_pos rfl, if_pos rfl, if_pos rfl]
    by_cases hf : i < f.length
    · rw [if_pos hf, if_pos (by omega), if_pos (by rw [List.length_zipWith]; omega)]
    · rw [if_neg hf, if_neg (by omega), if_neg (by rw [List.length_zipWith]; omega)]
  · rw [if_neg hij, if_neg hij, if_neg hij]
theorem FlashAt.cut {c : SC} {w : World} {f : List Block} (h : FlashAt c w f) (hnd : c.fl.Nodup) {k : Nat} {p : At} {x : Block} (hx : f[k]? = some x) (hp : c.ps[k]? = some p) :
    FlashAt (c.cut k p) (w.setCell ⟨c.F.b, c.F.o + k * 2, none⟩ ((⟨p.b, p.o + 5, p.cap, p.T⟩ : At).v (x.pages.length - 1))) (f.set k ⟨x.pages.tail, x.worn⟩) := by
  obtain ⟨hk, rfl⟩ := List.getElem?_eq_some_iff.1 hx
  have hrl : k < (rowsOf f c.ps).length := by rw [rowsOf_len h.len]; exact hk
  have hget : (rowsOf f c.ps)[k] = rowOf f[k] p := by
    have := rowsOf_get (List.getElem?_eq_getElem hk) hp
    rw [List.getElem?_eq_getElem hrl] at this; exact Option.some.inj this
  refine ⟨?_, by simp [SC.cut, h.len], fun j y q hy hq => ?_⟩
  · show OwnAt 2 rowC _ _ _ _ (rowsOf (f.set k _) (c.ps.set k _))
    rw [zipWith_set2 h.len]
    exact OwnAt.set1 (n := 2) (enc := rowC) (fun _ => rfl) h.row hrl (j := 0) (by omega) _ _ (by rw [hget]; simp [rowOf])
  · replace hq : (c.ps.set k (⟨p.b, p.o + 5, p.cap, p.T⟩ : At))[j]? = some q := hq
    rw [List.getElem?_set] at hy hq
    by_cases hkj : k = j
    · subst hkj
      rw [if_pos rfl, if_pos hk] at hy
      rw [if_pos rfl, if_pos (by rw [h.len]; exact hk)] at hq
      obtain rfl := Option.some.inj hy; obtain rfl := Option.some.inj hq
      exact (h.pages k f[k] p (List.getElem?_eq_getElem hk) hp).tail.keep (Below.heap_setCell _ _ _ _ (SC.F_ne hnd hp))
    · rw [if_neg hkj] at hy hq
      exact (h.pages j y q hy hq).keep (Below.heap_setCell _ _ _ _ (SC.F_ne hnd hq))

/-- what a drawn flash is -/
def DrawnF (w : World) (v : Value) (w' : World) : Prop := ∃ (c : SC) (f : List Block), v = c.F.v f.length ∧ FlashAt c w' f ∧ c.fl.Nodup ∧ (∀ b ∈ c.fl, w.heap.size ≤ b) ∧ f.length ≤ 4 ∧ ∀ b ∈ f, b.pages.length ≤ 4

set_option maxRecDepth 20000 in
set_option maxHeartbeats 4000000 in
theorem l71Flash_c (R K : Nat) (w : World) (h : Rk w R (K + 20 + 1 + 57 * 7)) :
    Calls Try.prog 88 #[.pointer (some ⟨R, 0, none⟩)] w (DrawV R K w (DrawnF w)) := by
  have hR := h.lt
  have HK := h; clear h
  have C := Chg.refl [R] w
  go_enter Try.func88, Try.ntmps88
  go_wp2_with fail
  refine (l71Play_c R (K + 20) _ HK).mono ?_; rintro e1 w1 ⟨v1, rfl, C1, HK1, c, s, ev, es, H0, rfl, hO, hP, hL, hH, hrow, hD, hel⟩
  obtain ⟨ea, ecap, rfl⟩ := hrow.form
  have hsh := hP.shape
  have hnd := SC.fl_nd hO.nd
  have HND := Lib.hid hnd
  have FA := hO.flash
  have HL := Lib.hid hL
  have HRF : Hid (∀ b ∈ c.fl, b ∉ [R]) := Lib.hid fun b hb => by have := hL b (fl_L b hb); simp; omega
  have HNF : Hid (∀ b, w1.heap.size ≤ b → b ∉ c.fl) := Lib.hid fun b hb hm => by have := FA.lt b hm; omega
  have HSH := Lib.hid hsh
  replace HK := HK1
  replace C := C1
  have hsz := C1.size
  have hf4 := hsh.flash
  have H4 : Hid (∀ b ∈ s.flash, b.pages.length = 4) := Lib.hid hsh.pages
  have HFL : Hid (∀ b ∈ c.fl, w.heap.size ≤ b) := Lib.hid fun b hb => (HL.out b (fl_L b hb)).1
  have hFb := HL.out _ (fl_L _ (show c.F.b ∈ c.fl by simp [SC.fl]))
  have hFlt := FA.lt _ (show c.F.b ∈ c.fl by simp [SC.fl])
  have hfv : c.fv s = c.F.v 4 := by unfold SC.fv; rw [hf4]
  rw [hfv]
  obtain ⟨da, dn, dc, hdv⟩ : ∃ a n k, c.dv s = .slice a n k := ⟨_, _, _, rfl⟩
  rw [hdv]
  clear hfv hdv
  generalize s.flash = f at *
  clear hsh hO hP hL hH hrow hD hel HK1 C1 hnd
  have HF4 := Lib.hid hf4
  clear hf4
  go_wp2_with fail
  refine (pick_k R 20 _ (by ((repeat (first | (with_reducible apply Rk.set2; focus (dsimp only; omega)) | with_reducible apply Rk.alloc2)); with_reducible exact HK))).mono ?_; rintro e2 w2 ⟨r, rfl, hr0, hr1, hC, HK1⟩
  replace C := C.then_sets hC (by ((repeat (first | with_reducible (refine Chg.set2 ?_ ?_); focus (exact Or.inr (by dsimp only; omega)) | with_reducible refine Chg.alloc2 ?_)); with_reducible exact C))
  replace HK := HK1; clear HK1
  have G4 := hC.keep (hg_new (b := w1.heap.size) rfl) (by simp; omega)
  replace FA := FlashAt.chg (by ((repeat (first | (with_reducible apply FlashAt.set2; focus (exact HNF.out _ (by dsimp only; omega))) | with_reducible apply FlashAt.alloc2)); with_reducible exact FA)) hC HRF.out
  have l4 := heap_lt G4
  obtain ⟨g4, gf4⟩ := cellsK G4
  clear hC
  go_wp2_with fail
  · clear hr1
    refine wp_region_rd HK [4, 9, 11, 13] [0, 1, 2, 3, 8, 10, 12, 4, 5, 6, 7, 9, 11, 13, 14, 15] [] [16] (by kernel_rfl) (by kernel_rfl) ?late ?_
    case late => exact fun f hf => absurd hf List.not_mem_nil
    iterate 7
      refine Rob.y (v := ?_) rfl rfl (fun w1 hx hH => ?_) ?_; rotate_left
      · go_simp; first | done | rfl | exact (Bool.not_not _).symm
      simp only [Act.put, List.setIfInBounds_toArray, List.set_cons_succ, List.set_cons_zero]
    refine Rob.pick (m := 4) rfl rfl rfl (by omega) (fun _ _ h hx => h.trans hx) (fun w1 hx HK hH => ?_) (fun lo4 hi4 r4 hrl4 hru4 hlo4 hhi4 => ?_)
    · unfold RunTo; go_simp; exact (pick_k R _ _ HK).mono fun e w' h => h.run
    simp only [Act.put, List.setIfInBounds_toArray, List.set_cons_succ, List.set_cons_zero]
    obtain ⟨i, rfl⟩ : ∃ i : Nat, r4 = i := ⟨r4.toNat, by omega⟩
    have hiI : (i : Int) < 4 := hru4 (by omega)
    have hI : i < f.length := by have := HF4.out; omega
    obtain ⟨p, hp⟩ : ∃ p, c.ps[i]? = some p := ⟨_, List.getElem?_eq_getElem (by rw [FA.len]; exact hI)⟩
    obtain ⟨x, hX⟩ : ∃ x, f[i]? = some x := ⟨_, List.getElem?_eq_getElem hI⟩
    have hpx := H4.out x (List.mem_of_getElem? hX)
    obtain ⟨q1, q2⟩ := FA.two' hX hp
    rw [hpx] at q1
    have hF1 : c.F.b < w2.heap.size := FA.lt _ (by simp [SC.fl])
    have hF2 : c.F.b ≠ R := by omega
    refine Rob.y (v := ?_) rfl rfl (fun w1 hx hH => ?_) ?_; rotate_left
    · (obtain ⟨hcx, hfx⟩ := chgcell hx); go_simp; first | done | rfl
    simp only [Act.put, List.setIfInBounds_toArray, List.set_cons_succ, List.set_cons_zero]
    refine Rob.y (v := ?_) rfl rfl (fun w1 hx hH => ?_) ?_; rotate_left
    · go_simp; first | done | rfl | exact (Bool.not_not _).symm
    simp only [Act.put, List.setIfInBounds_toArray, List.set_cons_succ, List.set_cons_zero]
    refine Rob.y (v := ?_) rfl rfl (fun w1 hx hH => ?_) ?_; rotate_left
    · (obtain ⟨hcx, hfx⟩ := chgcell hx); go_simp; first | done | rfl
    simp only [Act.put, List.setIfInBounds_toArray, List.set_cons_succ, List.set_cons_zero]
    refine Rob.pick (m := 4) rfl rfl rfl (by omega) (fun _ _ h hx => h.trans hx) (fun w1 hx HK hH => ?_) (fun lo9 hi9 r9 hrl9 hru9 hlo9 hhi9 => ?_)
    · unfold RunTo; go_simp; exact (pick_k R _ _ HK).mono fun e w' h => h.run
    simp only [Act.put, List.setIfInBounds_toArray, List.set_cons_succ, List.set_cons_zero]
    obtain ⟨k, rfl⟩ : ∃ k : Nat, r9 = k := ⟨r9.toNat, by omega⟩
    have hkI : (k : Int) < 4 := hru9 (by omega)
    refine Rob.pick (m := 4) rfl rfl rfl (by omega) (fun _ _ h hx => h.trans hx) (fun w1 hx HK hH => ?_) (fun lo11 hi11 r11 hrl11 hru11 hlo11 hhi11 => ?_)
    · unfold RunTo; go_simp; exact (pick_k R _ _ HK).mono fun e w' h => h.run
    simp only [Act.put, List.setIfInBounds_toArray, List.set_cons_succ, List.set_cons_zero]
    refine Rob.draw0 (K := K + 10) (fun v => ∃ r, v = recA r) rfl rfl rfl (by omega) (fun _ _ h hx => h.trans hx) (fun w1 hx HK hH => ?_) (fun lo13 hi13 v13 hv13 hlo13 hhi13 => ?_)
    · unfold RunTo; go_simp; exact (l71Rec_c R _ _ HK).mono fun e w' h => h.run
    simp only [Act.put, List.setIfInBounds_toArray, List.set_cons_succ, List.set_cons_zero]
    obtain ⟨rr, rfl⟩ := hv13
    refine Rob.y (v := ?_) rfl rfl (fun w1 hx hH => ?_) ?_; rotate_left
    · go_simp; first | done | rfl | exact (Bool.not_not _).symm
    simp only [Act.put, List.setIfInBounds_toArray, List.set_cons_succ, List.set_cons_zero]
    refine Rob.y (v := ?_) rfl rfl (fun w1 hx hH => ?_) ?_; rotate_left
    · (obtain ⟨hcx, hfx⟩ := chgcell hx); go_simp; first | done | rfl
    simp only [Act.put, List.setIfInBounds_toArray, List.set_cons_succ, List.set_cons_zero]
    refine fin_tailC (fun w3 hx3 HK3 _ => ?_)
    simp only [dstOf, List.getElem?_cons_succ, List.getElem?_cons_zero, Option.bind_some, Act.put, List.setIfInBounds_toArray, List.set_cons_succ, List.set_cons_zero, List.filterMap_cons, List.filterMap_nil]
    have FA3 := FlashAt.chg FA hx3 HRF.out
    have hpl : p.b ∈ c.fl := List.mem_cons_of_mem _ (List.mem_map.2 ⟨p, List.mem_of_getElem? hp, rfl⟩)
    have hkl : k < x.pages.length := by rw [hpx]; omega
    have hth := FA3.there hX hp hkl
    have hF := FA3.page' HND.out hX hp hkl ⟨r11, rr⟩
    have hC := setAll_chg (L := c.fl) (o := p.o + k * 5) (Chg.refl _ w3) hpl (pageC ⟨r11, rr⟩)
    have C3 := (C.trans hx3).then_new hC HFL.out
    have HK4 := HK3.chg hC (fun b hb => by have := HFL.out b hb; omega)
    have HF := Lib.hid hF; have HC3 := Lib.hid C3; clear hF hC C3
    refine wpList_store_mid rfl 89 _ _ rfl p.b (p.o + k * 5) (pageC ⟨r11, rr⟩).toArray rfl rfl hth (by kernel_rfl) (by simp [Value.oneCell']) ?_
    refine wpList_nil ?_
    change Exit.inBlock _ _ _ _ (setAll w3 p.b (p.o + k * 5) (pageC ⟨r11, rr⟩))
    generalize setAll w3 p.b (p.o + k * 5) (pageC ⟨r11, rr⟩) = w4 at *
    go_wp2_with fail
    refine bodyPost_ret (v := c.F.v 4) (by simp [results, Try.results88, go_sem]) rfl ⟨_, rfl, HC3.out, HK4.less (by omega), c, _, by rw [List.length_set, HF4.out], HF.out, HND.out, HFL.out, by rw [List.length_set, HF4.out]; omega, fun b hb => ?_⟩
    rcases List.mem_or_eq_of_mem_set hb with hb | rfl
    · rw [H4.out b hb]; omega
    · simp [hpx]
  · refine (pick_k R 4 _ HK).mono ?_; rintro e3 w3 ⟨r3, rfl, a3, b3, hC, HK1⟩
    replace C := C.trans hC
    replace HK := HK1; clear HK1
    replace FA := FlashAt.chg FA hC HRF.out
    obtain ⟨i, rfl⟩ : ∃ i : Nat, r3 = i := ⟨r3.toNat, by omega⟩
    have hiI : (i : Int) < 4 := b3 (by omega)
    have hI : i < f.length := by have := HF4.out; omega
    obtain ⟨p, hp⟩ : ∃ p, c.ps[i]? = some p := ⟨_, List.getElem?_eq_getElem (by rw [FA.len]; exact hI)⟩
    have l3 := hC.size
    clear hC hr1
    go_wp2_with ((go_at_call 43; ((with_reducible refine (pick_k R 3 _ (by ((repeat (first | (with_reducible apply Rk.set2; focus (dsimp only; omega)) | with_reducible apply Rk.alloc2)); with_reducible exact HK))).mono ?_)); rintro e1 w1 ⟨r, rfl, hr0, hr1, hC, HK1⟩; replace C := C.then_sets hC (by ((repeat (first | with_reducible (refine Chg.set2 ?_ ?_); focus (exact Or.inr (by dsimp only; omega)) | with_reducible refine Chg.alloc2 ?_)); with_reducible exact C)); replace HK := HK1; clear HK1; have G5 := hC.keep (b := w3.heap.size) (hg_new (by simp)) (by simp; omega); (try clear g5 gf5); obtain ⟨g5, gf5⟩ := cellsK G5; have l5 := heap_lt G5; replace FA := FlashAt.chg (by ((repeat (first | (with_reducible apply FlashAt.set2; focus (exact HNF.out _ (by dsimp only; omega))) | with_reducible apply FlashAt.alloc2)); with_reducible exact FA)) hC HRF.out; clear hC); obtain ⟨q1, q2⟩ := FA.two hI hp; have q3 := FA.row.frozen; rcases (show r = 0 ∨ r = 1 ∨ r = 2 by have := hr1 (by omega); omega) with rfl | rfl | rfl)
    all_goals
      refine bodyPost_ret (v := c.F.v 4) (by simp [results, Try.results88, go_sem]) rfl ⟨_, rfl, (by ((repeat (first | with_reducible (refine Chg.set2 ?_ ?_); focus (exact Or.inr (by dsimp only; omega)) | with_reducible refine Chg.alloc2 ?_)); with_reducible exact C)), Rk.less (by ((repeat (first | (with_reducible apply Rk.set2; focus (dsimp only; omega)) | with_reducible apply Rk.alloc2)); with_reducible exact HK)) (by omega), c, f.set i ⟨f[i].pages, _⟩, by rw [List.length_set, HF4.out], FA.worn HND.out hI hp _, HND.out, HFL.out, by rw [List.length_set, HF4.out]; omega, fun b hb => ?_⟩
      rcases List.mem_or_eq_of_mem_set hb with hb | rfl
      · rw [H4.out b hb]; omega
      · exact Nat.le_of_eq (H4.out f[i] (List.getElem_mem _))
  · refine bodyPost_ret (v := c.tl.F.v 3) ?_ rfl ⟨_, rfl, C, HK.less (by omega), c.tl, f.tail, by rw [List.length_tail, HF4.out], FA.tail, HND.out.sublist c.tl_sub, fun b hb => HFL.out b (c.tl_sub.subset hb), by rw [List.length_tail, HF4.out]; omega, fun b hb => by rw [H4.out b (List.mem_of_mem_tail hb)]; omega⟩
    simp [results, Try.results88, go_sem, SC.tl]
  · refine (pick_k R 4 _ HK).mono ?_; rintro e3 w3 ⟨r3, rfl, a3, b3, hC, HK1⟩
    replace C := C.trans hC
    replace HK := HK1; clear HK1
    replace FA := FlashAt.chg FA hC HRF.out
    obtain ⟨i, rfl⟩ : ∃ i : Nat, r3 = i := ⟨r3.toNat, by omega⟩
    have hiI : (i : Int) < 4 := b3 (by omega)
    have hI : i < f.length := by have := HF4.out; omega
    obtain ⟨p, hp⟩ : ∃ p, c.ps[i]? = some p := ⟨_, List.getElem?_eq_getElem (by rw [FA.len]; exact hI)⟩
    obtain ⟨x, hX⟩ : ∃ x, f[i]? = some x := ⟨_, List.getElem?_eq_getElem hI⟩
    have hpx := H4.out x (List.mem_of_getElem? hX)
    obtain ⟨q1, q2⟩ := FA.two' hX hp
    rw [hpx] at q1
    have q3 := FA.row.frozen
    have l3 := hC.size
    clear hC hr1
    go_wp2_with fail
    have hcut := FA.cut HND.out hX hp
    rw [hpx] at hcut
    refine bodyPost_ret (v := c.F.v 4) (by simp [results, Try.results88, go_sem]) rfl ⟨_, rfl, (by ((repeat (first | with_reducible (refine Chg.set2 ?_ ?_); focus (exact Or.inr (by dsimp only; omega)) | with_reducible refine Chg.alloc2 ?_)); with_reducible exact C)), Rk.less (by ((repeat (first | (with_reducible apply Rk.set2; focus (dsimp only; omega)) | with_reducible apply Rk.alloc2)); with_reducible exact HK)) (by omega), c.cut i p, f.set i ⟨x.pages.tail, x.worn⟩, by rw [List.length_set, HF4.out]; rfl, ?_, by rw [SC.cut_fl hp]; exact HND.out, by rw [SC.cut_fl hp]; exact HFL.out, by rw [List.length_set, HF4.out]; omega, fun b hb => ?_⟩
    · exact hcut
    · rcases List.mem_or_eq_of_mem_set hb with hb | rfl
      · rw [H4.out b hb]; omega
      · simp [hpx]
  · refine bodyPost_ret (v := c.F.v 4) (by simp [results, Try.results88, go_sem]) rfl ⟨_, rfl, C, HK.less (by omega), c, f, by rw [HF4.out], FA, HND.out, HFL.out, by rw [HF4.out]; omega, fun b hb => by rw [H4.out b hb]; omega⟩
end Go.Bu

set_option linter.unusedVariables false
set_option linter.unusedSimpArgs false
namespace Go.Bu
open Go Go.RowKit Go.Plan Go.Proofs

/-- what a drawn store is -/
def DrawnS (w : World) (v : Value) (w' : World) : Prop := ∃ (c : SC) (s : Store), v = .agg #[c.fv s, c.dv s] ∧ OwnS c w' s ∧ (∀ b ∈ c.L, w.heap.size ≤ b) ∧ s.flash.length ≤ 4 ∧ (∀ b ∈ s.flash, b.pages.length ≤ 4) ∧ s.disk.length ≤ 6

def SC.dt (c : SC) : SC := ⟨c.F, c.ps, ⟨c.D.b, c.D.o + 1, c.D.cap, c.D.T⟩⟩
theorem OwnS.dt {c : SC} {w : World} {s : Store} (h : OwnS c w s) : OwnS c.dt w ⟨s.flash, s.disk.tail⟩ := ⟨⟨h.flash.row, h.flash.len, h.flash.pages⟩, h.disk.tail, h.nd⟩
theorem OwnS.disk1 {c : SC} {w : World} {s : Store} (h : OwnS c w s) {i : Nat} (hi : i < s.disk.length) (z : Int) : OwnS c (w.setCell ⟨c.D.b, c.D.o + i, none⟩ (.int .i64 z)) ⟨s.flash, s.disk.set i z⟩ := by
  refine ⟨h.flash.keep fun b hb => Below.heap_setCell _ _ _ _ (SC.D_ne h.nd b hb), ?_, h.nd⟩
  have := OwnAt.set1 (n := 1) (enc := intC) (fun _ => rfl) h.disk hi (j := 0) (by omega) (.int .i64 z) z rfl
  simpa using this
theorem OwnS.reflash {c c' : SC} {w : World} {s : Store} {f : List Block} (h : OwnS c w s) (hf : FlashAt c' w f) (hnd : c'.fl.Nodup) (hb : ∀ b ∈ c'.fl, c.D.b < b) : OwnS ⟨c'.F, c'.ps, c.D⟩ w ⟨f, s.disk⟩ := by
  refine ⟨⟨hf.row, hf.len, hf.pages⟩, h.disk, ?_⟩
  show (c'.fl ++ [c.D.b]).Nodup
  refine List.nodup_append.2 ⟨hnd, by simp, fun a ha b hb' => ?_⟩
  obtain rfl := List.mem_singleton.1 hb'
  have := hb a ha; omega
theorem OwnS.worn {c : SC} {w : World} {s : Store} (h : OwnS c w s) {i : Nat} {p : At} (hi : i < s.flash.length) (hp : c.ps[i]? = some p) (n : Int) : OwnS c (w.setCell ⟨c.F.b, c.F.o + i * 2 + 1, none⟩ (.int .i64 n)) ⟨s.flash.set i ⟨s.flash[i].pages, n⟩, s.disk⟩ :=
  ⟨h.flash.worn (SC.fl_nd h.nd) hi hp n, h.disk.keep (Below.heap_setCell _ _ _ _ (SC.D_ne h.nd _ (by simp [SC.fl])).symm), h.nd⟩

theorem four_int (a b c d : Int) {k : Nat} (h : k < 4) : ∃ z : Int, (#[.int .i64 a, .int .i64 b, .int .i64 c, .int .i64 d] : Array Value)[k]? = some (.int .i64 z) := by
  rcases (show k = 0 ∨ k = 1 ∨ k = 2 ∨ k = 3 by omega) with rfl | rfl | rfl | rfl
  all_goals exact ⟨_, rfl⟩

set_option maxRecDepth 20000 in
set_option maxHeartbeats 4000000 in
theorem l71Store_c (R K : Nat) (w : World) (h : Rk w R (K + 420 + 1 + 1 + 57 * 7)) :
    Calls Try.prog 66 #[.pointer (some ⟨R, 0, none⟩)] w (DrawV R K w (DrawnS w)) := by
  have hR := h.lt
  have HK := h; clear h
  have C := Chg.refl [R] w
  go_enter Try.func66, Try.ntmps66
  go_wp2_with fail
  refine (l71Play_c R (K + 420 + 1) _ (by ((repeat (first | (with_reducible apply Rk.set2; focus (dsimp only; omega)) | with_reducible apply Rk.alloc2)); with_reducible exact HK))).mono ?_; rintro e1 w1 ⟨v1, rfl, C1, HK1, c, s, ev, es, H0, rfl, OS, hP, hL, hH, hrow, hD, hel⟩
  obtain ⟨ea, ecap, rfl⟩ := hrow.form
  have hsh := hP.shape
  have hsz := C1.size
  have G2 := C1.keep (hg_new (b := w.heap.size) rfl) (by simp; omega)
  simp only [World.alloc, Array.size_push] at hL hsz
  have HLB : Hid (∀ b ∈ c.L, w.heap.size < b ∧ b < w1.heap.size) := Lib.hid fun b hb => ⟨by have := hL b hb; omega, OS.lt b hb⟩
  have HRL : Hid (∀ b ∈ c.L, b ∉ [R]) := Lib.hid fun b hb => by have := HLB.out b hb; simp; omega
  have HNB : Hid (∀ b, (b ≤ w.heap.size ∨ w1.heap.size ≤ b) → b ∉ c.L) := Lib.hid fun b hb hm => by have := HLB.out b hm; omega
  have hFb := HLB.out _ (fl_L _ (show c.F.b ∈ c.fl by simp [SC.fl]))
  have hDb := HLB.out c.D.b (by simp [SC.L])
  have HF4 : Hid (s.flash.length = 4) := Lib.hid hsh.flash
  have HD6 : Hid (s.disk.length = 6) := Lib.hid hP.disk
  have H4 : Hid (∀ b ∈ s.flash, b.pages.length = 4) := Lib.hid hsh.pages
  have hfv : c.fv s = c.F.v 4 := by unfold SC.fv; rw [hsh.flash]
  have hdv : c.dv s = c.D.v 6 := by unfold SC.dv; rw [hP.disk]
  rw [hfv, hdv]
  replace HK := HK1
  replace C := C.then_sets C1 (by ((repeat (first | with_reducible (refine Chg.set2 ?_ ?_); focus (exact Or.inr (by dsimp only; omega)) | with_reducible refine Chg.alloc2 ?_)); with_reducible exact C))
  clear hsh hP hL hH hrow hD hel HK1 C1 hfv hdv
  have l2 := heap_lt G2
  go_wp2_with fail
  refine (pick_k R 30 _ (by ((repeat (first | (with_reducible apply Rk.set2; focus (dsimp only; omega)) | with_reducible apply Rk.alloc2)); with_reducible exact HK))).mono ?_; rintro e2 w2 ⟨r, rfl, hr0, hr1, hC, HK1⟩
  replace C := C.then_sets hC (by ((repeat (first | with_reducible (refine Chg.set2 ?_ ?_); focus (exact Or.inr (by dsimp only; omega)) | with_reducible refine Chg.alloc2 ?_)); with_reducible exact C))
  replace HK := HK1; clear HK1
  replace G2 := hC.keep (b := w.heap.size) (by (repeat (first | with_reducible apply hg_here | (with_reducible apply hg_set; focus (dsimp only; omega)) | with_reducible apply hg_alloc)); with_reducible exact G2) (by simp; omega)
  have G4 := hC.keep (hg_new (b := w1.heap.size) rfl) (by simp; omega)
  replace OS := OwnS.chg (by ((repeat (first | (with_reducible apply OwnS.set2; focus (exact HNB.out _ (by dsimp only; omega))) | with_reducible apply OwnS.alloc2)); with_reducible exact OS)) hC HRL.out
  have l4 := heap_lt G4
  obtain ⟨g2, gf2⟩ := cellsK G2
  obtain ⟨g4, gf4⟩ := cellsK G4
  clear hC hr1
  have hn4 : w1.heap.size ≠ R := by omega
  go_wp2_with fail
  · skip
    refine wp_region_rdM HK [3, 6] [0, 1, 2, 5, 3, 6] [(4, .cells #[.int .i64 (-1), .int .i64 10, .int .i64 0, .int .i64 5] 3 (0, 0), fun b => .slice (some ⟨b, 0, none⟩) 4 4)] [7, 8] [9, 10] (by kernel_rfl) (by kernel_rfl) ?late ?_
    case late =>
      intro f hf
      obtain rfl := List.mem_singleton.1 hf
      refine ⟨_, rfl, fun a w => ?_⟩
      go_simp
    refine Rob.y (v := ?_) rfl rfl (fun w1 hx hH => ?_) ?_; rotate_left
    · go_simp; first | done | rfl | exact (Bool.not_not _).symm
    simp only [Act.put, List.setIfInBounds_toArray, List.set_cons_succ, List.set_cons_zero]
    refine Rob.y (v := ?_) rfl rfl (fun w1 hx hH => ?_) ?_; rotate_left
    · (obtain ⟨hcx, hfx⟩ := chgcell hx); go_simp; first | done | rfl
    simp only [Act.put, List.setIfInBounds_toArray, List.set_cons_succ, List.set_cons_zero]
    iterate 2
      refine Rob.y (v := ?_) rfl rfl (fun w1 hx hH => ?_) ?_; rotate_left
      · go_simp; first | done | rfl | exact (Bool.not_not _).symm
      simp only [Act.put, List.setIfInBounds_toArray, List.set_cons_succ, List.set_cons_zero]
    refine Rob.pick (m := 6) rfl rfl rfl (by omega) (fun _ _ h hx => h.trans hx) (fun w1 hx HK hH => ?_) (fun lo3 hi3 r3 hrl3 hru3 hlo3 hhi3 => ?_)
    · unfold RunTo; go_simp; exact (pick_k R _ _ HK).mono fun e w' h => h.run
    simp only [Act.put, List.setIfInBounds_toArray, List.set_cons_succ, List.set_cons_zero]
    obtain ⟨i, rfl⟩ : ∃ i : Nat, r3 = i := ⟨r3.toNat, by omega⟩
    have hiI : (i : Int) < 6 := hru3 (by omega)
    refine Rob.pick (m := 4) rfl rfl rfl (by omega) (fun _ _ h hx => h.trans hx) (fun w1 hx HK hH => ?_) (fun lo6 hi6 r6 hrl6 hru6 hlo6 hhi6 => ?_)
    · unfold RunTo; go_simp; exact (pick_k R _ _ HK).mono fun e w' h => h.run
    simp only [Act.put, List.setIfInBounds_toArray, List.set_cons_succ, List.set_cons_zero]
    obtain ⟨k, rfl⟩ : ∃ k : Nat, r6 = k := ⟨r6.toNat, by omega⟩
    have hkI : (k : Int) < 4 := hru6 (by omega)
    obtain ⟨z, hz⟩ := four_int (-1) 10 0 5 (show k < 4 by omega)
    have HZ := Lib.hid hz
    clear hz
    refine fin_oneM (fun w3 lb hx3 HK3 _ hge hlt hob hout => ?_)
    simp only [dstOf, List.getElem?_cons_succ, List.getElem?_cons_zero, Option.bind_some, Act.put, List.setIfInBounds_toArray, List.set_cons_succ, List.set_cons_zero, List.filterMap_cons, List.filterMap_nil]
    refine Mid.y (v := ?_) rfl rfl ?_ ?_; rotate_left
    · go_simp; rfl
    simp only [dstOf, List.getElem?_cons_succ, List.getElem?_cons_zero, Option.bind_some, Act.put, List.setIfInBounds_toArray, List.set_cons_succ, List.set_cons_zero, List.filterMap_cons, List.filterMap_nil]
    have k2 : w3.cell? ⟨lb, k, none⟩ = some (.int .i64 z) := by rw [cell_block hob]; exact HZ.out
    refine Mid.y (v := .int .i64 z) rfl rfl ?_ ?_
    · go_simp
    simp only [dstOf, List.getElem?_cons_succ, List.getElem?_cons_zero, Option.bind_some, Act.put, List.setIfInBounds_toArray, List.set_cons_succ, List.set_cons_zero, List.filterMap_cons, List.filterMap_nil]
    refine Mid.nil ?_
    simp only [dstOf, List.getElem?_cons_succ, List.getElem?_cons_zero, Option.bind_some, Act.put, List.setIfInBounds_toArray, List.set_cons_succ, List.set_cons_zero, List.filterMap_cons, List.filterMap_nil]
    have hdl : i < s.disk.length := by rw [HD6.out]; omega
    have OS3 := OS.chg hx3 HRL.out
    have hdc : w3.cell? ⟨c.D.b, c.D.o + i, none⟩ = some (.int .i64 s.disk[i]) := by have := OS3.disk.cell (List.getElem?_eq_getElem hdl) (j := 0) rfl; simpa using this
    have hdf := OS3.disk.frozen
    have hne : R ≠ w1.heap.size := by omega
    have C3 := C.trans hx3
    have G23 := hx3.keep G2 (by simp; omega)
    have G43 := hx3.keep G4 (by simp; omega)
    obtain ⟨g23, gf23⟩ := cellsK G23
    obtain ⟨g43, gf43⟩ := cellsK G43
    have l4' := heap_lt G43
    have HO3 := Lib.hid (OS3.disk1 hdl z)
    clear OS3
    go_wp2_with fail
    refine bodyPost_ret (v := .agg #[c.F.v 4, c.D.v 6]) (by simp [results, Try.results66, go_sem, g23, gf23, g43, gf43]) rfl ⟨_, rfl, (by ((repeat (first | with_reducible (refine Chg.set2 ?_ ?_); focus (exact Or.inr (by dsimp only; omega)) | with_reducible refine Chg.alloc2 ?_)); with_reducible exact C3)), Rk.less (by ((repeat (first | (with_reducible apply Rk.set2; focus (dsimp only; omega)) | with_reducible apply Rk.alloc2)); with_reducible exact HK3)) (by omega), c, ⟨s.flash, s.disk.set i z⟩, by simp only [SC.fv, SC.dv, List.length_set, HF4.out, HD6.out], ?_, fun b hb => by have := HLB.out b hb; omega, by rw [HF4.out]; omega, fun b hb => by rw [H4.out b hb]; omega, by rw [List.length_set, HD6.out]; omega⟩
    have HO4 := HO3.out
    ((repeat (first | (with_reducible apply OwnS.set2; focus (exact HNB.out _ (by dsimp only; omega))) | with_reducible apply OwnS.alloc2)); with_reducible exact HO4)
  · have HO := Lib.hid OS.dt
    refine bodyPost_ret (v := .agg #[c.F.v 4, c.dt.D.v 5]) (by simp [results, Try.results66, go_sem, g2, gf2, g4, gf4, SC.dt]) rfl ⟨_, rfl, (by ((repeat (first | with_reducible (refine Chg.set2 ?_ ?_); focus (exact Or.inr (by dsimp only; omega)) | with_reducible refine Chg.alloc2 ?_)); with_reducible exact C)), Rk.less (by ((repeat (first | (with_reducible apply Rk.set2; focus (dsimp only; omega)) | with_reducible apply Rk.alloc2)); with_reducible exact HK)) (by omega), c.dt, ⟨s.flash, s.disk.tail⟩, by simp only [SC.fv, SC.dv, SC.dt, List.length_tail, HF4.out, HD6.out], ?_, fun b hb => by have := HLB.out b hb; omega, by rw [HF4.out]; omega, fun b hb => by rw [H4.out b hb]; omega, by rw [List.length_tail, HD6.out]; omega⟩
    have HNB : Hid (∀ b, (b ≤ w.heap.size ∨ w1.heap.size ≤ b) → b ∉ c.dt.L) := HNB
    have HO1 := HO.out
    ((repeat (first | (with_reducible apply OwnS.set2; focus (exact HNB.out _ (by dsimp only; omega))) | with_reducible apply OwnS.alloc2)); with_reducible exact HO1)
  · refine (l71Flash_c R K _ (HK.less (by omega))).mono ?_; rintro e3 w3 ⟨v3, rfl, hC, HK3, c', f', rfl, hF, hnd', hb', hl', hp'⟩
    have C3 := C.trans hC
    have OS3 := OS.chg hC HRL.out
    have HO := Lib.hid (OS3.reflash hF hnd' (fun b hb => by have := hb' b hb; omega))
    have HNB : Hid (∀ b, (b ≤ w.heap.size ∨ b = w1.heap.size) → b ∉ (⟨c'.F, c'.ps, c.D⟩ : SC).L) := Lib.hid fun b hb hm => by
      rcases List.mem_append.1 hm with hm | hm
      · have := hb' b hm; omega
      · have hbD : b = c.D.b := List.mem_singleton.1 hm; omega
    have HLB3 : Hid (∀ b ∈ (⟨c'.F, c'.ps, c.D⟩ : SC).L, w.heap.size ≤ b) := Lib.hid fun b hm => by
      rcases List.mem_append.1 hm with hm | hm
      · have := hb' b hm; omega
      · have hbD : b = c.D.b := List.mem_singleton.1 hm; omega
    have HP3 := Lib.hid hp'
    replace G2 := hC.keep G2 (by simp; omega)
    replace G4 := hC.keep G4 (by simp; omega)
    have l4' := heap_lt G4
    clear g2 gf2 g4 gf4 hF hnd' hb' hC OS3 hp'
    obtain ⟨g2, gf2⟩ := cellsK G2
    obtain ⟨g4, gf4⟩ := cellsK G4
    go_wp2_with fail
    refine bodyPost_ret (v := .agg #[c'.F.v f'.length, c.D.v 6]) (by simp [results, Try.results66, go_sem, g2, gf2, g4, gf4]) rfl ⟨_, rfl, (by ((repeat (first | with_reducible (refine Chg.set2 ?_ ?_); focus (exact Or.inr (by dsimp only; omega)) | with_reducible refine Chg.alloc2 ?_)); with_reducible exact C3)), Rk.less (by ((repeat (first | (with_reducible apply Rk.set2; focus (dsimp only; omega)) | with_reducible apply Rk.alloc2)); with_reducible exact HK3)) (by omega), ⟨c'.F, c'.ps, c.D⟩, ⟨f', s.disk⟩, by simp only [SC.fv, SC.dv, HD6.out], ?_, HLB3.out, hl', HP3.out, by rw [HD6.out]; omega⟩
    have HO1 := HO.out
    ((repeat (first | (with_reducible apply OwnS.set2; focus (exact HNB.out _ (by dsimp only; omega))) | with_reducible apply OwnS.alloc2)); with_reducible exact HO1)
  · go_wp2_with fail
    go_loopw [5] (fun y wr => ∃ (n : Nat) (s' : Store), y = .int .i64 n ∧ n ≤ 4 ∧ Chg [R] w wr ∧ OwnS c wr s' ∧ Hid (s'.flash.length = 4 ∧ s'.disk.length = 6 ∧ ∀ b ∈ s'.flash, b.pages.length = 4) ∧ Rk wr R K ∧
      wr.heap[w.heap.size]? = some (.cells #[.slice none 0 0, .slice none 0 0] 41 (0, 0)) ∧ wr.heap[w1.heap.size]? = some (.cells #[c.F.v 4, c.D.v 6] 41 (0, 0))) (fun y _ => 4 - (intOf y).toNat)
    case atStart => exact ⟨0, s, rfl, by omega, C, OS, Lib.hid ⟨HF4.out, HD6.out, H4.out⟩, HK.less (by omega), G2, G4⟩
    case round =>
      clear C OS G2 G4 HK g2 gf2 g4 gf4 l2 l4
      obtain ⟨n, s', rfl, hn, C, OS, HS, HK, G2, G4⟩ := hrel
      obtain ⟨g2, gf2⟩ := cellsK G2
      obtain ⟨g4, gf4⟩ := cellsK G4
      have l4 := heap_lt G4
      by_cases hlt : n < 4
      · have hns : n < s'.flash.length := by rw [HS.out.1]; exact hlt
        have hnI : (n : Int) < 4 := by omega
        obtain ⟨p, hp⟩ : ∃ p, c.ps[n]? = some p := ⟨_, List.getElem?_eq_getElem (by rw [OS.flash.len]; exact hns)⟩
        obtain ⟨q1, q2⟩ := OS.flash.two hns hp
        have q3 := OS.flash.row.frozen
        have OS2 := Lib.hid (OS.worn hns hp 200)
        clear OS
        go_wp2_with fail
        refine ⟨⟨n + 1, _, by go_num, by omega, (by ((repeat (first | with_reducible (refine Chg.set2 ?_ ?_); focus (exact Or.inr (by dsimp only; omega)) | with_reducible refine Chg.alloc2 ?_)); with_reducible exact C)), OS2.out, Lib.hid ⟨by rw [List.length_set]; exact HS.out.1, HS.out.2.1, fun b hb => ?_⟩, (by ((repeat (first | (with_reducible apply Rk.set2; focus (dsimp only; omega)) | with_reducible apply Rk.alloc2)); with_reducible exact HK)), (by (repeat (first | with_reducible apply hg_here | (with_reducible apply hg_set; focus (dsimp only; omega)) | with_reducible apply hg_alloc)); with_reducible exact G2), (by (repeat (first | with_reducible apply hg_here | (with_reducible apply hg_set; focus (dsimp only; omega)) | with_reducible apply hg_alloc)); with_reducible exact G4)⟩, by simp [intOf]; omega⟩
        rcases List.mem_or_eq_of_mem_set hb with hb | rfl
        · exact HS.out.2.2 b hb
        · exact HS.out.2.2 s'.flash[n] (List.getElem_mem _)
      · obtain rfl : n = 4 := by omega
        go_wp2_with fail
        refine bodyPost_ret (v := .agg #[c.F.v 4, c.D.v 6]) (by simp [results, Try.results66, go_sem, g2, gf2, g4, gf4]) rfl ⟨_, rfl, (by ((repeat (first | with_reducible (refine Chg.set2 ?_ ?_); focus (exact Or.inr (by dsimp only; omega)) | with_reducible refine Chg.alloc2 ?_)); with_reducible exact C)), (by ((repeat (first | (with_reducible apply Rk.set2; focus (dsimp only; omega)) | with_reducible apply Rk.alloc2)); with_reducible exact HK)), c, s', by simp only [SC.fv, SC.dv, HS.out.1, HS.out.2.1], ?_, fun b hb => by have := HLB.out b hb; omega, by rw [HS.out.1]; omega, fun b hb => by rw [HS.out.2.2 b hb]; omega, by rw [HS.out.2.1]; omega⟩
        ((repeat (first | (with_reducible apply OwnS.set2; focus (exact HNB.out _ (by dsimp only; omega))) | with_reducible apply OwnS.alloc2)); with_reducible exact OS)
  · refine bodyPost_ret (v := .agg #[c.F.v 4, c.D.v 6]) (by simp [results, Try.results66, go_sem, g2, gf2, g4, gf4]) rfl ⟨_, rfl, (by ((repeat (first | with_reducible (refine Chg.set2 ?_ ?_); focus (exact Or.inr (by dsimp only; omega)) | with_reducible refine Chg.alloc2 ?_)); with_reducible exact C)), Rk.less (by ((repeat (first | (with_reducible apply Rk.set2; focus (dsimp only; omega)) | with_reducible apply Rk.alloc2)); with_reducible exact HK)) (by omega), c, s, by simp only [SC.fv, SC.dv, HF4.out, HD6.out], ?_, fun b hb => by have := HLB.out b hb; omega, by rw [HF4.out]; omega, fun b hb => by rw [H4.out b hb]; omega, by rw [HD6.out]; omega⟩
    ((repeat (first | (with_reducible apply OwnS.set2; focus (exact HNB.out _ (by dsimp only; omega))) | with_reducible apply OwnS.alloc2)); with_reducible exact OS)
end Go.Bu

set_option linter.unusedVariables false
set_option linter.unusedSimpArgs false
namespace Go.Bu
open Go Go.RowKit Go.Plan Go.Proofs

theorem StoreP.of_ok {s : Store} (h : storeOkB s = true) : StoreP s := ⟨storeOk_flash h, storeOk_disk h⟩

set_option maxRecDepth 20000 in
set_option maxHeartbeats 4000000 in
theorem l71Full_c (R K : Nat) (w : World) (h : Rk w R (K + 36 + 420 + 1 + 1 + 57 * 7)) :
    Calls Try.prog 42 #[.pointer (some ⟨R, 0, none⟩)] w (DrawV R K w (DrawnS w)) := by
  have hR := h.lt
  have HK := h; clear h
  have C := Chg.refl [R] w
  go_enter Try.func42, Try.ntmps42
  go_wp2_with fail
  refine (l71Store_c R (K + 36) _ (by ((repeat (first | (with_reducible apply Rk.set2; focus (dsimp only; omega)) | with_reducible apply Rk.alloc2)); with_reducible exact HK))).mono ?_; rintro e1 w1 ⟨v1, rfl, C1, HK1, c, s0, rfl, OS, hL, hf, hp, hd⟩
  have hsz := C1.size
  have G2 := C1.keep (hg_new (b := w.heap.size) rfl) (by simp; omega)
  simp only [World.alloc, Array.size_push] at hL hsz
  have HLB : Hid (∀ b ∈ c.L, w.heap.size < b ∧ b < w1.heap.size) := Lib.hid fun b hb => ⟨by have := hL b hb; omega, OS.lt b hb⟩
  have HRL : Hid (∀ b ∈ c.L, b ∉ [R]) := Lib.hid fun b hb => by have := HLB.out b hb; simp; omega
  have HNB : Hid (∀ b, (b ≤ w.heap.size ∨ w1.heap.size ≤ b) → b ∉ c.L) := Lib.hid fun b hb hm => by have := HLB.out b hm; omega
  have HB0 : Hid (s0.flash.length ≤ 4 ∧ (∀ b ∈ s0.flash, b.pages.length ≤ 4) ∧ s0.disk.length ≤ 6) := Lib.hid ⟨hf, hp, hd⟩
  replace HK := HK1
  replace C := C.then_sets C1 (by ((repeat (first | with_reducible (refine Chg.set2 ?_ ?_); focus (exact Or.inr (by dsimp only; omega)) | with_reducible refine Chg.alloc2 ?_)); with_reducible exact C))
  clear hL hf hp hd HK1 C1
  have l2 := heap_lt G2
  go_wp2_with fail
  go_loopw [4] (fun y wr => ∃ (n : Nat) (s : Store), y = .int .i64 n ∧ n ≤ 12 ∧ Chg [R] w wr ∧ OwnS c wr s ∧ Hid (s.flash.length = s0.flash.length ∧ s.disk.length = s0.disk.length) ∧ Hid (∀ b ∈ s.flash, b.pages.length ≤ 4) ∧ Rk wr R (K + 3 * (12 - n)) ∧
    wr.heap[w.heap.size]? = some (.cells #[.slice none 0 0, .slice none 0 0] 41 (0, 0)) ∧ wr.heap[w1.heap.size]? = some (.cells #[c.fv s0, c.dv s0] 41 (0, 0))) (fun y _ => 12 - (intOf y).toNat)
  case atStart => exact ⟨0, s0, rfl, by omega, (by ((repeat (first | with_reducible (refine Chg.set2 ?_ ?_); focus (exact Or.inr (by dsimp only; omega)) | with_reducible refine Chg.alloc2 ?_)); with_reducible exact C)), (by ((repeat (first | (with_reducible apply OwnS.set2; focus (exact HNB.out _ (by dsimp only; omega))) | with_reducible apply OwnS.alloc2)); with_reducible exact OS)), Lib.hid ⟨rfl, rfl⟩, Lib.hid HB0.out.2.1, Rk.less (by ((repeat (first | (with_reducible apply Rk.set2; focus (dsimp only; omega)) | with_reducible apply Rk.alloc2)); with_reducible exact HK)) (by omega), (by (repeat (first | with_reducible apply hg_here | (with_reducible apply hg_set; focus (dsimp only; omega)) | with_reducible apply hg_alloc)); with_reducible exact G2), hg_new rfl⟩
  case round =>
    clear C OS G2 HK l2
    obtain ⟨n, s, rfl, hn, C, OS, HE, HP4, HK, G2, G3⟩ := hrel
    obtain ⟨g2, gf2⟩ := cellsK G2
    obtain ⟨g3, gf3⟩ := cellsK G3
    have l3 := heap_lt G3
    obtain ⟨q1, q2⟩ := SC.same (c := c) HE.out
    have hfin : ∀ wr', Chg [R] w wr' → OwnS c wr' s → Rk wr' R K → Hid (DrawV R K w (DrawnS w) (.returned (.agg #[c.fv s0, c.dv s0])) wr') := fun wr' hC hO hK =>
      Lib.hid ⟨_, rfl, hC, hK, c, s, by rw [q1, q2], hO, fun b hb => by have := HLB.out b hb; omega, by rw [HE.out.1]; exact HB0.out.1, HP4.out, by rw [HE.out.2]; exact HB0.out.2.2⟩
    have hso : Calls Try.prog 67 #[.agg #[c.fv s0, c.dv s0]] wr (Ret wr (.bool (storeOkB s))) := by
      rw [← q1, ← q2]
      exact specStoreOk_c _ _ s _ ⟨OS.fl, OS.dk⟩ (by have := HB0.out.1; have := HE.out.1; omega)
    have HSO := Lib.hid hso; clear hso
    obtain ⟨bo, hbo⟩ : ∃ bo, storeOkB s = bo := ⟨_, rfl⟩
    rw [hbo] at HSO
    have HBO := Lib.hid hbo; clear hbo
    by_cases hlt : n < 12
    · have hnI : (n : Int) < 12 := by omega
      have HP : bo = true → StoreP s := fun h => StoreP.of_ok (HBO.out.trans h)
      cases bo
      · go_wp2_with fail
        refine HSO.out.mono ?_; rintro e3 w3 ⟨rfl, hx3⟩
        have C3 := C.trans (Chg.of_ext hx3)
        have OS3 := OS.ext hx3
        have HK3 : Rk w3 R K := (HK.less (by omega)).ext hx3
        replace G2 := keep_ext hx3 G2
        replace G3 := keep_ext hx3 G3
        have l3' := heap_lt G3
        obtain ⟨g23, gf23⟩ := cellsK G2
        obtain ⟨g33, gf33⟩ := cellsK G3
        go_wp2_with fail
        refine bodyPost_ret (v := .agg #[c.fv s0, c.dv s0]) (by simp [results, Try.results42, go_sem, g23, gf23, g33, gf33]) rfl (hfin _ (by ((repeat (first | with_reducible (refine Chg.set2 ?_ ?_); focus (exact Or.inr (by dsimp only; omega)) | with_reducible refine Chg.alloc2 ?_)); with_reducible exact C3)) (by ((repeat (first | (with_reducible apply OwnS.set2; focus (exact HNB.out _ (by dsimp only; omega))) | with_reducible apply OwnS.alloc2)); with_reducible exact OS3)) (by ((repeat (first | (with_reducible apply Rk.set2; focus (dsimp only; omega)) | with_reducible apply Rk.alloc2)); with_reducible exact HK3))).out
      · have HPs := Lib.hid (HP rfl)
        clear HP
        go_wp2_with fail
        refine HSO.out.mono ?_; rintro e3 w3 ⟨rfl, hx3⟩
        replace C := C.trans (Chg.of_ext hx3)
        replace OS := OS.ext hx3
        replace HK := HK.ext hx3
        replace G2 := keep_ext hx3 G2
        replace G3 := keep_ext hx3 G3
        have l3' := heap_lt G3
        clear g2 gf2 g3 gf3 HSO hx3
        obtain ⟨m, hm⟩ : ∃ m, 12 - n = m + 1 := ⟨11 - n, by omega⟩
        rw [hm] at HK
        have HK0 : Rk w3 R (K + 3 * m + 2 + 1) := HK.less (by omega)
        go_wp2_with fail
        refine (pick_k R 8 _ HK0).mono ?_; rintro e4 w4 ⟨r, rfl, hr0, hr1, hC, HK1⟩
        replace C := C.trans hC
        replace OS := OS.chg hC HRL.out
        replace HK := HK1; clear HK1 HK0
        replace G2 := hC.keep G2 (by simp; omega)
        replace G3 := hC.keep G3 (by simp; omega)
        have l3'' := heap_lt G3
        obtain ⟨g2, gf2⟩ := cellsK G2
        obtain ⟨g3, gf3⟩ := cellsK G3
        clear hC hr1
        go_wp2_with fail
        · obtain ⟨oi, ob, hob⟩ : ∃ oi ob, openB s.flash = (oi, ob) := ⟨_, _, rfl⟩
          have hop : Calls Try.prog 68 #[c.fv s0] w4 (Ret w4 (.tuple #[.int .i64 oi, .bool ob])) := by
            have := l3Open_c (c.fv s) s.flash w4 OS.fl (by have := HB0.out.1; have := HE.out.1; omega) (fun b hb => by have := HP4.out b hb; omega)
            rw [hob, q1] at this; exact this
          refine hop.mono ?_; rintro e5 w5 ⟨rfl, hx5⟩
          replace C := C.trans (Chg.of_ext hx5)
          replace OS := OS.ext hx5
          replace HK := HK.ext hx5
          replace G2 := keep_ext hx5 G2
          replace G3 := keep_ext hx5 G3
          have l35 := heap_lt G3
          clear g2 gf2 g3 gf3 hx5 hop hob
          obtain ⟨g2, gf2⟩ := cellsK G2
          obtain ⟨g3, gf3⟩ := cellsK G3
          cases ob
          · go_wp2_with fail
            have HK3 : Rk w5 R K := HK.less (by omega)
            refine bodyPost_ret (v := .agg #[c.fv s0, c.dv s0]) (by simp [results, Try.results42, go_sem, g2, gf2, g3, gf3]) rfl (hfin _ (by ((repeat (first | with_reducible (refine Chg.set2 ?_ ?_); focus (exact Or.inr (by dsimp only; omega)) | with_reducible refine Chg.alloc2 ?_)); with_reducible exact C)) (by ((repeat (first | (with_reducible apply OwnS.set2; focus (exact HNB.out _ (by dsimp only; omega))) | with_reducible apply OwnS.alloc2)); with_reducible exact OS)) (by ((repeat (first | (with_reducible apply Rk.set2; focus (dsimp only; omega)) | with_reducible apply Rk.alloc2)); with_reducible exact HK3))).out
          · have hn3 : w1.heap.size ≠ R := by omega
            have HK8 : Rk w5 R (K + 3 * m + 1 + 1) := HK
            have HOS := Lib.hid OS
            clear OS HK
            go_wp2_with fail
            refine wp_region_rd HK8 [2, 5] [0, 1, 4, 2, 3, 5, 6] [] [7, 8] (by kernel_rfl) (by kernel_rfl) ?late ?_
            case late => exact fun f hf => absurd hf List.not_mem_nil
            refine Rob.y (v := ?_) rfl rfl (fun w1 hx hH => ?_) ?_; rotate_left
            · (obtain ⟨hcx, hfx⟩ := chgcell hx); go_simp; first | done | rfl
            simp only [Act.put, List.setIfInBounds_toArray, List.set_cons_succ, List.set_cons_zero]
            iterate 2
              refine Rob.y (v := ?_) rfl rfl (fun w1 hx hH => ?_) ?_; rotate_left
              · go_simp; first | done | rfl | exact (Bool.not_not _).symm
              simp only [Act.put, List.setIfInBounds_toArray, List.set_cons_succ, List.set_cons_zero]
            refine Rob.pick (m := 6) rfl rfl rfl (by omega) (fun _ _ h hx => h.trans hx) (fun w1 hx HK hH => ?_) (fun lo2 hi2 r2 hrl2 hru2 hlo2 hhi2 => ?_)
            · unfold RunTo; go_simp; exact (pick_k R _ _ HK).mono fun e w' h => h.run
            simp only [Act.put, List.setIfInBounds_toArray, List.set_cons_succ, List.set_cons_zero]
            refine Rob.y (v := ?_) rfl rfl (fun w1 hx hH => ?_) ?_; rotate_left
            · go_simp; first | done | rfl | exact (Bool.not_not _).symm
            simp only [Act.put, List.setIfInBounds_toArray, List.set_cons_succ, List.set_cons_zero]
            refine Rob.pick (m := 10) rfl rfl rfl (by omega) (fun _ _ h hx => h.trans hx) (fun w1 hx HK hH => ?_) (fun lo5 hi5 r5 hrl5 hru5 hlo5 hhi5 => ?_)
            · unfold RunTo; go_simp; exact (pick_k R _ _ HK).mono fun e w' h => h.run
            simp only [Act.put, List.setIfInBounds_toArray, List.set_cons_succ, List.set_cons_zero]
            refine Rob.y (v := ?_) rfl rfl (fun w1 hx hH => ?_) ?_; rotate_left
            · go_simp; first | done | rfl | exact (Bool.not_not _).symm
            simp only [Act.put, List.setIfInBounds_toArray, List.set_cons_succ, List.set_cons_zero]
            refine fin_tailC (fun w6 hx6 HK6 _ => ?_)
            simp only [dstOf, List.getElem?_cons_succ, List.getElem?_cons_zero, Option.bind_some, Act.put, List.setIfInBounds_toArray, List.set_cons_succ, List.set_cons_zero, List.filterMap_cons, List.filterMap_nil]
            have hb2 : r2 < 6 := hru2 (by omega)
            have hb5 : r5 < 10 := hru5 (by omega)
            have C6 := C.trans hx6
            have OS6 := HOS.out.chg hx6 HRL.out
            replace G2 := hx6.keep G2 (by simp; omega)
            replace G3 := hx6.keep G3 (by simp; omega)
            clear hru2 hru5
            go_wp2_with fail
            refine (l21Do_v c s s0 ⟨1, 1 + r2, r5, 9, false⟩ _ OS6 HPs.out HE.out).mono ?_; rintro e7 w7 ⟨rfl, hC7, hO7⟩
            have C7 := C6.then_new hC7 (fun b hb => by have := HLB.out b hb; omega)
            replace G2 := hC7.keep G2 (fun hm => by have := HLB.out _ hm; omega)
            replace G3 := hC7.keep G3 (fun hm => by have := HLB.out _ hm; omega)
            have HK7 := HK6.chg hC7 (fun b hb => by have := HLB.out b hb; omega)
            obtain ⟨hl1, hl2⟩ := playDoS_len s ⟨1, 1 + r2, r5, 9, false⟩
            have HPn := Lib.hid (HPs.out.play ⟨1, 1 + r2, r5, 9, false⟩)
            have l37 := heap_lt G3
            clear g2 gf2 g3 gf3 hC7
            obtain ⟨g3, gf3⟩ := cellsK G3
            generalize playDoS s ⟨1, 1 + r2, r5, 9, false⟩ = s2 at *
            go_wp2_with fail
            refine ⟨⟨n + 1, s2, by go_num, by omega, (by ((repeat (first | with_reducible (refine Chg.set2 ?_ ?_); focus (exact Or.inr (by dsimp only; omega)) | with_reducible refine Chg.alloc2 ?_)); with_reducible exact C7)), (by ((repeat (first | (with_reducible apply OwnS.set2; focus (exact HNB.out _ (by dsimp only; omega))) | with_reducible apply OwnS.alloc2)); with_reducible exact hO7)), Lib.hid ⟨hl1.trans HE.out.1, hl2.trans HE.out.2⟩, Lib.hid fun b hb => by rw [HPn.out.shape.pages b hb]; omega, Rk.less (by ((repeat (first | (with_reducible apply Rk.set2; focus (dsimp only; omega)) | with_reducible apply Rk.alloc2)); with_reducible exact HK7)) (by omega), (by (repeat (first | with_reducible apply hg_here | (with_reducible apply hg_set; focus (dsimp only; omega)) | with_reducible apply hg_alloc)); with_reducible exact G2), hgo (by (repeat (first | with_reducible apply hg_here | (with_reducible apply hg_set; focus (dsimp only; omega)) | with_reducible apply hg_alloc)); with_reducible exact G3) ?_⟩, by simp [intOf]; omega⟩
            simp
        · have HK3 : Rk w4 R K := HK.less (by omega)
          refine bodyPost_ret (v := .agg #[c.fv s0, c.dv s0]) (by simp [results, Try.results42, go_sem, g2, gf2, g3, gf3]) rfl (hfin _ (by ((repeat (first | with_reducible (refine Chg.set2 ?_ ?_); focus (exact Or.inr (by dsimp only; omega)) | with_reducible refine Chg.alloc2 ?_)); with_reducible exact C)) (by ((repeat (first | (with_reducible apply OwnS.set2; focus (exact HNB.out _ (by dsimp only; omega))) | with_reducible apply OwnS.alloc2)); with_reducible exact OS)) (by ((repeat (first | (with_reducible apply Rk.set2; focus (dsimp only; omega)) | with_reducible apply Rk.alloc2)); with_reducible exact HK3))).out
    · obtain rfl : n = 12 := by omega
      clear HSO
      go_wp2_with fail
      have HK3 : Rk wr R K := HK.less (by omega)
      refine bodyPost_ret (v := .agg #[c.fv s0, c.dv s0]) (by simp [results, Try.results42, go_sem, g2, gf2, g3, gf3]) rfl (hfin _ (by ((repeat (first | with_reducible (refine Chg.set2 ?_ ?_); focus (exact Or.inr (by dsimp only; omega)) | with_reducible refine Chg.alloc2 ?_)); with_reducible exact C)) (by ((repeat (first | (with_reducible apply OwnS.set2; focus (exact HNB.out _ (by dsimp only; omega))) | with_reducible apply OwnS.alloc2)); with_reducible exact OS)) (by ((repeat (first | (with_reducible apply Rk.set2; focus (dsimp only; omega)) | with_reducible apply Rk.alloc2)); with_reducible exact HK3))).out
end Go.Bu
