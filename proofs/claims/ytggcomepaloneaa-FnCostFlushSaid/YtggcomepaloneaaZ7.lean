/- The program's PlaySteps, playAll, playBegun and PlayDo. append of rows of steps that may be empty. The program's playAll, playBegun and PlayDo. What steps cost: CostOf of both sides. What steps cost, plain. A channel in one goroutine: the walk of code that sends, closes and receives where nothing waits. The program's cost of events: what it sends over a channel of its own, summed. Readers with enough left: what the laws' draws ask of them; drawn events and records. Drawn plays: events, and the store behind them. The draw of events. The laws' marks in memory of any shape: rows of numbers, arguments, results. Pairs that calls return: read, compared, marked, held. PlayDo of both sides; stores that calls return: read, compared, marked, held. An append hands back the row that was, or a new one. -/
import Derived.Test.YtggcomepaloneaaZ6
import Derived.Test.YtggcomepaloneaaZ3
import Derived.Test.YtggcomepaloneaaZ2
import Derived.Test.YtggcomepaloneaaZ1
import Derived.Conc.LoneCalls
import Derived.Test.YtggcomepaloneaaZ5
set_option maxHeartbeats 2000000
set_option linter.unusedVariables false
set_option linter.unusedSimpArgs false
namespace Go.Bu
open Go Go.RowKit Go.Plan Go.Proofs

theorem StoreV.small {w : World} {f d : Value} {s : Store} (h : storeOkB s = true) : Small s := ⟨by have := (storeOk_shape h).flash; omega, pages_short (storeOk_flash h), by have := storeOk_disk h; omega⟩
theorem playerPut_c (fv dv : Value) (s : Store) (e : Event) (w : World) (h : StoreV w fv dv s) (hok : storeOkB s = true) :
    Calls Try.prog 37 #[.agg #[fv, dv], eventA e] w (RetS w (writeSteps s.flash 1 e.a e.b)) := by
  have hP := fun (w' : World) (hx : Ext w w') => implStepsPut_c fv dv s e.a e.b w' (h.ext hx) (StoreV.small (w := w) (f := fv) (d := dv) hok)
  rw [show putSteps2 s e.a e.b = writeSteps s.flash 1 e.a e.b by unfold putSteps2; rw [if_pos hok]] at hP
  obtain ⟨a1, n1, rfl⟩ := h.1.form
  obtain ⟨a2, n2, rfl⟩ := h.2.form
  obtain ⟨k, ea, eb, ec, et⟩ := e
  dsimp only at hP ⊢
  clear h hok
  go_enter Try.func37, Try.ntmps37
  go_wp2_with fail
  refine (hP _ (ext_alloc (ext_alloc (ext_refl _) _) _)).mono ?_; rintro e2 w2 ⟨v, rfl, hx2, hS, hl⟩
  go_wp2_with fail
  go_ret
  exact ⟨_, rfl, ext_of2 hx2, hS.base size_of2, hl⟩
theorem playerFlush_c (fv dv : Value) (s : Store) (e : Event) (w : World) (h : StoreV w fv dv s) (hok : storeOkB s = true) :
    Calls Try.prog 38 #[.agg #[fv, dv], eventA e] w (RetS w (addrStep (flushSteps s) e.a)) := by
  have hP := fun (w' : World) (hx : Ext w w') => implStepsFlush_c fv dv s e.a w' (h.ext hx) hok
  obtain ⟨a1, n1, rfl⟩ := h.1.form
  obtain ⟨a2, n2, rfl⟩ := h.2.form
  obtain ⟨k, ea, eb, ec, et⟩ := e
  dsimp only at hP ⊢
  clear h hok
  go_enter Try.func38, Try.ntmps38
  go_wp2_with fail
  refine (hP _ (ext_alloc (ext_alloc (ext_refl _) _) _)).mono ?_; rintro e2 w2 ⟨v, rfl, hx2, hS, hl⟩
  go_wp2_with fail
  go_ret
  exact ⟨_, rfl, ext_of2 hx2, hS.base size_of2, hl⟩
theorem playerFill_c (fv dv : Value) (s : Store) (e : Event) (w : World) (h : StoreV w fv dv s) (hok : storeOkB s = true) :
    Calls Try.prog 39 #[.agg #[fv, dv], eventA e] w (RetS w (addrStep (fillSteps s) e.a)) := by
  have hP := fun (w' : World) (hx : Ext w w') => implStepsFill_c fv dv s e.a w' (h.ext hx) hok
  obtain ⟨a1, n1, rfl⟩ := h.1.form
  obtain ⟨a2, n2, rfl⟩ := h.2.form
  obtain ⟨k, ea, eb, ec, et⟩ := e
  dsimp only at hP ⊢
  clear h hok
  go_enter Try.func39, Try.ntmps39
  go_wp2_with fail
  refine (hP _ (ext_alloc (ext_alloc (ext_refl _) _) _)).mono ?_; rintro e2 w2 ⟨v, rfl, hx2, hS, hl⟩
  go_wp2_with fail
  go_ret
  exact ⟨_, rfl, ext_of2 hx2, hS.base size_of2, hl⟩

set_option maxRecDepth 20000 in
set_option maxHeartbeats 4000000 in
theorem implPlaySteps_c (fv dv : Value) (s : Store) (e : Event) (w : World) (h : StoreV w fv dv s) (hok : storeOkB s = true) :
    Calls Try.prog 20 #[.agg #[fv, dv], eventA e] w (RetS w (playSteps s e)) := by
  have hmf : ∀ (fn : Fn) (first cap : Array Value) (w : World), (Instr.makeFunc fn first cap).run Try.prog w = .ok (.func fn first cap) w := fun _ _ _ _ => rfl
  have hP := fun (w' : World) (hx : Ext w w') => playerPut_c fv dv s e w' (h.ext hx) hok
  have hF := fun (w' : World) (hx : Ext w w') => playerFlush_c fv dv s e w' (h.ext hx) hok
  have hL := fun (w' : World) (hx : Ext w w') => playerFill_c fv dv s e w' (h.ext hx) hok
  have HQ : Hid (playSteps s e = if e.kind = 1 then writeSteps s.flash 1 e.a e.b else if e.kind = 2 then addrStep (flushSteps s) e.a else if e.kind = 3 then addrStep (fillSteps s) e.a else []) := Lib.hid rfl
  obtain ⟨a1, n1, rfl⟩ := h.1.form
  obtain ⟨a2, n2, rfl⟩ := h.2.form
  generalize playSteps s e = PS at *
  generalize writeSteps s.flash 1 e.a e.b = W1 at *
  generalize addrStep (flushSteps s) e.a = W2 at *
  generalize addrStep (fillSteps s) e.a = W3 at *
  obtain ⟨k, ea, eb, ec, et⟩ := e
  dsimp only [eventA] at *
  clear h hok
  obtain ⟨W4, hW4⟩ : ∃ W4, ((((w.alloc (.cells #[.slice a1 s.flash.length n1, .slice a2 s.disk.length n2] 41)).alloc (.cells #[.int .i64 k, .int .i64 ea, .int .i64 eb, .int .i64 ec, .bool et] 31)).alloc (.cells #[.slice a1 s.flash.length n1, .slice a2 s.disk.length n2] 66)).alloc (.cells #[.nilFunc, .nilFunc, .nilFunc, .nilFunc] 68)) = W4 := ⟨_, rfl⟩
  have X4 : Ext w W4 := by rw [← hW4]; exact ext_alloc (ext_alloc (ext_alloc (ext_alloc (ext_refl _) _) _) _) _
  have G3 : W4.heap[w.heap.size + 1]? = some (.cells #[.int .i64 k, .int .i64 ea, .int .i64 eb, .int .i64 ec, .bool et] 31 (0, 0)) := by rw [← hW4]; exact hg_alloc (hg_alloc (hg_new (by simp)))
  have G6 : W4.heap[w.heap.size + 1 + 1 + 1]? = some (.cells #[.nilFunc, .nilFunc, .nilFunc, .nilFunc] 68 (0, 0)) := by rw [← hW4]; exact hg_new (by simp)
  have hth : W4.there (w.heap.size + 1 + 1 + 1) 0 4 := fun j hj => by
    rw [Nat.zero_add, cell_block G6, frozen_block G6, Array.getElem?_eq_getElem (by simpa using hj)]; exact ⟨rfl, rfl⟩
  obtain ⟨W5, hW5⟩ : ∃ W5, setAll W4 (w.heap.size + 1 + 1 + 1) 0 [.nilFunc, .func (.func 37) #[.agg #[.slice a1 s.flash.length n1, .slice a2 s.disk.length n2]] #[], .func (.func 38) #[.agg #[.slice a1 s.flash.length n1, .slice a2 s.disk.length n2]] #[], .func (.func 39) #[.agg #[.slice a1 s.flash.length n1, .slice a2 s.disk.length n2]] #[]] = W5 := ⟨_, rfl⟩
  obtain ⟨c6, hc6, hc6s, hc6g⟩ := setAll_block [.nilFunc, .func (.func 37) #[.agg #[.slice a1 s.flash.length n1, .slice a2 s.disk.length n2]] #[], .func (.func 38) #[.agg #[.slice a1 s.flash.length n1, .slice a2 s.disk.length n2]] #[], .func (.func 39) #[.agg #[.slice a1 s.flash.length n1, .slice a2 s.disk.length n2]] #[]] W4 0 _ G6 (by simp)
  have G65 : W5.heap[w.heap.size + 1 + 1 + 1]? = some (.cells c6 68 (0, 0)) := by rw [← hW5]; exact hc6
  have G35 : W5.heap[w.heap.size + 1]? = some (.cells #[.int .i64 k, .int .i64 ea, .int .i64 eb, .int .i64 ec, .bool et] 31 (0, 0)) := by rw [← hW5, setAll_other _ (by omega)]; exact G3
  have X5 : Ext w W5 := by rw [← hW5]; exact ext_trans (ext_refl w) (by
    have hb := setAll_below (w.heap.size + 1 + 1 + 1) w.heap.size (by omega) [.nilFunc, .func (.func 37) #[.agg #[.slice a1 s.flash.length n1, .slice a2 s.disk.length n2]] #[], .func (.func 38) #[.agg #[.slice a1 s.flash.length n1, .slice a2 s.disk.length n2]] #[], .func (.func 39) #[.agg #[.slice a1 s.flash.length n1, .slice a2 s.disk.length n2]] #[]] W4 0
    exact ⟨hb.os.trans X4.os, hb.tape.trans X4.tape, hb.output.trans X4.output, Nat.le_trans X4.size hb.size, fun b hb' => (hb.block b hb').trans (X4.block b hb')⟩)
  have HC6 := Lib.hid hc6g
  have HW5 := Lib.hid hW5
  have HW4 := Lib.hid hW4
  clear hW5 hc6 hc6s hc6g
  clear hW4
  by_cases h1 : k = 1
  · subst h1
    have hq : PS = W1 := by rw [HQ.out, if_pos rfl]
    subst hq
    have C6 : W5.cell? ⟨w.heap.size + 1 + 1 + 1, 1, none⟩ = some (.func (.func 37) #[.agg #[.slice a1 s.flash.length n1, .slice a2 s.disk.length n2]] #[]) := by rw [cell_block G65, HC6.out 1]; rfl
    clear hF hL HQ
    go_enter Try.func20, Try.ntmps20
    go_wp2_with (rw [HW4.out]; refine wpList_store_mid rfl 68 _ _ rfl (w.heap.size + 1 + 1 + 1) 0 #[.nilFunc, .func (.func 37) #[.agg #[.slice a1 s.flash.length n1, .slice a2 s.disk.length n2]] #[], .func (.func 38) #[.agg #[.slice a1 s.flash.length n1, .slice a2 s.disk.length n2]] #[], .func (.func 39) #[.agg #[.slice a1 s.flash.length n1, .slice a2 s.disk.length n2]] #[]] rfl rfl hth (by kernel_rfl) (by simp [Value.oneCell']) ?_; change wpList _ _ _ _ _ (setAll W4 (w.heap.size + 1 + 1 + 1) 0 [.nilFunc, .func (.func 37) #[.agg #[.slice a1 s.flash.length n1, .slice a2 s.disk.length n2]] #[], .func (.func 38) #[.agg #[.slice a1 s.flash.length n1, .slice a2 s.disk.length n2]] #[], .func (.func 39) #[.agg #[.slice a1 s.flash.length n1, .slice a2 s.disk.length n2]] #[]]); rw [HW5.out]; clear G3 G6 hth; obtain ⟨q3, qf3⟩ := cellsK G35)
    refine wp_region_ext [5] [0, 1, 2, 3, 4, 5, 6] [] [] (by kernel_rfl) (by kernel_rfl) ?late ?_
    case late => exact fun f hf => absurd hf List.not_mem_nil
    refine Rob.y (v := ?_) rfl rfl (fun w1 hx hH => ?_) ?_; rotate_left
    · go_simp; first | done | rfl | exact (Bool.not_not _).symm
    simp only [Act.put, List.setIfInBounds_toArray, List.set_cons_succ, List.set_cons_zero]
    iterate 4
      refine Rob.y (v := ?_) rfl rfl (fun w1 hx hH => ?_) ?_; rotate_left
      · (obtain ⟨z3, zf3⟩ := cellsK (keep_ext hx G35); have zc := cell_ext hx C6); go_simp; first | done | rfl
      simp only [Act.put, List.setIfInBounds_toArray, List.set_cons_succ, List.set_cons_zero]
    refine Rob.c ((fun lo hi v w' => SRow lo w' v PS ∧ PS.length ≤ 7)) rfl rfl rfl (fun _ _ => ext_trans) (fun _ _ _ _ _ => fun h hx => ⟨h.1.ext hx, h.2⟩) (fun w1 hx hH => ?_) (fun lo5 hi5 v5 hlo5 hhi5 hv5 => ?_)
    · unfold RunTo; go_simp; exact ((hP _ (ext_trans X5 hx))).mono fun e w' h => h.to
    simp only [Act.put, List.setIfInBounds_toArray, List.set_cons_succ, List.set_cons_zero]
    obtain ⟨_, hv5⟩ := hv5
    obtain ⟨a5, c5, rfl⟩ := hv5.1.form
    refine Rob.y (v := ?_) rfl rfl (fun w1 hx hH => ?_) ?_; rotate_left
    · go_simp; first | done | rfl | exact (Bool.not_not _).symm
    simp only [Act.put, List.setIfInBounds_toArray, List.set_cons_succ, List.set_cons_zero]
    refine fin_nil (fun w6 hx6 _ => ?_)
    obtain ⟨hx6, hS, hl⟩ := hx6
    have s5 := X5.size
    have X6 := ext_trans X5 hx6
    have HS := Lib.hid hS
    clear hS hv5 q3 qf3
    go_wp2_with fail
    go_ret
    exact ⟨_, rfl, X6, HS.out.base (by omega), hl⟩
  by_cases h2 : k = 2
  · subst h2
    have hq : PS = W2 := by rw [HQ.out, if_neg (by decide), if_pos rfl]
    subst hq
    have C6 : W5.cell? ⟨w.heap.size + 1 + 1 + 1, 2, none⟩ = some (.func (.func 38) #[.agg #[.slice a1 s.flash.length n1, .slice a2 s.disk.length n2]] #[]) := by rw [cell_block G65, HC6.out 2]; rfl
    clear hP hL HQ
    go_enter Try.func20, Try.ntmps20
    go_wp2_with (rw [HW4.out]; refine wpList_store_mid rfl 68 _ _ rfl (w.heap.size + 1 + 1 + 1) 0 #[.nilFunc, .func (.func 37) #[.agg #[.slice a1 s.flash.length n1, .slice a2 s.disk.length n2]] #[], .func (.func 38) #[.agg #[.slice a1 s.flash.length n1, .slice a2 s.disk.length n2]] #[], .func (.func 39) #[.agg #[.slice a1 s.flash.length n1, .slice a2 s.disk.length n2]] #[]] rfl rfl hth (by kernel_rfl) (by simp [Value.oneCell']) ?_; change wpList _ _ _ _ _ (setAll W4 (w.heap.size + 1 + 1 + 1) 0 [.nilFunc, .func (.func 37) #[.agg #[.slice a1 s.flash.length n1, .slice a2 s.disk.length n2]] #[], .func (.func 38) #[.agg #[.slice a1 s.flash.length n1, .slice a2 s.disk.length n2]] #[], .func (.func 39) #[.agg #[.slice a1 s.flash.length n1, .slice a2 s.disk.length n2]] #[]]); rw [HW5.out]; clear G3 G6 hth; obtain ⟨q3, qf3⟩ := cellsK G35)
    refine wp_region_ext [5] [0, 1, 2, 3, 4, 5, 6] [] [] (by kernel_rfl) (by kernel_rfl) ?late ?_
    case late => exact fun f hf => absurd hf List.not_mem_nil
    refine Rob.y (v := ?_) rfl rfl (fun w1 hx hH => ?_) ?_; rotate_left
    · go_simp; first | done | rfl | exact (Bool.not_not _).symm
    simp only [Act.put, List.setIfInBounds_toArray, List.set_cons_succ, List.set_cons_zero]
    iterate 4
      refine Rob.y (v := ?_) rfl rfl (fun w1 hx hH => ?_) ?_; rotate_left
      · (obtain ⟨z3, zf3⟩ := cellsK (keep_ext hx G35); have zc := cell_ext hx C6); go_simp; first | done | rfl
      simp only [Act.put, List.setIfInBounds_toArray, List.set_cons_succ, List.set_cons_zero]
    refine Rob.c ((fun lo hi v w' => SRow lo w' v PS ∧ PS.length ≤ 7)) rfl rfl rfl (fun _ _ => ext_trans) (fun _ _ _ _ _ => fun h hx => ⟨h.1.ext hx, h.2⟩) (fun w1 hx hH => ?_) (fun lo5 hi5 v5 hlo5 hhi5 hv5 => ?_)
    · unfold RunTo; go_simp; exact ((hF _ (ext_trans X5 hx))).mono fun e w' h => h.to
    simp only [Act.put, List.setIfInBounds_toArray, List.set_cons_succ, List.set_cons_zero]
    obtain ⟨_, hv5⟩ := hv5
    obtain ⟨a5, c5, rfl⟩ := hv5.1.form
    refine Rob.y (v := ?_) rfl rfl (fun w1 hx hH => ?_) ?_; rotate_left
    · go_simp; first | done | rfl | exact (Bool.not_not _).symm
    simp only [Act.put, List.setIfInBounds_toArray, List.set_cons_succ, List.set_cons_zero]
    refine fin_nil (fun w6 hx6 _ => ?_)
    obtain ⟨hx6, hS, hl⟩ := hx6
    have s5 := X5.size
    have X6 := ext_trans X5 hx6
    have HS := Lib.hid hS
    clear hS hv5 q3 qf3
    go_wp2_with fail
    go_ret
    exact ⟨_, rfl, X6, HS.out.base (by omega), hl⟩
  by_cases h3 : k = 3
  · subst h3
    have hq : PS = W3 := by rw [HQ.out, if_neg (by decide), if_neg (by decide), if_pos rfl]
    subst hq
    have C6 : W5.cell? ⟨w.heap.size + 1 + 1 + 1, 3, none⟩ = some (.func (.func 39) #[.agg #[.slice a1 s.flash.length n1, .slice a2 s.disk.length n2]] #[]) := by rw [cell_block G65, HC6.out 3]; rfl
    clear hP hF HQ
    go_enter Try.func20, Try.ntmps20
    go_wp2_with (rw [HW4.out]; refine wpList_store_mid rfl 68 _ _ rfl (w.heap.size + 1 + 1 + 1) 0 #[.nilFunc, .func (.func 37) #[.agg #[.slice a1 s.flash.length n1, .slice a2 s.disk.length n2]] #[], .func (.func 38) #[.agg #[.slice a1 s.flash.length n1, .slice a2 s.disk.length n2]] #[], .func (.func 39) #[.agg #[.slice a1 s.flash.length n1, .slice a2 s.disk.length n2]] #[]] rfl rfl hth (by kernel_rfl) (by simp [Value.oneCell']) ?_; change wpList _ _ _ _ _ (setAll W4 (w.heap.size + 1 + 1 + 1) 0 [.nilFunc, .func (.func 37) #[.agg #[.slice a1 s.flash.length n1, .slice a2 s.disk.length n2]] #[], .func (.func 38) #[.agg #[.slice a1 s.flash.length n1, .slice a2 s.disk.length n2]] #[], .func (.func 39) #[.agg #[.slice a1 s.flash.length n1, .slice a2 s.disk.length n2]] #[]]); rw [HW5.out]; clear G3 G6 hth; obtain ⟨q3, qf3⟩ := cellsK G35)
    refine wp_region_ext [5] [0, 1, 2, 3, 4, 5, 6] [] [] (by kernel_rfl) (by kernel_rfl) ?late ?_
    case late => exact fun f hf => absurd hf List.not_mem_nil
    refine Rob.y (v := ?_) rfl rfl (fun w1 hx hH => ?_) ?_; rotate_left
    · go_simp; first | done | rfl | exact (Bool.not_not _).symm
    simp only [Act.put, List.setIfInBounds_toArray, List.set_cons_succ, List.set_cons_zero]
    iterate 4
      refine Rob.y (v := ?_) rfl rfl (fun w1 hx hH => ?_) ?_; rotate_left
      · (obtain ⟨z3, zf3⟩ := cellsK (keep_ext hx G35); have zc := cell_ext hx C6); go_simp; first | done | rfl
      simp only [Act.put, List.setIfInBounds_toArray, List.set_cons_succ, List.set_cons_zero]
    refine Rob.c ((fun lo hi v w' => SRow lo w' v PS ∧ PS.length ≤ 7)) rfl rfl rfl (fun _ _ => ext_trans) (fun _ _ _ _ _ => fun h hx => ⟨h.1.ext hx, h.2⟩) (fun w1 hx hH => ?_) (fun lo5 hi5 v5 hlo5 hhi5 hv5 => ?_)
    · unfold RunTo; go_simp; exact ((hL _ (ext_trans X5 hx))).mono fun e w' h => h.to
    simp only [Act.put, List.setIfInBounds_toArray, List.set_cons_succ, List.set_cons_zero]
    obtain ⟨_, hv5⟩ := hv5
    obtain ⟨a5, c5, rfl⟩ := hv5.1.form
    refine Rob.y (v := ?_) rfl rfl (fun w1 hx hH => ?_) ?_; rotate_left
    · go_simp; first | done | rfl | exact (Bool.not_not _).symm
    simp only [Act.put, List.setIfInBounds_toArray, List.set_cons_succ, List.set_cons_zero]
    refine fin_nil (fun w6 hx6 _ => ?_)
    obtain ⟨hx6, hS, hl⟩ := hx6
    have s5 := X5.size
    have X6 := ext_trans X5 hx6
    have HS := Lib.hid hS
    clear hS hv5 q3 qf3
    go_wp2_with fail
    go_ret
    exact ⟨_, rfl, X6, HS.out.base (by omega), hl⟩
  · have hq : PS = [] := by rw [HQ.out, if_neg h1, if_neg h2, if_neg h3]
    subst hq
    clear hP hF hL HQ
    by_cases hk : k < 1
    · go_enter Try.func20, Try.ntmps20
      go_wp2_with (rw [HW4.out]; refine wpList_store_mid rfl 68 _ _ rfl (w.heap.size + 1 + 1 + 1) 0 #[.nilFunc, .func (.func 37) #[.agg #[.slice a1 s.flash.length n1, .slice a2 s.disk.length n2]] #[], .func (.func 38) #[.agg #[.slice a1 s.flash.length n1, .slice a2 s.disk.length n2]] #[], .func (.func 39) #[.agg #[.slice a1 s.flash.length n1, .slice a2 s.disk.length n2]] #[]] rfl rfl hth (by kernel_rfl) (by simp [Value.oneCell']) ?_; change wpList _ _ _ _ _ (setAll W4 (w.heap.size + 1 + 1 + 1) 0 [.nilFunc, .func (.func 37) #[.agg #[.slice a1 s.flash.length n1, .slice a2 s.disk.length n2]] #[], .func (.func 38) #[.agg #[.slice a1 s.flash.length n1, .slice a2 s.disk.length n2]] #[], .func (.func 39) #[.agg #[.slice a1 s.flash.length n1, .slice a2 s.disk.length n2]] #[]]); rw [HW5.out]; clear G3 G6 hth; obtain ⟨q3, qf3⟩ := cellsK G35)
      go_ret
      exact ⟨_, rfl, X5, SRow.nil _ _, by simp⟩
    · have hk3 : 3 < k := by omega
      clear h1 h2 h3
      go_enter Try.func20, Try.ntmps20
      go_wp2_with (rw [HW4.out]; refine wpList_store_mid rfl 68 _ _ rfl (w.heap.size + 1 + 1 + 1) 0 #[.nilFunc, .func (.func 37) #[.agg #[.slice a1 s.flash.length n1, .slice a2 s.disk.length n2]] #[], .func (.func 38) #[.agg #[.slice a1 s.flash.length n1, .slice a2 s.disk.length n2]] #[], .func (.func 39) #[.agg #[.slice a1 s.flash.length n1, .slice a2 s.disk.length n2]] #[]] rfl rfl hth (by kernel_rfl) (by simp [Value.oneCell']) ?_; change wpList _ _ _ _ _ (setAll W4 (w.heap.size + 1 + 1 + 1) 0 [.nilFunc, .func (.func 37) #[.agg #[.slice a1 s.flash.length n1, .slice a2 s.disk.length n2]] #[], .func (.func 38) #[.agg #[.slice a1 s.flash.length n1, .slice a2 s.disk.length n2]] #[], .func (.func 39) #[.agg #[.slice a1 s.flash.length n1, .slice a2 s.disk.length n2]] #[]]); rw [HW5.out]; clear G3 G6 hth; obtain ⟨q3, qf3⟩ := cellsK G35)
      go_ret
      exact ⟨_, rfl, X5, SRow.nil _ _, by simp⟩
end Go.Bu

set_option linter.unusedVariables false
set_option linter.unusedSimpArgs false
namespace Go.Bu
open Go Go.RowKit Go.Plan Go.Proofs

theorem run_append_zero {P : Program} (w : World) (t ty e : TypeId) (i : TypeInfo) (ht : P.underlying t = some (.slice e)) (hi : P.info? e = some i) (b : Option Addr) (n cap : Nat) (hnc : n ≤ cap) (x : Option Addr) (c : Nat) :
    (Builtin.append_ #[t, t] ty #[.slice b n cap, .slice x 0 c]).run P w = .ok (.slice b n cap) w := by
  cases x with
  | none => cases b <;> simp [Builtin.append_, run_underlying ht, sizeOf, typeInfo, hi, Builtin.lenOf, Builtin.firstCells, hnc, storeCells]
  | some a =>
    have hfc := run_firstCells_some (P := P) w i.size 0 a 0 c [] (by simp) (by simp)
    cases b <;> simp [Builtin.append_, run_underlying ht, sizeOf, typeInfo, hi, Builtin.lenOf, hfc, hnc, storeCells]

/-- append of a row of steps, empty or not, to another one -/
theorem wpList_appStepsA {w : World} {ops : Array Oper} {rest : List Oper} {o : Oper} {a : Act} {Q : Exit → Act → World → Prop} (hgd : o.guard = none) (s x : Operand)
    (ho : o.op = .call { callee := .builtin .append, args := #[s, x], argTypes := #[45, 45] }) {base base2 : Nat} {v u : Value} {xs ys : List Step} (hs : a.eval s = v) (hown : SRow base w v xs)
    (hx : a.eval x = u) (hu : SRow base2 w u ys) (hlen : xs.length + ys.length ≤ 1000000) (hbase : base ≤ w.heap.size)
    (h : ∀ v' w', SRow base w' v' (xs ++ ys) → w.grownBy w' v.ownBlock → wpList Try.prog ops Q rest (a.put o.dst v') w') : wpList Try.prog ops Q (o :: rest) a w := by
  by_cases hne : ys = []
  · subst hne
    obtain ⟨ua, uc, rfl⟩ := hu.form
    have hinfo : ∃ i, Try.prog.info? 64 = some i := by
      have : ((Try.prog.info? 64).isSome) = true := by kernel_rfl
      exact Option.isSome_iff_exists.1 this
    obtain ⟨i, hi⟩ := hinfo
    have hfin := h v w (by rw [List.append_nil]; exact hown) ⟨rfl, rfl, rfl, Nat.le_refl _, fun _ _ _ => rfl⟩
    have hv : ∃ b n cap, v = .slice b n cap ∧ n ≤ cap := by
      rcases hown.2 with ⟨rfl, h0⟩ | ⟨g, cap, cur, rfl, _, _, hc, _⟩
      · exact ⟨none, 0, 0, rfl, Nat.le_refl _⟩
      · exact ⟨_, _, cap, rfl, hc⟩
    obtain ⟨b, n, cap, rfl, hnc⟩ := hv
    refine wpList_plain hgd fun K hK' => ?_
    unfold Oper.wp
    simp [execOp, ho, resolve, invoke, builtin, hs, hx, run_append_zero w 45 o.type 64 i Try.underlying45 hi b n cap hnc ua uc, Result.andThen]
    exact hK' _ _ hfin
  · exact wpList_appSteps hgd s x ho hs hown hx hu hne hlen hbase h

/-- a row of steps made since base, or one that has no room -/
def OutRow (base : Nat) (w : World) (v : Value) (xs : List Step) : Prop := (∃ b, v = .slice (some b) 0 0 ∧ xs = []) ∨ SRow base w v xs
theorem OutRow.form {base : Nat} {w : World} {v : Value} {xs : List Step} (h : OutRow base w v xs) : ∃ a cap, v = .slice a xs.length cap := by
  rcases h with ⟨b, rfl, rfl⟩ | h
  · exact ⟨_, _, rfl⟩
  · exact h.form
theorem OutRow.steps {base : Nat} {w : World} {v : Value} {xs : List Step} (h : OutRow base w v xs) : Steps' (Old w) w v xs := by
  rcases h with ⟨b, rfl, rfl⟩ | h
  · exact ⟨_, _, rfl, fun i x hx => by simp at hx⟩
  · exact h.steps

theorem wpList_appOut {w : World} {ops : Array Oper} {rest : List Oper} {o : Oper} {a : Act} {Q : Exit → Act → World → Prop} (hgd : o.guard = none) (s x : Operand)
    (ho : o.op = .call { callee := .builtin .append, args := #[s, x], argTypes := #[45, 45] }) {base base2 : Nat} {v u : Value} {xs ys : List Step} (hs : a.eval s = v) (hown : OutRow base w v xs)
    (hx : a.eval x = u) (hu : SRow base2 w u ys) (hlen : xs.length + ys.length ≤ 1000000) (hbase : base ≤ w.heap.size)
    (h : ∀ v' w' ob, OutRow base w' v' (xs ++ ys) → w.grownBy w' ob → (∀ g, ob = some g → base ≤ g ∧ g < w.heap.size) → wpList Try.prog ops Q rest (a.put o.dst v') w') : wpList Try.prog ops Q (o :: rest) a w := by
  rcases hown with ⟨b, rfl, rfl⟩ | hown
  · have hinfo : ((Try.prog.info? 64).bind (fun i => i.zero.map fun z => (z.cells.size, i.size, i.bytes))) = some (8, 8, 64) := by kernel_rfl
    obtain ⟨i, hi, hi2⟩ := Option.bind_eq_some_iff.1 hinfo
    obtain ⟨z, hz, he⟩ := Option.map_eq_some_iff.1 hi2
    obtain ⟨hzs, he⟩ := Prod.mk.inj he
    obtain ⟨hsize, hby⟩ := Prod.mk.inj he
    by_cases hne : ys = []
    · subst hne
      obtain ⟨ua, uc, rfl⟩ := hu.form
      have hfin := h _ w none (.inl ⟨b, rfl, rfl⟩) ⟨rfl, rfl, rfl, Nat.le_refl _, fun _ _ _ => rfl⟩ (fun g hg => by cases hg)
      refine wpList_plain hgd fun K hK' => ?_
      unfold Oper.wp
      simp [execOp, ho, resolve, invoke, builtin, hs, hx, run_append_zero w 45 o.type 64 i Try.underlying45 hi (some b) 0 0 (Nat.le_refl _) ua uc, Result.andThen]
      exact hK' _ _ hfin
    · have hu2 := hu
      rcases hu.2 with ⟨rfl, h0⟩ | ⟨g, cap, cur, rfl, _, hh, _, _, _, ht⟩
      · exact absurd (List.length_eq_zero_iff.1 h0) hne
      have h1c : ∀ c ∈ ys.flatMap stepC, c.oneCell' = true := fun c hc => by
        obtain ⟨y, _, hy⟩ := List.mem_flatMap.1 hc
        simp at hy
        rcases hy with rfl | rfl | rfl | rfl | rfl | rfl | rfl | rfl <;> rfl
      have hpos : 0 < ys.length := List.length_pos_iff.2 hne
      simp only [List.length_nil, Nat.zero_add] at hlen
      obtain ⟨v', w', hr, h2, h3⟩ := run_append_arg_grows (P := Try.prog) w 45 o.type 64 i z 8 64 Try.underlying45 hi hz hsize hby hzs (by omega) b 0 0 [] rfl (by simp) ⟨g, 0, none⟩ ys.length cap (ys.flatMap stepC) hu2.1 (hu2.cells rfl) (by omega) (by simp [maxLen]; omega) (by omega)
      have hfin := h v' w' none (.inr (by
        rw [List.nil_append] at h2 ⊢
        rw [Nat.zero_add] at h2
        exact SRow.base h2 hbase)) h3 (fun g hg => by cases hg)
      refine wpList_plain hgd fun K hK' => ?_
      unfold Oper.wp
      simp [execOp, ho, resolve, invoke, builtin, hs, hx, hr, Result.andThen]
      exact hK' _ _ hfin
  · exact wpList_appStepsA hgd s x ho hs hown hx hu hlen hbase fun v' w' h1 h2 => h v' w' _ (.inr h1) h2 fun g hg => hown.lt g hg
end Go.Bu

set_option linter.unusedVariables false
set_option linter.unusedSimpArgs false
namespace Go.Bu
open Go Go.RowKit Go.Plan Go.Proofs

/-- a store of which each address was flushed, and by which steps -/
def allPairStep (a : Store × List Step) (n : Nat) : Store × List Step := (allStep a.1 n, a.2 ++ flushSteps a.1 n)
def allPair (s : Store) : Store × List Step := addrs6.foldl allPairStep (s, [])
theorem allPair_fst (s : Store) : (allPair s).1 = playAllS s := by
  have : ∀ (xs : List Nat) (a : Store × List Step), (xs.foldl allPairStep a).1 = xs.foldl allStep a.1 := by
    intro xs
    induction xs with
    | nil => exact fun _ => rfl
    | cons x xs ih => intro a; rw [List.foldl_cons, List.foldl_cons, ih]; rfl
  exact this addrs6 (s, [])
def PlayAllΦ (w : World) (s : Store) (e : Ending) (w' : World) : Prop := ∃ f d L v, e = .returned (.tuple #[.agg #[f, d], v]) ∧ Ext w w' ∧ OwnStore w' f d (playAllS s) L ∧ L.Nodup ∧ (∀ b ∈ L, w.heap.size ≤ b) ∧ SRow w.heap.size w' v (allPair s).2 ∧ (allPair s).2.length ≤ 42

set_option maxRecDepth 20000 in
set_option maxHeartbeats 4000000 in
theorem playAll_c (g e : Value) (s : Store) (w : World) (hB : StoreV w g e s) (hok : storeOkB s = true) :
    Calls Try.prog 55 #[.agg #[g, e]] w (PlayAllΦ w s) := by
  have hsh := storeOk_shape hok
  have hSC := fun (w' : World) (hx : Ext w w') => storeCopy_c g e s w' (hB.ext hx) hsh.flash hsh.pages hsh.disk
  have HOK := Lib.hid hok
  obtain ⟨a3, n3, rfl⟩ := hB.1.form
  obtain ⟨a4, n4, rfl⟩ := hB.2.form
  have HR0 : Hid ((addrs6.drop 0).foldl allPairStep (s, []) = allPair s) := Lib.hid rfl
  have HF := Lib.hid (allPair_fst s)
  clear hB hsh hok
  go_enter Try.func55, Try.ntmps55
  go_wp2_with fail
  refine (hSC _ (ext_alloc (ext_alloc (ext_refl _) _) _)).mono ?_; rintro e1 w1 ⟨f1, d1, L1, rfl, hx1, hO1, hn1, hb1⟩
  have X1 := ext_trans (ext_alloc (ext_alloc (ext_refl w) _) _) hx1
  have G2 := keep_ext hx1 (hg_new (b := w.heap.size + 1) (by simp))
  have s1 := hx1.size
  simp at s1
  have hb1' : Hid (∀ b ∈ L1, w.heap.size + 2 ≤ b) := Lib.hid fun b hb => by have := hb1 b hb; simp at this; omega
  obtain ⟨q1, m1, c1, q2, m2, c2, rfl, rfl⟩ := hO1.forms
  have hlL := hO1.lt
  have XA : Ext w1 (w1.alloc (.cells #[.slice q1 m1 c1, .slice q2 m2 c2] 41)) := ext_alloc (ext_refl _) _
  have GP : (w1.alloc (.cells #[.slice q1 m1 c1, .slice q2 m2 c2] 41)).heap[w1.heap.size]? = some (.cells #[.slice q1 m1 c1, .slice q2 m2 c2] 41 (0, 0)) := hg_new rfl
  have X2 := ext_trans X1 XA
  replace G2 := keep_ext XA G2
  have HO := Lib.hid (hO1.ext XA)
  have HN := Lib.hid hn1
  have HLL : Hid (∀ b ∈ L1, w.heap.size + 2 ≤ b) := hb1'
  clear hSC hx1 hb1 XA hO1 hn1 hlL hb1' X1
  obtain ⟨P, hP⟩ : ∃ P, w1.heap.size = P := ⟨_, rfl⟩
  have hPw : w.heap.size + 2 ≤ P := by omega
  go_wp2_with fail
  rw [hP] at GP
  clear hP s1
  go_loopw [5, 6] (fun v y wr => ∃ (k : Nat) (t : Store) (acc : List Step) (f d : Value) (L : List Nat), k ≤ 6 ∧ y = .int .i64 ((k : Int) + 1) ∧ Ext w wr ∧ wr.heap[P]? = some (.cells #[f, d] 41 (0, 0)) ∧ Hid (OwnStore wr f d t L) ∧ Hid L.Nodup ∧ Hid (∀ b ∈ L, w.heap.size + 2 ≤ b) ∧ Hid (storeOkB t = true) ∧
    Hid (SRow w.heap.size wr v acc) ∧ acc.length ≤ 7 * k ∧ Hid ((addrs6.drop k).foldl allPairStep (t, acc) = allPair s) ∧ wr.heap[w.heap.size + 1]? = some (.cells #[.slice none 0 0, .slice none 0 0] 41 (0, 0))) (fun _ y _ => 7 - (intOf y).toNat)
  case atStart => exact ⟨0, s, [], _, _, L1, by omega, rfl, X2, GP, HO, HN, HLL, HOK, Lib.hid (SRow.nil _ _), by simp, HR0, G2⟩
  case round =>
    clear HO HN HOK HR0 G2 GP X2 HLL
    obtain ⟨k, t, acc, f, d, L, hk, rfl, hX, GP, HO, HN, HB, HST, HS, hal, HR, G2⟩ := hrel
    obtain ⟨b1, k1, j1, b2, k2, j2, rfl, rfl⟩ := HO.out.forms
    obtain ⟨va, vc, rfl⟩ := HS.out.form
    obtain ⟨gp, gpf⟩ := cellsK GP
    have lP := heap_lt GP
    by_cases hlt : k < 6
    · rw [foldl_drop _ _ _ _ (show k < addrs6.length from hlt), addrs6_get] at HR
      have hfl := fun (w' : World) (hx : Ext wr w') => implStepsFlush_c _ _ t ((k : Int) + 1) w' (HO.out.ext hx).v HST.out
      rw [addrStep_at (flushSteps t) k hlt] at hfl
      have hto := fun (sv : Value) (w' : World) (hx : Ext wr w') (hS : Steps' (Old w') w' sv (flushSteps t k)) (hl : (flushSteps t k).length ≤ 7) => implStepsTo_c _ _ t sv _ ((flushSteps t k).length : Nat) false w' (HO.out.ext hx).v HST.out hS (flush_V (flashOk_iff.1 (storeOk_flash HST.out)) hlt) (by omega) ⟨by omega, by omega⟩
      rw [toSteps_all] at hto
      have HST2 := Lib.hid (storeOk_flush HST.out hlt)
      rw [show allPairStep (t, acc) k = (allStep t k, acc ++ flushSteps t k) from rfl] at HR
      rw [show allStep t k = doAll t (flushSteps t k) from rfl] at HR HST2
      generalize doAll t (flushSteps t k) = t2 at *
      generalize flushSteps t k = fs at *
      have hk1 : (k : Int) + 1 ≤ 6 := by omega
      go_wp2_with fail
      refine (hfl _ (ext_refl _)).mono ?_; rintro e4 w4 ⟨sv, rfl, hx4, hS, hwl⟩
      obtain ⟨sa, sc, rfl⟩ := hS.form
      replace GP := keep_ext hx4 GP
      have HSS := Lib.hid hS
      clear gp gpf hfl hS
      obtain ⟨gp, gpf⟩ := cellsK GP
      have lP := heap_lt GP
      go_wp2_with fail
      refine (hto _ _ hx4 HSS.out.steps hwl).mono ?_; rintro e5 w5 ⟨f5, d5, M, rfl, hx5, hOM, hnM, hbM⟩
      have X5 := ext_trans hx4 hx5
      obtain ⟨q3, m3, c3, q4, m4, c4, rfl, rfl⟩ := hOM.forms
      replace GP := keep_ext hx5 GP
      have G2' := keep_ext X5 G2
      have lP5 := heap_lt GP
      have hX5 := ext_trans hX X5
      have HOM := Lib.hid hOM
      have HNM := Lib.hid hnM
      have s4 := hx4.size
      have sX := hX.size
      have s5 := hX5.size
      have HBM : Hid (∀ b ∈ M, w4.heap.size ≤ b) := Lib.hid hbM
      have hneP : ¬ (w5.heap.size = P) := by omega
      have hvl : ∀ gq, (Value.slice va acc.length vc).ownBlock = some gq → gq < wr.heap.size := fun gq hq => (HS.out.lt gq hq).2
      have HVL := Lib.hid hvl
      have HS5 := Lib.hid (HS.out.ext X5)
      have HSF := Lib.hid (HSS.out.ext hx5)
      have hC : Chg [P] w5 (((w5.setCell ⟨P, 0, none⟩ (.slice q3 m3 c3)).setCell ⟨P, 1, none⟩ (.slice q4 m4 c4)).alloc (.cells #[.slice q3 m3 c3, .slice q4 m4 c4] 41)) :=
        (((Chg.refl _ _).set (p := ⟨P, 0, none⟩) (.inl (by simp)) _).set (p := ⟨P, 1, none⟩) (.inl (by simp)) _).alloc' _
      have hne1 := own_ne HS5.out GP (by decide)
      have hne2 := own_ne HSF.out GP (by decide)
      have XW : Ext ((w5.setCell ⟨P, 0, none⟩ (.slice q3 m3 c3)).setCell ⟨P, 1, none⟩ (.slice q4 m4 c4)) (((w5.setCell ⟨P, 0, none⟩ (.slice q3 m3 c3)).setCell ⟨P, 1, none⟩ (.slice q4 m4 c4)).alloc (.cells #[.slice q3 m3 c3, .slice q4 m4 c4] 41)) := ext_alloc (ext_refl _) _
      have HS6 := Lib.hid (SRow.ext (ownsRow_setCell_other (ownsRow_setCell_other HS5.out hne1 (.slice q3 m3 c3)) hne1 (.slice q4 m4 c4)) XW)
      have HSF6 := Lib.hid (SRow.ext (ownsRow_setCell_other (ownsRow_setCell_other HSF.out hne2 (.slice q3 m3 c3)) hne2 (.slice q4 m4 c4)) XW)
      have GP6 : (((w5.setCell ⟨P, 0, none⟩ (.slice q3 m3 c3)).setCell ⟨P, 1, none⟩ (.slice q4 m4 c4)).alloc (.cells #[.slice q3 m3 c3, .slice q4 m4 c4] 41)).heap[P]? = some (.cells #[.slice q3 m3 c3, .slice q4 m4 c4] 41 (0, 0)) := hg_alloc (hgo (hg_here (hg_here GP)) rfl)
      have HOM6 := Lib.hid (HOM.out.chg hC fun b hb hm => by have := HBM.out b hb; simp at hm; omega)
      have G26 := hC.keep G2' (by simp; omega)
      have X6 := hC.ext hX5 (by simp; omega)
      have sC := hC.size
      have HX6 := Lib.hid X6
      have HG26 := Lib.hid G26
      have HGP6 := Lib.hid GP6
      clear gp gpf hto HSS hx5 hOM hnM hbM HS HO hvl hx4 X5 hne1 hne2 XW HS5 HSF HOM hC GP6 G26 X6 G2'
      obtain ⟨gp, gpf⟩ := cellsK GP
      go_wp2_with (refine wpList_appStepsA rfl _ _ rfl rfl HS6.out rfl HSF6.out (by omega) (by omega) (fun v' w' hS' hg => ?_))
      have hOM7 : OwnStore w' (.slice q3 m3 c3) (.slice q4 m4 c4) t2 M := HOM6.out.keep fun b hb => hg.block b (HOM6.out.lt b hb) fun e => by
        have := HVL.out b e.symm
        have := HBM.out b hb
        omega
      refine ⟨⟨k + 1, t2, acc ++ fs, _, _, M, by omega, by go_num, ext_grown HX6.out HS6.out hg, keep_grown HGP6.out (by decide) HS6.out hg, Lib.hid hOM7, HNM, Lib.hid fun b hb => by have := HBM.out b hb; omega, HST2, Lib.hid hS', by simp; omega, HR, keep_grown HG26.out (by decide) HS6.out hg⟩, by simp [intOf]; omega⟩
    · obtain rfl : k = 6 := by omega
      have hr := HR.out
      rw [List.drop_eq_nil_of_le (by simp [addrs6])] at hr
      have hr : (t, acc) = allPair s := hr
      obtain ⟨g2, gf2⟩ := cellsK G2
      have l2 := heap_lt G2
      have HT : Hid (t = playAllS s ∧ acc = (allPair s).2) := Lib.hid ⟨by rw [← HF.out, ← hr], by rw [← hr]⟩
      go_wp2_with fail
      refine bodyPost_ret (v := .tuple #[.agg #[.slice b1 k1 j1, .slice b2 k2 j2], .slice va acc.length vc]) (by simp [results, Try.results55, go_sem, g2, gf2]) rfl ⟨_, _, L, _, rfl, ?_, ?_, HN.out, fun b hb => by have := HB.out b hb; omega, ?_, ?_⟩
      · ((repeat (first | with_reducible (refine ext_set2 ?_ ?_); focus (first | exact Nat.le_refl _ | (dsimp only; omega) | (simp; omega)) | with_reducible refine ext_alloc2 ?_)); with_reducible exact hX)
      · rw [← HT.out.1]
        refine HO.out.keep fun b hb => ?_
        have := HB.out b hb
        iterate 2 rw [setCell_other (by omega)]
      · have hne := own_ne HS.out G2 (by decide)
        rw [← HT.out.2]
        exact ownsRow_setCell_other (ownsRow_setCell_other HS.out hne _) hne _
      · rw [← HT.out.2]; omega

set_option maxRecDepth 20000 in
set_option maxHeartbeats 4000000 in
theorem implStepsTo_neg (fv dv : Value) (s : Store) (sv : Value) (xs : List Step) (cut : Int) (torn : Bool) (w : World) (h : StoreV w fv dv s) (hx : Steps' (Old w) w sv xs) (hcut : cut < 0) :
    Calls Try.prog 56 #[.agg #[fv, dv], sv, .int .i64 cut, .bool torn] w (Ret w (.tuple #[.agg #[.slice none 0 0, .slice none 0 0], .bool false])) := by
  obtain ⟨a1, n1, rfl⟩ := h.1.form
  obtain ⟨a2, n2, rfl⟩ := h.2.form
  obtain ⟨sa, sc, rfl⟩ := hx.form
  clear h hx
  have G8 := hg_new (w := w.alloc (.cells #[.slice a1 s.flash.length n1, .slice a2 s.disk.length n2] 41)) (b := w.heap.size + 1) (x := .cells #[.slice none 0 0, .slice none 0 0] 41) (by simp)
  obtain ⟨g8, gf8⟩ := cellsK G8
  go_enter Try.func56, Try.ntmps56
  go_wp2_with fail
  refine bodyPost_ret (v := .tuple #[.agg #[.slice none 0 0, .slice none 0 0], .bool false]) (by simp [results, Try.results56, go_sem, g8, gf8]) rfl ⟨rfl, ?_⟩
  exact ext_alloc (ext_alloc (ext_refl _) _) _

/-- how many steps are begun -/
def begunN (n : Nat) (c : Int) (torn : Bool) : Int := if torn = true ∧ min c n < n then min c n + 1 else min c n
def begunS (s : Store) (e : Event) : List Step := if e.kind = 4 then (allPair s).2 else if e.c < 0 then [] else (playSteps s e).take (begunN (playSteps s e).length e.c e.torn).toNat
def BegunΦ (w : World) (s : Store) (e : Event) (en : Ending) (w' : World) : Prop := ∃ f d L v, en = .returned (.tuple #[.agg #[f, d], v]) ∧ Ext w w' ∧ OwnStore w' f d (playDoS s e) L ∧ L.Nodup ∧ (∀ b ∈ L, w.heap.size ≤ b) ∧ Steps' (Old w') w' v (begunS s e) ∧ (begunS s e).length ≤ 42
theorem srow_chg {L : List Nat} {w w' : World} {base : Nat} {e : TypeId} {size n : Nat} {v : Value} {xs : List Value} (h : w.ownsRow base e size v n xs) (hx : Chg L w w') (hL : ∀ b ∈ L, b < base) : w'.ownsRow base e size v n xs := by
  obtain ⟨h1, h2⟩ := h
  refine ⟨h1, h2.imp id fun ⟨g, cap, cur, hv, hb, hh, hr⟩ => ⟨g, cap, cur, hv, hb, hx.keep hh fun hm => by have := hL g hm; omega, hr⟩⟩
theorem Sl.take' {w : World} {a : Option Addr} {len cap : Nat} {xs : List Step} (h : Steps' (Old w) w (.slice a len cap) xs) (n : Nat) (hn : n ≤ xs.length) : Steps' (Old w) w (.slice a n cap) (xs.take n) := by
  obtain ⟨a', c', he, hc⟩ := h
  injection he with h1 h2 h3
  subst h1; subst h3
  refine ⟨a, cap, by rw [List.length_take, Nat.min_eq_left hn], fun i x hi => hc i x ?_⟩
  rw [List.getElem?_take] at hi
  split at hi
  · exact hi
  · cases hi

set_option maxRecDepth 20000 in
set_option maxHeartbeats 4000000 in
theorem playBegun_c (g e : Value) (s : Store) (ev : Event) (w : World) (hB : StoreV w g e s) (hok : storeOkB s = true) (hc : -9223372036854775808 ≤ ev.c ∧ ev.c ≤ 9223372036854775807) :
    Calls Try.prog 32 #[.agg #[g, e], eventA ev] w (BegunΦ w s ev) := by
  have hsh := storeOk_shape hok
  have hSC := fun (w' : World) (hx : Ext w w') => storeCopy_c g e s w' (hB.ext hx) hsh.flash hsh.pages hsh.disk
  have hPA := fun (w' : World) (hx : Ext w w') => playAll_c g e s w' (hB.ext hx) hok
  have hPS := fun (w' : World) (hx : Ext w w') => implPlaySteps_c g e s ev w' (hB.ext hx) hok
  have hTO := fun (sv : Value) (w' : World) (hx : Ext w w') (hS : Steps' (Old w') w' sv (playSteps s ev)) (hl : (playSteps s ev).length ≤ 7) (h0 : 0 ≤ ev.c) => implStepsTo_c g e s sv _ ev.c ev.torn w' (hB.ext hx) hok hS (play_V (flashOk_iff.1 (storeOk_flash hok)) ev) (by omega) ⟨h0, hc.2⟩
  have hTN := fun (sv : Value) (w' : World) (hx : Ext w w') (hS : Steps' (Old w') w' sv (playSteps s ev)) (h0 : ev.c < 0) => implStepsTo_neg g e s sv _ ev.c ev.torn w' (hB.ext hx) hS h0
  have HD : Hid (playDoS s ev = if ev.kind = 4 then playAllS s else if ev.c < 0 then s else toSteps s (playSteps s ev) ev.c ev.torn) := Lib.hid rfl
  have HBG : Hid (begunS s ev = if ev.kind = 4 then (allPair s).2 else if ev.c < 0 then [] else (playSteps s ev).take (begunN (playSteps s ev).length ev.c ev.torn).toNat) := Lib.hid rfl
  unfold BegunΦ
  obtain ⟨a3, n3, rfl⟩ := hB.1.form
  obtain ⟨a4, n4, rfl⟩ := hB.2.form
  generalize playDoS s ev = DO at *
  generalize begunS s ev = BG at *
  generalize playSteps s ev = PS at *
  obtain ⟨k, ea, eb, ec, et⟩ := ev
  dsimp only [eventA] at *
  clear hB hok hsh
  by_cases h4 : k = 4
  · subst h4
    have hd : DO = playAllS s := by rw [HD.out, if_pos rfl]
    have hb : BG = (allPair s).2 := by rw [HBG.out, if_pos rfl]
    subst hd; subst hb
    clear hSC hPS hTO hTN HD HBG
    go_enter Try.func32, Try.ntmps32
    go_wp2_with fail
    refine (hPA _ (ext_alloc (ext_alloc (ext_alloc (ext_refl _) _) _) _)).mono ?_; rintro e1 w1 ⟨f, d, L, v, rfl, hx1, hO, hn, hb, hS, hl⟩
    have X1 := ext_trans (ext_alloc (ext_alloc (ext_alloc (ext_refl w) _) _) _) hx1
    have G4 := keep_ext hx1 (hg_new (b := w.heap.size + 1 + 1) (by simp))
    obtain ⟨b1, k1, j1, b2, k2, j2, rfl, rfl⟩ := hO.forms
    obtain ⟨va, vc, rfl⟩ := hS.form
    have HO := Lib.hid hO
    have HN := Lib.hid hn
    have HB : Hid (∀ b ∈ L, w.heap.size + 3 ≤ b) := Lib.hid fun b hm => by have := hb b hm; simp at this; omega
    have HS := Lib.hid hS
    obtain ⟨g4, gf4⟩ := cellsK G4
    clear hPA hx1 hO hn hb hS
    have s1 := X1.size
    go_wp2_with fail
    refine bodyPost_ret (v := .tuple #[.agg #[.slice b1 k1 j1, .slice b2 k2 j2], .slice va (allPair s).2.length vc]) (by simp [results, Try.results32, go_sem, g4, gf4]) rfl ⟨_, _, L, _, rfl, ?_, ?_, HN.out, fun b hb => by have := HB.out b hb; omega, ?_, ?_⟩
    · ((repeat (first | with_reducible (refine ext_set2 ?_ ?_); focus (first | exact Nat.le_refl _ | (dsimp only; omega) | (simp; omega)) | with_reducible refine ext_alloc2 ?_)); with_reducible exact X1)
    · refine HO.out.keep fun b hb => ?_
      have := HB.out b hb
      iterate 2 rw [setCell_other (by omega)]
    · have hne := own_ne HS.out G4 (by decide)
      refine SRow.steps (base := w.heap.size + 3) ?_
      exact ownsRow_setCell_other (ownsRow_setCell_other (HS.out.base (by simp)) hne _) hne _
    · exact hl
  · have hd : DO = if ec < 0 then s else toSteps s PS ec et := by rw [HD.out, if_neg h4]
    have hb : BG = if ec < 0 then [] else PS.take (begunN PS.length ec et).toNat := by rw [HBG.out, if_neg h4]
    clear hPA HD HBG
    go_enter Try.func32, Try.ntmps32
    go_wp2_with fail
    refine (hPS _ (ext_alloc (ext_alloc (ext_alloc (ext_refl _) _) _) _)).mono ?_; rintro e1 w1 ⟨sv, rfl, hx1, hS, hl⟩
    have X1 := ext_trans (ext_alloc (ext_alloc (ext_alloc (ext_refl w) _) _) _) hx1
    have G2 := keep_ext hx1 (hg_alloc (hg_alloc (hg_new (w := w) (b := w.heap.size) (x := .cells #[.slice a3 s.flash.length n3, .slice a4 s.disk.length n4] 41) rfl)))
    have G3 := keep_ext hx1 (hg_alloc (hg_new (b := w.heap.size + 1) (by simp)))
    have G4 := keep_ext hx1 (hg_new (b := w.heap.size + 1 + 1) (by simp))
    obtain ⟨va, vc, rfl⟩ := hS.form
    have hcap : PS.length ≤ vc := by
      rcases hS.2 with ⟨h1, h2⟩ | ⟨g, cap, cur, h1, h2, h3, h4, h5, h6⟩
      · omega
      · injection h1 with e1 e2 e3
        subst e3
        omega
    have HS := Lib.hid hS.steps
    have HR : Hid (SRow (w.heap.size + 3) w1 (.slice va PS.length vc) PS) := Lib.hid (hS.base (by simp))
    obtain ⟨g2, gf2⟩ := cellsK G2
    obtain ⟨g3, gf3⟩ := cellsK G3
    obtain ⟨g4, gf4⟩ := cellsK G4
    clear hPS hS
    have s1 := hx1.size
    simp at s1
    clear hx1
    by_cases hneg : ec < 0
    · rw [if_pos hneg] at hd hb
      subst hd; subst hb
      clear hTO
      go_wp2_with fail
      refine (hTN _ _ X1 HS.out hneg).mono ?_; rintro e2 w2 ⟨rfl, hx2⟩
      have X2 := ext_trans X1 hx2
      have s2 := hx2.size
      have XA : Ext w2 (w2.alloc (.cells #[.slice none 0 0, .slice none 0 0] 41)) := ext_alloc (ext_refl _) _
      have X3 := ext_trans X2 XA
      replace G2 := keep_ext XA (keep_ext hx2 G2)
      replace G4 := keep_ext XA (keep_ext hx2 G4)
      clear g2 gf2 g3 gf3 g4 gf4 hTN hx2 XA
      obtain ⟨g2, gf2⟩ := cellsK G2
      obtain ⟨g4, gf4⟩ := cellsK G4
      go_wp2_with fail
      refine (hSC _ X3).mono ?_; rintro e4 w4 ⟨f, d, L, rfl, hx4, hO, hn, hbb⟩
      have X4 := ext_trans X3 hx4
      replace G4 := keep_ext hx4 G4
      obtain ⟨b1, k1, j1, b2, k2, j2, rfl, rfl⟩ := hO.forms
      have s3 := X3.size
      have HN := Lib.hid hn
      have HO := Lib.hid hO
      have HB : Hid (∀ b ∈ L, w.heap.size + 3 ≤ b) := Lib.hid fun b hm => by have := hbb b hm; simp at this; have := X2.size; omega
      clear g2 gf2 g4 gf4 hSC hx4 G2 hn hO hbb
      obtain ⟨g4, gf4⟩ := cellsK G4
      have s4 := X4.size
      go_wp2_with fail
      refine bodyPost_ret (v := .tuple #[.agg #[.slice b1 k1 j1, .slice b2 k2 j2], .slice none 0 0]) (by simp [results, Try.results32, go_sem, g4, gf4]) rfl ⟨_, _, L, _, rfl, ?_, ?_, HN.out, fun b hb => by have := HB.out b hb; omega, ⟨none, 0, rfl, fun i x hi => by cases hi⟩, by simp⟩
      · ((repeat (first | with_reducible (refine ext_set2 ?_ ?_); focus (first | exact Nat.le_refl _ | (dsimp only; omega) | (simp; omega)) | with_reducible refine ext_alloc2 ?_)); with_reducible exact X4)
      · refine HO.out.keep fun b hb => ?_
        have := HB.out b hb
        iterate 2 rw [setCell_other (by omega)]
    · rw [if_neg hneg] at hd hb
      subst hd
      clear hTN hSC
      go_wp2_with fail
      refine (hTO _ _ X1 HS.out hl (by omega)).mono ?_; rintro e2 w2 ⟨f, d, L, rfl, hx2, hO, hn, hbb⟩
      have X2 := ext_trans X1 hx2
      have s2 := hx2.size
      replace G3 := keep_ext hx2 G3
      replace G4 := keep_ext hx2 G4
      obtain ⟨b1, k1, j1, b2, k2, j2, rfl, rfl⟩ := hO.forms
      have HN := Lib.hid hn
      have HB : Hid (∀ b ∈ L, w.heap.size + 3 ≤ b) := Lib.hid fun b hm => by have := hbb b hm; omega
      have hlO := hO.lt
      have XA : Ext w2 (w2.alloc (.cells #[.slice b1 k1 j1, .slice b2 k2 j2] 41)) := ext_alloc (ext_refl _) _
      have G7 : (w2.alloc (.cells #[.slice b1 k1 j1, .slice b2 k2 j2] 41)).heap[w2.heap.size]? = some (.cells #[.slice b1 k1 j1, .slice b2 k2 j2] 41 (0, 0)) := hg_new rfl
      have HO := Lib.hid (hO.ext XA)
      have X3 := ext_trans X2 XA
      have HS3 := Lib.hid (HR.out.ext (ext_trans hx2 XA))
      replace G3 := keep_ext XA G3
      replace G4 := keep_ext XA G4
      clear g2 gf2 g3 gf3 g4 gf4 hTO hx2 G2 hO hn hbb XA hlO
      obtain ⟨g3, gf3⟩ := cellsK G3
      obtain ⟨g4, gf4⟩ := cellsK G4
      have s3 := X3.size
      have H7 := Lib.hid G7
      have lP := heap_lt G7
      obtain ⟨P, hP⟩ : ∃ P, w2.heap.size = P := ⟨_, rfl⟩
      have hPw : w.heap.size + 3 ≤ P := by omega
      generalize hW : w2.alloc (.cells #[.slice b1 k1 j1, .slice b2 k2 j2] 41) = w3 at *
      rw [hP] at G7 H7 lP
      have hc1 : ∀ (w' : World) (Z : Int) (M : Nat), Z = M → M ≤ PS.length → (Instr.slice 45 (.slice va PS.length vc) none (some (.int .i64 Z)) none).run Try.prog w' = .ok (.slice va M vc) w' := fun w' Z M hZ hM => by
        subst hZ
        rw [run_slice_h w' 45 va PS.length vc (by kernel_rfl) .i64 M (by omega) (by omega)]
        rw [show (sizeOf (Try.prog.elem 45)).run Try.prog w' = .ok 8 w' by kernel_rfl]
        simp only [Result.andThen, sliced, Int.toNat_natCast, Nat.sub_zero]
        first | done | (split <;> simp [Addr.add])
      have HC1 := Lib.hid hc1
      clear hc1
      by_cases c1 : (PS.length : Int) < ec
      · have hnl : ¬ ((PS.length : Int) < PS.length) := by omega
        cases et
        all_goals
          have hc := fun w' => HC1.out w' (PS.length : Int) PS.length (by omega) (by omega)
          have hb2 : Hid (BG = PS.take PS.length) := Lib.hid (by rw [hb]; congr 1; unfold begunN; rw [if_neg (by omega)]; omega)
          clear hb
          go_wp2_with fail
          try rw [hP]
          try rw [hW]
          clear g3 gf3
          refine wp_region_st [4] G4 [0, 1, 2, 3, 4, 5] [] [] (by kernel_rfl) (by kernel_rfl) ?late ?_
          case late => exact fun f hf => absurd hf List.not_mem_nil
          refine Rob.y (v := ?_) rfl rfl (fun w1 hx hH => ?_) ?_; rotate_left
          · (obtain ⟨q7, qf7⟩ := cellsK (hx.1.keep G7 (by simp; omega))); go_simp; first | done | rfl
          simp only [Act.put, List.setIfInBounds_toArray, List.set_cons_succ, List.set_cons_zero]
          iterate 2
            refine Rob.y (v := ?_) rfl rfl (fun w1 hx hH => ?_) ?_; rotate_left
            · go_simp; first | done | rfl | exact (Bool.not_not _).symm
            simp only [Act.put, List.setIfInBounds_toArray, List.set_cons_succ, List.set_cons_zero]
          refine Rob.y (v := ?_) rfl rfl (fun w1 hx hH => ?_) ?_; rotate_left
          · (obtain ⟨q7, qf7⟩ := cellsK (hx.1.keep G7 (by simp; omega))); go_simp; first | done | rfl
          simp only [Act.put, List.setIfInBounds_toArray, List.set_cons_succ, List.set_cons_zero]
          refine Rob.st rfl rfl rfl rfl rfl rfl (by kernel_rfl) (by kernel_rfl) rfl (by omega) (fun lo4 hi4 hlo4 hhi4 => ?_)
          simp only [Act.put, List.setIfInBounds_toArray, List.set_cons_succ, List.set_cons_zero]
          refine Rob.y (v := ?_) rfl rfl (fun w1 hx hH => ?_) ?_; rotate_left
          · go_simp; first | done | rfl | exact (Bool.not_not _).symm
          simp only [Act.put, List.setIfInBounds_toArray, List.set_cons_succ, List.set_cons_zero]
          refine fin_nil (fun w5 hx5 _ => ?_)
          obtain ⟨⟨hC, -⟩, G⟩ := hx5
          have X5 := hC.ext X3 (by simp; omega)
          replace HO := Lib.hid (HO.out.chg hC (fun b hb hm => by have := HB.out b hb; simp at hm; omega))
          have HS5 := Lib.hid (SRow.steps (srow_chg HS3.out hC (by simp)))
          clear g4 gf4
          obtain ⟨g4, gf4⟩ := cellsK G
          go_wp2_with fail
          refine bodyPost_ret (v := .tuple #[.agg #[.slice b1 k1 j1, .slice b2 k2 j2], .slice va PS.length vc]) (by simp [results, Try.results32, go_sem, g4, gf4]) rfl ⟨_, _, L, _, rfl, X5, HO.out, HN.out, fun b hb => by have := HB.out b hb; omega, ?_, ?_⟩
          · rw [hb2.out]
            exact Sl.take' HS5.out _ (by omega)
          · rw [hb2.out, List.length_take]
            omega
      by_cases c2 : (PS.length : Int) = ec
      · subst c2
        clear c1
        cases et
        all_goals
          have hc := fun w' => HC1.out w' (PS.length : Int) PS.length (by omega) (by omega)
          have hb2 : Hid (BG = PS.take PS.length) := Lib.hid (by rw [hb]; congr 1; unfold begunN; rw [if_neg (by omega)]; omega)
          clear hb
          go_wp2_with fail
          try rw [hP]
          try rw [hW]
          clear g3 gf3
          refine wp_region_st [4] G4 [0, 1, 2, 3, 4, 5] [] [] (by kernel_rfl) (by kernel_rfl) ?late ?_
          case late => exact fun f hf => absurd hf List.not_mem_nil
          refine Rob.y (v := ?_) rfl rfl (fun w1 hx hH => ?_) ?_; rotate_left
          · (obtain ⟨q7, qf7⟩ := cellsK (hx.1.keep G7 (by simp; omega))); go_simp; first | done | rfl
          simp only [Act.put, List.setIfInBounds_toArray, List.set_cons_succ, List.set_cons_zero]
          iterate 2
            refine Rob.y (v := ?_) rfl rfl (fun w1 hx hH => ?_) ?_; rotate_left
            · go_simp; first | done | rfl | exact (Bool.not_not _).symm
            simp only [Act.put, List.setIfInBounds_toArray, List.set_cons_succ, List.set_cons_zero]
          refine Rob.y (v := ?_) rfl rfl (fun w1 hx hH => ?_) ?_; rotate_left
          · (obtain ⟨q7, qf7⟩ := cellsK (hx.1.keep G7 (by simp; omega))); go_simp; first | done | rfl
          simp only [Act.put, List.setIfInBounds_toArray, List.set_cons_succ, List.set_cons_zero]
          refine Rob.st rfl rfl rfl rfl rfl rfl (by kernel_rfl) (by kernel_rfl) rfl (by omega) (fun lo4 hi4 hlo4 hhi4 => ?_)
          simp only [Act.put, List.setIfInBounds_toArray, List.set_cons_succ, List.set_cons_zero]
          refine Rob.y (v := ?_) rfl rfl (fun w1 hx hH => ?_) ?_; rotate_left
          · go_simp; first | done | rfl | exact (Bool.not_not _).symm
          simp only [Act.put, List.setIfInBounds_toArray, List.set_cons_succ, List.set_cons_zero]
          refine fin_nil (fun w5 hx5 _ => ?_)
          obtain ⟨⟨hC, -⟩, G⟩ := hx5
          have X5 := hC.ext X3 (by simp; omega)
          replace HO := Lib.hid (HO.out.chg hC (fun b hb hm => by have := HB.out b hb; simp at hm; omega))
          have HS5 := Lib.hid (SRow.steps (srow_chg HS3.out hC (by simp)))
          clear g4 gf4
          obtain ⟨g4, gf4⟩ := cellsK G
          go_wp2_with fail
          refine bodyPost_ret (v := .tuple #[.agg #[.slice b1 k1 j1, .slice b2 k2 j2], .slice va PS.length vc]) (by simp [results, Try.results32, go_sem, g4, gf4]) rfl ⟨_, _, L, _, rfl, X5, HO.out, HN.out, fun b hb => by have := HB.out b hb; omega, ?_, ?_⟩
          · rw [hb2.out]
            exact Sl.take' HS5.out _ (by omega)
          · rw [hb2.out, List.length_take]
            omega
      obtain ⟨m, rfl⟩ : ∃ m : Nat, ec = m := ⟨ec.toNat, by omega⟩
      by_cases ct : et = true
      · subst ct
        have hc := fun w' => HC1.out w' ((m : Int) + 1) (m + 1) (by omega) (by omega)
        have hb2 : Hid (BG = PS.take (m + 1)) := Lib.hid (by rw [hb]; congr 1; unfold begunN; rw [if_pos ⟨rfl, by omega⟩]; omega)
        clear hb
        go_wp2_with fail
        try rw [hP]
        try rw [hW]
        clear g3 gf3
        refine wp_region_st [4] G4 [0, 1, 2, 3, 4, 5] [] [] (by kernel_rfl) (by kernel_rfl) ?late ?_
        case late => exact fun f hf => absurd hf List.not_mem_nil
        refine Rob.y (v := ?_) rfl rfl (fun w1 hx hH => ?_) ?_; rotate_left
        · (obtain ⟨q7, qf7⟩ := cellsK (hx.1.keep G7 (by simp; omega))); go_simp; first | done | rfl
        simp only [Act.put, List.setIfInBounds_toArray, List.set_cons_succ, List.set_cons_zero]
        iterate 2
          refine Rob.y (v := ?_) rfl rfl (fun w1 hx hH => ?_) ?_; rotate_left
          · go_simp; first | done | rfl | exact (Bool.not_not _).symm
          simp only [Act.put, List.setIfInBounds_toArray, List.set_cons_succ, List.set_cons_zero]
        refine Rob.y (v := ?_) rfl rfl (fun w1 hx hH => ?_) ?_; rotate_left
        · (obtain ⟨q7, qf7⟩ := cellsK (hx.1.keep G7 (by simp; omega))); go_simp; first | done | rfl
        simp only [Act.put, List.setIfInBounds_toArray, List.set_cons_succ, List.set_cons_zero]
        refine Rob.st rfl rfl rfl rfl rfl rfl (by kernel_rfl) (by kernel_rfl) rfl (by omega) (fun lo4 hi4 hlo4 hhi4 => ?_)
        simp only [Act.put, List.setIfInBounds_toArray, List.set_cons_succ, List.set_cons_zero]
        refine Rob.y (v := ?_) rfl rfl (fun w1 hx hH => ?_) ?_; rotate_left
        · go_simp; first | done | rfl | exact (Bool.not_not _).symm
        simp only [Act.put, List.setIfInBounds_toArray, List.set_cons_succ, List.set_cons_zero]
        refine fin_nil (fun w5 hx5 _ => ?_)
        obtain ⟨⟨hC, -⟩, G⟩ := hx5
        have X5 := hC.ext X3 (by simp; omega)
        replace HO := Lib.hid (HO.out.chg hC (fun b hb hm => by have := HB.out b hb; simp at hm; omega))
        have HS5 := Lib.hid (SRow.steps (srow_chg HS3.out hC (by simp)))
        clear g4 gf4
        obtain ⟨g4, gf4⟩ := cellsK G
        go_wp2_with fail
        refine bodyPost_ret (v := .tuple #[.agg #[.slice b1 k1 j1, .slice b2 k2 j2], .slice va (m + 1) vc]) (by simp [results, Try.results32, go_sem, g4, gf4]) rfl ⟨_, _, L, _, rfl, X5, HO.out, HN.out, fun b hb => by have := HB.out b hb; omega, ?_, ?_⟩
        · rw [hb2.out]
          exact Sl.take' HS5.out _ (by omega)
        · rw [hb2.out, List.length_take]
          omega
      · obtain rfl : et = false := by simpa using ct
        clear ct
        have hc := fun w' => HC1.out w' (m : Int) m (by omega) (by omega)
        have hb2 : Hid (BG = PS.take m) := Lib.hid (by rw [hb]; congr 1; unfold begunN; rw [if_neg (by simp)]; omega)
        clear hb
        go_wp2_with fail
        try rw [hP]
        try rw [hW]
        clear g3 gf3
        refine wp_region_st [4] G4 [0, 1, 2, 3, 4, 5] [] [] (by kernel_rfl) (by kernel_rfl) ?late ?_
        case late => exact fun f hf => absurd hf List.not_mem_nil
        refine Rob.y (v := ?_) rfl rfl (fun w1 hx hH => ?_) ?_; rotate_left
        · (obtain ⟨q7, qf7⟩ := cellsK (hx.1.keep G7 (by simp; omega))); go_simp; first | done | rfl
        simp only [Act.put, List.setIfInBounds_toArray, List.set_cons_succ, List.set_cons_zero]
        iterate 2
          refine Rob.y (v := ?_) rfl rfl (fun w1 hx hH => ?_) ?_; rotate_left
          · go_simp; first | done | rfl | exact (Bool.not_not _).symm
          simp only [Act.put, List.setIfInBounds_toArray, List.set_cons_succ, List.set_cons_zero]
        refine Rob.y (v := ?_) rfl rfl (fun w1 hx hH => ?_) ?_; rotate_left
        · (obtain ⟨q7, qf7⟩ := cellsK (hx.1.keep G7 (by simp; omega))); go_simp; first | done | rfl
        simp only [Act.put, List.setIfInBounds_toArray, List.set_cons_succ, List.set_cons_zero]
        refine Rob.st rfl rfl rfl rfl rfl rfl (by kernel_rfl) (by kernel_rfl) rfl (by omega) (fun lo4 hi4 hlo4 hhi4 => ?_)
        simp only [Act.put, List.setIfInBounds_toArray, List.set_cons_succ, List.set_cons_zero]
        refine Rob.y (v := ?_) rfl rfl (fun w1 hx hH => ?_) ?_; rotate_left
        · go_simp; first | done | rfl | exact (Bool.not_not _).symm
        simp only [Act.put, List.setIfInBounds_toArray, List.set_cons_succ, List.set_cons_zero]
        refine fin_nil (fun w5 hx5 _ => ?_)
        obtain ⟨⟨hC, -⟩, G⟩ := hx5
        have X5 := hC.ext X3 (by simp; omega)
        replace HO := Lib.hid (HO.out.chg hC (fun b hb hm => by have := HB.out b hb; simp at hm; omega))
        have HS5 := Lib.hid (SRow.steps (srow_chg HS3.out hC (by simp)))
        clear g4 gf4
        obtain ⟨g4, gf4⟩ := cellsK G
        go_wp2_with fail
        refine bodyPost_ret (v := .tuple #[.agg #[.slice b1 k1 j1, .slice b2 k2 j2], .slice va m vc]) (by simp [results, Try.results32, go_sem, g4, gf4]) rfl ⟨_, _, L, _, rfl, X5, HO.out, HN.out, fun b hb => by have := HB.out b hb; omega, ?_, ?_⟩
        · rw [hb2.out]
          exact Sl.take' HS5.out _ (by omega)
        · rw [hb2.out, List.length_take]
          omega
end Go.Bu

set_option linter.unusedVariables false
set_option linter.unusedSimpArgs false
namespace Go.Bu
open Go Go.RowKit Go.Plan Go.Proofs

def costStep (c : Cost) (s : Step) : Cost :=
  if s.kind = 3 then ⟨c.writes + 1, c.wipes, c.disks⟩ else if s.kind = 2 then ⟨c.writes, c.wipes + 1, c.disks⟩ else if s.kind = 1 then ⟨c.writes, c.wipes, c.disks + 1⟩ else c
def costOf (xs : List Step) : Cost := xs.foldl costStep cost0

def costBound (c : Cost) (k : Int) : Prop := 0 ≤ c.writes ∧ c.writes ≤ k ∧ 0 ≤ c.wipes ∧ c.wipes ≤ k ∧ 0 ≤ c.disks ∧ c.disks ≤ k

theorem costOf_take (xs : List Step) (k : Nat) (h : k < xs.length) : costOf (xs.take (k + 1)) = costStep (costOf (xs.take k)) xs[k] := by
  rw [← take_snoc xs k h, costOf, List.foldl_append]; rfl

theorem cells3 {w : World} {B T : Nat} {c : Cost} (h : w.heap[B]? = some (.cells (costC c).toArray T (0, 0))) : w.cell? ⟨B, 0, none⟩ = some (.int .i64 c.writes) ∧ w.cell? ⟨B, 1, none⟩ = some (.int .i64 c.wipes) ∧ w.cell? ⟨B, 2, none⟩ = some (.int .i64 c.disks) ∧ ∀ j, w.frozen? ⟨B, j, none⟩ = false :=
  ⟨by rw [cell_block h]; rfl, by rw [cell_block h]; rfl, by rw [cell_block h]; rfl, frozen_block h⟩

set_option maxHeartbeats 1000000 in
theorem specCostOf_c (v : Value) (xs : List Step) (w : World) (hp : Steps' (Old w) w v xs) (hn : xs.length ≤ 1048576) : Calls Try.prog 23 #[v] w (Ret w (costA (costOf xs))) := by
  obtain ⟨a, cap, rfl⟩ := hp.form
  go_enter Try.func23, Try.ntmps23
  go_wp2
  go_loopw [4] (fun i wr => ∃ (k : Nat) (c : Cost), k ≤ xs.length ∧ i = .int .i64 k ∧ Ext w wr ∧ w.heap.size + 1 < wr.heap.size ∧ c = costOf (xs.take k) ∧ costBound c k ∧
    wr.heap[w.heap.size]? = some (.cells (costC cost0).toArray 26 (0, 0)) ∧ wr.heap[w.heap.size + 1]? = some (.cells (costC c).toArray 26 (0, 0))) (fun i _ => xs.length - (intOf i).toNat)
  case atStart => 
    refine ⟨0, cost0, Nat.zero_le _, rfl, ext_alloc (ext_alloc (ext_refl _) _) _, by simp, rfl, by simp [costBound, cost0], ?_, ?_⟩
    · rw [alloc_get_old (by simp), alloc_get_new rfl]; rfl
    · rw [alloc_get_new (by simp)]; rfl
  case round =>
    obtain ⟨k, c, hk, rfl, hx, hsz, hc, ⟨b1, b2, b3, b4, b5, b6⟩, g0, g1⟩ := hrel
    obtain ⟨e0, e1, e2, ef⟩ := cells3 g1
    have HC := Lib.hid hc; clear hc
    by_cases hlt : k < xs.length
    · obtain ⟨b, o, rfl, hb, h0, h1, h2, h3, h4, h5, h6, h7⟩ := (hp.ext hx).at8 hlt
      have HT := Lib.hid (costOf_take xs k hlt)
      clear h1 h2 h3 h4 h5 h6 h7
      go_wp2
      all_goals
        clear e0 e1 e2 ef h0
        simp only [beq_iff_eq, Bool.not_eq_true, beq_eq_false_iff_ne, ne_eq] at *
        refine ⟨⟨k + 1, costStep c xs[k], by omega, by go_num, ?_, ?_, ?_, ?_, ?_, ?_⟩, by simp [intOf]; omega⟩
        · first | with_reducible exact hx | with_reducible exact ext_set hx (by dsimp only; omega) _
        · first | with_reducible exact hsz | (rw [setCell_size]; exact hsz)
        · rw [HT.out, ← HC.out]
        · unfold costStep costBound; (repeat' split) <;> (try dsimp only) <;> omega
        · first | with_reducible exact g0 | (rw [setCell_other (by omega)]; exact g0)
        · first
            | (rw [setCell_block g1]; unfold costStep; (repeat' split) <;> first | rfl | (exfalso; omega))
            | (rw [g1]; unfold costStep; (repeat' split) <;> first | rfl | (exfalso; omega))
    · obtain rfl : k = xs.length := by omega
      obtain ⟨d0, d1, d2, df⟩ := cells3 g0
      go_wp2
      refine bodyPost_ret (v := costA c) (by simp [results, Try.results23, go_sem, e0, e1, e2, ef, d0, d1, d2, df]) rfl ⟨?_, ?_⟩
      · rw [HC.out, List.take_length]
      · ((repeat (first | with_reducible (refine ext_set2 ?_ ?_); focus (first | exact Nat.le_refl _ | (dsimp only; omega) | (simp; omega)) | with_reducible refine ext_alloc2 ?_)); with_reducible exact hx)

set_option maxHeartbeats 1000000 in
theorem implCostOf_c (v : Value) (xs : List Step) (w : World) (hp : Steps' (Old w) w v xs) (hn : xs.length ≤ 1048576) : Calls Try.prog 19 #[v] w (Ret w (costA (costOf xs))) := by
  obtain ⟨a, cap, rfl⟩ := hp.form
  go_enter Try.func19, Try.ntmps19
  go_wp2
  go_loopw [8] (fun i wr => ∃ (k : Nat) (c : Cost), k ≤ xs.length ∧ i = .int .i64 k ∧ Ext w wr ∧ w.heap.size + 1 < wr.heap.size ∧ c = costOf (xs.take k) ∧ costBound c k ∧
    wr.heap[w.heap.size]? = some (.cells (costC cost0).toArray 26 (0, 0)) ∧ wr.heap[w.heap.size + 1]? = some (.cells (costC c).toArray 26 (0, 0))) (fun i _ => xs.length - (intOf i).toNat)
  case atStart => 
    refine ⟨0, cost0, Nat.zero_le _, rfl, ext_alloc (ext_alloc (ext_refl _) _) _, by simp, rfl, by simp [costBound, cost0], ?_, ?_⟩
    · rw [alloc_get_old (by simp), alloc_get_new rfl]; rfl
    · rw [alloc_get_new (by simp)]; rfl
  case round =>
    obtain ⟨k, c, hk, rfl, hx, hsz, hc, ⟨b1, b2, b3, b4, b5, b6⟩, g0, g1⟩ := hrel
    obtain ⟨e0, e1, e2, ef⟩ := cells3 g1
    have HC := Lib.hid hc; clear hc
    by_cases hlt : k < xs.length
    · obtain ⟨b, o, rfl, hb, h0, h1, h2, h3, h4, h5, h6, h7⟩ := (hp.ext hx).at8 hlt
      have HT := Lib.hid (costOf_take xs k hlt)
      go_wp2
      all_goals
        clear e0 e1 e2 ef h0 h1 h2 h3 h4 h5 h6 h7
        simp only [beq_iff_eq, Bool.not_eq_true, beq_eq_false_iff_ne, ne_eq] at *
        refine ⟨⟨k + 1, costStep c xs[k], by omega, by go_num, ?_, ?_, ?_, ?_, ?_, ?_⟩, by simp [intOf]; omega⟩
        · first | with_reducible exact ext_alloc hx _ | with_reducible exact ext_alloc (ext_set hx (by dsimp only; omega) _) _
        · first | (simp; rw [setCell_size]; omega) | (simp; omega)
        · rw [HT.out, ← HC.out]
        · unfold costStep costBound; (repeat' split) <;> (try dsimp only) <;> omega
        · rw [alloc_get_old (by first | omega | (rw [setCell_size]; omega))]; first | with_reducible exact g0 | (rw [setCell_other (by omega)]; exact g0)
        · rw [alloc_get_old (by first | omega | (rw [setCell_size]; omega))]
          first
            | (rw [setCell_block g1]; unfold costStep; (repeat' split) <;> first | rfl | (exfalso; omega))
            | (rw [g1]; unfold costStep; (repeat' split) <;> first | rfl | (exfalso; omega))
    · obtain rfl : k = xs.length := by omega
      obtain ⟨d0, d1, d2, df⟩ := cells3 g0
      go_wp2
      refine bodyPost_ret (v := costA c) (by simp [results, Try.results19, go_sem, e0, e1, e2, ef, d0, d1, d2, df]) rfl ⟨?_, ?_⟩
      · rw [HC.out, List.take_length]
      · ((repeat (first | with_reducible (refine ext_set2 ?_ ?_); focus (first | exact Nat.le_refl _ | (dsimp only; omega) | (simp; omega)) | with_reducible refine ext_alloc2 ?_)); with_reducible exact hx)

end Go.Bu

set_option linter.unusedVariables false
set_option linter.unusedSimpArgs false
namespace Go.Bu
open Go Go.RowKit Go.Plan Go.Proofs

theorem costFold_add : ∀ (xs : List Step) (c : Cost), xs.foldl costStep c = costSum c (xs.foldl costStep cost0)
  | [], c => by simp [costSum, cost0]
  | x :: xs, c => by
    rw [List.foldl_cons, List.foldl_cons, costFold_add xs (costStep c x), costFold_add xs (costStep cost0 x)]
    unfold costStep costSum cost0
    split
    · simp; omega
    · split
      · simp; omega
      · split <;> simp
        omega
theorem costOf_app (a b : List Step) : costOf (a ++ b) = costSum (costOf a) (costOf b) := by
  unfold costOf; rw [List.foldl_append, costFold_add b]
theorem costOf_bound (xs : List Step) : costBound (costOf xs) xs.length := by
  have : ∀ (xs : List Step) (c : Cost) (k : Int), costBound c k → costBound (xs.foldl costStep c) (k + xs.length) := by
    intro xs
    induction xs with
    | nil => intro c k h; simpa using h
    | cons x xs ih =>
      intro c k h
      rw [List.foldl_cons]
      have h1 : costBound (costStep c x) (k + 1) := by
        unfold costBound at *; unfold costStep
        (repeat' split) <;> (try dsimp only) <;> omega
      have := ih _ _ h1
      rw [show k + ((x :: xs).length : Int) = k + 1 + xs.length by simp; omega]
      exact this
  have h := this xs cost0 0 (by simp [costBound, cost0])
  rw [Int.zero_add] at h; exact h
theorem costOf_ok {xs : List Step} (h : xs.length ≤ 9999) : costOkB (costOf xs) = true := by
  have := costOf_bound xs
  unfold costBound at this
  simp only [costOkB, Bool.and_eq_true, inB_iff]; omega
theorem costOf_cut (xs : List Step) (k : Nat) (h : xs.length ≤ 9999) : costAdd (costOf (xs.take k)) (costOf (xs.drop k)) = costOf xs := by
  have h1 := costOf_ok (xs := xs.take k) (by rw [List.length_take]; omega)
  have h2 := costOf_ok (xs := xs.drop k) (by rw [List.length_drop]; omega)
  unfold costAdd
  rw [h1, h2, ← costOf_app, List.take_append_drop]; rfl
def costN (c : Cost) : Int := c.writes + c.wipes + c.disks
theorem costN_step (c : Cost) (x : Step) : costN (costStep c x) = costN c + if x.kind = 1 ∨ x.kind = 2 ∨ x.kind = 3 then 1 else 0 := by
  unfold costN costStep
  split
  · rw [if_pos (by omega)]; dsimp only; omega
  · split
    · rw [if_pos (by omega)]; dsimp only; omega
    · split
      · rw [if_pos (by omega)]; dsimp only; omega
      · rw [if_neg (by omega)]; omega
end Go.Bu

set_option linter.unusedVariables false
set_option linter.unusedSimpArgs false
namespace Go.Bu
open Go Go.RowKit Go.Plan

section
variable {P : Program} {Q : Exit → Act → World → Prop} {a : Act} {w : World} {ops : Array Oper}

/-- as the kit's word on code, of a frame that was called in the plain way -/
def WpN (P : Program) (c : Code) (Q : Exit → Act → World → Prop) (a : Act) (w : World) : Prop :=
  ∀ (b : Frame) (k : List Item) (cs : List Frame), b.kind = .normal → ∃ e a' w', Q e a' w' ∧ Arrives P (lone (b.at a (.code c :: k)) cs w) b k cs e a' w'
/-- the operations of a region that are still to come -/
def OpsN (P : Program) (ops : Array Oper) (Q : Exit → Act → World → Prop) (l : List Nat) (a : Act) (w : World) : Prop :=
  ∀ (b : Frame) (k : List Item) (cs : List Frame), b.kind = .normal → ∃ e a' w', Q e a' w' ∧ Arrives P (lone (b.at a (.inRegion ops l :: k)) cs w) b k cs e a' w'

theorem WpN.of {c : Code} (h : c.wp P Q a w) : WpN P c Q a w := fun b k cs _ => h b k cs

/-- an exit that passes a piece of code that is still to come -/
theorem passCode {m : Machine} {b : Frame} {x : Item} {k : List Item} {cs : List Frame} {e : Exit} {a : Act} {w : World} (hx : x.plain = true) (hn : e ≠ .normal) (h : Arrives P m b (x :: k) cs e a w) : Arrives P m b k cs e a w :=
  Arrives.pass hx (fun _ _ => .inl hn) h
theorem then_other {next : Act → World → Prop} {e : Exit} (hn : e ≠ .normal) (h : Exit.then next Q e a w) : Q e a w := by
  cases e <;> first | exact h | exact absurd rfl hn

theorem WpN.seqN {x y : Code} (h : WpN P x (Exit.then (fun a w => WpN P y Q a w) Q) a w) : WpN P (.seq x y) Q a w := by
  intro b k cs hk
  obtain ⟨e, a1, w1, hq, harr⟩ := h b (.code y :: k) cs hk
  by_cases hn : e = .normal
  · subst hn
    obtain ⟨e2, a2, w2, hq2, harr2⟩ := hq b k cs hk
    exact ⟨e2, a2, w2, hq2, harr2.of_steps (Steps.head step_seq harr)⟩
  · exact ⟨e, a1, w1, then_other hn hq, (passCode rfl hn harr).of_steps (.one step_seq)⟩
/-- a piece of code that does not speak to the channel, and what follows -/
theorem WpN.seq {x y : Code} (h : ∀ K : Act → World → Prop, (∀ a w, WpN P y Q a w → K a w) → x.wp P (Exit.then K Q) a w) : WpN P (.seq x y) Q a w :=
  .seqN (.of (h _ fun _ _ h => h))
theorem WpN.seqK {x y : Code} (h : ∀ K : Act → World → Prop, (∀ a w, WpN P y Q a w → K a w) → WpN P x (Exit.then K Q) a w) : WpN P (.seq x y) Q a w :=
  .seqN (h _ fun _ _ h => h)

theorem WpN.block {id : Nat} {c : Code} (h : WpN P c (Exit.inBlock id Q) a w) : WpN P (.block id c) Q a w := by
  intro b k cs hk
  obtain ⟨e, a1, w1, hq, harr⟩ := h b (.inBlock id :: k) cs hk
  cases e with
  | normal => exact ⟨.normal, a1, w1, hq, Steps.head step_block (Steps.trans harr (.one step_inBlock))⟩
  | exit j =>
    by_cases hj : j = id
    · subst hj
      have hq' : Q .normal a1 w1 := by simpa [Exit.inBlock] using hq
      exact ⟨.normal, a1, w1, hq', Steps.head step_block (harr k (by simp [exitTo]))⟩
    · have hq' : Q (.exit j) a1 w1 := by simpa [Exit.inBlock, hj] using hq
      refine ⟨.exit j, a1, w1, hq', fun k' hk' => Steps.head step_block (harr k' ?_)⟩
      have hne : (id == j) = false := beq_eq_false_iff_ne.2 (Ne.symm hj)
      simp [exitTo, hne, hk']
  | goto l => exact ⟨_, a1, w1, hq, fun k' hk' => Steps.head step_block (harr k' (by simp [gotoIn, hk']))⟩
  | ret => exact ⟨_, a1, w1, hq, Arrives.of_steps (.one step_block) harr⟩
  | panic ch => exact ⟨_, a1, w1, hq, Arrives.of_steps (.one step_block) harr⟩
  | outgrown => exact ⟨_, a1, w1, hq, Arrives.of_steps (b := b) (k := k) (cs := cs) (e := .outgrown) (.one step_block) harr⟩

theorem WpN.loop {c : Code} (I : Act → World → Prop) (μ : Act → World → Nat) (h0 : I a w)
    (round : ∀ a w, I a w → WpN P c (Exit.then (fun a' w' => I a' w' ∧ μ a' w' < μ a w) Q) a w) : WpN P (.loop c) Q a w := by
  intro b k cs hk
  have key : ∀ n a w, μ a w = n → I a w → ∃ e a' w', Q e a' w' ∧ Arrives P (lone (b.at a (.code c :: .inLoop c :: k)) cs w) b k cs e a' w' := by
    intro n
    induction n using Nat.strongRecOn with
    | _ n ih =>
      intro a w hn hI
      obtain ⟨e, a1, w1, hq, harr⟩ := round a w hI b (.inLoop c :: k) cs hk
      by_cases he : e = .normal
      · subst he
        obtain ⟨hI1, hlt⟩ := hq
        obtain ⟨e2, a2, w2, hq2, harr2⟩ := ih (μ a1 w1) (hn ▸ hlt) a1 w1 rfl hI1
        exact ⟨e2, a2, w2, hq2, harr2.of_steps (Steps.trans harr (.one step_inLoop))⟩
      · exact ⟨e, a1, w1, then_other he hq, passCode rfl he harr⟩
  obtain ⟨e, a', w', hq, harr⟩ := key _ a w rfl h0
  exact ⟨e, a', w', hq, harr.of_steps (.one step_loop)⟩

theorem WpN.region {id : Nat} (h : OpsN P ops Q (List.range ops.size) a w) : WpN P (.region id ops false) Q a w := by
  intro b k cs hk
  obtain ⟨e, a', w', hq, harr⟩ := h b k cs hk
  exact ⟨e, a', w', hq, harr.of_steps (.one step_region)⟩

theorem calls_of_wpN {f : FuncId} {fn : Func} {c : Code} {args : Array Value} {R : Ending → World → Prop} (hf : P.funcs[f]? = some fn) (hb : fn.body = some c)
    (h : WpN P c (bodyPost P fn R) { tmps := args ++ Array.replicate (fn.ntmps - args.size) undef, defers := [] } w) : Calls P f args w R := by
  intro cs
  have henter : Frame.enter P f args .normal = ({ (default : Frame) with fn := f, kind := .normal } : Frame).at { tmps := args ++ Array.replicate (fn.ntmps - args.size) undef, defers := [] } [.code c] := by
    simp [Frame.enter, Frame.at, hf, hb]
  obtain ⟨e, a', w', hq, harr⟩ := h { (default : Frame) with fn := f, kind := .normal } [] cs rfl
  rw [← henter] at harr
  cases e with
  | normal =>
    obtain ⟨hd, v, hr, hR⟩ := hq
    exact ⟨.returned v, w', _, hR, Steps.trans harr (.one step_end), rfl, rfl, hd, rfl, fn, hf, hr⟩
  | ret =>
    obtain ⟨hd, v, hr, hR⟩ := hq
    obtain ⟨todo, hs⟩ := harr
    exact ⟨.returned v, w', _, hR, hs, rfl, rfl, hd, rfl, fn, hf, hr⟩
  | panic chain =>
    obtain ⟨hd, hR⟩ := hq
    obtain ⟨todo, hs⟩ := harr
    exact ⟨.panicked chain, w', _, hR, hs, rfl, rfl, hd, fn, hf⟩
  | exit j => exact hq.elim
  | goto l => exact hq.elim
  | outgrown => exact ⟨.outgrown, w', { (default : Frame) with fn := f, kind := .normal }, hq, harr.resolve_left (by simp), rfl, trivial⟩

theorem OpsN.nil (h : Q .normal a w) : OpsN P ops Q [] a w := fun b k cs _ => ⟨.normal, a, w, h, .one step_region_end⟩

section
variable {i : Nat} {rest : List Nat} {o : Oper}
theorem finish_of (ho : ops[i]? = some o) (b : Frame) (k : List Item) (v : Value) : (b.at a (.inRegion ops (i :: rest) :: k)).finish v = b.at (a.put o.dst v) (.inRegion ops rest :: k) := by
  rw [Frame.finish_at, ho]; rfl

theorem OpsN.val {v : Value} {w' : World} (ho : ops[i]? = some o) (hw : Region.wanted o (yielded ops a.tmps) = true) (hr : (execOp a.eval o).run P w = .ok (.value v) w') (h : OpsN P ops Q rest (a.put o.dst v) w') : OpsN P ops Q (i :: rest) a w := by
  intro b k cs hk
  obtain ⟨e, a', w2, hq, harr⟩ := h b k cs hk
  refine ⟨e, a', w2, hq, harr.of_steps (.one (step_lone_go ?_))⟩
  rw [stepG_op ho hw, ← finish_of ho b k v]
  simp [stepG.apply, hr]

theorem OpsN.call {f : FuncId} {args : Array Value} {w' : World} (ho : ops[i]? = some o) (hw : Region.wanted o (yielded ops a.tmps) = true) (hr : (execOp a.eval o).run P w = .ok (.enter f args) w')
    (h : Calls P f args w' fun e w2 => ∃ v, e = .returned v ∧ OpsN P ops Q rest (a.put o.dst v) w2) : OpsN P ops Q (i :: rest) a w := by
  intro b k cs hk
  obtain ⟨e, w2, fr, ⟨v, rfl, hn⟩, hsteps, _, hleave⟩ := h (b.at a (.inRegion ops (i :: rest) :: k) :: cs)
  obtain ⟨e, a', w3, hq, harr⟩ := hn b k cs hk
  have henter : step P (lone (b.at a (.inRegion ops (i :: rest) :: k)) cs w) = .next (lone (Frame.enter P f args .normal) (b.at a (.inRegion ops (i :: rest) :: k) :: cs) w') :=
    step_lone_go (by rw [stepG_op ho hw]; simp [stepG.apply, hr, Frame.at])
  refine ⟨e, a', w3, hq, harr.of_steps (Steps.head henter (Steps.trans hsteps (.one ?_)))⟩
  rw [← finish_of ho b k v]
  exact step_leave_returned hleave

/-- one step of the machine -/
theorem OpsN.step {v : Value} {w' : World} (ho : ops[i]? = some o) (hs : ∀ (b : Frame) (k : List Item) (cs : List Frame), b.kind = .normal → step P (lone (b.at a (.inRegion ops (i :: rest) :: k)) cs w) = .next (lone ((b.at a (.inRegion ops (i :: rest) :: k)).finish v) cs w'))
    (h : OpsN P ops Q rest (a.put o.dst v) w') : OpsN P ops Q (i :: rest) a w := by
  intro b k cs hk
  obtain ⟨e, a', w2, hq, harr⟩ := h b k cs hk
  refine ⟨e, a', w2, hq, harr.of_steps (.one ?_)⟩
  rw [hs b k cs hk, finish_of ho b k v]

open Go.Conc in
/-- a send into a buffer with room -/
theorem OpsN.send {c cap s r : Nat} {buf : Array Value} {v z : Value} {tm : Bool} (ho : ops[i]? = some o) (hw : Region.wanted o (yielded ops a.tmps) = true)
    (hr : (execOp a.eval o).run P w = .ok (.comm #[scase c v z] true .send) w) (hc : w.heap[c]? = some (.chan cap buf false s r tm)) (hroom : buf.size < cap)
    (h : OpsN P ops Q rest (a.put o.dst undef) (w.setChan c cap (buf.push v) false (s + 1) r tm)) : OpsN P ops Q (i :: rest) a w :=
  .step ho (fun b k cs hk => step_lone_send_room (fr := b.at a (.inRegion ops (i :: rest) :: k)) (stepG_comm ho hw (by rw [hk]; decide) hr) hc hroom) h

open Go.Conc in
/-- a receive, with the word whether there was something, from a buffer that holds something -/
theorem OpsN.recv {c cap s r : Nat} {buf : Array Value} {z : Value} {tm closed : Bool} (ho : ops[i]? = some o) (hw : Region.wanted o (yielded ops a.tmps) = true)
    (hr : (execOp a.eval o).run P w = .ok (.comm #[rcase c z] true (.recv true)) w) (hc : w.heap[c]? = some (.chan cap buf closed s r tm)) (hsome : 0 < buf.size)
    (h : OpsN P ops Q rest (a.put o.dst (.tuple #[buf.getD 0 undef, .bool true])) (w.setChan c cap (buf.extract 1 buf.size) closed s (r + 1) tm)) : OpsN P ops Q (i :: rest) a w :=
  .step ho (fun b k cs hk => step_lone_recv_buf (fr := b.at a (.inRegion ops (i :: rest) :: k)) true (stepG_comm ho hw (by rw [hk]; decide) hr) hc hsome) h

open Go.Conc in
/-- .. from a closed channel that holds nothing -/
theorem OpsN.recvShut {c cap s r : Nat} {z : Value} {tm : Bool} (ho : ops[i]? = some o) (hw : Region.wanted o (yielded ops a.tmps) = true)
    (hr : (execOp a.eval o).run P w = .ok (.comm #[rcase c z] true (.recv true)) w) (hc : w.heap[c]? = some (.chan cap #[] true s r tm))
    (h : OpsN P ops Q rest (a.put o.dst (.tuple #[z, .bool false])) w) : OpsN P ops Q (i :: rest) a w :=
  .step ho (fun b k cs hk => step_lone_recv_shut (fr := b.at a (.inRegion ops (i :: rest) :: k)) true (stepG_comm ho hw (by rw [hk]; decide) hr) hc) h
end
end
end Go.Bu

set_option linter.unusedVariables false
set_option linter.unusedSimpArgs false
namespace Go.Bu
open Go Go.RowKit Go.Plan Go.Proofs

/-- what each event costs -/
def evCost (s : Store) (e : Event) : Cost := costOf (begunS s e)
def evCosts : Store → List Event → List Cost
  | _, [] => []
  | s, e :: es => evCost s e :: evCosts (playDoS s e) es
def evStore (s : Store) (es : List Event) : Store := es.foldl playDoS s
def sumCost (cs : List Cost) : Cost := cs.foldl costSum cost0
def runCost (es : List Event) : Cost := sumCost (evCosts newStore es)

theorem evCosts_len : ∀ (es : List Event) (s : Store), (evCosts s es).length = es.length
  | [], _ => rfl
  | _ :: es, s => by simp [evCosts, evCosts_len es]
theorem evCosts_take : ∀ (es : List Event) (s : Store) (k : Nat) (hk : k < es.length), (evCosts s es).take (k + 1) = (evCosts s es).take k ++ [evCost (evStore s (es.take k)) es[k]]
  | [], _, _, hk => by simp at hk
  | e :: es, s, 0, _ => by simp [evCosts, evStore]
  | e :: es, s, k + 1, hk => by
    have := evCosts_take es (playDoS s e) k (by simpa using hk)
    simp only [evCosts, List.take_succ_cons, List.cons_append, List.cons.injEq, true_and, List.getElem_cons_succ] at this ⊢
    rw [this]; rfl
theorem evStore_take (s : Store) (es : List Event) (k : Nat) (hk : k < es.length) : evStore s (es.take (k + 1)) = playDoS (evStore s (es.take k)) es[k] := by
  unfold evStore
  rw [List.take_succ_eq_append_getElem hk, List.foldl_append]; rfl

theorem Sl.at5 {D : Nat → Prop} {w : World} {a : Option Addr} {len cap : Nat} {xs : List Event} (h : Events D w (.slice a len cap) xs) {k : Nat} (hk : k < xs.length) :
    ∃ b o, a = some ⟨b, o, none⟩ ∧ D b ∧ w.cell? ⟨b, o + k * 5, none⟩ = some (.int .i64 xs[k].kind) ∧ w.cell? ⟨b, o + k * 5 + 1, none⟩ = some (.int .i64 xs[k].a) ∧ w.cell? ⟨b, o + k * 5 + 2, none⟩ = some (.int .i64 xs[k].b) ∧
      w.cell? ⟨b, o + k * 5 + 3, none⟩ = some (.int .i64 xs[k].c) ∧ w.cell? ⟨b, o + k * 5 + 4, none⟩ = some (.bool xs[k].torn) := by
  obtain ⟨b, o, ha, hb, hc⟩ := Sl.at h hk
  exact ⟨b, o, ha, hb, by simpa using hc 0 _ rfl, hc 1 _ rfl, hc 2 _ rfl, hc 3 _ rfl, hc 4 _ rfl⟩

theorem sumCost_bound : ∀ (cs : List Cost) (c : Cost) (n : Int), costBound c n → (∀ x ∈ cs, costBound x 42) → costBound (cs.foldl costSum c) (n + 42 * cs.length)
  | [], c, n, h, _ => by simpa using h
  | x :: cs, c, n, h, hx => by
    have h1 := hx x (by simp)
    have := sumCost_bound cs (costSum c x) (n + 42) (by unfold costBound costSum at *; dsimp only; omega) fun y hy => hx y (by simp [hy])
    rw [List.foldl_cons, List.length_cons]
    have e : n + 42 * (((cs.length + 1 : Nat)) : Int) = n + 42 + 42 * cs.length := by push_cast; omega
    rw [e]; exact this
theorem costOk_of {c : Cost} {n : Int} (h : costBound c n) (hn : n ≤ 9999) : costOkB c = true := by
  obtain ⟨h1, h2, h3, h4, h5, h6⟩ := h
  unfold costOkB
  simp only [Bool.and_eq_true, inB_iff]
  omega
theorem evStore_ok : ∀ (es : List Event) (s : Store), storeOkB s = true → storeOkB (evStore s es) = true
  | [], _, h => h
  | e :: es, s, h => evStore_ok es (playDoS s e) (storeOk_play h e)
theorem evCosts_bound {es : List Event} {n : Nat} (h : ∀ k (hk : k < es.length), k < n → costBound (evCost (evStore newStore (es.take k)) es[k]) 42) : ∀ x ∈ evCosts newStore (es.take n), costBound x 42 := by
  induction n with
  | zero => intro x hx; simp [evCosts] at hx
  | succ n ih =>
    intro x hx
    by_cases hn : n < es.length
    · have e := evCosts_take es newStore n hn
      have e2 : evCosts newStore (es.take (n + 1)) = (evCosts newStore es).take (n + 1) := by
        clear ih hx h e
        have : ∀ (es : List Event) (s : Store) (m : Nat), evCosts s (es.take m) = (evCosts s es).take m := by
          intro es
          induction es with
          | nil => intro s m; simp [evCosts]
          | cons e es ih => intro s m; cases m with
            | zero => simp [evCosts]
            | succ m => simp only [List.take_succ_cons, evCosts, ih]
        exact this es newStore (n + 1)
      have e3 : evCosts newStore (es.take n) = (evCosts newStore es).take n := by
        have : ∀ (es : List Event) (s : Store) (m : Nat), evCosts s (es.take m) = (evCosts s es).take m := by
          intro es
          induction es with
          | nil => intro s m; simp [evCosts]
          | cons e es ih => intro s m; cases m with
            | zero => simp [evCosts]
            | succ m => simp only [List.take_succ_cons, evCosts, ih]
        exact this es newStore n
      rw [e2, e, ← e3] at hx
      rcases List.mem_append.1 hx with hx | hx
      · exact ih (fun k hk hkn => h k hk (by omega)) x hx
      · obtain rfl := List.mem_singleton.1 hx
        exact h n hn (by omega)
    · rw [List.take_of_length_le (by omega)] at hx
      refine ih (fun k hk hkn => h k hk (by omega)) x ?_
      rwa [List.take_of_length_le (by omega)]
theorem evCosts_of_take (es : List Event) (s : Store) (m : Nat) : evCosts s (es.take m) = (evCosts s es).take m := by
  induction es generalizing s m with
  | nil => simp [evCosts]
  | cons e es ih => cases m with
    | zero => simp [evCosts]
    | succ m => simp only [List.take_succ_cons, evCosts, ih]

/-- the costs that a channel holds -/
def chanOf (cs : List Cost) : Array Value := (cs.map fun c => costA c).toArray
theorem chanOf_push (cs : List Cost) (c : Cost) : (chanOf cs).push (costA c) = chanOf (cs ++ [c]) := by unfold chanOf; simp
theorem chanOf_drop (cs : List Cost) (k : Nat) : (chanOf (cs.drop k)).extract 1 (chanOf (cs.drop k)).size = chanOf (cs.drop (k + 1)) := by
  unfold chanOf
  rw [← Array.toList_inj]
  simp [List.map_drop, List.drop_drop, Nat.add_comm]
  rw [List.take_of_length_le (by simp; omega)]
theorem chanOf_get (cs : List Cost) (k : Nat) (hk : k < cs.length) : (chanOf (cs.drop k)).getD 0 undef = costA cs[k] := by
  unfold chanOf
  rw [List.drop_eq_getElem_cons hk]; simp [List.getElem?_eq_getElem hk]
theorem sets3 {w : World} {B : Nat} {c : Cost} {T : TypeId} (h : w.heap[B]? = some (.cells (costC c).toArray T (0, 0))) (d : Cost) : ∃ w', (((w.setCell ⟨B, 0, none⟩ (.int .i64 d.writes)).setCell ⟨B, 1, none⟩ (.int .i64 d.wipes)).setCell ⟨B, 2, none⟩ (.int .i64 d.disks)) = w' ∧ w'.heap[B]? = some (.cells (costC d).toArray T (0, 0)) ∧ Chg [B] w w' :=
  ⟨_, rfl, hgo (hg_here (hg_here (hg_here h))) rfl, (((Chg.refl _ _).set (p := ⟨B, 0, none⟩) (.inl (by simp)) _).set (p := ⟨B, 1, none⟩) (.inl (by simp)) _).set (p := ⟨B, 2, none⟩) (.inl (by simp)) _⟩
theorem setsS {w : World} {B : Nat} {f d : Value} {T : TypeId} (h : w.heap[B]? = some (.cells #[f, d] T (0, 0))) (f' d' : Value) : ∃ w', (w.setCell ⟨B, 0, none⟩ f').setCell ⟨B, 1, none⟩ d' = w' ∧ w'.heap[B]? = some (.cells #[f', d'] T (0, 0)) ∧ Chg [B] w w' :=
  ⟨_, rfl, hgo (hg_here (hg_here h)) rfl, ((Chg.refl _ _).set (p := ⟨B, 0, none⟩) (.inl (by simp)) _).set (p := ⟨B, 1, none⟩) (.inl (by simp)) _⟩
/-- how much a channel holds -/
def chanLen (c : Nat) (w : World) : Nat := match w.heap[c]? with | some (.chan _ buf _ _ _ _) => buf.size | _ => 0
theorem chanLen_eq {c cap s r : Nat} {w : World} {buf : Array Value} {cl tm : Bool} (h : w.heap[c]? = some (.chan cap buf cl s r tm)) : chanLen c w = buf.size := by unfold chanLen; rw [h]
theorem chan_chg {P : Program} (w : World) (c cap : Nat) (buf : Array Value) (cl : Bool) (s r : Nat) (tm : Bool) : Chg [c] w (w.setChan c cap buf cl s r tm) :=
  ⟨rfl, rfl, rfl, by rw [Go.Conc.size_setChan]; exact Nat.le_refl _, fun k hk hn => by simp only [World.setChan]; rw [Array.getElem?_setIfInBounds_ne (by simp at hn; omega)]⟩

def CostInv (w : World) (p5 : Nat) (v : Value) (xs : List Event) (ac : Act) (wr : World) : Prop := ∃ (k : Nat) (y1 y6 y7 y8 y9 y10 y11 y12 y13 y14 y15 y16 y17 y21 y22 y23 y24 y25 y26 y27 y28 y29 y30 y31 y32 y33 y34 y35 y36 y37 y38 y39 y40 y41 y42 y43 f d : Value) (L : List Nat), ac = ⟨#[v, y1, .pointer (some ⟨w.heap.size, 0, none⟩), .bool false, .chan (some (w.heap.size + 1)), .pointer (some ⟨p5, 0, none⟩), y6, y7, y8, y9, y10, y11, y12, y13, y14, y15, y16, y17, v, .int .i64 xs.length, .int .i64 k, y21, y22, y23, y24, y25, y26, y27, y28, y29, y30, y31, y32, y33, y34, y35, y36, y37, y38, y39, y40, y41, y42, y43], []⟩ ∧ k ≤ xs.length ∧ Ext w wr ∧ wr.heap[w.heap.size + 1]? = some (.chan 60 (chanOf ((evCosts newStore xs).take k)) false k 0 false) ∧ wr.heap[p5]? = some (.cells #[f, d] 41 (0, 0)) ∧ OwnStore wr f d (evStore newStore (xs.take k)) L ∧ (∀ x ∈ L, w.heap.size + 1 < x ∧ x ≠ p5) ∧ wr.heap[w.heap.size]? = some (.cells #[.int .i64 0, .int .i64 0, .int .i64 0] 26 (0, 0)) ∧ (∀ j (hj : j < xs.length), j < k → costBound (evCost (evStore newStore (xs.take j)) xs[j]) 42)

def CostInv2 (w : World) (b10 : Nat) (cs : List Cost) (ac : Act) (wr : World) : Prop := ∃ (j : Nat) (y0 y1 y3 y5 y6 y7 y8 y9 y11 y12 y13 y14 y15 y16 y17 y18 y19 y20 y21 y22 y23 y24 y25 y26 y27 y28 y29 y30 y31 y32 y33 y34 y35 y37 y38 y39 y40 y41 y42 y43 : Value), ac = ⟨#[y0, y1, .pointer (some ⟨w.heap.size, 0, none⟩), y3, .chan (some (w.heap.size + 1)), y5, y6, y7, y8, y9, .pointer (some ⟨b10, 0, none⟩), y11, y12, y13, y14, y15, y16, y17, y18, y19, y20, y21, y22, y23, y24, y25, y26, y27, y28, y29, y30, y31, y32, y33, y34, y35, .chan (some (w.heap.size + 1)), y37, y38, y39, y40, y41, y42, y43], []⟩ ∧ j ≤ cs.length ∧ Ext w wr ∧ wr.heap[w.heap.size + 1]? = some (.chan 60 (chanOf (cs.drop j)) true cs.length j false) ∧ wr.heap[b10]? = some (.cells (costC (sumCost (cs.take j))).toArray 26 (0, 0)) ∧ wr.heap[w.heap.size]? = some (.cells #[.int .i64 0, .int .i64 0, .int .i64 0] 26 (0, 0))

set_option maxRecDepth 20000 in
set_option maxHeartbeats 4000000 in
theorem implCostRun_c (v : Value) (xs : List Event) (w : World) (h : Events (Old w) w v xs) (hc : ∀ e ∈ xs, -9223372036854775808 ≤ e.c ∧ e.c ≤ 9223372036854775807) (hn : xs.length ≤ 1048576) :
    Calls Try.prog 11 #[v] w (Ret w (.tuple #[costA (if xs.length ≤ 60 then runCost xs else cost0), .bool (decide (xs.length ≤ 60))])) := by
  obtain ⟨a, cap, rfl⟩ := h.form
  have hmk : ∀ w : World, (Instr.makeChan 53 (.int .i64 60)).run Try.prog w = .ok (.chan (some w.heap.size)) (w.alloc (.chan 60 #[] false 0 0 false)) := fun w => by kernel_rfl
  refine calls_of_wpN Try.func11 rfl ?_
  simp only [Try.ntmps11, List.size_toArray, List.length_cons, List.length_nil, Nat.reduceAdd, Nat.reduceSub, Array.replicate_succ, Array.replicate_zero, List.push_toArray, List.append_toArray, List.nil_append, List.cons_append]
  by_cases h60 : xs.length ≤ 60
  · rw [if_pos h60, decide_eq_true h60]
    refine WpN.seq fun K hK => ?_
    go_wp2_with fail
    refine WpN.seq fun K hK => ?_
    go_wp2_with fail
    refine WpN.seq fun K hK => ?_
    go_wp2_with fail
    refine WpN.seq fun K hK => ?_
    go_wp2_with fail
    refine (implStoreNew_c _).mono ?_; rintro e1 w1 ⟨f, d, L, rfl, hx1, hO1, hn1, hb1⟩
    obtain ⟨b1, m1, c1, b2, m2, c2, rfl, rfl⟩ := hO1.forms
    have X1 : Ext w w1 := ext_trans (ext_alloc (ext_alloc (ext_refl w) _) _) hx1
    have s1 := hx1.size
    simp at s1
    have G2 : w1.heap[w.heap.size]? = some (.cells #[.int .i64 0, .int .i64 0, .int .i64 0] 26 (0, 0)) := keep_ext hx1 (hg_alloc (hg_new rfl))
    have GC : w1.heap[w.heap.size + 1]? = some (.chan 60 #[] false 0 0 false) := keep_ext hx1 (hg_new (by simp))
    go_wp2_with fail
    refine WpN.seqK fun K hK => ?_
    refine WpN.seq fun K2 hK2 => ?_
    go_wp2_with fail
    refine WpN.block ?_
    refine WpN.loop (CostInv w w1.heap.size (.slice a xs.length cap) xs) (fun ac _ => xs.length - (intOf (ac.eval (.tmp 20))).toNat) ?_ ?_
    · refine ⟨0, _, _, _, _, _, _, _, _, _, _, _, _, _, _, _, _, _, _, _, _, _, _, _, _, _, _, _, _, _, _, _, _, _, _, _, _, _, _, L, rfl, by omega, ext_alloc X1 _, hg_alloc (by simpa [chanOf] using GC), hg_new rfl, (by simpa [evStore] using hO1.ext (ext_alloc (ext_refl _) _)), fun x hx => ?_, hg_alloc G2, fun j hj h0 => by omega⟩
      have := hb1 x hx
      have := hO1.lt x hx
      simp at *
      omega
    intro ac wr hI
    clear hO1 hn1 hb1 G2 GC hx1
    obtain ⟨k, y1, y6, y7, y8, y9, y10, y11, y12, y13, y14, y15, y16, y17, y21, y22, y23, y24, y25, y26, y27, y28, y29, y30, y31, y32, y33, y34, y35, y36, y37, y38, y39, y40, y41, y42, y43, f, d, L', rfl, hk, X, GC, G5, hO, hL, G2, hB⟩ := hI
    by_cases hlt : k < xs.length
    · have hok := evStore_ok (xs.take k) newStore storeOk_new
      have hev := hc _ (List.getElem_mem hlt)
      obtain ⟨eb, eo, rfl, hbe, q0, q1, q2, q3, q4⟩ := (h.ext X).at5 hlt
      obtain ⟨b1, m1, c1, b2, m2, c2, rfl, rfl⟩ := hO.forms
      have hPB := fun (w' : World) (hx : Ext wr w') => playBegun_c _ _ _ xs[k] w' ⟨(hO.ext hx).flash, (hO.ext hx).disk⟩ hok hev
      obtain ⟨g5, gf5⟩ := cellsK G5
      have l5 := heap_lt G5
      have HB := Lib.hid hB
      have HL := Lib.hid hL
      have ET := Lib.hid (evStore_take newStore xs k hlt)
      have CT := Lib.hid (evCosts_take xs newStore k hlt)
      have hcl : ((evCosts newStore xs).take k).length = k := by rw [List.length_take, evCosts_len]; omega
      have HCL := Lib.hid hcl
      clear hB hL hcl
      refine WpN.seq fun K3 hK3 => ?_
      go_wp2_with fail
      refine WpN.seq fun K3 hK3 => ?_
      go_wp2_with fail
      refine WpN.seqK fun K3 hK3 => ?_
      refine WpN.block ?_
      refine WpN.seq fun K4 hK4 => ?_
      go_wp2_with fail
      refine WpN.seq fun K4 hK4 => ?_
      go_wp2_with fail
      refine (hPB _ (ext_alloc (ext_refl _) _)).mono ?_; rintro e2 w2 ⟨f2, d2, L2, v2, rfl, hx2, hO2, hn2, hb2, hS2, hl2⟩
      obtain ⟨b3, m3, c3, b4, m4, c4, rfl, rfl⟩ := hO2.forms
      obtain ⟨av, cv, rfl⟩ := hS2.form
      have X2r : Ext wr w2 := ext_trans (ext_alloc (ext_refl wr) _) hx2
      replace GC := keep_ext X2r GC
      replace G5 := keep_ext X2r G5
      replace G2 := keep_ext X2r G2
      have X2 := ext_trans X X2r
      have s2 := hx2.size
      simp at s2
      have lC := heap_lt GC
      have hb2' : ∀ x ∈ L2, wr.heap.size < x ∧ x < w2.heap.size := fun x hx => ⟨by have := hb2 x hx; simp at this; omega, hO2.lt x hx⟩
      have HB2 := Lib.hid hb2'
      have HO2 := Lib.hid hO2
      have HS2 := Lib.hid hS2
      clear hb2 hb2' hO2 hS2 hx2 g5 gf5 hPB hO q0 q1 q2 q3 q4 X2r X
      go_wp2_with fail
      refine WpN.seqK fun K4 hK4 => ?_
      refine WpN.region ?_
      simp only [List.size_toArray, List.length_cons, List.length_nil, Nat.reduceAdd, List.range, List.range.loop]
      refine OpsN.val (v := ?_) (w' := ?_) rfl rfl ?_ ?_; rotate_left 2
      · go_simp; (repeat' apply And.intro) <;> rfl
      simp only [Act.put, List.setIfInBounds_toArray, List.set_cons_succ, List.set_cons_zero]
      refine OpsN.val (v := ?_) (w' := ?_) rfl rfl ?_ ?_; rotate_left 2
      · go_simp; (repeat' apply And.intro) <;> rfl
      simp only [Act.put, List.setIfInBounds_toArray, List.set_cons_succ, List.set_cons_zero]
      refine OpsN.call (f := ?_) (args := ?_) (w' := ?_) rfl rfl ?_ ?_; rotate_left 3
      · go_simp; (repeat' apply And.intro) <;> rfl
      refine (implCostOf_c _ _ _ (HS2.out.ext (ext_alloc (ext_refl _) _)) (by omega)).mono ?_; rintro e3 w3 ⟨rfl, hx3⟩
      refine ⟨_, rfl, ?_⟩
      simp only [Act.put, List.setIfInBounds_toArray, List.set_cons_succ, List.set_cons_zero]
      have X23 : Ext w2 w3 := ext_trans (ext_alloc (ext_refl w2) _) hx3
      have G8 := keep_ext hx3 (hg_new (w := w2) (b := w2.heap.size) rfl)
      have X3 := ext_trans X2 X23
      replace GC := keep_ext X23 GC
      replace G5 := keep_ext X23 G5
      replace G2 := keep_ext X23 G2
      have lC := heap_lt GC
      refine OpsN.send (c := w.heap.size + 1) (v := costA (costOf (begunS (evStore newStore (xs.take k)) xs[k]))) (z := .tuple #[]) rfl rfl (by simp [execOp, Go.Conc.scase, Act.eval]) GC (by unfold chanOf; simp; have := HCL.out; omega) ?_
      refine OpsN.nil ?_
      rw [chanOf_push]
      have hBd := costOf_bound (begunS (evStore newStore (xs.take k)) xs[k])
      have CC := chan_chg (P := Try.prog) w3 (w.heap.size + 1) 60 (chanOf ((evCosts newStore xs).take k ++ [costOf (begunS (evStore newStore (xs.take k)) xs[k])])) false (k + 1) 0 false
      have GC4 := Go.Conc.heap_setChan w3 (w.heap.size + 1) 60 (chanOf ((evCosts newStore xs).take k ++ [costOf (begunS (evStore newStore (xs.take k)) xs[k])])) false (k + 1) 0 false lC
      have X4 := CC.ext X3 (by simp)
      replace G5 := CC.keep G5 (by simp <;> omega)
      replace G8 := CC.keep G8 (by simp <;> omega)
      replace G2 := CC.keep G2 (by simp <;> omega)
      have HO4 := Lib.hid ((HO2.out.ext X23).chg CC fun x hm hx => by have := HB2.out x hm; simp at hx; omega)
      clear CC GC
      generalize w3.setChan (w.heap.size + 1) 60 (chanOf ((evCosts newStore xs).take k ++ [costOf (begunS (evStore newStore (xs.take k)) xs[k])])) false (k + 1) 0 false = w4 at *
      obtain ⟨g5, gf5⟩ := cellsK G5
      obtain ⟨g8, gf8⟩ := cellsK G8
      refine hK4 _ _ ?_
      obtain ⟨w5, hw5, G55, C5⟩ := setsS G5 (.slice b3 m3 c3) (.slice b4 m4 c4)
      refine WpN.of ?_
      go_wp2_with fail
      try rw [hw5]
      have hlt5 := heap_lt G5
      clear g5 gf5 g8 gf8 hw5
      have X5 := C5.ext X4 (by simp; omega)
      replace GC4 := C5.keep GC4 (by simp; omega)
      replace G2 := C5.keep G2 (by simp; omega)
      have HO5 := HO4.out.chg C5 fun x hm hx => by have := HB2.out x hm; simp at hx; omega
      refine WpN.of ?_
      go_wp2_with fail
      refine ⟨⟨k + 1, _, _, _, _, _, _, _, _, _, _, _, _, _, _, _, _, _, _, _, _, _, _, _, _, _, _, _, _, _, _, _, _, _, _, _, _, _, _, L2, by go_num, by omega, X5, ?_, G55, ?_, fun x hx => ?_, G2, fun j hj hjk => ?_⟩, by simp [intOf, Act.eval] <;> omega⟩
      · rw [CT.out]; exact GC4
      · rw [ET.out]; exact HO5
      · have := HB2.out x hx; omega
      · by_cases hjk2 : j < k
        · exact HB.out j hj hjk2
        · obtain rfl : j = k := by omega
          unfold evCost costBound at *
          omega
    · obtain rfl : k = xs.length := by omega
      have hlen := evCosts_len xs newStore
      rw [List.take_of_length_le (by rw [hlen]; exact Nat.le_refl _)] at GC
      have hBA := evCosts_bound (n := xs.length) hB
      rw [List.take_length] at hBA
      obtain ⟨cs, hcs⟩ : ∃ cs, evCosts newStore xs = cs := ⟨_, rfl⟩
      have HR : Hid (runCost xs = sumCost cs) := Lib.hid (by unfold runCost; rw [hcs])
      rw [hcs] at GC hBA hlen
      have HBA := Lib.hid hBA
      have lC := heap_lt GC
      clear hB hL hO G5 hBA hcs hc h
      refine WpN.seq fun K3 hK3 => ?_
      go_wp2_with fail
      refine WpN.seq fun K3 hK3 => ?_
      go_wp2_with fail
      have hcl := fun ats ty => Go.run_close_open (P := Try.prog) (w := wr) ats ty GC
      refine WpN.seq fun K3 hK3 => ?_
      go_wp2_with fail
      clear hcl
      change WpN _ _ _ _ (wr.setChan (w.heap.size + 1) 60 (chanOf cs) true xs.length 0 false)
      have CC := chan_chg (P := Try.prog) wr (w.heap.size + 1) 60 (chanOf cs) true xs.length 0 false
      have GC4 := Go.Conc.heap_setChan wr (w.heap.size + 1) 60 (chanOf cs) true xs.length 0 false lC
      have X6 := CC.ext X (by simp)
      replace G2 := CC.keep G2 (by simp <;> omega)
      clear CC GC X
      generalize wr.setChan (w.heap.size + 1) 60 (chanOf cs) true xs.length 0 false = w6 at *
      have l6 := heap_lt GC4
      refine WpN.seq fun K3 hK3 => ?_
      go_wp2_with fail
      refine WpN.seqK fun K3 hK3 => ?_
      refine WpN.seq fun K4 hK4 => ?_
      go_wp2_with fail
      refine WpN.block ?_
      refine WpN.loop (CostInv2 w w6.heap.size cs) (fun _ wr => chanLen (w.heap.size + 1) wr) ?_ ?_
      · refine ⟨0, _, _, _, _, _, _, _, _, _, _, _, _, _, _, _, _, _, _, _, _, _, _, _, _, _, _, _, _, _, _, _, _, _, _, _, _, _, _, _, _, rfl, by omega, ext_alloc X6 _, by simpa [hlen] using hg_alloc GC4, hg_new rfl, hg_alloc G2⟩
      clear G2 GC4 X6
      intro ac wr2 hI
      obtain ⟨j, y0, y1, y3, y5, y6, y7, y8, y9, y11, y12, y13, y14, y15, y16, y17, y18, y19, y20, y21, y22, y23, y24, y25, y26, y27, y28, y29, y30, y31, y32, y33, y34, y35, y37, y38, y39, y40, y41, y42, y43, rfl, hj, X, GC, G10, G2⟩ := hI
      rw [hlen] at GC
      have lC := heap_lt GC
      by_cases hlt : j < cs.length
      · refine WpN.seqK fun K4 hK4 => ?_
        refine WpN.region ?_
        simp only [List.size_toArray, List.length_cons, List.length_nil, Nat.reduceAdd, List.range, List.range.loop]
        refine OpsN.recv (c := w.heap.size + 1) (z := costA cost0) rfl rfl (by simp [go_sem, Go.Conc.rcase]; exact ⟨rfl, rfl, rfl⟩) GC (by unfold chanOf; simp; omega) ?_
        rw [chanOf_get cs j hlt, chanOf_drop]
        simp only [Act.put, List.setIfInBounds_toArray, List.set_cons_succ, List.set_cons_zero, List.getElem_toArray, List.getElem_cons_succ, List.getElem_cons_zero]
        refine OpsN.val (v := ?_) (w' := ?_) rfl rfl ?_ ?_; rotate_left 2
        · go_simp; (repeat' apply And.intro) <;> rfl
        simp only [Act.put, List.setIfInBounds_toArray, List.set_cons_succ, List.set_cons_zero, List.getElem_toArray, List.getElem_cons_succ, List.getElem_cons_zero]
        refine OpsN.nil ?_
        have CC := chan_chg (P := Try.prog) wr2 (w.heap.size + 1) 60 (chanOf (cs.drop (j + 1))) true xs.length (j + 1) false
        have GC4 := Go.Conc.heap_setChan wr2 (w.heap.size + 1) 60 (chanOf (cs.drop (j + 1))) true xs.length (j + 1) false lC
        have X7 := CC.ext X (by simp)
        replace G2 := CC.keep G2 (by simp <;> omega)
        replace G10 := CC.keep G10 (by simp <;> omega)
        clear CC X
        have hml : chanLen (w.heap.size + 1) wr2 = cs.length - j := by rw [chanLen_eq GC]; unfold chanOf; simp
        clear GC
        generalize wr2.setChan (w.heap.size + 1) 60 (chanOf (cs.drop (j + 1))) true xs.length (j + 1) false = w7 at *
        have hbj := HBA.out _ (List.getElem_mem hlt)
        have hbs : costBound (sumCost (cs.take j)) (42 * j) := by
          have := sumCost_bound (cs.take j) cost0 0 (by unfold costBound cost0; decide) fun x hx => HBA.out x (List.mem_of_mem_take hx)
          rw [List.length_take, Nat.min_eq_left (by omega), Int.zero_add] at this
          exact this
        have HST : Hid (sumCost (cs.take (j + 1)) = costSum (sumCost (cs.take j)) cs[j]) := Lib.hid (by
          unfold sumCost; rw [List.take_succ_eq_append_getElem hlt, List.foldl_append]; rfl)
        obtain ⟨sj, hsj⟩ : ∃ c, sumCost (cs.take j) = c := ⟨_, rfl⟩
        obtain ⟨cj, hcj⟩ : ∃ c, cs[j] = c := ⟨_, rfl⟩
        rw [hsj] at hbs G10 HST
        rw [hcj] at hbj HST ⊢
        have HAD : Hid (costAdd sj cj = costSum sj cj) := Lib.hid (by unfold costAdd; rw [costOk_of hbs (by omega), costOk_of hbj (by omega)]; rfl)
        have HB2 := Lib.hid (And.intro hbs hbj)
        clear hsj hcj hbs hbj
        obtain ⟨p0, p1, p2, pf⟩ := cells3 G10
        have l10 := heap_lt G10
        refine hK4 _ _ ?_
        refine WpN.seq fun K5 hK5 => ?_
        go_wp2_with fail
        refine WpN.of ?_
        go_wp2_with fail
        refine (implCostAdd_c sj cj _).mono ?_; rintro e8 w8 ⟨rfl, hx8⟩
        rw [HAD.out]
        have Xa : Ext w7 w8 := ext_trans (ext_alloc (ext_refl w7) _) hx8
        replace G10 := keep_ext Xa G10
        replace GC4 := keep_ext Xa GC4
        replace G2 := keep_ext Xa G2
        replace X7 := ext_trans X7 Xa
        clear p0 p1 p2 pf hx8 Xa
        obtain ⟨w9, hw9, G109, C9⟩ := sets3 G10 (costSum sj cj)
        obtain ⟨p0, p1, p2, pf⟩ := cells3 G10
        have l10 := heap_lt G10
        have HML := Lib.hid hml
        clear hml
        go_wp2_with fail
        try rw [hw9]
        have X9 := C9.ext X7 (by simp; omega)
        replace GC4 := C9.keep GC4 (by simp; omega)
        replace G2 := C9.keep G2 (by simp; omega)
        refine ⟨⟨j + 1, _, _, _, _, _, _, _, _, _, _, _, _, _, _, _, _, _, _, _, _, _, _, _, _, _, _, _, _, _, _, _, _, _, _, _, _, _, _, _, _, rfl, by omega, X9, by simpa [hlen] using GC4, by rw [HST.out]; exact G109, G2⟩, ?_⟩
        rw [chanLen_eq GC4, HML.out]
        unfold chanOf
        simp
        omega
      · obtain rfl : j = cs.length := by omega
        rw [List.drop_length] at GC
        rw [List.take_length] at G10
        refine WpN.seqK fun K4 hK4 => ?_
        refine WpN.region ?_
        simp only [List.size_toArray, List.length_cons, List.length_nil, Nat.reduceAdd, List.range, List.range.loop]
        refine OpsN.recvShut (c := w.heap.size + 1) (z := costA cost0) rfl rfl (by simp [go_sem, Go.Conc.rcase]; exact ⟨rfl, rfl, rfl⟩) (show _ = some (Obj.chan 60 #[] true xs.length cs.length false) from GC) ?_
        simp only [Act.put, List.setIfInBounds_toArray, List.set_cons_succ, List.set_cons_zero, List.getElem_toArray, List.getElem_cons_succ, List.getElem_cons_zero]
        refine OpsN.val (v := ?_) (w' := ?_) rfl rfl ?_ ?_; rotate_left 2
        · go_simp; (repeat' apply And.intro) <;> rfl
        simp only [Act.put, List.setIfInBounds_toArray, List.set_cons_succ, List.set_cons_zero, List.getElem_toArray, List.getElem_cons_succ, List.getElem_cons_zero]
        refine OpsN.nil ?_
        obtain ⟨sj, hsj⟩ : ∃ c, sumCost cs = c := ⟨_, rfl⟩
        have HRS : Hid (runCost xs = sj) := Lib.hid (by rw [HR.out, hsj])
        rw [hsj] at G10
        obtain ⟨w9, hw9, G29, C9⟩ := sets3 (c := cost0) G2 sj
        obtain ⟨p0, p1, p2, pf⟩ := cells3 G10
        have l10 := heap_lt G10
        obtain ⟨q, qf⟩ := cellsK G2
        have l2 := heap_lt G2
        clear hsj HR HBA
        have X9 := C9.ext X (by simp)
        refine hK4 _ _ ?_
        refine WpN.seq fun K5 hK5 => ?_
        go_wp2_with fail
        refine WpN.of ?_
        go_wp2_with fail
        try rw [hw9]
        obtain ⟨t0, t1, t2, tf⟩ := cells3 G29
        exact bodyPost_ret (v := .tuple #[costA sj, .bool true]) (by simp [results, Try.results11, go_sem, t0, t1, t2, tf]) rfl ⟨by rw [HRS.out], X9⟩
  · rw [if_neg h60, decide_eq_false h60]
    refine WpN.of ?_
    go_wp2_with fail
    obtain ⟨q, qf⟩ := cellsK (hg_new (w := w) (x := .cells #[.int .i64 0, .int .i64 0, .int .i64 0] 26) (b := w.heap.size) rfl)
    exact bodyPost_ret (v := .tuple #[costA cost0, .bool false]) (by simp [results, Try.results11, go_sem, q, qf, cost0]) rfl ⟨rfl, ext_alloc (ext_refl _) _⟩
end Go.Bu

set_option linter.unusedVariables false
set_option linter.unusedSimpArgs false
namespace Go.Bu
open Go Go.RowKit Go.Plan Go.Proofs

/-- a reader from which K numbers may still be picked -/
def Rk (w : World) (R K : Nat) : Prop := ∃ bv xs p, Rd w R bv xs p ∧ p + K ≤ 1000000

theorem Rk.lt {w : World} {R K : Nat} (h : Rk w R K) : R < w.heap.size := by obtain ⟨bv, xs, p, h, _⟩ := h; exact h.lt
theorem Rk.ext {w w' : World} {R K : Nat} (h : Rk w R K) (hx : Ext w w') : Rk w' R K := by obtain ⟨bv, xs, p, h, hp⟩ := h; exact ⟨bv, xs, p, h.ext hx, hp⟩
theorem Rk.less {w : World} {R K K' : Nat} (h : Rk w R K) (hk : K' ≤ K) : Rk w R K' := by obtain ⟨bv, xs, p, h, hp⟩ := h; exact ⟨bv, xs, p, h, by omega⟩
theorem Rk.set2 {w : World} {R K : Nat} {a : Addr} {u : Value} (ha : R < a.block) (h : Rk w R K) : Rk (w.setCell a u) R K := by obtain ⟨bv, xs, p, h, hp⟩ := h; exact ⟨bv, xs, p, h.set ha u, hp⟩
theorem Rk.alloc2 {w : World} {R K : Nat} {o : Obj} (h : Rk w R K) : Rk (w.alloc o) R K := h.ext (ext_alloc (ext_refl _) _)
theorem Rk.chg {w w' : World} {R K : Nat} {L : List Nat} (h : Rk w R K) (hx : Chg L w w') (hL : ∀ b ∈ L, R < b) : Rk w' R K := by
  obtain ⟨bv, xs, p, h, hp⟩ := h
  have hk : ∀ b, b ≤ R → w'.heap[b]? = w.heap[b]? := fun b hb => hx.block b (Nat.lt_of_le_of_lt hb h.lt) fun hm => by have := hL b hm; omega
  exact ⟨bv, xs, p, ⟨by rw [hk R (Nat.le_refl _)]; exact h.cells, Sl.same (plain_kept _) h.bytes (fun b hb => hk b (Nat.le_of_lt hb)) (fun b hb => hb), h.small, h.len⟩, hp⟩

/-- a pick -/
def Pick (R K : Nat) (m : Int) (w : World) (e : Ending) (w' : World) : Prop := ∃ r : Int, e = .returned (.int .i64 r) ∧ 0 ≤ r ∧ (0 < m → r < m) ∧ Chg [R] w w' ∧ Rk w' R K
theorem pick_k (R : Nat) {K : Nat} (m : Int) (w : World) (h : Rk w R (K + 1)) (hm : m ≤ 1000 := by omega) : Calls Try.prog 43 #[.pointer (some ⟨R, 0, none⟩), .int .i64 m] w (Pick R K m w) := by
  obtain ⟨bv, xs, p, h, hp⟩ := h
  exact (pick_c R bv xs p m w h (by omega) (by omega)).mono fun e w' ⟨r, he, h0, h1, hc, hr⟩ => ⟨r, he, h0, h1, hc, bv, xs, p + 1, hr, by omega⟩

/-- what a draw leaves: a value of which something is known, the reader moved on -/
def DrawV (R K : Nat) (w : World) (Φ : Value → World → Prop) (e : Ending) (w' : World) : Prop := ∃ v, e = .returned v ∧ Chg [R] w w' ∧ Rk w' R K ∧ Φ v w'

theorem Chg.then_sets {L : List Nat} {w w1 w2 w3 : World} (h : Chg L w w1) (hc : Chg L w2 w3) (h2 : Chg L w w2) : Chg L w w3 := h2.trans hc

structure EventD (e : Event) : Prop where
  kind : 1 ≤ e.kind ∧ e.kind ≤ 4
  a : 1 ≤ e.a ∧ e.a ≤ 6
  b : 0 ≤ e.b ∧ e.b ≤ 9
  c : 0 ≤ e.c ∧ e.c ≤ 9

set_option maxHeartbeats 2000000 in
theorem l71Event_c (R K : Nat) (w : World) (h : Rk w R (K + 7)) :
    Calls Try.prog 45 #[.pointer (some ⟨R, 0, none⟩)] w (DrawV R K w fun v _ => ∃ e : Event, v = eventA e ∧ EventD e) := by
  have hR := h.lt
  have HK := h; clear h
  go_enter Try.func45, Try.ntmps45
  have C := Chg.refl [R] w
  go_wp2_with fail
  refine (pick_k R 6 _ (by ((repeat (first | (with_reducible apply Rk.set2; focus (dsimp only; omega)) | with_reducible apply Rk.alloc2)); with_reducible exact HK))).mono ?_; rintro e1 w1 ⟨r1, rfl, a1, b1, hC, HK1⟩
  replace C := C.then_sets hC (by ((repeat (first | with_reducible (refine Chg.set2 ?_ ?_); focus (exact Or.inr (by dsimp only; omega)) | with_reducible refine Chg.alloc2 ?_)); with_reducible exact C))
  have G2 := hC.keep (hg_new (b := w.heap.size) rfl) (by simp; omega)
  replace HK := HK1; clear HK1 hC
  go_wp2_with fail
  refine (pick_k R 10 _ (by ((repeat (first | (with_reducible apply Rk.set2; focus (dsimp only; omega)) | with_reducible apply Rk.alloc2)); with_reducible exact HK))).mono ?_; rintro e2 w2 ⟨r2, rfl, a2, b2, hC, HK1⟩
  replace C := C.then_sets hC (by ((repeat (first | with_reducible (refine Chg.set2 ?_ ?_); focus (exact Or.inr (by dsimp only; omega)) | with_reducible refine Chg.alloc2 ?_)); with_reducible exact C))
  replace G2 := hC.keep (by (repeat (first | with_reducible apply hg_here | (with_reducible apply hg_set; focus (dsimp only; omega)) | with_reducible apply hg_alloc)); with_reducible exact G2) (by simp; omega)
  replace HK := HK1; clear HK1 hC
  have l2 := heap_lt G2
  go_wp2_with fail
  refine (pick_k R 12 _ (by ((repeat (first | (with_reducible apply Rk.set2; focus (dsimp only; omega)) | with_reducible apply Rk.alloc2)); with_reducible exact HK))).mono ?_; rintro e3 w3 ⟨r3, rfl, a3, b3, hC, HK1⟩
  replace C := C.then_sets hC (by ((repeat (first | with_reducible (refine Chg.set2 ?_ ?_); focus (exact Or.inr (by dsimp only; omega)) | with_reducible refine Chg.alloc2 ?_)); with_reducible exact C))
  replace G2 := hC.keep (by (repeat (first | with_reducible apply hg_here | (with_reducible apply hg_set; focus (dsimp only; omega)) | with_reducible apply hg_alloc)); with_reducible exact G2) (by simp; omega)
  have G3 := hC.keep (hg_new (b := w2.heap.size) rfl) (by simp; omega)
  replace HK := HK1; clear HK1 hC
  have l2 := heap_lt G2; have l3 := heap_lt G3
  obtain ⟨g2, gf2⟩ := cellsK G2
  obtain ⟨g3, gf3⟩ := cellsK G3
  have m3 := b3 (by omega)
  go_wp2_with (go_at_call 43; ((with_reducible refine (pick_k R _ _ (by ((repeat (first | (with_reducible apply Rk.set2; focus (dsimp only; omega)) | with_reducible apply Rk.alloc2)); with_reducible exact HK))).mono ?_)); rintro e1 w1 ⟨r, rfl, hr0, hr1, hC, HK1⟩; replace C := C.then_sets hC (by ((repeat (first | with_reducible (refine Chg.set2 ?_ ?_); focus (exact Or.inr (by dsimp only; omega)) | with_reducible refine Chg.alloc2 ?_)); with_reducible exact C)); replace HK := HK1; clear HK1; replace G2 := hC.keep (b := w.heap.size) (by (repeat (first | with_reducible apply hg_here | (with_reducible apply hg_set; focus (dsimp only; omega)) | with_reducible apply hg_alloc)); with_reducible exact G2) (by simp; omega); (try clear g2 gf2); obtain ⟨g2, gf2⟩ := cellsK G2; have l2 := heap_lt G2; replace G3 := hC.keep (b := w2.heap.size) (by (repeat (first | with_reducible apply hg_here | (with_reducible apply hg_set; focus (dsimp only; omega)) | with_reducible apply hg_alloc)); with_reducible exact G3) (by simp; omega); (try clear g3 gf3); obtain ⟨g3, gf3⟩ := cellsK G3; have l3 := heap_lt G3; clear hC)
  all_goals
    try simp only [beq_iff_eq, Bool.not_eq_true, beq_eq_false_iff_ne, ne_eq, bne_iff_ne, bne_eq_false_iff_eq, decide_eq_true_eq, decide_eq_false_iff_not] at *
    refine bodyPost_ret (by simp [results, Try.results45, go_sem, g2, gf2, g3, gf3]; exact ⟨rfl, rfl, rfl, rfl, rfl⟩) rfl ⟨_, rfl, (by ((repeat (first | with_reducible (refine Chg.set2 ?_ ?_); focus (exact Or.inr (by dsimp only; omega)) | with_reducible refine Chg.alloc2 ?_)); with_reducible exact C)), Rk.less (by ((repeat (first | (with_reducible apply Rk.set2; focus (dsimp only; omega)) | with_reducible apply Rk.alloc2)); with_reducible exact HK)) (by omega), ⟨_, _, _, _, _⟩, rfl, ⟨by dsimp only; omega, by dsimp only; omega, by dsimp only; omega, by dsimp only; omega⟩⟩
end Go.Bu

set_option linter.unusedVariables false
set_option linter.unusedSimpArgs false
namespace Go.Bu
open Go Go.RowKit Go.Plan Go.Proofs

/-- events in a row that was made since base -/
abbrev ERow (base : Nat) (w : World) (v : Value) (xs : List Event) : Prop := w.ownsRow base 31 5 v xs.length (xs.flatMap eventC)

theorem ERow.nil (base : Nat) (w : World) : ERow base w (.slice none 0 0) [] := ⟨rfl, .inl ⟨rfl, rfl⟩⟩
theorem ERow.empty {base : Nat} {w : World} {B : Nat} (h : w.heap[B]? = some (.cells #[] 31 (0, 0))) (hb : base ≤ B) : ERow base w (.slice (some ⟨B, 0, none⟩) 0 0) [] := ⟨rfl, .inr ⟨B, 0, #[], rfl, hb, h, Nat.le_refl _, by simp, rfl, rfl⟩⟩
theorem ERow.one {base : Nat} {w : World} {B : Nat} {y : Event} (h : w.heap[B]? = some (.cells (eventC y).toArray 31 (0, 0))) (hb : base ≤ B) : ERow base w (.slice (some ⟨B, 0, none⟩) 1 1) [y] :=
  ⟨rfl, .inr ⟨B, 1, _, rfl, hb, h, Nat.le_refl _, by simp [maxLen], rfl, rfl⟩⟩
theorem ERow.ext {base : Nat} {w w' : World} {v : Value} {xs : List Event} (h : ERow base w v xs) (hx : Ext w w') : ERow base w' v xs := ownsRow_ext h hx
theorem ERow.form {base : Nat} {w : World} {v : Value} {xs : List Event} (h : ERow base w v xs) : ∃ a cap, v = .slice a xs.length cap := by
  obtain ⟨_, h2⟩ := h
  rcases h2 with ⟨rfl, h0⟩ | ⟨g, cap, cur, rfl, _⟩
  · exact ⟨none, 0, by rw [h0]⟩
  · exact ⟨_, cap, rfl⟩
theorem ERow.events {base : Nat} {w : World} {v : Value} {xs : List Event} (h : ERow base w v xs) : Events (Old w) w v xs := by
  rcases h.2 with ⟨rfl, h0⟩ | ⟨g, cap, cur, rfl, _, hh, _, _, _, ht⟩
  · have : xs = [] := List.length_eq_zero_iff.1 h0
    subst this
    exact ⟨none, 0, rfl, fun i x hx => by simp at hx⟩
  · refine ⟨_, cap, rfl, fun i x hx => ⟨g, 0, eventC x, rfl, heap_lt hh, rfl, fun j u hu => ?_⟩⟩
    have := flat_get (enc := eventC) (n := 5) (fun _ => rfl) xs i x j u hx hu
    rw [← ht] at this
    have hlt := (List.getElem?_eq_some_iff.1 this).1
    rw [List.length_take] at hlt
    rw [List.getElem?_take_of_lt (by omega)] at this
    rw [cell_block hh, Nat.zero_add]
    simpa using this

/-- append of one event -/
theorem wpList_appEvent {w : World} {ops : Array Oper} {rest : List Oper} {o : Oper} {a : Act} {Q : Exit → Act → World → Prop} (hgd : o.guard = none) (s x : Operand)
    (ho : o.op = .call { callee := .builtin .append, args := #[s, x], argTypes := #[23, 23] }) {base : Nat} {v : Value} {xs : List Event} (hs : a.eval s = v) (hown : ERow base w v xs)
    {B : Nat} {y : Event} (hx : a.eval x = .slice (some ⟨B, 0, none⟩) 1 1) (hB : w.heap[B]? = some (.cells (eventC y).toArray 31 (0, 0))) (hlen : xs.length ≤ 1000000) (hbase : base ≤ w.heap.size)
    (h : ∀ v' w', ERow base w' v' (xs ++ [y]) → w.grownBy w' v.ownBlock → wpList Try.prog ops Q rest (a.put o.dst v') w') : wpList Try.prog ops Q (o :: rest) a w := by
  refine wpList_app hgd s x 23 ho base 31 5 40 Try.underlying23 (by kernel_rfl) (by omega) v xs.length (xs.flatMap eventC) hs hown ⟨B, 0, none⟩ 1 1 (eventC y) hx rfl (fun j u hu => ?_) (by simp [Value.oneCell']) (by simp [maxLen]; omega) (by omega) hbase (fun v' w' h1 h2 => h v' w' ?_ h2)
  · rw [Addr.add_mid, cell_block hB, Nat.zero_add]; simpa using hu
  · show w'.ownsRow _ _ _ _ _ _
    rw [List.length_append, List.flatMap_append]; simpa using h1


theorem Chg.then_new {R : Nat} {L : List Nat} {w w1 w2 : World} (h : Chg [R] w w1) (hc : Chg L w1 w2) (hL : ∀ b ∈ L, w.heap.size ≤ b) : Chg [R] w w2 :=
  ⟨hc.os.trans h.os, hc.tape.trans h.tape, hc.output.trans h.output, Nat.le_trans h.size hc.size, fun k hk hn => by
    rw [hc.block k (Nat.lt_of_lt_of_le hk h.size) fun hm => by have := hL k hm; omega]; exact h.block k hk hn⟩
theorem Chg.grown {L : List Nat} {w w1 w2 : World} {v : Value} (h : Chg L w w1) {base : Nat} {e : TypeId} {size n : Nat} {xs : List Value} (ho : w1.ownsRow base e size v n xs) (hb : w.heap.size ≤ base) (hg : w1.grownBy w2 v.ownBlock) : Chg L w w2 :=
  ⟨hg.os.trans h.os, hg.tape.trans h.tape, hg.output.trans h.output, Nat.le_trans h.size hg.size, fun k hk hn => by
    rw [hg.block k (Nat.lt_of_lt_of_le hk h.size) fun e => by have := (ho.lt k e.symm).1; omega]; exact h.block k hk hn⟩
theorem OwnS.grown {c : SC} {w w' : World} {s : Store} (h : OwnS c w s) {v : Value} {base : Nat} {e : TypeId} {size n : Nat} {xs : List Value} (ho : w.ownsRow base e size v n xs) (hb : ∀ b ∈ c.L, b < base) (hg : w.grownBy w' v.ownBlock) : OwnS c w' s :=
  h.keep fun b hm => hg.block b (h.lt b hm) fun e => by have := (ho.lt b e.symm).1; have := hb b hm; omega
theorem Rk.grown {w w' : World} {R K : Nat} (h : Rk w R K) {v : Value} {base : Nat} {e : TypeId} {size n : Nat} {xs : List Value} (ho : w.ownsRow base e size v n xs) (hb : R < base) (hg : w.grownBy w' v.ownBlock) : Rk w' R K := by
  obtain ⟨bv, xs', p, h, hp⟩ := h
  have hk : ∀ b, b ≤ R → w'.heap[b]? = w.heap[b]? := fun b hbR => hg.block b (Nat.lt_of_le_of_lt hbR h.lt) fun e => by have := (ho.lt b e.symm).1; omega
  exact ⟨bv, xs', p, ⟨by rw [hk R (Nat.le_refl _)]; exact h.cells, Sl.same (plain_kept _) h.bytes (fun b hb => hk b (Nat.le_of_lt hb)) (fun b hb => hb), h.small, h.len⟩, hp⟩
theorem row_chg {L : List Nat} {w w' : World} {base : Nat} {e : TypeId} {size n : Nat} {v : Value} {xs : List Value} (h : w.ownsRow base e size v n xs) (hx : Chg L w w') (hL : ∀ b ∈ L, b < base) : w'.ownsRow base e size v n xs := by
  obtain ⟨h1, h2⟩ := h
  refine ⟨h1, h2.imp id fun ⟨g, cap, cur, hv, hb, hh, hr⟩ => ⟨g, cap, cur, hv, hb, hx.keep hh fun hm => by have := hL g hm; omega, hr⟩⟩


theorem keep_row {W w w' : World} {b : Nat} {o : Obj} {base size m : Nat} {e : TypeId} {u : Value} {ys : List Value} (h : w.heap[b]? = some o) (hu : W.ownsRow base e size u m ys) (hb : W.heap.size ≤ b) (hg : w.grownBy w' u.ownBlock) : w'.heap[b]? = some o := by
  rw [hg.block b (heap_lt h) fun e => by have := (hu.lt b e.symm).2; omega]; exact h
theorem l21Do_v (c : SC) (s t : Store) (e : Event) (w : World) (h : OwnS c w s) (hs : StoreP s) (hl : s.flash.length = t.flash.length ∧ s.disk.length = t.disk.length) :
    Calls Try.prog 29 #[.agg #[c.fv t, c.dv t], eventA e] w (RetOv c w (c.fv t) (c.dv t) (playDoS s e)) := by
  obtain ⟨h1, h2⟩ := SC.same (c := c) hl
  have := l21Do_c c s e w h hs
  rw [h1, h2] at this
  refine this.mono fun e' w' ⟨he, hc, ho⟩ => ⟨?_, hc, ho⟩
  obtain ⟨h3, h4⟩ := SC.same (c := c) (playDoS_len s e)
  rw [he, h3, h4, h1, h2]

theorem newStore_ok : StoreP newStore := ⟨by decide, rfl⟩

/-- what a drawn play is: events, and the store behind them -/
def PlayΦ (w : World) (v : Value) (w' : World) : Prop := ∃ (c : SC) (s : Store) (ev : Value) (es : List Event) (H : Nat), v = .tuple #[ev, .agg #[c.fv s, c.dv s]] ∧ OwnS c w' s ∧ StoreP s ∧ (∀ b ∈ c.L, w.heap.size ≤ b ∧ b < H) ∧ w.heap.size ≤ H ∧ ERow H w' ev es ∧ (∀ e ∈ es, EventD e) ∧ es.length ≤ 57

set_option maxRecDepth 20000 in
set_option maxHeartbeats 4000000 in
theorem l71Play_c (R K : Nat) (w : World) (h : Rk w R (K + 1 + 57 * 7)) :
    Calls Try.prog 46 #[.pointer (some ⟨R, 0, none⟩)] w (DrawV R K w (PlayΦ w)) := by
  have hR := h.lt
  have HK := h; clear h
  have C := Chg.refl [R] w
  go_enter Try.func46, Try.ntmps46
  go_wp2_with fail
  refine (specStoreNew_c _).mono ?_; rintro e1 w1 hsn
  obtain ⟨fv, dv, L, rfl, hx1, hOS, hnd, hLb⟩ := hsn
  obtain ⟨c, rfl, rfl, rfl, hO⟩ := hOS.at_ hnd
  obtain ⟨s0, hs0⟩ : ∃ s0, newStore = s0 := ⟨_, rfl⟩
  have hP0 : StoreP s0 := hs0 ▸ newStore_ok
  rw [hs0] at hO ⊢
  clear hs0 hOS hnd
  have hb0 : ∀ b ∈ c.L, w.heap.size < b ∧ b < w1.heap.size := fun b hb => ⟨by have := hLb b hb; simp at this; omega, hO.lt b hb⟩
  have HB := Lib.hid hb0
  have HP := Lib.hid hP0
  replace C := C.then_sets (Chg.of_ext hx1) (by ((repeat (first | with_reducible (refine Chg.set2 ?_ ?_); focus (exact Or.inr (by dsimp only; omega)) | with_reducible refine Chg.alloc2 ?_)); with_reducible exact C))
  replace HK := Rk.ext (by ((repeat (first | (with_reducible apply Rk.set2; focus (dsimp only; omega)) | with_reducible apply Rk.alloc2)); with_reducible exact HK)) hx1
  have G3 := keep_ext hx1 (hg_new (b := w.heap.size) rfl)
  have l3 := heap_lt G3
  have HO := Lib.hid hO
  have HRL : Hid (∀ b ∈ c.L, b ∉ [R]) := Lib.hid fun b hb => by have := hb0 b hb; simp; omega
  clear hLb hb0 hP0 hO hx1
  go_wp2_with fail
  refine (pick_k R _ _ (by ((repeat (first | (with_reducible apply Rk.set2; focus (dsimp only; omega)) | with_reducible apply Rk.alloc2)); with_reducible exact HK))).mono ?_; rintro e2 w2 ⟨r, rfl, hr0, hr1, hC, HK1⟩
  replace C := C.then_sets hC (by ((repeat (first | with_reducible (refine Chg.set2 ?_ ?_); focus (exact Or.inr (by dsimp only; omega)) | with_reducible refine Chg.alloc2 ?_)); with_reducible exact C))
  replace HK := HK1; clear HK1
  replace G3 := hC.keep (b := w.heap.size) (by (repeat (first | with_reducible apply hg_here | (with_reducible apply hg_set; focus (dsimp only; omega)) | with_reducible apply hg_alloc)); with_reducible exact G3) (by simp; omega)
  have G4 := hC.keep (b := w1.heap.size) (hg_alloc (hg_new rfl)) (by simp; omega)
  have GE := hC.keep (b := w1.heap.size + 1) (hg_new (by simp)) (by simp; omega)
  have hO2 : OwnS c w2 s0 := ((HO.out.alloc2).alloc2).chg hC HRL.out
  obtain ⟨n0, rfl⟩ : ∃ n : Nat, r = n := ⟨r.toNat, by omega⟩
  have hn57 := hr1 (by omega)
  have HO2 := Lib.hid hO2
  clear hC hO2 HO hr1 hr0
  go_wp2_with fail
  go_loopw [5, 6] (fun ev y wr => ∃ (n : Nat) (s : Store) (es : List Event), y = .int .i64 n ∧ n + es.length ≤ 57 ∧ Chg [R] w wr ∧ OwnS c wr s ∧ Hid (StoreP s) ∧ Hid (s.flash.length = s0.flash.length ∧ s.disk.length = s0.disk.length) ∧ ERow (w1.heap.size + 1) wr ev es ∧ Hid (∀ e ∈ es, EventD e) ∧ Rk wr R (K + 7 * n) ∧
    wr.heap[w.heap.size]? = some (.cells #[.slice none 0 0, .slice none 0 0] 41 (0, 0)) ∧ wr.heap[w1.heap.size]? = some (.cells #[c.fv s0, c.dv s0] 41 (0, 0))) (fun _ y _ => (intOf y).toNat)
  case atStart => exact ⟨n0, s0, [], rfl, by simp; omega, C, HO2.out, HP, Lib.hid ⟨rfl, rfl⟩, ERow.empty GE (by omega), Lib.hid (by simp), HK.less (by omega), G3, G4⟩
  case round =>
    clear C HO2 G3 G4 GE HK HP
    obtain ⟨n, s, es, rfl, hne, C, hO, HP, HE, hrow, HD, HK, G3, G4⟩ := hrel
    obtain ⟨ea, ecap, rfl⟩ := hrow.form
    have l4 := heap_lt G4
    obtain ⟨g3, gf3⟩ := cellsK G3
    obtain ⟨g4, gf4⟩ := cellsK G4
    have HO := Lib.hid hO; have HROW := Lib.hid hrow
    clear hO hrow
    rcases n with _ | n
    · go_wp2_with fail
      refine wp_region_ext [] [0, 1, 2] [] [3] (by kernel_rfl) (by kernel_rfl) ?late ?_
      case late => exact fun f hf => absurd hf List.not_mem_nil
      refine Rob.y (v := ?_) rfl rfl (fun w1 hx hH => ?_) ?_; rotate_left
      · go_simp; first | done | rfl | exact (Bool.not_not _).symm
      simp only [Act.put, List.setIfInBounds_toArray, List.set_cons_succ, List.set_cons_zero]
      refine Rob.y (v := ?_) rfl rfl (fun w1 hx hH => ?_) ?_; rotate_left
      · (obtain ⟨hcx, hfx⟩ := bcell hx); go_simp; first | done | rfl
      simp only [Act.put, List.setIfInBounds_toArray, List.set_cons_succ, List.set_cons_zero]
      refine Rob.y (v := ?_) rfl rfl (fun w1 hx hH => ?_) ?_; rotate_left
      · go_simp; first | done | rfl | exact (Bool.not_not _).symm
      simp only [Act.put, List.setIfInBounds_toArray, List.set_cons_succ, List.set_cons_zero]
      refine fin_tail (fun w5 hx5 _ => ?_)
      simp only [dstOf, List.getElem?_cons_succ, List.getElem?_cons_zero, Option.bind_some, Act.put, List.setIfInBounds_toArray, List.set_cons_succ, List.set_cons_zero, List.filterMap_cons, List.filterMap_nil]
      replace G3 := keep_ext hx5 G3
      replace G4 := keep_ext hx5 G4
      clear g3 gf3 g4 gf4
      obtain ⟨g3, gf3⟩ := cellsK G3
      have l3 := heap_lt G3
      have C5 := C.trans (Chg.of_ext hx5)
      have HK5 := HK.ext hx5
      go_wp2_with fail
      obtain ⟨q1, q2⟩ := SC.same (c := c) HE.out
      refine bodyPost_ret (v := .tuple #[.slice ea es.length ecap, .agg #[c.fv s0, c.dv s0]]) (by simp [results, Try.results46, go_sem, g3, gf3]) rfl ⟨_, rfl, (by ((repeat (first | with_reducible (refine Chg.set2 ?_ ?_); focus (exact Or.inr (by dsimp only; omega)) | with_reducible refine Chg.alloc2 ?_)); with_reducible exact C5)), Rk.less (by ((repeat (first | (with_reducible apply Rk.set2; focus (dsimp only; omega)) | with_reducible apply Rk.alloc2)); with_reducible exact HK5)) (by omega), c, s, .slice ea es.length ecap, es, w1.heap.size + 1, by rw [q1, q2], ?_, HP.out, fun b hb => ⟨by have := HB.out b hb; omega, by have := HB.out b hb; omega⟩, by omega, ?_, HD.out, by omega⟩
      · have ho := HO.out.ext hx5
        have hnb : ∀ b, b ≤ w.heap.size → b ∉ c.L := fun b hb hm => by have := HB.out b hm; omega
        exact (ho.set (hnb _ (Nat.le_refl _)) _).set (hnb _ (Nat.le_refl _)) _
      · have hr := HROW.out.ext hx5
        refine row_chg (L := [w.heap.size]) hr ?_ (by simp; omega)
        exact ((Chg.refl _ _).set (.inl (by simp)) _).set (.inl (by simp)) _
    · have hpos : (0 : Int) < ((n + 1 : Nat) : Int) := by omega
      go_wp2_with fail
      refine (l71Event_c R (K + 7 * n) _ (HK.less (by omega))).mono ?_; rintro e3 w3 ⟨v, rfl, hC, HK3, e, rfl, hE⟩
      have C3 := C.trans hC
      have hO3 := HO.out.chg hC HRL.out
      have hrow3 : ERow (w1.heap.size + 1) w3 (.slice ea es.length ecap) es := row_chg HROW.out hC (by simp; omega)
      replace G3 := hC.keep G3 (by simp; omega)
      replace G4 := hC.keep G4 (by simp; omega)
      have l4' := heap_lt G4
      have HO3 := Lib.hid hO3; have HR3 := Lib.hid hrow3
      have HE3 := Lib.hid hE
      clear hO3 hrow3 hE hC HK C g3 gf3 g4 gf4
      go_wp2_with (refine wpList_appEvent rfl _ _ rfl rfl ((HR3.out.ext (ext_alloc (ext_refl _) _)).ext (ext_alloc (ext_refl _) _)) (y := e) rfl (hg_new (by simp)) (by omega) (by simp; omega) (fun v' w' hS' hg => ?_); replace G3 := keep_grown (hg_alloc (hg_alloc G3)) (by decide) ((HR3.out.ext (ext_alloc (ext_refl _) _)).ext (ext_alloc (ext_refl _) _)) hg; replace G4 := keep_grown (hg_alloc (hg_alloc G4)) (by decide) ((HR3.out.ext (ext_alloc (ext_refl _) _)).ext (ext_alloc (ext_refl _) _)) hg; have G7 := keep_row (hg_alloc (hg_new (b := w3.heap.size) rfl)) HR3.out (Nat.le_refl _) hg; obtain ⟨g4, gf4⟩ := cellsK G4; obtain ⟨g7, gf7⟩ := cellsK G7)
      have hra : ERow (w1.heap.size + 1) ((w3.alloc (.cells (eventC e).toArray 31)).alloc (.cells (eventC e).toArray 31)) (.slice ea es.length ecap) es := (HR3.out.ext (ext_alloc (ext_refl _) _)).ext (ext_alloc (ext_refl _) _)
      have hOa := ((HO3.out.alloc2).alloc2).grown hra (fun b hb => by have := HB.out b hb; omega) hg
      have Ca := Chg.grown ((C3.alloc _).alloc _) hra (by omega) hg
      have HKa := Rk.grown ((HK3.alloc2).alloc2) hra (by omega) hg
      refine (l21Do_v c s s0 e _ hOa HP.out HE.out).mono ?_; rintro e4 w4 ⟨rfl, hC4, hO4⟩
      have C4 := Ca.then_new hC4 (fun b hb => by have := HB.out b hb; omega)
      replace G3 := hC4.keep G3 (fun hm => by have := HB.out _ hm; omega)
      replace G4 := hC4.keep G4 (fun hm => by have := HB.out _ hm; omega)
      have hrow4 := row_chg hS' hC4 (fun b hb => by have := HB.out b hb; omega)
      have HK4 := HKa.chg hC4 (fun b hb => by have := HB.out b hb; omega)
      obtain ⟨hl1, hl2⟩ := playDoS_len s e
      have HPn := Lib.hid (HP.out.play e)
      have HO4 := Lib.hid hO4; have HR4 := Lib.hid hrow4
      have l44 := heap_lt G4
      clear g4 gf4 g7 gf7 hO4 hrow4 hra hOa hS' hg hC4 G7
      obtain ⟨g4, gf4⟩ := cellsK G4
      generalize playDoS s e = s2 at *
      go_wp2_with fail
      refine ⟨⟨n, s2, es ++ [e], by go_num, by simp; omega, (by ((repeat (first | with_reducible (refine Chg.set2 ?_ ?_); focus (exact Or.inr (by dsimp only; omega)) | with_reducible refine Chg.alloc2 ?_)); with_reducible exact C4)), ?_, HPn, Lib.hid ⟨hl1.trans HE.out.1, hl2.trans HE.out.2⟩, ?_, Lib.hid fun x hx => ?_, Rk.less (by ((repeat (first | (with_reducible apply Rk.set2; focus (dsimp only; omega)) | with_reducible apply Rk.alloc2)); with_reducible exact HK4)) (by omega), (by (repeat (first | with_reducible apply hg_here | (with_reducible apply hg_set; focus (dsimp only; omega)) | with_reducible apply hg_alloc)); with_reducible exact G3), hgo (by (repeat (first | with_reducible apply hg_here | (with_reducible apply hg_set; focus (dsimp only; omega)) | with_reducible apply hg_alloc)); with_reducible exact G4) ?_⟩, by simp [intOf]; try omega⟩
      · have hnb : w1.heap.size ∉ c.L := fun hm => by have := HB.out _ hm; omega
        exact (HO4.out.set hnb _).set hnb _
      · refine row_chg (L := [w1.heap.size]) HR4.out ?_ (by simp)
        exact ((Chg.refl _ _).set (.inl (by simp)) _).set (.inl (by simp)) _
      · rcases List.mem_append.1 hx with hx | hx
        · exact HD.out x hx
        · obtain rfl := List.mem_singleton.1 hx; exact HE3.out
      · simp
end Go.Bu

set_option linter.unusedVariables false
set_option linter.unusedSimpArgs false
namespace Go.Bu
open Go Go.RowKit Go.Plan Go.Proofs

theorem DBytes.ext {w w' : World} {v : Value} {xs : List Nat} (h : Bytes (Old w) w v xs) (he : Ext w w') : Bytes (Old w') w' v xs := Sl.same (plain_kept _) h (same_old he) (old_ext he)
/-- drawn events -/
def EventsΦ (w : World) (e : Ending) (w' : World) : Prop := ∃ v es, e = .returned v ∧ Ext w w' ∧ Events (Old w') w' v es ∧ (∀ a n c, v = .slice a n c → n ≤ c) ∧ (∀ x ∈ es, EventD x) ∧ es.length ≤ 61
def sliceLen : Value → Nat
  | .slice _ n _ => n
  | _ => 0
theorem ERow.weak {b b' : Nat} {w : World} {v : Value} {xs : List Event} (h : ERow b w v xs) (hb : b' ≤ b) : ERow b' w v xs :=
  ⟨h.1, h.2.imp id fun ⟨g, cap, cur, h1, h2, h3⟩ => ⟨g, cap, cur, h1, Nat.le_trans hb h2, h3⟩⟩
theorem ERow.cut {base : Nat} {w : World} {v : Value} {xs : List Event} (h : ERow base w v xs) : ∀ a n c, v = .slice a n c → n ≤ c := by
  intro a n c hv
  obtain ⟨h1, h2⟩ := h
  rcases h2 with ⟨h2, _⟩ | ⟨g, cap, cur, h2, _, _, h3, _⟩
  · rw [h2] at hv; injection hv; omega
  · rw [h2] at hv; injection hv; omega

set_option maxRecDepth 20000 in
set_option maxHeartbeats 2000000 in
theorem drawPlayRun_c (v : Value) (xs : List Nat) (w : World) (h : Bytes (Old w) w v xs) (hs : ∀ x ∈ xs, x < 256) (hn : xs.length ≤ 1048576) (hcap : ∀ a n c, v = .slice a n c → n ≤ c) :
    Calls Try.prog 24 #[v] w (EventsΦ w) := by
  go_enter Try.func24, Try.ntmps24
  go_wp2_with fail
  refine (l6Open_c v xs _ h hs hn hcap).mono ?_; rintro e1 w1 ⟨R, bv, ys, rfl, hRw, X1, hr⟩
  have hR := hr.lt
  have HK : Rk w1 R ((500 + 1) + 1 + 57 * 7) := ⟨bv, ys, 0, hr, by omega⟩
  clear hr
  go_wp2_with fail
  refine (l71Play_c R (500 + 1) _ HK).mono ?_; rintro e2 w2 ⟨v2, rfl, C, HK2, c, s, ev, es, H, rfl, -, -, -, hH, hrow, hD, hl57⟩
  obtain ⟨oa, ocap, rfl⟩ := hrow.form
  have X2 : Ext w w2 := C.ext X1 (by simp; omega)
  have HD := Lib.hid hD
  have HROW := Lib.hid (hrow.weak hH)
  have s1 := C.size
  clear HK C hrow hD
  go_wp2_with fail
  refine (pick_k R 40 _ (K := 500) (HK2.alloc2)).mono ?_; rintro e3 w4 ⟨r, rfl, p0, p1, C, HK4⟩
  have X4 : Ext w w4 := C.ext (ext_alloc X2 _) (by simp; omega)
  have hrow4 : ERow w1.heap.size w4 (.slice oa es.length ocap) es := row_chg (HROW.out.ext (ext_alloc (ext_refl _) _)) C (by simp; omega)
  have HR4 := Lib.hid hrow4
  have s4 := C.size
  simp at s4
  clear HK2 X2 HROW hrow4 C p1
  by_cases hr0 : r = 0
  · subst hr0
    go_wp2_with fail
    go_loopw [4] (fun ov wr => ∃ es, Ext w wr ∧ Hid (ERow w1.heap.size wr ov es) ∧ Hid (∀ x ∈ es, EventD x) ∧ es.length ≤ 61 ∧ Rk wr R (7 * (61 - es.length) + 7) ∧ w4.heap.size ≤ wr.heap.size) (fun ov _ => 61 - sliceLen ov)
    case atStart => exact ⟨es, X4, HR4, HD, by omega, HK4.less (by omega), Nat.le_refl _⟩
    case round =>
      clear HR4 HD X4 HK4 hl57
      obtain ⟨zs, X, HR, HD, hl, HK, hsz⟩ := hrel
      obtain ⟨za, zcap, rfl⟩ := HR.out.form
      by_cases h60 : zs.length ≤ 60
      · go_wp2_with fail
        refine (l71Event_c R (7 * (61 - zs.length)) _ HK).mono ?_; rintro e5 w5 ⟨v5, rfl, hC, HK5, e, rfl, hE⟩
        have X5 := hC.ext X (by simp; omega)
        have hrow5 : ERow w1.heap.size w5 (.slice za zs.length zcap) zs := row_chg HR.out hC (by simp; omega)
        have HR5 := Lib.hid hrow5
        have s5 := hC.size
        clear HR HK hC hrow5 X
        have hRa := fun (o : Obj) => Lib.hid (HR5.out.ext (ext_alloc (ext_refl w5) o))
        go_wp2_with (refine wpList_appEvent rfl _ _ rfl rfl (hRa _).out (y := e) rfl (hg_new rfl) (by omega) (by simp; omega) (fun v' w' hS' hg => ?_))
        go_roundw
        case rel =>
          have Xn := ext_grown (ext_alloc X5 _) (ERow.weak (hRa _).out (by have := X1.size; omega)) hg
          have HKn := Rk.grown (HK5.alloc2) (hRa _).out (by omega) hg
          have sn := hg.size
          simp at sn
          have hlen : (zs ++ [e]).length = zs.length + 1 := by simp
          refine ⟨zs ++ [e], Xn, Lib.hid hS', Lib.hid fun x hx => ?_, by omega, HKn.less (by omega), by omega⟩
          rcases List.mem_append.1 hx with hx | hx
          · exact HD.out x hx
          · obtain rfl := List.mem_singleton.1 hx; exact hE
        case measure =>
          obtain ⟨za2, zcap2, rfl⟩ := hS'.form
          have hlen : (zs ++ [e]).length = zs.length + 1 := by simp
          simp only [sliceLen]
          omega
      · obtain ⟨n, hn⟩ : ∃ n, zs.length = n := ⟨_, rfl⟩
        go_wp2_with fail
        refine bodyPost_ret (v := .slice za zs.length zcap) (by simp [results, Try.results24, go_sem]) rfl ⟨_, zs, rfl, X, HR.out.events, HR.out.cut, HD.out, hl⟩
  · go_wp2_with fail
    refine bodyPost_ret (v := .slice oa es.length ocap) (by simp [results, Try.results24, go_sem]) rfl ⟨_, es, rfl, X4, HR4.out.events, HR4.out.cut, HD.out, by omega⟩

set_option maxRecDepth 20000 in
theorem drawCostRun_c (v : Value) (xs : List Nat) (w : World) (h : Bytes (Old w) w v xs) (hs : ∀ x ∈ xs, x < 256) (hn : xs.length ≤ 1048576) (hcap : ∀ a n c, v = .slice a n c → n ≤ c) :
    Calls Try.prog 9 #[v] w (EventsΦ w) := by
  go_enter Try.func9, Try.ntmps9
  go_wp2_with fail
  refine (drawPlayRun_c v xs w h hs hn hcap).mono ?_; rintro e1 w1 ⟨u, es, rfl, X, hE, hc, hD, hl⟩
  obtain ⟨oa, ocap, rfl⟩ := hE.form
  go_wp2_with fail
  refine bodyPost_ret (v := .slice oa es.length ocap) (by simp [results, Try.results9, go_sem]) rfl ⟨_, es, rfl, X, hE, hc, hD, hl⟩
end Go.Bu

set_option linter.unusedVariables false
set_option linter.unusedSimpArgs false
namespace Go.Bu
open Go Go.RowKit Go.Plan Go.Proofs

-- (not in this seat: function laws.markBlockS)

-- (not in this seat: function laws.markStore)

-- (not in this seat: function laws.markPair)

/-- a row of numbers of the call's own, or none: its blocks named -/
def IntsL (w : World) (v : Value) (xs : List Int) (L : List Nat) : Prop := (v = .slice none 0 0 ∧ xs = [] ∧ L = []) ∨ ∃ B, L = [B] ∧ OwnInts w v xs B
theorem IntsOut.l {base : Nat} {w : World} {v : Value} {xs : List Int} (h : IntsOut base w v xs) : ∃ L, IntsL w v xs L ∧ ∀ b ∈ L, base ≤ b := by
  rcases h with ⟨h1, h2⟩ | ⟨B, h1, h2⟩
  · exact ⟨[], .inl ⟨h1, h2, rfl⟩, fun b hb => by cases hb⟩
  · exact ⟨[B], .inr ⟨B, rfl, h2⟩, fun b hb => by rw [List.mem_singleton] at hb; omega⟩
theorem IntsL.ints {w : World} {v : Value} {xs : List Int} {L : List Nat} (h : IntsL w v xs L) : Ints (Old w) w v xs := by
  rcases h with ⟨rfl, rfl, _⟩ | ⟨B, _, h⟩
  · exact ⟨_, _, rfl, fun i x hi => by cases hi⟩
  · exact h.old
theorem IntsL.lt {w : World} {v : Value} {xs : List Int} {L : List Nat} (h : IntsL w v xs L) : ∀ b ∈ L, b < w.heap.size := by
  rcases h with ⟨_, _, rfl⟩ | ⟨B, rfl, h⟩
  · intro b hb; cases hb
  · intro b hb; rw [List.mem_singleton] at hb; subst hb; exact h.lt
theorem IntsL.ext {w w' : World} {v : Value} {xs : List Int} {L : List Nat} (h : IntsL w v xs L) (hx : Ext w w') : IntsL w' v xs L := h.imp id fun ⟨B, h1, h2⟩ => ⟨B, h1, h2.ext hx⟩
theorem IntsL.chg {w w' : World} {v : Value} {xs : List Int} {L M : List Nat} (h : IntsL w v xs L) (hx : Chg M w w') (hm : ∀ b ∈ L, b ∉ M) : IntsL w' v xs L := by
  rcases h with h | ⟨B, rfl, h⟩
  · exact .inl h
  · exact .inr ⟨B, rfl, h.chg hx (hm B (by simp))⟩
/-- numbers that were marked from x on -/
def MarkedI (x : Int) (xs : List Int) : Prop := ∀ i : Nat, i < xs.length → xs[i]? = some (x + i)

-- (not in this seat: function laws.markIntS)
end Go.Bu

set_option linter.unusedVariables false
set_option linter.unusedSimpArgs false
namespace Go.Bu
open Go Go.RowKit Go.Plan Go.Proofs

/-- a pair that a call has made, its blocks named -/
def PairL (w : World) (v : Value) (p : Pair) (M : List Nat) : Prop := (v = nilPair ∧ p = pair0 ∧ M = []) ∨ ∃ f d g e L K, v = .agg #[f, d, g, e, .int .i64 p.lost] ∧ OwnStore w f d p.A L ∧ OwnStore w g e p.B K ∧ (L ++ K).Nodup ∧ M = L ++ K ∧ Shape4 p.A ∧ Shape4 p.B
section
variable {w w' : World} {v : Value} {p : Pair} {M N : List Nat} {base : Nat}
theorem PairO.l (h : PairO base w v p) : ∃ M, PairL w v p M ∧ ∀ b ∈ M, base ≤ b := by
  rcases h with ⟨h1, h2⟩ | ⟨f, d, g, e, L, K, h1, h2, h3, h4, h5, h6, h7⟩
  · exact ⟨[], .inl ⟨h1, h2, rfl⟩, fun b hb => by cases hb⟩
  · exact ⟨L ++ K, .inr ⟨f, d, g, e, L, K, h1, h2, h3, h4, rfl, h6, h7⟩, h5⟩
theorem PairL.ext (h : PairL w v p M) (hx : Ext w w') : PairL w' v p M := h.imp id fun ⟨f, d, g, e, L, K, h1, h2, h3, h4⟩ => ⟨f, d, g, e, L, K, h1, h2.ext hx, h3.ext hx, h4⟩
theorem PairL.chg (h : PairL w v p M) (hx : Chg N w w') (hm : ∀ b ∈ M, b ∉ N) : PairL w' v p M := h.imp id fun ⟨f, d, g, e, L, K, h1, h2, h3, h4, h5, h6⟩ =>
  ⟨f, d, g, e, L, K, h1, h2.chg hx (fun b hb => hm b (by rw [h5]; exact List.mem_append_left _ hb)), h3.chg hx (fun b hb => hm b (by rw [h5]; exact List.mem_append_right _ hb)), h4, h5, h6⟩
theorem PairL.lt (h : PairL w v p M) : ∀ b ∈ M, b < w.heap.size := by
  rcases h with ⟨_, _, rfl⟩ | ⟨f, d, g, e, L, K, _, h2, h3, _, rfl, _⟩
  · intro b hb; cases hb
  · intro b hb
    rcases List.mem_append.1 hb with hb | hb
    · exact h2.lt b hb
    · exact h3.lt b hb
theorem PairL.forms (h : PairL w v p M) : ∃ a n c b m k a' n' c' b' m' k', v = .agg #[.slice a n c, .slice b m k, .slice a' n' c', .slice b' m' k', .int .i64 p.lost] := by
  rcases h with ⟨rfl, rfl, _⟩ | ⟨f, d, g, e, L, K, rfl, h2, h3, _⟩
  · exact ⟨none, 0, 0, none, 0, 0, none, 0, 0, none, 0, 0, rfl⟩
  · obtain ⟨a, n, c, b, m, k, rfl, rfl⟩ := h2.forms
    obtain ⟨a', n', c', b', m', k', rfl, rfl⟩ := h3.forms
    exact ⟨a, n, c, b, m, k, a', n', c', b', m', k', rfl⟩
theorem Shape4.small {s : Store} (h : Shape4 s) : Small s := ⟨by rw [h.flash]; omega, fun b hb => by rw [h.pages b hb]; omega, by rw [h.disk]; omega⟩
theorem small0 : Small ⟨[], []⟩ := ⟨by simp, fun b hb => (by cases hb), by simp⟩
theorem PairL.small (h : PairL w v p M) : Small p.A ∧ Small p.B := by
  rcases h with ⟨_, rfl, _⟩ | ⟨f, d, g, e, L, K, _, _, _, _, _, h6, h7⟩
  · exact ⟨small0, small0⟩
  · exact ⟨h6.small, h7.small⟩
theorem storeV0 (w : World) : StoreV w (.slice none 0 0) (.slice none 0 0) ⟨[], []⟩ := ⟨⟨_, _, rfl, fun i x hi => by cases hi⟩, ⟨_, _, rfl, fun i x hi => by cases hi⟩⟩
theorem PairL.read {f d g e : Value} {l : Int} (h : PairL w (.agg #[f, d, g, e, .int .i64 l]) p M) : l = p.lost ∧ StoreV w f d p.A ∧ StoreV w g e p.B := by
  rcases h with ⟨h1, rfl, _⟩ | ⟨f', d', g', e', L, K, h1, h2, h3, _⟩
  · unfold nilPair at h1
    injection h1 with h1
    simp at h1
    obtain ⟨rfl, rfl, rfl, rfl, rfl⟩ := h1
    exact ⟨rfl, storeV0 w, storeV0 w⟩
  · injection h1 with h1
    simp at h1
    obtain ⟨rfl, rfl, rfl, rfl, rfl⟩ := h1
    exact ⟨rfl, ⟨h2.flash, h2.disk⟩, h3.flash, h3.disk⟩
end

-- (not in this seat: function laws.eqPair)

/-- a pair that was marked -/
def PairH (w : World) (v : Value) (M : List Nat) (k : Int) : Prop := (v = nilPair ∧ M = [] ∧ k = 1) ∨ ∃ f d g e n s t L K, v = .agg #[f, d, g, e, .int .i64 n] ∧ OwnStore w f d s L ∧ OwnStore w g e t K ∧ M = L ++ K ∧ Marked s 1 ∧ Marked t 91 ∧ k = 181
theorem PairH.ext {w w' : World} {v : Value} {M : List Nat} {k : Int} (h : PairH w v M k) (hx : Ext w w') : PairH w' v M k := h.imp id fun ⟨f, d, g, e, n, s, t, L, K, h1, h2, h3, h4⟩ => ⟨f, d, g, e, n, s, t, L, K, h1, h2.ext hx, h3.ext hx, h4⟩
theorem PairH.k {w : World} {v : Value} {M : List Nat} {k : Int} (h : PairH w v M k) : 0 ≤ k ∧ k ≤ 181 := by
  rcases h with ⟨_, _, rfl⟩ | ⟨f, d, g, e, n, s, t, L, K, _, _, _, _, _, _, rfl⟩ <;> omega

-- (not in this seat: function laws.markBlockS)

-- (not in this seat: function laws.markPair)
end Go.Bu

set_option linter.unusedVariables false
set_option linter.unusedSimpArgs false
namespace Go.Bu
open Go Go.RowKit Go.Plan Go.Proofs

def nilStore : Value := .agg #[.slice none 0 0, .slice none 0 0]
def store0 : Store := ⟨[], []⟩
/-- a store that a call has made, its blocks named -/
def StoreL (w : World) (v : Value) (s : Store) (M : List Nat) : Prop := (v = nilStore ∧ s = store0 ∧ M = []) ∨ ∃ f d, v = .agg #[f, d] ∧ OwnStore w f d s M ∧ M.Nodup ∧ Shape4 s
section
variable {w w' : World} {v : Value} {s : Store} {M N : List Nat} {base : Nat}
theorem StoreL.ext (h : StoreL w v s M) (hx : Ext w w') : StoreL w' v s M := h.imp id fun ⟨f, d, h1, h2, h3⟩ => ⟨f, d, h1, h2.ext hx, h3⟩
theorem StoreL.chg (h : StoreL w v s M) (hx : Chg N w w') (hm : ∀ b ∈ M, b ∉ N) : StoreL w' v s M := h.imp id fun ⟨f, d, h1, h2, h3⟩ => ⟨f, d, h1, h2.chg hx hm, h3⟩
theorem StoreL.lt (h : StoreL w v s M) : ∀ b ∈ M, b < w.heap.size := by
  rcases h with ⟨_, _, rfl⟩ | ⟨f, d, _, h2, _⟩
  · intro b hb; cases hb
  · exact h2.lt
theorem StoreL.forms (h : StoreL w v s M) : ∃ a n c b m k, v = .agg #[.slice a n c, .slice b m k] := by
  rcases h with ⟨rfl, rfl, _⟩ | ⟨f, d, rfl, h2, _⟩
  · exact ⟨none, 0, 0, none, 0, 0, rfl⟩
  · obtain ⟨a, n, c, b, m, k, rfl, rfl⟩ := h2.forms
    exact ⟨a, n, c, b, m, k, rfl⟩
theorem StoreL.small (h : StoreL w v s M) : Small s := by
  rcases h with ⟨_, rfl, _⟩ | ⟨f, d, _, _, _, h4⟩
  · exact small0
  · exact h4.small
theorem StoreL.read {f d : Value} (h : StoreL w (.agg #[f, d]) s M) : StoreV w f d s := by
  rcases h with ⟨h1, rfl, _⟩ | ⟨f', d', h1, h2, _⟩
  · unfold nilStore at h1
    injection h1 with h1
    simp at h1
    obtain ⟨rfl, rfl⟩ := h1
    exact storeV0 w
  · injection h1 with h1
    simp at h1
    obtain ⟨rfl, rfl⟩ := h1
    exact ⟨h2.flash, h2.disk⟩
end

-- (not in this seat: function laws.eqStore)

/-- a store that was marked -/
def StoreK (w : World) (v : Value) (M : List Nat) (k : Int) : Prop := (v = nilStore ∧ M = [] ∧ k = 1) ∨ ∃ f d s, v = .agg #[f, d] ∧ OwnStore w f d s M ∧ Marked s 1 ∧ k = 91

theorem StoreK.ext {w w' : World} {v : Value} {M : List Nat} {k : Int} (h : StoreK w v M k) (hx : Ext w w') : StoreK w' v M k := h.imp id fun ⟨f, d, s, h1, h2, h3⟩ => ⟨f, d, s, h1, h2.ext hx, h3⟩

theorem StoreK.k {w : World} {v : Value} {M : List Nat} {k : Int} (h : StoreK w v M k) : 0 ≤ k ∧ k ≤ 91 := by
  rcases h with ⟨_, _, rfl⟩ | ⟨f, d, s, _, _, _, rfl⟩ <;> omega

-- (not in this seat: function laws.markStore)

-- (not in this seat: function laws.heldStore)

def doV (s : Store) (e : Event) : Store := if storeOkB s = true then playDoS s e else store0
def StoreΦ (w : World) (s : Store) (e : Ending) (w' : World) : Prop := ∃ v M, e = .returned v ∧ Ext w w' ∧ StoreL w' v s M ∧ ∀ b ∈ M, w.heap.size ≤ b

-- (not in this seat: function spec.PlayDo)

set_option maxRecDepth 20000 in
set_option maxHeartbeats 4000000 in
theorem implPlayDo_c (g e : Value) (s : Store) (ev : Event) (w : World) (hB : StoreV w g e s) (hs : Small s) (hc : -9223372036854775808 ≤ ev.c ∧ ev.c ≤ 9223372036854775807) :
    Calls Try.prog 21 #[.agg #[g, e], eventA ev] w (StoreΦ w (doV s ev)) := by
  have hSO := fun (w' : World) (hx : Ext w w') => implStoreOk_c g e s w' (hB.ext hx) hs.2.1 hs.2.2
  have hBG := fun (w' : World) (hx : Ext w w') (hok : storeOkB s = true) => playBegun_c g e s ev w' (hB.ext hx) hok hc
  have HD : Hid (doV s ev = if storeOkB s = true then playDoS s ev else store0) := Lib.hid rfl
  have HP : Hid (storeOkB s = true → StoreP (playDoS s ev)) := Lib.hid fun h => (storeOk_P h).play ev
  unfold BegunΦ at hBG
  obtain ⟨a3, n3, rfl⟩ := hB.1.form
  obtain ⟨a4, n4, rfl⟩ := hB.2.form
  generalize doV s ev = DO at *
  generalize playDoS s ev = PO at *
  generalize begunS s ev = BG at *
  obtain ⟨k, ea, eb, ec, et⟩ := ev
  dsimp only [eventA] at *
  clear hB hs
  by_cases hok : storeOkB s = true
  · have hd : DO = PO := by rw [HD.out, if_pos hok]
    subst hd
    have HPP := Lib.hid (HP.out hok)
    have hBg := fun (w' : World) (hx : Ext w w') => hBG w' hx hok
    rw [hok] at hSO
    clear hBG hok HP HD
    go_enter Try.func21, Try.ntmps21
    go_wp2_with fail
    refine (hSO _ (ext_alloc (ext_alloc (ext_alloc (ext_refl _) _) _) _)).mono ?_; rintro e1 w1 ⟨rfl, hx1⟩
    have X1 := ext_trans (ext_alloc (ext_alloc (ext_alloc (ext_refl w) _) _) _) hx1
    have G2 := keep_ext hx1 (hg_alloc (hg_alloc (hg_new (w := w) (b := w.heap.size) (x := .cells #[.slice a3 s.flash.length n3, .slice a4 s.disk.length n4] 41) rfl)))
    have G3 := keep_ext hx1 (hg_alloc (hg_new (b := w.heap.size + 1) (by simp)))
    have G4 := keep_ext hx1 (hg_new (b := w.heap.size + 1 + 1) (by simp))
    have s1 := hx1.size
    simp at s1
    clear hSO hx1
    obtain ⟨g2, gf2⟩ := cellsK G2
    obtain ⟨g3, gf3⟩ := cellsK G3
    go_wp2_with fail
    refine (hBg _ X1).mono ?_; rintro e2 w2 ⟨f, d, L, v, rfl, hx2, hO, hn, hb, hS, hl⟩
    have X2 := ext_trans X1 hx2
    obtain ⟨va, vc, rfl⟩ := hS.form
    obtain ⟨b1, k1, j1, b2, k2, j2, rfl, rfl⟩ := hO.forms
    replace G4 := keep_ext hx2 G4
    have s2 := hx2.size
    have HN := Lib.hid hn
    have HB : Hid (∀ b ∈ L, w.heap.size + 3 ≤ b) := Lib.hid fun b hm => by have := hb b hm; omega
    have XA : Ext w2 (w2.alloc (.cells #[.slice b1 k1 j1, .slice b2 k2 j2] 41)) := ext_alloc (ext_refl _) _
    have G5 : (w2.alloc (.cells #[.slice b1 k1 j1, .slice b2 k2 j2] 41)).heap[w2.heap.size]? = some (.cells #[.slice b1 k1 j1, .slice b2 k2 j2] 41 (0, 0)) := hg_new rfl
    have X3 := ext_trans X2 XA
    have HO := Lib.hid (hO.ext XA)
    replace G4 := keep_ext XA G4
    clear g2 gf2 g3 gf3 hBg hx2 hO hn hb hS XA G2 G3
    obtain ⟨g4, gf4⟩ := cellsK G4
    obtain ⟨g5, gf5⟩ := cellsK G5
    have l4 := heap_lt G4
    go_wp2_with fail
    refine bodyPost_ret (v := .agg #[.slice b1 k1 j1, .slice b2 k2 j2]) (by simp [results, Try.results21, go_sem, g4, gf4]) rfl ⟨_, L, rfl, ?_, .inr ⟨_, _, rfl, ?_, HN.out, HPP.out.shape4⟩, fun b hb => by have := HB.out b hb; omega⟩
    · have s3 := X3.size
      ((repeat (first | with_reducible (refine ext_set2 ?_ ?_); focus (first | exact Nat.le_refl _ | (dsimp only; omega) | (simp; omega)) | with_reducible refine ext_alloc2 ?_)); with_reducible exact X2)
    · refine HO.out.keep fun b hb => ?_
      have := HB.out b hb
      iterate 2 rw [setCell_other (by omega)]
  · have hd : DO = store0 := by rw [HD.out, if_neg hok]
    subst hd
    rw [show storeOkB s = false by simpa using hok] at hSO
    clear hBG hok HP HD
    go_enter Try.func21, Try.ntmps21
    go_wp2_with fail
    refine (hSO _ (ext_alloc (ext_alloc (ext_alloc (ext_refl _) _) _) _)).mono ?_; rintro e1 w1 ⟨rfl, hx1⟩
    have X1 := ext_trans (ext_alloc (ext_alloc (ext_alloc (ext_refl w) _) _) _) hx1
    have G2 := keep_ext hx1 (hg_alloc (hg_alloc (hg_new (w := w) (b := w.heap.size) (x := .cells #[.slice a3 s.flash.length n3, .slice a4 s.disk.length n4] 41) rfl)))
    have G3 := keep_ext hx1 (hg_alloc (hg_new (b := w.heap.size + 1) (by simp)))
    have G4 := keep_ext hx1 (hg_new (b := w.heap.size + 1 + 1) (by simp))
    have s1 := hx1.size
    simp at s1
    clear hSO hx1
    obtain ⟨g4, gf4⟩ := cellsK G4
    go_wp2_with fail
    refine bodyPost_ret (v := nilStore) (by simp [results, Try.results21, go_sem, g4, gf4, nilStore]) rfl ⟨_, _, rfl, ?_, .inl ⟨rfl, rfl, rfl⟩, fun b hb => by cases hb⟩
    ((repeat (first | with_reducible (refine ext_set2 ?_ ?_); focus (first | exact Nat.le_refl _ | (dsimp only; omega) | (simp; omega)) | with_reducible refine ext_alloc2 ?_)); with_reducible exact X1)
end Go.Bu

set_option linter.unusedVariables false
set_option linter.unusedSimpArgs false
namespace Go.Bu
open Go Go.RowKit Go.Plan Go.Proofs

theorem append_fresh {P : Program} (w : World) (base : Nat) (t ty e : TypeId) (i : TypeInfo) (z : Value) (size bytes : Nat) (ht : P.underlying t = some (.slice e)) (hi : P.info? e = some i) (hz : i.zero = some z)
    (hsize : i.size = size) (hby : i.bytes = bytes) (hzs : z.cells.size = size) (hsz : 0 < size)
    (v : Value) (n : Nat) (xs : List Value) (hown : w.ownsRow base e size v n xs)
    (a : Addr) (m c : Nat) (news : List Value) (hl : news.length = m * size) (hnews : ∀ j u, news[j]? = some u → w.cell? (a.add j) = some u) (h1 : ∀ u ∈ news, u.oneCell' = true)
    (h63 : n + m ≤ maxLen) (hbytes : (n + m) * bytes ≤ 140737488355328)
    {v' : Value} {w' : World} (hr : (Builtin.append_ #[t, t] ty #[v, .slice (some a) m c]).run P w = .ok v' w') : ∀ g, v'.ownBlock = some g → v.ownBlock = some g ∨ w.heap.size ≤ g := by
  intro g hg
  rcases hown.2 with ⟨rfl, rfl⟩ | ⟨g0, cap, cur, rfl, hbg, hgc, hnc, hcm, hcs, htake⟩
  · right
    obtain ⟨v2, w2, hr2, hO, _, _⟩ := run_append_own (P := P) w w.heap.size t ty e i z size bytes ht hi hz hsize hby hzs hsz (.slice none 0 0) 0 xs ⟨hown.1, .inl ⟨rfl, rfl⟩⟩ a m c news hl hnews h1 h63 hbytes (Nat.le_refl _)
    rw [hr2] at hr
    injection hr with e1 e2
    subst e1
    exact (hO.lt g hg).1
  · subst hsize
    subst hby
    have hsmall : n + m ≤ 9223372036854775807 := by simp only [maxLen] at h63; omega
    by_cases hroom : n + m ≤ cap
    · left
      have hfit : n * i.size + news.length ≤ cur.size := by rw [hl, hcs, ← Nat.add_mul]; exact Nat.mul_le_mul_right _ hroom
      rw [run_append_room (P := P) w t ty e i ht hi g0 n cap cur hgc a m c news hl hnews h1 hroom hfit] at hr
      injection hr with e1 e2
      subst e1
      exact hg
    · right
      have holds : ∀ j u, xs[j]? = some u → w.cell? ((⟨g0, 0, none⟩ : Addr).add j) = some u := hown.cells (g := g0) rfl
      rw [run_append_grow (P := P) w t ty e i z ht hi hz ⟨g0, 0, none⟩ n cap xs hown.1 holds a m c news hl hnews (by omega) (by omega) (growslice_fits (by omega) hbytes)] at hr
      injection hr with e1 e2
      subst e1
      simp [Value.ownBlock] at hg
      omega

/-- as wpList_appEvent; and which row comes back -/
theorem wpList_appEventF {w : World} {ops : Array Oper} {rest : List Oper} {o : Oper} {a : Act} {Q : Exit → Act → World → Prop} (hgd : o.guard = none) (s x : Operand)
    (ho : o.op = .call { callee := .builtin .append, args := #[s, x], argTypes := #[23, 23] }) {base : Nat} {v : Value} {xs : List Event} (hs : a.eval s = v) (hown : ERow base w v xs)
    {B : Nat} {y : Event} (hx : a.eval x = .slice (some ⟨B, 0, none⟩) 1 1) (hB : w.heap[B]? = some (.cells (eventC y).toArray 31 (0, 0))) (hlen : xs.length ≤ 1000000) (hbase : base ≤ w.heap.size)
    (h : ∀ v' w', ERow base w' v' (xs ++ [y]) → w.grownBy w' v.ownBlock → (∀ g, v'.ownBlock = some g → v.ownBlock = some g ∨ w.heap.size ≤ g) → wpList Try.prog ops Q rest (a.put o.dst v') w') : wpList Try.prog ops Q (o :: rest) a w := by
  have hi : (Try.prog.info? 31).bind (fun i => i.zero.map fun z => (z.cells.size, i.size, i.bytes)) = some (5, 5, 40) := by kernel_rfl
  obtain ⟨i, hi1, hi2⟩ := Option.bind_eq_some_iff.1 hi
  obtain ⟨z, hz, he⟩ := Option.map_eq_some_iff.1 hi2
  obtain ⟨hzs, he⟩ := Prod.mk.inj he
  obtain ⟨hsize, hby⟩ := Prod.mk.inj he
  have hn : ∀ j u, (eventC y)[j]? = some u → w.cell? ((⟨B, 0, none⟩ : Addr).add j) = some u := fun j u hu => by
    rw [Addr.add_mid, cell_block hB, Nat.zero_add]; simpa using hu
  have h1 : ∀ u ∈ eventC y, u.oneCell' = true := by simp [Value.oneCell']
  obtain ⟨v', w', hr, h2, h3, h4⟩ := run_append_own (P := Try.prog) w base 23 o.type 31 i z 5 40 Try.underlying23 hi1 hz hsize hby hzs (by omega) v xs.length (xs.flatMap eventC) hown ⟨B, 0, none⟩ 1 1 (eventC y) rfl hn h1 (by simp [maxLen]; omega) (by omega) hbase
  have hf := append_fresh (P := Try.prog) w base 23 o.type 31 i z 5 40 Try.underlying23 hi1 hz hsize hby hzs (by omega) v xs.length (xs.flatMap eventC) hown ⟨B, 0, none⟩ 1 1 (eventC y) rfl hn h1 (by simp [maxLen]; omega) (by omega) hr
  have h5 : ERow base w' v' (xs ++ [y]) := by
    show w'.ownsRow _ _ _ _ _ _
    rw [List.length_append, List.flatMap_append]; simpa using h2
  refine wpList_plain hgd fun K hK => ?_
  unfold Oper.wp execOp
  simp only [ho, resolve, invoke, builtin, Sem.run_bind, Sem.run_pure, Result.andThen_ok, List.map_toArray, List.map_cons, List.map_nil, hs, hx, hr]
  exact hK _ _ (h v' w' h5 h3 hf)
end Go.Bu
