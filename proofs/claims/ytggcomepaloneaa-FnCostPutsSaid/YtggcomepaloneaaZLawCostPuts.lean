/- The law FnCostPuts holds of every input. -/
import Derived.Test.YtggcomepaloneaaZ8
import Derived.Test.YtggcomepaloneaaZ3
set_option linter.unusedVariables false
set_option linter.unusedSimpArgs false
namespace Go.Bu
open Go Go.RowKit Go.Plan Go.Proofs

/-- the puts, played to their ends -/
def putsE (es : List Event) : List Event := (es.filter fun e => e.kind == 1).map wholeE
theorem putsE_snoc (es : List Event) (e : Event) : putsE (es ++ [e]) = if e.kind = 1 then putsE es ++ [wholeE e] else putsE es := by
  unfold putsE
  rw [List.filter_append, List.map_append]
  by_cases h : e.kind = 1
  · rw [if_pos h]; simp [h]
  · rw [if_neg h]; simp [h]
theorem putsE_len (es : List Event) : (putsE es).length ≤ es.length := by
  unfold putsE; rw [List.length_map]; exact List.length_filter_le _ _
theorem run_putsE {es : List Event} (hl : es.length ≤ 60) (hd : ∀ e ∈ es, EventD e) : (runCost (putsE es)).writes = (putsE es).length ∧ (runCost (putsE es)).disks ≤ (putsE es).length ∧ (runCost (putsE es)).wipes ≤ (putsE es).length / 4 := by
  have h := run_puts (es := es.filter fun e => e.kind == 1) (Nat.le_trans (List.length_filter_le _ _) hl) fun e he => by
    obtain ⟨h1, h2⟩ := List.mem_filter.1 he
    exact ⟨by simpa using h2, (hd e h1).a, (hd e h1).b⟩
  unfold putsE
  rw [List.length_map]
  exact h


set_option maxRecDepth 20000 in
set_option maxHeartbeats 2000000 in
theorem lawCostPuts (v : Value) (xs : List Nat) (w : World) (h : Bytes (Old w) w v xs) (hs : ∀ x ∈ xs, x < 256) (hcap : ∀ a n c, v = .slice a n c → n ≤ c) :
    Calls Try.prog 5 #[v] w (Ret w (.bool true)) := by
  obtain ⟨a, cap, rfl⟩ := h.form
  by_cases hl : xs.length ≤ 1048576
  · go_enter Try.func5, Try.ntmps5
    go_wp2_with fail
    refine (drawCostRun_c _ xs _ h hs hl hcap).mono ?_; rintro e1 w1 ⟨v1, es, rfl, X1, hE, hcapE, hD, h61⟩
    obtain ⟨oa, ocap, rfl⟩ := hE.form
    have hoc := hcapE _ _ _ rfl
    have hS := specCostRun_c _ es w1 hE (eventD_c hD) (by omega)
    have hI := fun (w' : World) (hx : Ext w1 w') => implCostRun_c _ es w' (Sl.same (plain_kept _) hE (same_old hx) (old_ext hx)) (eventD_c hD) (by omega)
    have HD := Lib.hid hD
    have HE := Lib.hid hE
    clear hE hD hcapE
    by_cases h60 : es.length ≤ 60
    · rw [if_pos h60, decide_eq_true h60] at hS
      simp only [if_pos h60, decide_eq_true h60] at hI
      go_wp2_with fail
      refine hS.mono ?_; rintro e2 w2 ⟨rfl, hx2⟩
      go_wp2_with fail
      refine (hI _ (ext_alloc hx2 _)).mono ?_; rintro e3 w3 ⟨rfl, hx3⟩
      have X13 : Ext w1 w3 := ext_trans (ext_alloc hx2 _) hx3
      have G6 := keep_ext hx3 (hg_new (w := w2) (x := .cells #[.int .i64 (runCost es).writes, .int .i64 (runCost es).wipes, .int .i64 (runCost es).disks] 26) (b := w2.heap.size) rfl)
      obtain ⟨g6, gf6⟩ := cellsK G6
      have l6 := heap_lt G6
      clear hS hI hx2 hx3
      go_wp2_with fail
      refine (lqC (runCost es) _).mono ?_; rintro e4 w4 ⟨rfl, hx4⟩
      have X14 : Ext w1 w4 := ext_trans (ext_alloc X13 _) hx4
      have X34 : Ext w3 w4 := ext_trans (ext_alloc (ext_refl w3) _) hx4
      have G8 := keep_ext hx4 (hg_new (w := w3) (x := .cells #[.int .i64 (runCost es).writes, .int .i64 (runCost es).wipes, .int .i64 (runCost es).disks] 26) (b := w3.heap.size) rfl)
      replace G6 := keep_ext X34 G6
      clear g6 gf6 l6 hx4 X34 X13
      obtain ⟨g6, gf6⟩ := cellsK G6
      obtain ⟨g8, gf8⟩ := cellsK G8
      have l6 := heap_lt G6
      have l8 := heap_lt G8
      have GR : (w4.alloc (.cells #[] 31)).heap[w4.heap.size]? = some (.cells #[] 31 (0, 0)) := hg_new rfl
      have HT0 : Hid (ERow w4.heap.size (w4.alloc (.cells #[] 31)) (.slice (some ⟨w4.heap.size, 0, none⟩) 0 0) []) := Lib.hid (ERow.empty GR (Nat.le_refl _))
      have X04 := ext_trans X1 X14
      clear GR
      go_wp2_with fail
      go_loopw [8, 9] (fun ov y wr => ∃ (k : Nat), y = .int .i64 k ∧ k ≤ es.length ∧ Ext w4 wr ∧ Hid (ERow w4.heap.size wr ov (putsE (es.take k)))) (fun _ y _ => es.length - (intOf y).toNat)
      case atStart => exact ⟨0, rfl, by omega, ext_alloc (ext_refl _) _, HT0⟩
      case round =>
        clear HT0
        obtain ⟨k, rfl, hk, X, HT⟩ := hrel
        have hl1 : (putsE (es.take k)).length ≤ 60 := by have := putsE_len (es.take k); rw [List.length_take] at this; omega
        by_cases hlt : k < es.length
        · obtain ⟨eb, eo, rfl, hbe, q0, q1, q2, q3, q4⟩ := (Sl.same (plain_kept _) HE.out (same_old X14) (old_ext X14) : Events (Old w4) w4 _ _).at5 hlt
          obtain ⟨ev, hevv⟩ : ∃ e, es[k] = e := ⟨_, rfl⟩
          have HEV := Lib.hid hevv
          rw [hevv] at q0 q1 q2 q3 q4
          clear hevv
          have HS1 := Lib.hid (show putsE (es.take (k + 1)) = if ev.kind = 1 then putsE (es.take k) ++ [wholeE ev] else putsE (es.take k) by rw [← take_snoc es k hlt, HEV.out, putsE_snoc])
          generalize putsE (es.take k) = zs at *
          obtain ⟨oa1, oc1, rfl⟩ := ERow.form HT.out
          have hbe4 : eb < w4.heap.size := hbe
          obtain ⟨hc, hf⟩ := bcell X
          obtain ⟨kd, ea, eb2, ec, et⟩ := ev
          by_cases h1 : kd = 1
          · subst h1
            rw [if_pos rfl] at HS1
            have hT := HT.out
            go_wp2_with fail
            refine wp_region_sa X HT.out [12, 13] [0, 1, 2, 3, 4, 5, 6, 7, 8, 9, 10, 11, 12, 13] [] [14] (by kernel_rfl) (by kernel_rfl) ?late ?_
            case late => exact fun f hf => absurd hf List.not_mem_nil
            iterate 3
              refine Rob.y (v := ?_) rfl rfl (fun w1 hx hH => ?_) ?_; rotate_left
              · go_simp; first | done | rfl | exact (Bool.not_not _).symm
              simp only [Act.put, List.setIfInBounds_toArray, List.set_cons_succ, List.set_cons_zero]
            refine Rob.y (v := ?_) rfl rfl (fun w1 hx hH => ?_) ?_; rotate_left
            · (obtain ⟨hcx, hfx⟩ := bcell (show Ext w4 w1 from by first | exact hx.ext | exact hx.1.ext | exact hx.1.1.ext)); go_simp; first | done | rfl
            simp only [Act.put, List.setIfInBounds_toArray, List.set_cons_succ, List.set_cons_zero]
            refine Rob.y (v := ?_) rfl rfl (fun w1 hx hH => ?_) ?_; rotate_left
            · go_simp; first | done | rfl | exact (Bool.not_not _).symm
            simp only [Act.put, List.setIfInBounds_toArray, List.set_cons_succ, List.set_cons_zero]
            refine Rob.y (v := ?_) rfl rfl (fun w1 hx hH => ?_) ?_; rotate_left
            · (obtain ⟨hcx, hfx⟩ := bcell (show Ext w4 w1 from by first | exact hx.ext | exact hx.1.ext | exact hx.1.1.ext)); go_simp; first | done | rfl
            simp only [Act.put, List.setIfInBounds_toArray, List.set_cons_succ, List.set_cons_zero]
            iterate 2
              refine Rob.y (v := ?_) rfl rfl (fun w1 hx hH => ?_) ?_; rotate_left
              · go_simp; first | done | rfl | exact (Bool.not_not _).symm
              simp only [Act.put, List.setIfInBounds_toArray, List.set_cons_succ, List.set_cons_zero]
            refine Rob.y (v := ?_) rfl rfl (fun w1 hx hH => ?_) ?_; rotate_left
            · (obtain ⟨hcx, hfx⟩ := bcell (show Ext w4 w1 from by first | exact hx.ext | exact hx.1.ext | exact hx.1.1.ext)); go_simp; first | done | rfl
            simp only [Act.put, List.setIfInBounds_toArray, List.set_cons_succ, List.set_cons_zero]
            refine Rob.y (v := ?_) rfl rfl (fun w1 hx hH => ?_) ?_; rotate_left
            · go_simp; first | done | rfl | exact (Bool.not_not _).symm
            simp only [Act.put, List.setIfInBounds_toArray, List.set_cons_succ, List.set_cons_zero]
            refine Rob.y (v := ?_) rfl rfl (fun w1 hx hH => ?_) ?_; rotate_left
            · (obtain ⟨hcx, hfx⟩ := bcell (show Ext w4 w1 from by first | exact hx.ext | exact hx.1.ext | exact hx.1.1.ext)); go_simp; first | done | rfl
            simp only [Act.put, List.setIfInBounds_toArray, List.set_cons_succ, List.set_cons_zero]
            refine Rob.y (v := ?_) rfl rfl (fun w1 hx hH => ?_) ?_; rotate_left
            · go_simp; first | done | rfl | exact (Bool.not_not _).symm
            simp only [Act.put, List.setIfInBounds_toArray, List.set_cons_succ, List.set_cons_zero]
            refine Rob.al (.cells (eventC ⟨1, ea, eb2, 60, false⟩).toArray 31 (0, 0)) (fun lo => .slice (some ⟨lo, 0, none⟩) 1 1) rfl rfl rfl (fun _ _ h hx => h.stab hx) (fun w1 => by go_simp) (fun lo12 hi12 hlo12 hhi12 => ?_)
            simp only [Act.put, List.setIfInBounds_toArray, List.set_cons_succ, List.set_cons_zero]
            refine Rob.app 40 (eventC ⟨1, ea, eb2, 60, false⟩) 1 rfl rfl rfl rfl rfl rfl Try.underlying23 (by kernel_rfl) (by omega) rfl rfl (by simp [Value.oneCell']) (by simp [maxLen]; omega) (by omega) X.size (by omega) rfl HT.out hlo12 rfl (fun lo13 hi13 v13 hlo13 => ?_)
            simp only [Act.put, List.setIfInBounds_toArray, List.set_cons_succ, List.set_cons_zero]
            refine fin_tail (fun w3 hx3 _ => ?_)
            obtain ⟨⟨hSA, -⟩, hR⟩ := hx3
            have HR3 : Hid (ERow w4.heap.size w3 v13 (zs ++ [⟨1, ea, eb2, 60, false⟩])) := Lib.hid (by
              show w3.ownsRow _ _ _ _ _ _
              rw [List.length_append, List.flatMap_append]; simpa using hR)
            have X3 := hSA.ext
            clear hR hSA hT hc hf q0 q1 q2 q3 q4
            simp only [dstOf, List.getElem?_cons_succ, List.getElem?_cons_zero, Option.bind_some, Act.put, List.setIfInBounds_toArray, List.set_cons_succ, List.set_cons_zero, List.filterMap_cons, List.filterMap_nil]
            go_wp2_with fail
            refine ⟨⟨k + 1, by go_num, by omega, X3, Lib.hid ?_⟩, by simp [intOf]; omega⟩
            rw [HS1.out]
            exact HR3.out
          · have h1f : (kd == 1) = false := by simpa using h1
            rw [if_neg h1] at HS1
            go_wp2_with fail
            refine ⟨⟨k + 1, by go_num, by omega, X, Lib.hid ?_⟩, by simp [intOf]; omega⟩
            rw [HS1.out]
            exact HT.out
        · obtain rfl : k = es.length := by omega
          rw [List.take_length] at HT hl1
          have HQ := Lib.hid (run_putsE h60 HD.out)
          have hc1 : ∀ e ∈ putsE es, -9223372036854775808 ≤ e.c ∧ e.c ≤ 9223372036854775807 := fun e he => by obtain ⟨x, _, rfl⟩ := List.mem_map.1 he; unfold wholeE; dsimp only; omega
          generalize putsE es = zs at *
          have H1 := implCostRun_c _ zs wr HT.out.events hc1 (by omega)
          rw [if_pos hl1, decide_eq_true hl1] at H1
          generalize runCost zs = C1 at *
          obtain ⟨d1, d2, d3⟩ := C1
          obtain ⟨q1, q2, q3⟩ := HQ.out
          dsimp only at q1 q2 q3
          subst q1
          obtain ⟨oa1, oc1, rfl⟩ := ERow.form HT.out
          clear HQ HT hc1
          go_wp2_with fail
          refine H1.mono ?_; rintro e7 w7 ⟨rfl, hx7⟩
          have XA := ext_trans X hx7
          clear H1
          go_wp2_with fail
          go_ret
          exact ⟨rfl, ext_trans X04 (ext_alloc XA _)⟩
    · rw [if_neg h60, decide_eq_false h60] at hS
      simp only [if_neg h60, decide_eq_false h60] at hI
      go_wp2_with fail
      refine hS.mono ?_; rintro e2 w2 ⟨rfl, hx2⟩
      go_wp2_with fail
      refine (hI _ (ext_alloc hx2 _)).mono ?_; rintro e3 w3 ⟨rfl, hx3⟩
      have X13 : Ext w1 w3 := ext_trans (ext_alloc hx2 _) hx3
      have G6 := keep_ext hx3 (hg_new (w := w2) (x := .cells #[.int .i64 cost0.writes, .int .i64 cost0.wipes, .int .i64 cost0.disks] 26) (b := w2.heap.size) rfl)
      obtain ⟨g6, gf6⟩ := cellsK G6
      have l6 := heap_lt G6
      clear hS hI hx2 hx3
      go_wp2_with fail
      refine (lqC cost0 _).mono ?_; rintro e4 w4 ⟨rfl, hx4⟩
      have X14 : Ext w1 w4 := ext_trans (ext_alloc X13 _) hx4
      have X34 : Ext w3 w4 := ext_trans (ext_alloc (ext_refl w3) _) hx4
      have G8 := keep_ext hx4 (hg_new (w := w3) (x := .cells #[.int .i64 cost0.writes, .int .i64 cost0.wipes, .int .i64 cost0.disks] 26) (b := w3.heap.size) rfl)
      replace G6 := keep_ext X34 G6
      clear g6 gf6 l6 hx4 X34 X13
      obtain ⟨g6, gf6⟩ := cellsK G6
      obtain ⟨g8, gf8⟩ := cellsK G8
      have l6 := heap_lt G6
      have l8 := heap_lt G8
      go_wp2_with fail
      refine (lqC cost0 _).mono ?_; rintro e5 w5 ⟨rfl, hx5⟩
      go_wp2_with fail
      go_ret
      exact ⟨rfl, ext_trans X1 (ext_trans X14 hx5)⟩
  · go_enter Try.func5, Try.ntmps5
    go_wp2_with fail
    all_goals
      go_ret
      exact ⟨rfl, ext_refl _⟩
end Go.Bu
