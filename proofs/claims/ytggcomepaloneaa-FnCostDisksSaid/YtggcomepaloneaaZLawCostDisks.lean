/- The law FnCostDisks holds of every input. -/
import Derived.Test.YtggcomepaloneaaZ8
import Derived.Test.YtggcomepaloneaaZ6
set_option linter.unusedVariables false
set_option linter.unusedSimpArgs false
namespace Go.Bu
open Go Go.RowKit Go.Plan Go.Proofs

/-- events, those ahead of k played to their ends -/
def mixE (es : List Event) (k : Nat) : List Event := (es.take k).map wholeE ++ es.drop k
theorem mixE_len (es : List Event) (k : Nat) : (mixE es k).length = es.length := by unfold mixE; simp; omega
theorem mixE_zero (es : List Event) : mixE es 0 = es := by unfold mixE; simp
theorem mixE_all (es : List Event) : mixE es es.length = es.map wholeE := by unfold mixE; simp
theorem mixE_get (es : List Event) {k : Nat} (hk : k < es.length) : (mixE es k)[k]? = some es[k] := by
  unfold mixE
  rw [List.getElem?_append_right (by simp; omega)]
  simp [Nat.min_eq_left (Nat.le_of_lt hk), hk]
theorem mixE_set (es : List Event) {k : Nat} (hk : k < es.length) : (mixE es k).set k (wholeE es[k]) = mixE es (k + 1) := by
  unfold mixE
  rw [List.set_append, if_neg (by simp; omega), List.length_map, List.length_take, Nat.min_eq_left (Nat.le_of_lt hk), Nat.sub_self, List.drop_eq_getElem_cons hk, List.set_cons_zero, ← take_snoc es k hk, List.map_append, List.append_assoc]
  rfl
theorem set_whole {w : World} {B o : Nat} {T : TypeId} {xs : List Event} (h : OwnAt 5 eventC T w B o xs) {k : Nat} (hk : k < xs.length) {ev : Event} (he : xs[k]? = some ev) :
    ∃ w', (w.setCell ⟨B, o + k * 5 + 3, none⟩ (.int .i64 60)).setCell ⟨B, o + k * 5 + 4, none⟩ (.bool false) = w' ∧ OwnAt 5 eventC T w' B o (xs.set k (wholeE ev)) ∧ Chg [B] w w' := by
  have hx : xs[k] = ev := by rw [List.getElem?_eq_getElem hk] at he; injection he
  have h1 := OwnAt.set1 (enc := eventC) (n := 5) (fun _ => rfl) h hk (j := 3) (by omega) (.int .i64 60) ⟨ev.kind, ev.a, ev.b, 60, ev.torn⟩ (by rw [hx]; rfl)
  have h2 := OwnAt.set1 (enc := eventC) (n := 5) (fun _ => rfl) h1 (k := k) (by rw [List.length_set]; exact hk) (j := 4) (by omega) (.bool false) (wholeE ev) (by rw [List.getElem_set_self]; rfl)
  rw [List.set_set] at h2
  exact ⟨_, rfl, h2, ((Chg.refl _ _).set (p := ⟨B, o + k * 5 + 3, none⟩) (.inl (by simp)) _).set (p := ⟨B, o + k * 5 + 4, none⟩) (.inl (by simp)) _⟩
theorem putsN_snoc (es : List Event) (e : Event) : putsN (es ++ [e]) = putsN es + (if e.kind = 1 then 1 else 0) := by
  unfold putsN; rw [List.countP_append]; simp
theorem putsN_le (es : List Event) : putsN es ≤ es.length := List.countP_le_length


set_option maxRecDepth 20000 in
set_option maxHeartbeats 2000000 in
theorem lawCostDisks (v : Value) (xs : List Nat) (w : World) (h : Bytes (Old w) w v xs) (hs : ∀ x ∈ xs, x < 256) (hcap : ∀ a n c, v = .slice a n c → n ≤ c) :
    Calls Try.prog 3 #[v] w (Ret w (.bool true)) := by
  obtain ⟨a, cap, rfl⟩ := h.form
  by_cases hl : xs.length ≤ 1048576
  · go_enter Try.func3, Try.ntmps3
    go_wp2_with fail
    refine (drawCostRun_c _ xs _ h hs hl hcap).mono ?_; rintro e1 w1 ⟨v1, es, rfl, X1, hE, hcapE, hD, h61⟩
    obtain ⟨oa, ocap, rfl⟩ := hE.form
    have hoc := hcapE _ _ _ rfl
    have hS := specCostRun_c _ es w1 hE (eventD_c hD) (by omega)
    have hI := fun (w' : World) (hx : Ext w1 w') => implCostRun_c _ es w' (Sl.same (plain_kept _) hE (same_old hx) (old_ext hx)) (eventD_c hD) (by omega)
    have HD := Lib.hid hD
    have HE := Lib.hid hE
    clear hE hD hcapE
    by_cases h60 : es.length ≤ 60
    · rw [if_pos h60, decide_eq_true h60] at hS
      simp only [if_pos h60, decide_eq_true h60] at hI
      go_wp2_with fail
      refine hS.mono ?_; rintro e2 w2 ⟨rfl, hx2⟩
      go_wp2_with fail
      refine (hI _ (ext_alloc hx2 _)).mono ?_; rintro e3 w3 ⟨rfl, hx3⟩
      have X13 : Ext w1 w3 := ext_trans (ext_alloc hx2 _) hx3
      have G6 := keep_ext hx3 (hg_new (w := w2) (x := .cells #[.int .i64 (runCost es).writes, .int .i64 (runCost es).wipes, .int .i64 (runCost es).disks] 26) (b := w2.heap.size) rfl)
      obtain ⟨g6, gf6⟩ := cellsK G6
      have l6 := heap_lt G6
      clear hS hI hx2 hx3
      go_wp2_with fail
      refine (lqC (runCost es) _).mono ?_; rintro e4 w4 ⟨rfl, hx4⟩
      have X14 : Ext w1 w4 := ext_trans (ext_alloc X13 _) hx4
      have X34 : Ext w3 w4 := ext_trans (ext_alloc (ext_refl w3) _) hx4
      have G8 := keep_ext hx4 (hg_new (w := w3) (x := .cells #[.int .i64 (runCost es).writes, .int .i64 (runCost es).wipes, .int .i64 (runCost es).disks] 26) (b := w3.heap.size) rfl)
      replace G6 := keep_ext X34 G6
      clear g6 gf6 l6 hx4 X34 X13
      obtain ⟨g6, gf6⟩ := cellsK G6
      obtain ⟨g8, gf8⟩ := cellsK G8
      have l6 := heap_lt G6
      have l8 := heap_lt G8
      have X04 := ext_trans X1 X14
      by_cases hes : es = []
      · subst hes
        have hO9 : OwnAt 5 eventC 31 (w4.alloc (.cells #[] 31)) w4.heap.size 0 [] := ⟨#[], hg_new rfl, fun i x hi => by simp at hi⟩
        rcases oa with _ | oa
        · go_wp2_with fail
          go_loopw [8, 10] (fun pv y wr => y = .int .i64 0 ∧ pv = .int .i64 0 ∧ Ext w4 wr ∧ Hid (OwnAt 5 eventC 31 wr w4.heap.size 0 [])) (fun _ _ _ => 0)
          case atStart => exact ⟨rfl, rfl, ext_alloc (ext_refl _) _, Lib.hid hO9⟩
          case round =>
            clear hO9
            obtain ⟨rfl, rfl, X, HO⟩ := hrel
            have hev : Events (Old wr) wr (.slice (some ⟨w4.heap.size, 0, none⟩) 0 0) [] := OwnAt.of HO.out (D := Old wr) HO.out.lt 0
            have H1 := implCostRun_c _ [] wr hev (fun e he => by cases he) (by simp)
            rw [if_pos (by simp), decide_eq_true (by simp), show runCost [] = cost0 from rfl] at H1
            go_wp2_with fail
            refine H1.mono ?_; rintro e7 w7 ⟨rfl, hx7⟩
            have XA := ext_trans X hx7
            clear H1
            go_wp2_with fail
            go_ret
            exact ⟨rfl, ext_trans X04 (ext_alloc XA _)⟩
        · obtain ⟨eb, eo, et⟩ := oa
          go_wp2_with fail
          go_loopw [8, 10] (fun pv y wr => y = .int .i64 0 ∧ pv = .int .i64 0 ∧ Ext w4 wr ∧ Hid (OwnAt 5 eventC 31 wr w4.heap.size 0 [])) (fun _ _ _ => 0)
          case atStart => exact ⟨rfl, rfl, ext_alloc (ext_refl _) _, Lib.hid hO9⟩
          case round =>
            clear hO9
            obtain ⟨rfl, rfl, X, HO⟩ := hrel
            have hev : Events (Old wr) wr (.slice (some ⟨w4.heap.size, 0, none⟩) 0 0) [] := OwnAt.of HO.out (D := Old wr) HO.out.lt 0
            have H1 := implCostRun_c _ [] wr hev (fun e he => by cases he) (by simp)
            rw [if_pos (by simp), decide_eq_true (by simp), show runCost [] = cost0 from rfl] at H1
            go_wp2_with fail
            refine H1.mono ?_; rintro e7 w7 ⟨rfl, hx7⟩
            have XA := ext_trans X hx7
            clear H1
            go_wp2_with fail
            go_ret
            exact ⟨rfl, ext_trans X04 (ext_alloc XA _)⟩
      · have HE4 : Events (Old (w4.alloc (.cells #[] 31))) (w4.alloc (.cells #[] 31)) (.slice oa es.length ocap) es := Sl.same (plain_kept _) HE.out (same_old (ext_alloc X14 _)) (old_ext (ext_alloc X14 _))
        obtain ⟨eb, eo, rfl, hbe, -⟩ := HE4.at5 (k := 0) (List.length_pos_iff.2 hes)
        have hz1 := X1.size
        have hz4 := X14.size
        go_wp2_with (refine wpList_ap0 5 40 eventC (fun _ => rfl) es (D := Old (w4.alloc (.cells #[] 31))) rfl rfl rfl rfl rfl Try.underlying23 (by kernel_rfl) (by omega) hes (by simp [maxLen]; omega) (by omega) HE4 (fun v9 w9 X9 hO9 => ?_))
        obtain ⟨B, hB, o, c9, rfl, hA9⟩ := OwnT.of_owns (n := 5) (enc := eventC) (fun _ => rfl) hO9 hes
        replace X9 := ext_trans (ext_alloc (ext_refl w4) _) X9
        have HO9 := Lib.hid hA9
        simp at hB
        replace hB : w4.heap.size ≤ B := by omega
        clear hO9 hA9 HE4 hes
        go_loopw [8, 10] (fun pv y wr => ∃ k : Nat, y = .int .i64 k ∧ pv = .int .i64 (putsN (es.take k)) ∧ k ≤ es.length ∧ Ext w4 wr ∧ Hid (OwnAt 5 eventC 31 wr B o (mixE es k))) (fun _ y _ => es.length - (intOf y).toNat)
        case atStart => exact ⟨0, rfl, rfl, by omega, X9, Lib.hid (by rw [mixE_zero]; exact HO9.out)⟩
        case round =>
          clear HO9 X9
          obtain ⟨k, rfl, rfl, hk, X, HO⟩ := hrel
          have hp1 := putsN_le (es.take k)
          rw [List.length_take] at hp1
          by_cases hlt : k < es.length
          · have hg := mixE_get es hlt
            have HMS := Lib.hid (mixE_set es hlt)
            have HPS := Lib.hid (show putsN (es.take (k + 1)) = _ by rw [← take_snoc es k hlt, putsN_snoc])
            obtain ⟨ev, hevv⟩ : ∃ e, es[k] = e := ⟨_, rfl⟩
            rw [hevv] at hg HMS HPS
            clear hevv
            have hc0 := HO.out.cell hg (j := 0) (u := .int .i64 ev.kind) rfl
            rw [Nat.add_zero] at hc0
            have hc3 := HO.out.cell hg (j := 3) (u := .int .i64 ev.c) rfl
            have hc4 := HO.out.cell hg (j := 4) (u := .bool ev.torn) rfl
            have hfz := fun j => HO.out.frozen j
            have hlB := HO.out.lt
            have HW := Lib.hid (set_whole HO.out (by rw [mixE_len]; exact hlt) hg)
            generalize putsN (es.take k) = pn at *
            clear hg
            by_cases h1 : ev.kind = 1
            · obtain ⟨kd, ea, eb2, ec, et⟩ := ev
              obtain rfl : kd = 1 := h1
              go_wp2_with fail
              obtain ⟨w', e', hO', C'⟩ := HW.out
              refine ⟨⟨k + 1, by go_num, by rw [HPS.out, if_pos rfl]; go_num, by omega, ?_, Lib.hid ?_⟩, by simp [intOf]; omega⟩
              · rw [e']; exact C'.ext X (by simp; omega)
              · rw [e', ← HMS.out]; exact hO'
            · have h1f : (ev.kind == 1) = false := by simpa using h1
              have H1 := Lib.hid h1
              clear h1
              go_wp2_with fail
              obtain ⟨w', e', hO', C'⟩ := HW.out
              refine ⟨⟨k + 1, by go_num, by rw [HPS.out, if_neg H1.out]; go_num, by omega, ?_, Lib.hid ?_⟩, by simp [intOf]; omega⟩
              · rw [e']; exact C'.ext X (by simp; omega)
              · rw [e', ← HMS.out]; exact hO'
          · obtain rfl : k = es.length := by omega
            rw [mixE_all] at HO
            rw [List.take_length]
            have HQ := Lib.hid (run_disks es)
            have hc1 : ∀ e ∈ es.map wholeE, -9223372036854775808 ≤ e.c ∧ e.c ≤ 9223372036854775807 := fun e he => by obtain ⟨x, _, rfl⟩ := List.mem_map.1 he; unfold wholeE; dsimp only; omega
            have hev : Events (Old wr) wr (.slice (some ⟨B, o, none⟩) es.length (es.length + c9)) (es.map wholeE) := by
              rw [show es.length = (es.map wholeE).length by simp]
              exact OwnAt.of HO.out (D := Old wr) HO.out.lt _
            have hl1 : (es.map wholeE).length ≤ 60 := by rw [List.length_map]; exact h60
            generalize es.map wholeE = zs at *
            have H1 := implCostRun_c _ zs wr hev hc1 (by omega)
            rw [if_pos hl1, decide_eq_true hl1] at H1
            generalize runCost zs = C1 at *
            obtain ⟨d1, d2, d3⟩ := C1
            have q3 : d3 ≤ 2 * (putsN es : Nat) := HQ.out
            have hp2 := putsN_le es
            generalize putsN es = pn at *
            clear HQ HO hc1 hev hp1
            go_wp2_with fail
            refine H1.mono ?_; rintro e7 w7 ⟨rfl, hx7⟩
            have XA := ext_trans X hx7
            clear H1
            go_wp2_with fail
            go_ret
            exact ⟨rfl, ext_trans X04 (ext_alloc XA _)⟩
    · rw [if_neg h60, decide_eq_false h60] at hS
      simp only [if_neg h60, decide_eq_false h60] at hI
      go_wp2_with fail
      refine hS.mono ?_; rintro e2 w2 ⟨rfl, hx2⟩
      go_wp2_with fail
      refine (hI _ (ext_alloc hx2 _)).mono ?_; rintro e3 w3 ⟨rfl, hx3⟩
      have X13 : Ext w1 w3 := ext_trans (ext_alloc hx2 _) hx3
      have G6 := keep_ext hx3 (hg_new (w := w2) (x := .cells #[.int .i64 cost0.writes, .int .i64 cost0.wipes, .int .i64 cost0.disks] 26) (b := w2.heap.size) rfl)
      obtain ⟨g6, gf6⟩ := cellsK G6
      have l6 := heap_lt G6
      clear hS hI hx2 hx3
      go_wp2_with fail
      refine (lqC cost0 _).mono ?_; rintro e4 w4 ⟨rfl, hx4⟩
      have X14 : Ext w1 w4 := ext_trans (ext_alloc X13 _) hx4
      have X34 : Ext w3 w4 := ext_trans (ext_alloc (ext_refl w3) _) hx4
      have G8 := keep_ext hx4 (hg_new (w := w3) (x := .cells #[.int .i64 cost0.writes, .int .i64 cost0.wipes, .int .i64 cost0.disks] 26) (b := w3.heap.size) rfl)
      replace G6 := keep_ext X34 G6
      clear g6 gf6 l6 hx4 X34 X13
      obtain ⟨g6, gf6⟩ := cellsK G6
      obtain ⟨g8, gf8⟩ := cellsK G8
      have l6 := heap_lt G6
      have l8 := heap_lt G8
      go_wp2_with fail
      refine (lqC cost0 _).mono ?_; rintro e5 w5 ⟨rfl, hx5⟩
      go_wp2_with fail
      go_ret
      exact ⟨rfl, ext_trans X1 (ext_trans X14 hx5)⟩
  · go_enter Try.func3, Try.ntmps3
    go_wp2_with fail
    all_goals
      go_ret
      exact ⟨rfl, ext_refl _⟩
end Go.Bu
