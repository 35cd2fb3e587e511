/- The program's FlashOk. -/
import Derived.Test.YtcainddboblpbaaImplF
import Derived.Test.YtcainddboblpbaaMapI
import Derived.Test.YtcainddboblpbaaFlash
import Derived.Carry
set_option linter.unusedVariables false
set_option linter.unusedSimpArgs false
namespace Go.Bu
open Go Go.RowKit Go.Plan Go.Proofs

def scanQ (seen : List Int) : List Page → Option (List Int)
  | [] => some seen
  | p :: ps => if !pageOkB p then none else if p.state != 1 then scanQ seen ps else if seen.contains p.r.seq then none else scanQ (p.r.seq :: seen) ps
def scanG (seen : List Int) : List Block → Option (List Int)
  | [] => some seen
  | b :: f => if !shapeB b.pages b.worn then none else (scanQ seen b.pages).bind fun s => scanG s f
theorem scanP_Q : ∀ (ps : List Page) (prev : Bool) (seen : List Int), scanP prev seen ps = if freeScan prev ps then scanQ seen ps else none
  | [], prev, seen => by simp [scanP, freeScan, scanQ]
  | p :: ps, prev, seen => by
    rw [scanP, freeScan, scanQ, scanP_Q ps]
    by_cases h1 : pageOkB p = true
    · by_cases h3 : p.state = 1
      · by_cases h4 : p.r.seq ∈ seen
        · cases prev <;> simp [h1, h3, h4]
        · cases prev <;> simp [h1, h3, h4]
      · by_cases h5 : p.state = 0
        · cases prev <;> simp [h1, h5]
        · cases prev <;> simp [h1, h3, h5]
    · cases prev <;> simp [h1]
theorem scanF_G : ∀ (f : List Block) (seen : List Int), scanF seen f = scanG seen f
  | [], seen => rfl
  | b :: f, seen => by
    rw [scanF, scanG, scanP_Q]
    unfold shapeB
    by_cases h1 : b.pages.length = 4
    · by_cases h2 : inB b.worn 0 200 = true
      · by_cases h3 : freeScan false b.pages = true
        · simp [h1, h2, h3, scanF_G f]
        · simp [h1, h2, h3]
      · simp [h1, h2]
    · simp [h1]
theorem flashOk_G (f : List Block) : flashOkB f = (f.length == 4 && (scanG [] f).isSome) := by unfold flashOkB; rw [scanF_G]
theorem scanG_drop (seen : List Int) (f : List Block) (k : Nat) (h : k < f.length) : scanG seen (f.drop k) = if !shapeB f[k].pages f[k].worn then none else (scanQ seen f[k].pages).bind fun s => scanG s (f.drop (k + 1)) := by
  rw [List.drop_eq_getElem_cons h, scanG]
theorem scanQ_drop (seen : List Int) (ps : List Page) (k : Nat) (h : k < ps.length) : scanQ seen (ps.drop k) =
    if !pageOkB ps[k] then none else if ps[k].state != 1 then scanQ seen (ps.drop (k + 1)) else if seen.contains ps[k].r.seq then none else scanQ (ps[k].r.seq :: seen) (ps.drop (k + 1)) := by
  rw [List.drop_eq_getElem_cons h, scanQ]

theorem grown_ext {w w1 w2 : World} {ob : Option Nat} (h : Ext w w1) (hob : ∀ g, ob = some g → w.heap.size ≤ g) (hg : w1.grownBy w2 ob) : Ext w w2 := by
  refine ⟨hg.os.trans h.os, hg.tape.trans h.tape, hg.output.trans h.output, Nat.le_trans h.size hg.size, fun k hk => ?_⟩
  rw [hg.block k (Nat.lt_of_lt_of_le hk h.size) fun e => by have := hob k e.symm; omega]; exact h.block k hk

set_option maxRecDepth 20000 in
set_option maxHeartbeats 2000000 in
theorem implFlashOk_c (v : Value) (f : List Block) (w : World) (h : Flash (Old w) w v f) (hp : ∀ b ∈ f, b.pages.length ≤ 1048576) :
    Calls Try.prog 76 #[v] w (Ret w (.bool (flashOkB f))) := by
  obtain ⟨a, cap, rfl⟩ := h.form
  have X0 := ext_refl w
  by_cases h4 : f.length = 4
  · obtain ⟨A, hA⟩ : ∃ A, (scanG [] f).isSome = A := ⟨_, rfl⟩
    have hs : flashOkB f = A := by rw [flashOk_G, hA, h4]; rfl
    rw [hs]
    have HA : Hid ((scanG [] (f.drop 0)).isSome = A) := Lib.hid (by rw [List.drop_zero]; exact hA)
    have HP := Lib.hid hp
    rw [h4] at h ⊢
    have H40 := Lib.hid h4
    clear hs hA hp h4
    have hM := MapOf.made Try.prog 3 w
    have hmm := @run_makeMap Try.prog
    go_enter Try.func76, Try.ntmps76
    go_wp2
    clear hmm
    go_loopw [14] (fun y wr => ∃ (i : Nat) (L : List Int) (n : Nat), i ≤ 4 ∧ y = .int .i64 i ∧ n ≤ 4 * i ∧ Ext w wr ∧ MapOf Try.prog 3 wr w.heap.size n (metG L) ∧ Hid ((scanG L (f.drop i)).isSome = A)) (fun y _ => 4 - (intOf y).toNat)
    case atStart => exact ⟨0, [], 0, by omega, rfl, by omega, by go_grown, hM, HA⟩
    case round =>
      clear hM HA
      obtain ⟨i, L, n, hi, rfl, hn, hX, HM, HR⟩ := hrel
      by_cases hlt : i < 4
      · have hif : i < f.length := by have := H40.out; omega
        obtain ⟨b, o, pv, rfl, hb, hpp, h0, h1⟩ := h.at2 hif
        have hb' : b < w.heap.size := hb
        obtain ⟨hc, hf⟩ := bcell hX
        obtain ⟨pa, pcap, rfl⟩ := hpp.form
        have hpl := HP.out f[i] (List.getElem_mem _)
        rw [scanG_drop _ _ _ hif] at HR
        have HBS : ∀ w', Ext wr w' → Calls Try.prog 98 #[.agg #[.slice pa f[i].pages.length pcap, .int .i64 f[i].worn]] w' (Ret w' (.bool (shapeB f[i].pages f[i].worn))) := fun w' hx => blockShape_c _ _ _ w' (hpp.ext (ext_trans hX hx)) hpl
        generalize hsh : shapeB f[i].pages f[i].worn = sh at *
        go_wp2_with fail
        refine (HBS _ (ext_alloc (ext_refl _) _)).mono ?_; rintro e1 w1 ⟨rfl, hx1⟩
        have G5 := keep_ext hx1 (hg_new (b := wr.heap.size) rfl)
        have X1 : Ext wr w1 := ext_trans (ext_alloc (ext_refl _) _) hx1
        have l5 := heap_lt G5
        obtain ⟨g5, gf5⟩ := cellsK G5
        have HM1 := HM.ext X1
        have lm := HM1.lt
        clear HBS h0 h1 hx1 HM hc hf
        cases sh
        · have hr := HR.out
          have hr : false = A := hr
          subst hr
          go_wp2_with fail
          go_ret
          exact ⟨rfl, ext_trans hX X1⟩
        · have h4p : f[i].pages.length = 4 := by
            simp only [shapeB, Bool.and_eq_true, beq_iff_eq] at hsh; exact hsh.1.1
          have HRR : Hid (((scanQ L (f[i].pages.drop 0)).bind fun s => scanG s (f.drop (i + 1))).isSome = A) := by
            rw [List.drop_zero]; exact HR
          have H4 := Lib.hid h4p
          rw [h4p] at hpp g5
          clear HR hsh h4p
          have XW := ext_trans hX X1
          go_wp2_with fail
          go_loopw [24] (fun y wr2 => ∃ (k : Nat) (L : List Int) (n : Nat), k ≤ 4 ∧ y = .int .i64 k ∧ n ≤ 4 * i + k ∧ Ext w wr2 ∧ MapOf Try.prog 3 wr2 w.heap.size n (metG L) ∧ Hid (((scanQ L (f[i].pages.drop k)).bind fun s => scanG s (f.drop (i + 1))).isSome = A)) (fun y _ => 4 - (intOf y).toNat)
          case atStart => exact ⟨0, L, n, by omega, rfl, by omega, XW, HM1, HRR⟩
          case round =>
            clear XW HM1 HRR hX X1 l5 g5 gf5 G5 lm
            obtain ⟨k, L, n, hk, rfl, hn, hX, HM, HR⟩ := hrel
            obtain ⟨hc, hf⟩ := bcell hX
            by_cases hk4 : k < 4
            · have hkl : k < f[i].pages.length := by have := H4.out; omega
              obtain ⟨b2, o2, rfl, hb2, e0, e1, e2, e3, e4⟩ := hpp.at5 hkl
              have hb2' : b2 < w.heap.size := hb2
              rw [scanQ_drop _ _ _ hkl] at HR
              have HPS : ∀ w', Calls Try.prog 99 #[pageA f[i].pages[k]] w' (Ret w' (.bool (pageOkB f[i].pages[k]))) := fun w' => implPageOk_c _ w'
              have hsq := @pageOk_seq f[i].pages[k]
              generalize f[i].pages[k] = pg at *
              generalize hpo : pageOkB pg = po at *
              cases po
              · have hr := HR.out
                have hr : false = A := hr
                subst hr
                go_wp2_with fail
                refine (HPS _).mono ?_; rintro e1 w2 ⟨rfl, hx2⟩
                have X2 := ext_trans (ext_alloc (ext_refl _) _) hx2
                go_wp2_with fail
                go_ret
                exact ⟨rfl, ext_trans hX X2⟩
              · obtain ⟨hs0, hs1⟩ := hsq rfl
                have hwf := i64_wf (x := pg.r.seq) (by omega) (by omega)
                go_wp2_with fail
                refine (HPS _).mono ?_; rintro e1 w2 ⟨rfl, hx2⟩
                have G7 := keep_ext hx2 (hg_new (b := wr.heap.size) rfl)
                have X2 := ext_trans (ext_alloc (ext_refl _) _) hx2
                have l7 := heap_lt G7
                obtain ⟨g7, gf7⟩ := cellsK G7
                have HM2 := HM.ext X2
                have hlk := HM2.lookup (t := 128) Try.underlying3 Try.underlying128 (z := .int .i64 0) (by rfl) hwf false
                have X3 := ext_trans hX X2
                clear HPS hx2 HM e0 e1 e2 e3 e4 hc hf
                by_cases hst : pg.state = 1
                · by_cases hin : L.contains pg.r.seq = true
                  · have hr := HR.out
                    rw [if_neg (by simp), if_neg (by simp [hst]), if_pos hin] at hr
                    have hr : false = A := hr
                    subst hr
                    have hv : (metG L pg.r.seq).getD (.int .i64 0) = .int .i64 1 := by unfold metG; rw [if_pos hin]; rfl
                    rw [hv] at hlk
                    simp only [Bool.false_eq_true, if_false] at hlk
                    have hst1 := hst
                    clear HR hv hin
                    go_wp2_with fail
                    go_ret
                    exact ⟨rfl, X3⟩
                  · have hr := HR.out
                    rw [if_neg (by simp), if_neg (by simp [hst]), if_neg hin] at hr
                    have HR2 : Hid (((scanQ (pg.r.seq :: L) (f[i].pages.drop (k + 1))).bind fun s => scanG s (f.drop (i + 1))).isSome = A) := Lib.hid hr
                    have hv : (metG L pg.r.seq).getD (.int .i64 0) = .int .i64 0 := by unfold metG; rw [if_neg hin]; rfl
                    rw [hv] at hlk
                    simp only [Bool.false_eq_true, if_false] at hlk
                    clear HR hv hin hr
                    go_wp2_with (at_mapUpdate; refine wpList_mapUpd rfl _ _ _ rfl Try.underlying3 Try.underlying128 rfl HM2 (by unfold maxLen; omega) rfl hwf (val := .int .i64 1) rfl (fun w5 hM5 hg5 => ?_))
                    rw [metG_cons] at hM5
                    have X5 := grown_ext X3 (fun g hg => by cases hg; exact Nat.le_refl _) hg5
                    clear hlk
                    go_wp2_with fail
                    exact ⟨⟨k + 1, pg.r.seq :: L, n + 1, by omega, by go_num, by omega, X5, hM5, HR2⟩, by simp [intOf]; omega⟩
                · have hr := HR.out
                  rw [if_neg (by simp), if_pos (by simp [hst])] at hr
                  have HR2 := Lib.hid hr
                  clear HR hr hlk
                  go_wp2_with fail
                  go_roundw
                  case rel => exact ⟨k + 1, L, n, by omega, by go_num, by omega, X3, HM2, HR2⟩
                  case measure => simp [intOf]; omega
            · obtain rfl : k = 4 := by omega
              have hr := HR.out
              rw [List.drop_eq_nil_of_le (by rw [H4.out]; omega)] at hr
              have HR2 : Hid ((scanG L (f.drop (i + 1))).isSome = A) := Lib.hid hr
              clear hr HR
              go_wp2_with fail
              exact ⟨⟨i + 1, L, n, by omega, by go_num, by omega, hX, HM, HR2⟩, by simp [intOf]; omega⟩
      · obtain rfl : i = 4 := by omega
        have hr := HR.out
        rw [List.drop_eq_nil_of_le (by rw [H40.out]; omega)] at hr
        have hr : true = A := hr
        subst hr
        go_wp2_with fail
        go_ret
        exact ⟨rfl, hX⟩
  · have hs : flashOkB f = false := by rw [flashOk_G]; simp [h4]
    rw [hs]
    go_enter Try.func76, Try.ntmps76
    go_wp2
    all_goals
      try simp only [beq_iff_eq, Bool.not_eq_true, beq_eq_false_iff_ne, ne_eq, bne_iff_ne, bne_eq_false_iff_eq, decide_eq_true_eq, decide_eq_false_iff_not] at *
      first
      | (exfalso; omega)
      | (go_ret; exact ⟨rfl, X0⟩)
end Go.Bu
