/- What CostOf is given: drawn steps. -/
import Derived.Test.YtcgedfahgldkoaaDraw8
import Derived.Test.YtcgedfahgldkoaaApp0
set_option linter.unusedVariables false
set_option linter.unusedSimpArgs false
namespace Go.Bu
open Go Go.RowKit Go.Plan Go.Proofs

theorem grownBy_chg {L : List Nat} {w w1 w2 : World} {ob : Option Nat} (h : Chg L w w1) (hob : ∀ g, ob = some g → w.heap.size ≤ g) (hg : w1.grownBy w2 ob) : Chg L w w2 :=
  ⟨hg.os.trans h.os, hg.tape.trans h.tape, hg.output.trans h.output, Nat.le_trans h.size hg.size, fun k hk hn => by
    rw [hg.block k (Nat.lt_of_lt_of_le hk h.size) fun e => by have := hob k e.symm; omega]; exact h.block k hk hn⟩
theorem grownBy_own {c : SC} {w w' : World} {s : Store} {ob : Option Nat} (h : OwnS c w s) (hob : ∀ g, ob = some g → ∀ b ∈ c.L, b < g) (hg : w.grownBy w' ob) : OwnS c w' s :=
  h.keep fun b hm => hg.block b (h.lt b hm) fun e => by have := hob b e.symm b hm; omega
theorem grownBy_rk {w w' : World} {R K : Nat} {ob : Option Nat} (h : Rk w R K) (hob : ∀ g, ob = some g → R < g) (hg : w.grownBy w' ob) : Rk w' R K := by
  obtain ⟨bv, xs', p, h, hp⟩ := h
  have hk : ∀ b, b ≤ R → w'.heap[b]? = w.heap[b]? := fun b hbR => hg.block b (Nat.lt_of_le_of_lt hbR h.lt) fun e => by have := hob b e.symm; omega
  exact ⟨bv, xs', p, ⟨by rw [hk R (Nat.le_refl _)]; exact h.cells, Sl.same (plain_kept _) h.bytes (fun b hb => hk b (Nat.le_of_lt hb)) (fun b hb => hb), h.small, h.len⟩, hp⟩
theorem grownBy_heap {w w' : World} {b : Nat} {o : Obj} {ob : Option Nat} (h : w.heap[b]? = some o) (hob : ∀ g, ob = some g → b ≠ g) (hg : w.grownBy w' ob) : w'.heap[b]? = some o := by
  rw [hg.block b (heap_lt h) fun e => hob b e.symm rfl]; exact h
theorem OutRow.chg {L : List Nat} {base : Nat} {w w' : World} {v : Value} {xs : List Step} (h : OutRow base w v xs) (hx : Chg L w w') (hL : ∀ b ∈ L, b < base) : OutRow base w' v xs := h.imp id fun h => row_chg h hx hL
theorem OutRow.cap {base : Nat} {w : World} {v : Value} {xs : List Step} (h : OutRow base w v xs) : ∃ a cap, v = .slice a xs.length cap ∧ xs.length ≤ cap := by
  rcases h with ⟨b, rfl, rfl⟩ | h
  · exact ⟨_, _, rfl, Nat.le_refl _⟩
  · rcases h.2 with ⟨rfl, h0⟩ | ⟨g, cap, cur, rfl, _, _, hc, _⟩
    · exact ⟨none, 0, by rw [h0], by omega⟩
    · exact ⟨_, cap, rfl, hc⟩

theorem SRow.chg {L : List Nat} {base : Nat} {w w' : World} {v : Value} {xs : List Step} (h : SRow base w v xs) (hx : Chg L w w') (hL : ∀ b ∈ L, b < base) : SRow base w' v xs := row_chg h hx hL

def StepsΦ (w : World) (e : Ending) (w' : World) : Prop := ∃ v' zs, e = .returned v' ∧ Ext w w' ∧ OutRow w.heap.size w' v' zs ∧ zs.length ≤ 22

set_option maxRecDepth 20000 in
set_option maxHeartbeats 4000000 in
theorem drawCostOf_c (v : Value) (xs : List Nat) (w : World) (h : Bytes (Old w) w v xs) (hs : ∀ x ∈ xs, x < 256) (hn : xs.length ≤ 1048576) (hcap : ∀ a n c, v = .slice a n c → n ≤ c) :
    Calls Try.prog 25 #[v] w (StepsΦ w) := by
  go_enter Try.func25, Try.ntmps25
  go_wp2_with fail
  refine (l6Open_c v xs _ h hs hn hcap).mono ?_; rintro e1 w1 ⟨R, bv, ys, rfl, hRw, hx1, hr⟩
  have hR := hr.lt
  have HK : Rk w1 R (30 + 36 + 420 + 1 + 1 + 57 * 7) := ⟨bv, ys, 0, hr, by omega⟩
  have C := Chg.refl [R] w1
  have XW := Lib.hid hx1
  have hsw := hx1.size
  clear hx1 hr
  go_wp2_with fail
  refine (l71Full_c R 30 _ (by ((repeat (first | (with_reducible apply Rk.set2; focus (dsimp only; omega)) | with_reducible apply Rk.alloc2)); with_reducible exact HK))).mono ?_; rintro e2 w2 ⟨v2, rfl, hC, HK1, c, s, rfl, OS, hL, hf, hp, hd⟩
  have GE := hC.keep (hg_new (b := w1.heap.size) rfl) (by simp; omega)
  replace C := C.then_sets hC (by ((repeat (first | with_reducible (refine Chg.set2 ?_ ?_); focus (exact Or.inr (by dsimp only; omega)) | with_reducible refine Chg.alloc2 ?_)); with_reducible exact C))
  replace HK := HK1
  simp only [World.alloc, Array.size_push] at hL
  have HLB : Hid (∀ b ∈ c.L, w1.heap.size < b ∧ b < w2.heap.size) := Lib.hid fun b hb => ⟨by have := hL b hb; omega, OS.lt b hb⟩
  have HRL : Hid (∀ b ∈ c.L, b ∉ [R]) := Lib.hid fun b hb => by have := HLB.out b hb; simp; omega
  have HNB : Hid (∀ b, (b ≤ w1.heap.size ∨ w2.heap.size ≤ b) → b ∉ c.L) := Lib.hid fun b hb hm => by have := HLB.out b hm; omega
  have HB0 : Hid (s.flash.length ≤ 4) := Lib.hid hf
  clear hL hf hp hd HK1 hC
  have lE := heap_lt GE
  go_wp2_with fail
  refine (pick_k R 4 _ (by ((repeat (first | (with_reducible apply Rk.set2; focus (dsimp only; omega)) | with_reducible apply Rk.alloc2)); with_reducible exact HK))).mono ?_; rintro e3 w3 ⟨r, rfl, hr0, hr1, hC, HK1⟩
  replace C := C.then_sets hC (by ((repeat (first | with_reducible (refine Chg.set2 ?_ ?_); focus (exact Or.inr (by dsimp only; omega)) | with_reducible refine Chg.alloc2 ?_)); with_reducible exact C))
  replace HK := HK1; clear HK1
  replace GE := hC.keep (b := w1.heap.size) (by (repeat (first | with_reducible apply hg_here | (with_reducible apply hg_set; focus (dsimp only; omega)) | with_reducible apply hg_alloc)); with_reducible exact GE) (by simp; omega)
  have G5 := hC.keep (hg_new (b := w2.heap.size) rfl) (by simp; omega)
  replace OS := OwnS.chg (by ((repeat (first | (with_reducible apply OwnS.set2; focus (exact HNB.out _ (by dsimp only; omega))) | with_reducible apply OwnS.alloc2)); with_reducible exact OS)) hC HRL.out
  obtain ⟨n0, rfl⟩ : ∃ n : Nat, r = n := ⟨r.toNat, by omega⟩
  have hn3 := hr1 (by omega)
  clear hr0 hr1 hC
  go_wp2_with fail
  go_loopw [4, 6] (fun ov y wr => ∃ (n : Nat) (zs : List Step), y = .int .i64 n ∧ n ≤ 3 ∧ zs.length ≤ 7 * (3 - n) ∧ Chg [R] w1 wr ∧ OutRow (w2.heap.size + 1) wr ov zs ∧ OwnS c wr s ∧ Rk wr R (7 * n + 2) ∧
    wr.heap[w2.heap.size]? = some (.cells #[c.fv s, c.dv s] 43 (0, 0))) (fun _ y _ => (intOf y).toNat)
  case atStart => exact ⟨n0, [], rfl, by omega, by simp, C, .inl ⟨_, rfl, rfl⟩, OS, HK.less (by omega), G5⟩
  case round =>
    clear C OS HK GE G5 hn3
    obtain ⟨n, zs, rfl, hn, hzl, C, HS, OS, HK, G5⟩ := hrel
    obtain ⟨oa, ocap, rfl⟩ := HS.form
    obtain ⟨g5, gf5⟩ := cellsK G5
    have l5 := heap_lt G5
    rcases n with _ | n
    · have HK6 : Rk wr R (1 + 1) := HK
      have HOW : Hid (OutRow w.heap.size wr (.slice oa zs.length ocap) zs) := Lib.hid (HS.imp id fun h => SRow.base h (by omega))
      go_wp2_with fail
      refine (pick_k R 6 _ HK6).mono ?_; rintro e4 w4 ⟨r, rfl, hr0, hr1, hC, HK1⟩
      have C4 := C.trans hC
      have HS4 := HS.chg hC (by simp; omega)
      clear HS HK6 HK g5 gf5 hr1
      go_wp2_with fail
      · refine (pick_k R 6 _ HK1).mono ?_; rintro e5 w5 ⟨k, rfl, hk0, hk1, hC5, HK5⟩
        have C5 := C4.trans hC5
        have HS5 := HS4.chg hC5 (by simp; omega)
        have hs5 := hC5.size
        have hs4 := hC.size
        clear HK1 HS4
        have HS6 := fun (o : Obj) => Lib.hid (HS5.chg (L := []) (Chg.of_ext (ext_alloc (ext_refl w5) o)) (by simp))
        clear HS5
        go_wp2_with (refine wpList_appOut rfl _ _ rfl rfl (HS6 _).out rfl (SRow.one (y := (⟨k, 0, 0, 0, rec0⟩ : Step)) (hg_new rfl) (Nat.le_refl _)) (by simp; omega) (by simp; omega) (fun v' w' ob hS' hg hob => ?_); obtain ⟨oa', ocap', rfl⟩ := hS'.form)
        have C6 := grownBy_chg (C5.alloc _) (fun g hg => by have := hob g hg; omega) hg
        have HS7 : OutRow w.heap.size w' (.slice oa' (zs ++ [(⟨k, 0, 0, 0, rec0⟩ : Step)]).length ocap') (zs ++ [(⟨k, 0, 0, 0, rec0⟩ : Step)]) := hS'.imp id fun h => SRow.base h (by omega)
        refine bodyPost_ret (v := .slice oa' (zs ++ [(⟨k, 0, 0, 0, rec0⟩ : Step)]).length ocap') (by simp [results, Try.results25, go_sem]) rfl (show StepsΦ w (.returned (.slice oa' (zs ++ [(⟨k, 0, 0, 0, rec0⟩ : Step)]).length ocap')) _ from ⟨_, _, rfl, C6.ext XW.out (by simp; omega), HS7, by simp; omega⟩)
      · refine bodyPost_ret (v := .slice oa zs.length ocap) (by simp [results, Try.results25, go_sem]) rfl (show StepsΦ w (.returned (.slice oa zs.length ocap)) _ from ⟨_, zs, rfl, C4.ext XW.out (by simp; omega), HS4.imp id (fun h => SRow.base h (by omega)), by omega⟩)
    · have hpos : (0 : Int) < ((n + 1 : Nat) : Int) := by omega
      have hn5 : w2.heap.size ≠ R := by omega
      go_wp2_with fail
      have HK' : Rk wr R (7 * n + 2 + 7) := HK.less (by omega)
      have HOS := Lib.hid OS
      clear OS HK
      refine wp_region_rd HK' [3, 4] [0, 1, 2, 3, 4] [] [5, 6] (by kernel_rfl) (by kernel_rfl) ?late ?_
      case late => exact fun f hf => absurd hf List.not_mem_nil
      refine Rob.y (v := ?_) rfl rfl (fun w1 hx hH => ?_) ?_; rotate_left
      · go_simp; first | done | rfl | exact (Bool.not_not _).symm
      simp only [Act.put, List.setIfInBounds_toArray, List.set_cons_succ, List.set_cons_zero]
      refine Rob.y (v := ?_) rfl rfl (fun w1 hx hH => ?_) ?_; rotate_left
      · (obtain ⟨hcx, hfx⟩ := chgcell hx); go_simp; first | done | rfl
      simp only [Act.put, List.setIfInBounds_toArray, List.set_cons_succ, List.set_cons_zero]
      refine Rob.y (v := ?_) rfl rfl (fun w1 hx hH => ?_) ?_; rotate_left
      · go_simp; first | done | rfl | exact (Bool.not_not _).symm
      simp only [Act.put, List.setIfInBounds_toArray, List.set_cons_succ, List.set_cons_zero]
      refine Rob.draw0 (K := 7 * n + 2) (fun v => ∃ e, v = eventA e ∧ EventD e) rfl rfl rfl (by omega) (fun _ _ h hx => h.trans hx) (fun w1 hx HK hH => ?_) (fun lo3 hi3 v3 hv3 hlo3 hhi3 => ?_)
      · unfold RunTo; go_simp; exact (l71Event_c R _ _ HK).mono fun e w' h => h.run
      simp only [Act.put, List.setIfInBounds_toArray, List.set_cons_succ, List.set_cons_zero]
      obtain ⟨e, rfl, hE⟩ := hv3
      obtain ⟨ps, hps⟩ : ∃ ps, (if storeOkB s then playSteps s e else []) = ps := ⟨_, rfl⟩
      have hPS : ∀ w' : World, OwnS c w' s → Calls Try.prog 44 #[.agg #[c.fv s, c.dv s], eventA e] w' (RetS w' ps) := fun w' ho => hps ▸ specPlaySteps_c _ _ s e w' ⟨ho.fl, ho.dk⟩ (by have := HB0.out; omega)
      have HPS := Lib.hid hPS
      clear hPS hps
      refine Rob.c (fun lo hi v w' => SΦ wr.heap.size ps v w') rfl rfl rfl (fun _ _ h hx => h.trans (Chg.of_ext hx)) (fun _ _ _ _ _ h hx => h.ext hx) (fun w1 hx hH => ?_) (fun lo4 hi4 v4 hlo4 hhi4 hv4 => ?_) (fun _ _ h hx => h.ext hx)
      · unfold RunTo; go_simp; exact (HPS.out _ (HOS.out.chg hx HRL.out)).mono fun e w' h => (RetS.weak h hx.size).to
      simp only [Act.put, List.setIfInBounds_toArray, List.set_cons_succ, List.set_cons_zero]
      refine fin_tailC (fun w4 hx4 HK4 _ => ?_)
      simp only [dstOf, List.getElem?_cons_succ, List.getElem?_cons_zero, Option.bind_some, Act.put, List.setIfInBounds_toArray, List.set_cons_succ, List.set_cons_zero, List.filterMap_cons, List.filterMap_nil]
      obtain ⟨hx4, ⟨b4, hb4, hR4⟩, h7⟩ := hx4
      have C4 := C.trans hx4
      have OS4 := HOS.out.chg hx4 HRL.out
      have HS4 := HS.chg hx4 (by simp; omega)
      replace G5 := hx4.keep G5 (by simp; omega)
      have hs4 := hx4.size
      clear HS g5 gf5
      refine wpList_appOut rfl _ _ rfl rfl HS4 rfl hR4 (by omega) (by omega) (fun v' w' ob hS' hg hob => ?_)
      obtain ⟨oa', ocap', rfl⟩ := hS'.form
      go_wp2_with fail
      rw [← List.length_append]
      refine ⟨⟨n, zs ++ ps, rfl, by omega, by simp; omega, grownBy_chg C4 (fun g hg => by have := hob g hg; omega) hg, hS', grownBy_own OS4 (fun g hg b hb => by have := hob g hg; have := HLB.out b hb; omega) hg, grownBy_rk (HK4.less (by omega)) (fun g hg => by have := hob g hg; omega) hg, grownBy_heap G5 (fun g hg => ?_) hg⟩, by simp [intOf]⟩
      have := hob g hg
      omega
end Go.Bu
