/- What CostOf is given: drawn steps. The draw of events. The laws' marks in memory of any shape: rows of numbers, arguments, results. Pairs that calls return: read, compared, marked, held. PlayDo of both sides; stores that calls return: read, compared, marked, held. -/
import Derived.Test.YtggcomepaloneaaZ7
import Derived.Test.YtggcomepaloneaaZ6
set_option maxHeartbeats 2000000
set_option linter.unusedVariables false
set_option linter.unusedSimpArgs false
namespace Go.Bu
open Go Go.RowKit Go.Plan Go.Proofs

theorem grownBy_chg {L : List Nat} {w w1 w2 : World} {ob : Option Nat} (h : Chg L w w1) (hob : ∀ g, ob = some g → w.heap.size ≤ g) (hg : w1.grownBy w2 ob) : Chg L w w2 :=
  ⟨hg.os.trans h.os, hg.tape.trans h.tape, hg.output.trans h.output, Nat.le_trans h.size hg.size, fun k hk hn => by
    rw [hg.block k (Nat.lt_of_lt_of_le hk h.size) fun e => by have := hob k e.symm; omega]; exact h.block k hk hn⟩
theorem grownBy_own {c : SC} {w w' : World} {s : Store} {ob : Option Nat} (h : OwnS c w s) (hob : ∀ g, ob = some g → ∀ b ∈ c.L, b < g) (hg : w.grownBy w' ob) : OwnS c w' s :=
  h.keep fun b hm => hg.block b (h.lt b hm) fun e => by have := hob b e.symm b hm; omega
theorem grownBy_rk {w w' : World} {R K : Nat} {ob : Option Nat} (h : Rk w R K) (hob : ∀ g, ob = some g → R < g) (hg : w.grownBy w' ob) : Rk w' R K := by
  obtain ⟨bv, xs', p, h, hp⟩ := h
  have hk : ∀ b, b ≤ R → w'.heap[b]? = w.heap[b]? := fun b hbR => hg.block b (Nat.lt_of_le_of_lt hbR h.lt) fun e => by have := hob b e.symm; omega
  exact ⟨bv, xs', p, ⟨by rw [hk R (Nat.le_refl _)]; exact h.cells, Sl.same (plain_kept _) h.bytes (fun b hb => hk b (Nat.le_of_lt hb)) (fun b hb => hb), h.small, h.len⟩, hp⟩
theorem grownBy_heap {w w' : World} {b : Nat} {o : Obj} {ob : Option Nat} (h : w.heap[b]? = some o) (hob : ∀ g, ob = some g → b ≠ g) (hg : w.grownBy w' ob) : w'.heap[b]? = some o := by
  rw [hg.block b (heap_lt h) fun e => hob b e.symm rfl]; exact h
theorem OutRow.chg {L : List Nat} {base : Nat} {w w' : World} {v : Value} {xs : List Step} (h : OutRow base w v xs) (hx : Chg L w w') (hL : ∀ b ∈ L, b < base) : OutRow base w' v xs := h.imp id fun h => row_chg h hx hL
theorem OutRow.cap {base : Nat} {w : World} {v : Value} {xs : List Step} (h : OutRow base w v xs) : ∃ a cap, v = .slice a xs.length cap ∧ xs.length ≤ cap := by
  rcases h with ⟨b, rfl, rfl⟩ | h
  · exact ⟨_, _, rfl, Nat.le_refl _⟩
  · rcases h.2 with ⟨rfl, h0⟩ | ⟨g, cap, cur, rfl, _, _, hc, _⟩
    · exact ⟨none, 0, by rw [h0], by omega⟩
    · exact ⟨_, cap, rfl, hc⟩

theorem SRow.chg {L : List Nat} {base : Nat} {w w' : World} {v : Value} {xs : List Step} (h : SRow base w v xs) (hx : Chg L w w') (hL : ∀ b ∈ L, b < base) : SRow base w' v xs := row_chg h hx hL

def StepsΦ (w : World) (e : Ending) (w' : World) : Prop := ∃ v' zs, e = .returned v' ∧ Ext w w' ∧ OutRow w.heap.size w' v' zs ∧ zs.length ≤ 22

set_option maxRecDepth 20000 in
set_option maxHeartbeats 4000000 in
theorem drawCostOf_c (v : Value) (xs : List Nat) (w : World) (h : Bytes (Old w) w v xs) (hs : ∀ x ∈ xs, x < 256) (hn : xs.length ≤ 1048576) (hcap : ∀ a n c, v = .slice a n c → n ≤ c) :
    Calls Try.prog 22 #[v] w (StepsΦ w) := by
  go_enter Try.func22, Try.ntmps22
  go_wp2_with fail
  refine (l6Open_c v xs _ h hs hn hcap).mono ?_; rintro e1 w1 ⟨R, bv, ys, rfl, hRw, hx1, hr⟩
  have hR := hr.lt
  have HK : Rk w1 R (30 + 36 + 420 + 1 + 1 + 57 * 7) := ⟨bv, ys, 0, hr, by omega⟩
  have C := Chg.refl [R] w1
  have XW := Lib.hid hx1
  have hsw := hx1.size
  clear hx1 hr
  go_wp2_with fail
  refine (l71Full_c R 30 _ (by ((repeat (first | (with_reducible apply Rk.set2; focus (dsimp only; omega)) | with_reducible apply Rk.alloc2)); with_reducible exact HK))).mono ?_; rintro e2 w2 ⟨v2, rfl, hC, HK1, c, s, rfl, OS, hL, hf, hp, hd⟩
  have GE := hC.keep (hg_new (b := w1.heap.size) rfl) (by simp; omega)
  replace C := C.then_sets hC (by ((repeat (first | with_reducible (refine Chg.set2 ?_ ?_); focus (exact Or.inr (by dsimp only; omega)) | with_reducible refine Chg.alloc2 ?_)); with_reducible exact C))
  replace HK := HK1
  simp only [World.alloc, Array.size_push] at hL
  have HLB : Hid (∀ b ∈ c.L, w1.heap.size < b ∧ b < w2.heap.size) := Lib.hid fun b hb => ⟨by have := hL b hb; omega, OS.lt b hb⟩
  have HRL : Hid (∀ b ∈ c.L, b ∉ [R]) := Lib.hid fun b hb => by have := HLB.out b hb; simp; omega
  have HNB : Hid (∀ b, (b ≤ w1.heap.size ∨ w2.heap.size ≤ b) → b ∉ c.L) := Lib.hid fun b hb hm => by have := HLB.out b hm; omega
  have HB0 : Hid (s.flash.length ≤ 4) := Lib.hid hf
  clear hL hf hp hd HK1 hC
  have lE := heap_lt GE
  go_wp2_with fail
  refine (pick_k R 4 _ (by ((repeat (first | (with_reducible apply Rk.set2; focus (dsimp only; omega)) | with_reducible apply Rk.alloc2)); with_reducible exact HK))).mono ?_; rintro e3 w3 ⟨r, rfl, hr0, hr1, hC, HK1⟩
  replace C := C.then_sets hC (by ((repeat (first | with_reducible (refine Chg.set2 ?_ ?_); focus (exact Or.inr (by dsimp only; omega)) | with_reducible refine Chg.alloc2 ?_)); with_reducible exact C))
  replace HK := HK1; clear HK1
  replace GE := hC.keep (b := w1.heap.size) (by (repeat (first | with_reducible apply hg_here | (with_reducible apply hg_set; focus (dsimp only; omega)) | with_reducible apply hg_alloc)); with_reducible exact GE) (by simp; omega)
  have G5 := hC.keep (hg_new (b := w2.heap.size) rfl) (by simp; omega)
  replace OS := OwnS.chg (by ((repeat (first | (with_reducible apply OwnS.set2; focus (exact HNB.out _ (by dsimp only; omega))) | with_reducible apply OwnS.alloc2)); with_reducible exact OS)) hC HRL.out
  obtain ⟨n0, rfl⟩ : ∃ n : Nat, r = n := ⟨r.toNat, by omega⟩
  have hn3 := hr1 (by omega)
  clear hr0 hr1 hC
  go_wp2_with fail
  go_loopw [4, 6] (fun ov y wr => ∃ (n : Nat) (zs : List Step), y = .int .i64 n ∧ n ≤ 3 ∧ zs.length ≤ 7 * (3 - n) ∧ Chg [R] w1 wr ∧ OutRow (w2.heap.size + 1) wr ov zs ∧ OwnS c wr s ∧ Rk wr R (7 * n + 2) ∧
    wr.heap[w2.heap.size]? = some (.cells #[c.fv s, c.dv s] 41 (0, 0))) (fun _ y _ => (intOf y).toNat)
  case atStart => exact ⟨n0, [], rfl, by omega, by simp, C, .inl ⟨_, rfl, rfl⟩, OS, HK.less (by omega), G5⟩
  case round =>
    clear C OS HK GE G5 hn3
    obtain ⟨n, zs, rfl, hn, hzl, C, HS, OS, HK, G5⟩ := hrel
    obtain ⟨oa, ocap, rfl⟩ := HS.form
    obtain ⟨g5, gf5⟩ := cellsK G5
    have l5 := heap_lt G5
    rcases n with _ | n
    · have HK6 : Rk wr R (1 + 1) := HK
      have HOW : Hid (OutRow w.heap.size wr (.slice oa zs.length ocap) zs) := Lib.hid (HS.imp id fun h => SRow.base h (by omega))
      go_wp2_with fail
      refine (pick_k R 6 _ HK6).mono ?_; rintro e4 w4 ⟨r, rfl, hr0, hr1, hC, HK1⟩
      have C4 := C.trans hC
      have HS4 := HS.chg hC (by simp; omega)
      clear HS HK6 HK g5 gf5 hr1
      go_wp2_with fail
      · refine (pick_k R 6 _ HK1).mono ?_; rintro e5 w5 ⟨k, rfl, hk0, hk1, hC5, HK5⟩
        have C5 := C4.trans hC5
        have HS5 := HS4.chg hC5 (by simp; omega)
        have hs5 := hC5.size
        have hs4 := hC.size
        clear HK1 HS4
        have HS6 := fun (o : Obj) => Lib.hid (HS5.chg (L := []) (Chg.of_ext (ext_alloc (ext_refl w5) o)) (by simp))
        clear HS5
        go_wp2_with (refine wpList_appOut rfl _ _ rfl rfl (HS6 _).out rfl (SRow.one (y := (⟨k, 0, 0, 0, rec0⟩ : Step)) (hg_new rfl) (Nat.le_refl _)) (by simp; omega) (by simp; omega) (fun v' w' ob hS' hg hob => ?_); obtain ⟨oa', ocap', rfl⟩ := hS'.form)
        have C6 := grownBy_chg (C5.alloc _) (fun g hg => by have := hob g hg; omega) hg
        have HS7 : OutRow w.heap.size w' (.slice oa' (zs ++ [(⟨k, 0, 0, 0, rec0⟩ : Step)]).length ocap') (zs ++ [(⟨k, 0, 0, 0, rec0⟩ : Step)]) := hS'.imp id fun h => SRow.base h (by omega)
        refine bodyPost_ret (v := .slice oa' (zs ++ [(⟨k, 0, 0, 0, rec0⟩ : Step)]).length ocap') (by simp [results, Try.results22, go_sem]) rfl (show StepsΦ w (.returned (.slice oa' (zs ++ [(⟨k, 0, 0, 0, rec0⟩ : Step)]).length ocap')) _ from ⟨_, _, rfl, C6.ext XW.out (by simp; omega), HS7, by simp; omega⟩)
      · refine bodyPost_ret (v := .slice oa zs.length ocap) (by simp [results, Try.results22, go_sem]) rfl (show StepsΦ w (.returned (.slice oa zs.length ocap)) _ from ⟨_, zs, rfl, C4.ext XW.out (by simp; omega), HS4.imp id (fun h => SRow.base h (by omega)), by omega⟩)
    · have hpos : (0 : Int) < ((n + 1 : Nat) : Int) := by omega
      have hn5 : w2.heap.size ≠ R := by omega
      go_wp2_with fail
      have HK' : Rk wr R (7 * n + 2 + 7) := HK.less (by omega)
      have HOS := Lib.hid OS
      clear OS HK
      refine wp_region_rd HK' [3, 4] [0, 1, 2, 3, 4] [] [5, 6] (by kernel_rfl) (by kernel_rfl) ?late ?_
      case late => exact fun f hf => absurd hf List.not_mem_nil
      refine Rob.y (v := ?_) rfl rfl (fun w1 hx hH => ?_) ?_; rotate_left
      · go_simp; first | done | rfl | exact (Bool.not_not _).symm
      simp only [Act.put, List.setIfInBounds_toArray, List.set_cons_succ, List.set_cons_zero]
      refine Rob.y (v := ?_) rfl rfl (fun w1 hx hH => ?_) ?_; rotate_left
      · (obtain ⟨hcx, hfx⟩ := chgcell hx); go_simp; first | done | rfl
      simp only [Act.put, List.setIfInBounds_toArray, List.set_cons_succ, List.set_cons_zero]
      refine Rob.y (v := ?_) rfl rfl (fun w1 hx hH => ?_) ?_; rotate_left
      · go_simp; first | done | rfl | exact (Bool.not_not _).symm
      simp only [Act.put, List.setIfInBounds_toArray, List.set_cons_succ, List.set_cons_zero]
      refine Rob.draw0 (K := 7 * n + 2) (fun v => ∃ e, v = eventA e ∧ EventD e) rfl rfl rfl (by omega) (fun _ _ h hx => h.trans hx) (fun w1 hx HK hH => ?_) (fun lo3 hi3 v3 hv3 hlo3 hhi3 => ?_)
      · unfold RunTo; go_simp; exact (l71Event_c R _ _ HK).mono fun e w' h => h.run
      simp only [Act.put, List.setIfInBounds_toArray, List.set_cons_succ, List.set_cons_zero]
      obtain ⟨e, rfl, hE⟩ := hv3
      obtain ⟨ps, hps⟩ : ∃ ps, (if storeOkB s then playSteps s e else []) = ps := ⟨_, rfl⟩
      have hPS : ∀ w' : World, OwnS c w' s → Calls Try.prog 44 #[.agg #[c.fv s, c.dv s], eventA e] w' (RetS w' ps) := fun w' ho => hps ▸ specPlaySteps_c _ _ s e w' ⟨ho.fl, ho.dk⟩ (by have := HB0.out; omega)
      have HPS := Lib.hid hPS
      clear hPS hps
      refine Rob.c (fun lo hi v w' => SΦ wr.heap.size ps v w') rfl rfl rfl (fun _ _ h hx => h.trans (Chg.of_ext hx)) (fun _ _ _ _ _ h hx => h.ext hx) (fun w1 hx hH => ?_) (fun lo4 hi4 v4 hlo4 hhi4 hv4 => ?_) (fun _ _ h hx => h.ext hx)
      · unfold RunTo; go_simp; exact (HPS.out _ (HOS.out.chg hx HRL.out)).mono fun e w' h => (RetS.weak h hx.size).to
      simp only [Act.put, List.setIfInBounds_toArray, List.set_cons_succ, List.set_cons_zero]
      refine fin_tailC (fun w4 hx4 HK4 _ => ?_)
      simp only [dstOf, List.getElem?_cons_succ, List.getElem?_cons_zero, Option.bind_some, Act.put, List.setIfInBounds_toArray, List.set_cons_succ, List.set_cons_zero, List.filterMap_cons, List.filterMap_nil]
      obtain ⟨hx4, ⟨b4, hb4, hR4⟩, h7⟩ := hx4
      have C4 := C.trans hx4
      have OS4 := HOS.out.chg hx4 HRL.out
      have HS4 := HS.chg hx4 (by simp; omega)
      replace G5 := hx4.keep G5 (by simp; omega)
      have hs4 := hx4.size
      clear HS g5 gf5
      refine wpList_appOut rfl _ _ rfl rfl HS4 rfl hR4 (by omega) (by omega) (fun v' w' ob hS' hg hob => ?_)
      obtain ⟨oa', ocap', rfl⟩ := hS'.form
      go_wp2_with fail
      rw [← List.length_append]
      refine ⟨⟨n, zs ++ ps, rfl, by omega, by simp; omega, grownBy_chg C4 (fun g hg => by have := hob g hg; omega) hg, hS', grownBy_own OS4 (fun g hg b hb => by have := hob g hg; have := HLB.out b hb; omega) hg, grownBy_rk (HK4.less (by omega)) (fun g hg => by have := hob g hg; omega) hg, grownBy_heap G5 (fun g hg => ?_) hg⟩, by simp [intOf]⟩
      have := hob g hg
      omega
end Go.Bu

set_option linter.unusedVariables false
set_option linter.unusedSimpArgs false
namespace Go.Bu
open Go Go.RowKit Go.Plan Go.Proofs

theorem DBytes.ext {w w' : World} {v : Value} {xs : List Nat} (h : Bytes (Old w) w v xs) (he : Ext w w') : Bytes (Old w') w' v xs := Sl.same (plain_kept _) h (same_old he) (old_ext he)
/-- drawn events -/
def EventsΦ (w : World) (e : Ending) (w' : World) : Prop := ∃ v es, e = .returned v ∧ Ext w w' ∧ Events (Old w') w' v es ∧ (∀ a n c, v = .slice a n c → n ≤ c) ∧ (∀ x ∈ es, EventD x) ∧ es.length ≤ 61
def sliceLen : Value → Nat
  | .slice _ n _ => n
  | _ => 0
theorem ERow.weak {b b' : Nat} {w : World} {v : Value} {xs : List Event} (h : ERow b w v xs) (hb : b' ≤ b) : ERow b' w v xs :=
  ⟨h.1, h.2.imp id fun ⟨g, cap, cur, h1, h2, h3⟩ => ⟨g, cap, cur, h1, Nat.le_trans hb h2, h3⟩⟩
theorem ERow.cut {base : Nat} {w : World} {v : Value} {xs : List Event} (h : ERow base w v xs) : ∀ a n c, v = .slice a n c → n ≤ c := by
  intro a n c hv
  obtain ⟨h1, h2⟩ := h
  rcases h2 with ⟨h2, _⟩ | ⟨g, cap, cur, h2, _, _, h3, _⟩
  · rw [h2] at hv; injection hv; omega
  · rw [h2] at hv; injection hv; omega

set_option maxRecDepth 20000 in
set_option maxHeartbeats 2000000 in
theorem drawPlayRun_c (v : Value) (xs : List Nat) (w : World) (h : Bytes (Old w) w v xs) (hs : ∀ x ∈ xs, x < 256) (hn : xs.length ≤ 1048576) (hcap : ∀ a n c, v = .slice a n c → n ≤ c) :
    Calls Try.prog 24 #[v] w (EventsΦ w) := by
  go_enter Try.func24, Try.ntmps24
  go_wp2_with fail
  refine (l6Open_c v xs _ h hs hn hcap).mono ?_; rintro e1 w1 ⟨R, bv, ys, rfl, hRw, X1, hr⟩
  have hR := hr.lt
  have HK : Rk w1 R ((500 + 1) + 1 + 57 * 7) := ⟨bv, ys, 0, hr, by omega⟩
  clear hr
  go_wp2_with fail
  refine (l71Play_c R (500 + 1) _ HK).mono ?_; rintro e2 w2 ⟨v2, rfl, C, HK2, c, s, ev, es, H, rfl, -, -, -, hH, hrow, hD, hl57⟩
  obtain ⟨oa, ocap, rfl⟩ := hrow.form
  have X2 : Ext w w2 := C.ext X1 (by simp; omega)
  have HD := Lib.hid hD
  have HROW := Lib.hid (hrow.weak hH)
  have s1 := C.size
  clear HK C hrow hD
  go_wp2_with fail
  refine (pick_k R 40 _ (K := 500) (HK2.alloc2)).mono ?_; rintro e3 w4 ⟨r, rfl, p0, p1, C, HK4⟩
  have X4 : Ext w w4 := C.ext (ext_alloc X2 _) (by simp; omega)
  have hrow4 : ERow w1.heap.size w4 (.slice oa es.length ocap) es := row_chg (HROW.out.ext (ext_alloc (ext_refl _) _)) C (by simp; omega)
  have HR4 := Lib.hid hrow4
  have s4 := C.size
  simp at s4
  clear HK2 X2 HROW hrow4 C p1
  by_cases hr0 : r = 0
  · subst hr0
    go_wp2_with fail
    go_loopw [4] (fun ov wr => ∃ es, Ext w wr ∧ Hid (ERow w1.heap.size wr ov es) ∧ Hid (∀ x ∈ es, EventD x) ∧ es.length ≤ 61 ∧ Rk wr R (7 * (61 - es.length) + 7) ∧ w4.heap.size ≤ wr.heap.size) (fun ov _ => 61 - sliceLen ov)
    case atStart => exact ⟨es, X4, HR4, HD, by omega, HK4.less (by omega), Nat.le_refl _⟩
    case round =>
      clear HR4 HD X4 HK4 hl57
      obtain ⟨zs, X, HR, HD, hl, HK, hsz⟩ := hrel
      obtain ⟨za, zcap, rfl⟩ := HR.out.form
      by_cases h60 : zs.length ≤ 60
      · go_wp2_with fail
        refine (l71Event_c R (7 * (61 - zs.length)) _ HK).mono ?_; rintro e5 w5 ⟨v5, rfl, hC, HK5, e, rfl, hE⟩
        have X5 := hC.ext X (by simp; omega)
        have hrow5 : ERow w1.heap.size w5 (.slice za zs.length zcap) zs := row_chg HR.out hC (by simp; omega)
        have HR5 := Lib.hid hrow5
        have s5 := hC.size
        clear HR HK hC hrow5 X
        have hRa := fun (o : Obj) => Lib.hid (HR5.out.ext (ext_alloc (ext_refl w5) o))
        go_wp2_with (refine wpList_appEvent rfl _ _ rfl rfl (hRa _).out (y := e) rfl (hg_new rfl) (by omega) (by simp; omega) (fun v' w' hS' hg => ?_))
        go_roundw
        case rel =>
          have Xn := ext_grown (ext_alloc X5 _) (ERow.weak (hRa _).out (by have := X1.size; omega)) hg
          have HKn := Rk.grown (HK5.alloc2) (hRa _).out (by omega) hg
          have sn := hg.size
          simp at sn
          have hlen : (zs ++ [e]).length = zs.length + 1 := by simp
          refine ⟨zs ++ [e], Xn, Lib.hid hS', Lib.hid fun x hx => ?_, by omega, HKn.less (by omega), by omega⟩
          rcases List.mem_append.1 hx with hx | hx
          · exact HD.out x hx
          · obtain rfl := List.mem_singleton.1 hx; exact hE
        case measure =>
          obtain ⟨za2, zcap2, rfl⟩ := hS'.form
          have hlen : (zs ++ [e]).length = zs.length + 1 := by simp
          simp only [sliceLen]
          omega
      · obtain ⟨n, hn⟩ : ∃ n, zs.length = n := ⟨_, rfl⟩
        go_wp2_with fail
        refine bodyPost_ret (v := .slice za zs.length zcap) (by simp [results, Try.results24, go_sem]) rfl ⟨_, zs, rfl, X, HR.out.events, HR.out.cut, HD.out, hl⟩
  · go_wp2_with fail
    refine bodyPost_ret (v := .slice oa es.length ocap) (by simp [results, Try.results24, go_sem]) rfl ⟨_, es, rfl, X4, HR4.out.events, HR4.out.cut, HD.out, by omega⟩

set_option maxRecDepth 20000 in
theorem drawCostRun_c (v : Value) (xs : List Nat) (w : World) (h : Bytes (Old w) w v xs) (hs : ∀ x ∈ xs, x < 256) (hn : xs.length ≤ 1048576) (hcap : ∀ a n c, v = .slice a n c → n ≤ c) :
    Calls Try.prog 9 #[v] w (EventsΦ w) := by
  go_enter Try.func9, Try.ntmps9
  go_wp2_with fail
  refine (drawPlayRun_c v xs w h hs hn hcap).mono ?_; rintro e1 w1 ⟨u, es, rfl, X, hE, hc, hD, hl⟩
  obtain ⟨oa, ocap, rfl⟩ := hE.form
  go_wp2_with fail
  refine bodyPost_ret (v := .slice oa es.length ocap) (by simp [results, Try.results9, go_sem]) rfl ⟨_, es, rfl, X, hE, hc, hD, hl⟩
end Go.Bu

set_option linter.unusedVariables false
set_option linter.unusedSimpArgs false
namespace Go.Bu
open Go Go.RowKit Go.Plan Go.Proofs

-- (not in this seat: function laws.markBlockS)

-- (not in this seat: function laws.markStore)

-- (not in this seat: function laws.markPair)

/-- a row of numbers of the call's own, or none: its blocks named -/
def IntsL (w : World) (v : Value) (xs : List Int) (L : List Nat) : Prop := (v = .slice none 0 0 ∧ xs = [] ∧ L = []) ∨ ∃ B, L = [B] ∧ OwnInts w v xs B
theorem IntsOut.l {base : Nat} {w : World} {v : Value} {xs : List Int} (h : IntsOut base w v xs) : ∃ L, IntsL w v xs L ∧ ∀ b ∈ L, base ≤ b := by
  rcases h with ⟨h1, h2⟩ | ⟨B, h1, h2⟩
  · exact ⟨[], .inl ⟨h1, h2, rfl⟩, fun b hb => by cases hb⟩
  · exact ⟨[B], .inr ⟨B, rfl, h2⟩, fun b hb => by rw [List.mem_singleton] at hb; omega⟩
theorem IntsL.ints {w : World} {v : Value} {xs : List Int} {L : List Nat} (h : IntsL w v xs L) : Ints (Old w) w v xs := by
  rcases h with ⟨rfl, rfl, _⟩ | ⟨B, _, h⟩
  · exact ⟨_, _, rfl, fun i x hi => by cases hi⟩
  · exact h.old
theorem IntsL.lt {w : World} {v : Value} {xs : List Int} {L : List Nat} (h : IntsL w v xs L) : ∀ b ∈ L, b < w.heap.size := by
  rcases h with ⟨_, _, rfl⟩ | ⟨B, rfl, h⟩
  · intro b hb; cases hb
  · intro b hb; rw [List.mem_singleton] at hb; subst hb; exact h.lt
theorem IntsL.ext {w w' : World} {v : Value} {xs : List Int} {L : List Nat} (h : IntsL w v xs L) (hx : Ext w w') : IntsL w' v xs L := h.imp id fun ⟨B, h1, h2⟩ => ⟨B, h1, h2.ext hx⟩
theorem IntsL.chg {w w' : World} {v : Value} {xs : List Int} {L M : List Nat} (h : IntsL w v xs L) (hx : Chg M w w') (hm : ∀ b ∈ L, b ∉ M) : IntsL w' v xs L := by
  rcases h with h | ⟨B, rfl, h⟩
  · exact .inl h
  · exact .inr ⟨B, rfl, h.chg hx (hm B (by simp))⟩
/-- numbers that were marked from x on -/
def MarkedI (x : Int) (xs : List Int) : Prop := ∀ i : Nat, i < xs.length → xs[i]? = some (x + i)

-- (not in this seat: function laws.markIntS)
end Go.Bu

set_option linter.unusedVariables false
set_option linter.unusedSimpArgs false
namespace Go.Bu
open Go Go.RowKit Go.Plan Go.Proofs

/-- a pair that a call has made, its blocks named -/
def PairL (w : World) (v : Value) (p : Pair) (M : List Nat) : Prop := (v = nilPair ∧ p = pair0 ∧ M = []) ∨ ∃ f d g e L K, v = .agg #[f, d, g, e, .int .i64 p.lost] ∧ OwnStore w f d p.A L ∧ OwnStore w g e p.B K ∧ (L ++ K).Nodup ∧ M = L ++ K ∧ Shape4 p.A ∧ Shape4 p.B
section
variable {w w' : World} {v : Value} {p : Pair} {M N : List Nat} {base : Nat}
theorem PairO.l (h : PairO base w v p) : ∃ M, PairL w v p M ∧ ∀ b ∈ M, base ≤ b := by
  rcases h with ⟨h1, h2⟩ | ⟨f, d, g, e, L, K, h1, h2, h3, h4, h5, h6, h7⟩
  · exact ⟨[], .inl ⟨h1, h2, rfl⟩, fun b hb => by cases hb⟩
  · exact ⟨L ++ K, .inr ⟨f, d, g, e, L, K, h1, h2, h3, h4, rfl, h6, h7⟩, h5⟩
theorem PairL.ext (h : PairL w v p M) (hx : Ext w w') : PairL w' v p M := h.imp id fun ⟨f, d, g, e, L, K, h1, h2, h3, h4⟩ => ⟨f, d, g, e, L, K, h1, h2.ext hx, h3.ext hx, h4⟩
theorem PairL.chg (h : PairL w v p M) (hx : Chg N w w') (hm : ∀ b ∈ M, b ∉ N) : PairL w' v p M := h.imp id fun ⟨f, d, g, e, L, K, h1, h2, h3, h4, h5, h6⟩ =>
  ⟨f, d, g, e, L, K, h1, h2.chg hx (fun b hb => hm b (by rw [h5]; exact List.mem_append_left _ hb)), h3.chg hx (fun b hb => hm b (by rw [h5]; exact List.mem_append_right _ hb)), h4, h5, h6⟩
theorem PairL.lt (h : PairL w v p M) : ∀ b ∈ M, b < w.heap.size := by
  rcases h with ⟨_, _, rfl⟩ | ⟨f, d, g, e, L, K, _, h2, h3, _, rfl, _⟩
  · intro b hb; cases hb
  · intro b hb
    rcases List.mem_append.1 hb with hb | hb
    · exact h2.lt b hb
    · exact h3.lt b hb
theorem PairL.forms (h : PairL w v p M) : ∃ a n c b m k a' n' c' b' m' k', v = .agg #[.slice a n c, .slice b m k, .slice a' n' c', .slice b' m' k', .int .i64 p.lost] := by
  rcases h with ⟨rfl, rfl, _⟩ | ⟨f, d, g, e, L, K, rfl, h2, h3, _⟩
  · exact ⟨none, 0, 0, none, 0, 0, none, 0, 0, none, 0, 0, rfl⟩
  · obtain ⟨a, n, c, b, m, k, rfl, rfl⟩ := h2.forms
    obtain ⟨a', n', c', b', m', k', rfl, rfl⟩ := h3.forms
    exact ⟨a, n, c, b, m, k, a', n', c', b', m', k', rfl⟩
theorem Shape4.small {s : Store} (h : Shape4 s) : Small s := ⟨by rw [h.flash]; omega, fun b hb => by rw [h.pages b hb]; omega, by rw [h.disk]; omega⟩
theorem small0 : Small ⟨[], []⟩ := ⟨by simp, fun b hb => (by cases hb), by simp⟩
theorem PairL.small (h : PairL w v p M) : Small p.A ∧ Small p.B := by
  rcases h with ⟨_, rfl, _⟩ | ⟨f, d, g, e, L, K, _, _, _, _, _, h6, h7⟩
  · exact ⟨small0, small0⟩
  · exact ⟨h6.small, h7.small⟩
theorem storeV0 (w : World) : StoreV w (.slice none 0 0) (.slice none 0 0) ⟨[], []⟩ := ⟨⟨_, _, rfl, fun i x hi => by cases hi⟩, ⟨_, _, rfl, fun i x hi => by cases hi⟩⟩
theorem PairL.read {f d g e : Value} {l : Int} (h : PairL w (.agg #[f, d, g, e, .int .i64 l]) p M) : l = p.lost ∧ StoreV w f d p.A ∧ StoreV w g e p.B := by
  rcases h with ⟨h1, rfl, _⟩ | ⟨f', d', g', e', L, K, h1, h2, h3, _⟩
  · unfold nilPair at h1
    injection h1 with h1
    simp at h1
    obtain ⟨rfl, rfl, rfl, rfl, rfl⟩ := h1
    exact ⟨rfl, storeV0 w, storeV0 w⟩
  · injection h1 with h1
    simp at h1
    obtain ⟨rfl, rfl, rfl, rfl, rfl⟩ := h1
    exact ⟨rfl, ⟨h2.flash, h2.disk⟩, h3.flash, h3.disk⟩
end

-- (not in this seat: function laws.eqPair)

/-- a pair that was marked -/
def PairH (w : World) (v : Value) (M : List Nat) (k : Int) : Prop := (v = nilPair ∧ M = [] ∧ k = 1) ∨ ∃ f d g e n s t L K, v = .agg #[f, d, g, e, .int .i64 n] ∧ OwnStore w f d s L ∧ OwnStore w g e t K ∧ M = L ++ K ∧ Marked s 1 ∧ Marked t 91 ∧ k = 181
theorem PairH.ext {w w' : World} {v : Value} {M : List Nat} {k : Int} (h : PairH w v M k) (hx : Ext w w') : PairH w' v M k := h.imp id fun ⟨f, d, g, e, n, s, t, L, K, h1, h2, h3, h4⟩ => ⟨f, d, g, e, n, s, t, L, K, h1, h2.ext hx, h3.ext hx, h4⟩
theorem PairH.k {w : World} {v : Value} {M : List Nat} {k : Int} (h : PairH w v M k) : 0 ≤ k ∧ k ≤ 181 := by
  rcases h with ⟨_, _, rfl⟩ | ⟨f, d, g, e, n, s, t, L, K, _, _, _, _, _, _, rfl⟩ <;> omega

-- (not in this seat: function laws.markBlockS)

-- (not in this seat: function laws.markPair)
end Go.Bu

set_option linter.unusedVariables false
set_option linter.unusedSimpArgs false
namespace Go.Bu
open Go Go.RowKit Go.Plan Go.Proofs

def nilStore : Value := .agg #[.slice none 0 0, .slice none 0 0]
def store0 : Store := ⟨[], []⟩
/-- a store that a call has made, its blocks named -/
def StoreL (w : World) (v : Value) (s : Store) (M : List Nat) : Prop := (v = nilStore ∧ s = store0 ∧ M = []) ∨ ∃ f d, v = .agg #[f, d] ∧ OwnStore w f d s M ∧ M.Nodup ∧ Shape4 s
section
variable {w w' : World} {v : Value} {s : Store} {M N : List Nat} {base : Nat}
theorem StoreL.ext (h : StoreL w v s M) (hx : Ext w w') : StoreL w' v s M := h.imp id fun ⟨f, d, h1, h2, h3⟩ => ⟨f, d, h1, h2.ext hx, h3⟩
theorem StoreL.chg (h : StoreL w v s M) (hx : Chg N w w') (hm : ∀ b ∈ M, b ∉ N) : StoreL w' v s M := h.imp id fun ⟨f, d, h1, h2, h3⟩ => ⟨f, d, h1, h2.chg hx hm, h3⟩
theorem StoreL.lt (h : StoreL w v s M) : ∀ b ∈ M, b < w.heap.size := by
  rcases h with ⟨_, _, rfl⟩ | ⟨f, d, _, h2, _⟩
  · intro b hb; cases hb
  · exact h2.lt
theorem StoreL.forms (h : StoreL w v s M) : ∃ a n c b m k, v = .agg #[.slice a n c, .slice b m k] := by
  rcases h with ⟨rfl, rfl, _⟩ | ⟨f, d, rfl, h2, _⟩
  · exact ⟨none, 0, 0, none, 0, 0, rfl⟩
  · obtain ⟨a, n, c, b, m, k, rfl, rfl⟩ := h2.forms
    exact ⟨a, n, c, b, m, k, rfl⟩
theorem StoreL.small (h : StoreL w v s M) : Small s := by
  rcases h with ⟨_, rfl, _⟩ | ⟨f, d, _, _, _, h4⟩
  · exact small0
  · exact h4.small
theorem StoreL.read {f d : Value} (h : StoreL w (.agg #[f, d]) s M) : StoreV w f d s := by
  rcases h with ⟨h1, rfl, _⟩ | ⟨f', d', h1, h2, _⟩
  · unfold nilStore at h1
    injection h1 with h1
    simp at h1
    obtain ⟨rfl, rfl⟩ := h1
    exact storeV0 w
  · injection h1 with h1
    simp at h1
    obtain ⟨rfl, rfl⟩ := h1
    exact ⟨h2.flash, h2.disk⟩
end

-- (not in this seat: function laws.eqStore)

/-- a store that was marked -/
def StoreK (w : World) (v : Value) (M : List Nat) (k : Int) : Prop := (v = nilStore ∧ M = [] ∧ k = 1) ∨ ∃ f d s, v = .agg #[f, d] ∧ OwnStore w f d s M ∧ Marked s 1 ∧ k = 91

theorem StoreK.ext {w w' : World} {v : Value} {M : List Nat} {k : Int} (h : StoreK w v M k) (hx : Ext w w') : StoreK w' v M k := h.imp id fun ⟨f, d, s, h1, h2, h3⟩ => ⟨f, d, s, h1, h2.ext hx, h3⟩

theorem StoreK.k {w : World} {v : Value} {M : List Nat} {k : Int} (h : StoreK w v M k) : 0 ≤ k ∧ k ≤ 91 := by
  rcases h with ⟨_, _, rfl⟩ | ⟨f, d, s, _, _, _, rfl⟩ <;> omega

-- (not in this seat: function laws.markStore)

-- (not in this seat: function laws.heldStore)

def doV (s : Store) (e : Event) : Store := if storeOkB s = true then playDoS s e else store0
def StoreΦ (w : World) (s : Store) (e : Ending) (w' : World) : Prop := ∃ v M, e = .returned v ∧ Ext w w' ∧ StoreL w' v s M ∧ ∀ b ∈ M, w.heap.size ≤ b

-- (not in this seat: function spec.PlayDo)

set_option maxRecDepth 20000 in
set_option maxHeartbeats 4000000 in
theorem implPlayDo_c (g e : Value) (s : Store) (ev : Event) (w : World) (hB : StoreV w g e s) (hs : Small s) (hc : -9223372036854775808 ≤ ev.c ∧ ev.c ≤ 9223372036854775807) :
    Calls Try.prog 21 #[.agg #[g, e], eventA ev] w (StoreΦ w (doV s ev)) := by
  have hSO := fun (w' : World) (hx : Ext w w') => implStoreOk_c g e s w' (hB.ext hx) hs.2.1 hs.2.2
  have hBG := fun (w' : World) (hx : Ext w w') (hok : storeOkB s = true) => playBegun_c g e s ev w' (hB.ext hx) hok hc
  have HD : Hid (doV s ev = if storeOkB s = true then playDoS s ev else store0) := Lib.hid rfl
  have HP : Hid (storeOkB s = true → StoreP (playDoS s ev)) := Lib.hid fun h => (storeOk_P h).play ev
  unfold BegunΦ at hBG
  obtain ⟨a3, n3, rfl⟩ := hB.1.form
  obtain ⟨a4, n4, rfl⟩ := hB.2.form
  generalize doV s ev = DO at *
  generalize playDoS s ev = PO at *
  generalize begunS s ev = BG at *
  obtain ⟨k, ea, eb, ec, et⟩ := ev
  dsimp only [eventA] at *
  clear hB hs
  by_cases hok : storeOkB s = true
  · have hd : DO = PO := by rw [HD.out, if_pos hok]
    subst hd
    have HPP := Lib.hid (HP.out hok)
    have hBg := fun (w' : World) (hx : Ext w w') => hBG w' hx hok
    rw [hok] at hSO
    clear hBG hok HP HD
    go_enter Try.func21, Try.ntmps21
    go_wp2_with fail
    refine (hSO _ (ext_alloc (ext_alloc (ext_alloc (ext_refl _) _) _) _)).mono ?_; rintro e1 w1 ⟨rfl, hx1⟩
    have X1 := ext_trans (ext_alloc (ext_alloc (ext_alloc (ext_refl w) _) _) _) hx1
    have G2 := keep_ext hx1 (hg_alloc (hg_alloc (hg_new (w := w) (b := w.heap.size) (x := .cells #[.slice a3 s.flash.length n3, .slice a4 s.disk.length n4] 41) rfl)))
    have G3 := keep_ext hx1 (hg_alloc (hg_new (b := w.heap.size + 1) (by simp)))
    have G4 := keep_ext hx1 (hg_new (b := w.heap.size + 1 + 1) (by simp))
    have s1 := hx1.size
    simp at s1
    clear hSO hx1
    obtain ⟨g2, gf2⟩ := cellsK G2
    obtain ⟨g3, gf3⟩ := cellsK G3
    go_wp2_with fail
    refine (hBg _ X1).mono ?_; rintro e2 w2 ⟨f, d, L, v, rfl, hx2, hO, hn, hb, hS, hl⟩
    have X2 := ext_trans X1 hx2
    obtain ⟨va, vc, rfl⟩ := hS.form
    obtain ⟨b1, k1, j1, b2, k2, j2, rfl, rfl⟩ := hO.forms
    replace G4 := keep_ext hx2 G4
    have s2 := hx2.size
    have HN := Lib.hid hn
    have HB : Hid (∀ b ∈ L, w.heap.size + 3 ≤ b) := Lib.hid fun b hm => by have := hb b hm; omega
    have XA : Ext w2 (w2.alloc (.cells #[.slice b1 k1 j1, .slice b2 k2 j2] 41)) := ext_alloc (ext_refl _) _
    have G5 : (w2.alloc (.cells #[.slice b1 k1 j1, .slice b2 k2 j2] 41)).heap[w2.heap.size]? = some (.cells #[.slice b1 k1 j1, .slice b2 k2 j2] 41 (0, 0)) := hg_new rfl
    have X3 := ext_trans X2 XA
    have HO := Lib.hid (hO.ext XA)
    replace G4 := keep_ext XA G4
    clear g2 gf2 g3 gf3 hBg hx2 hO hn hb hS XA G2 G3
    obtain ⟨g4, gf4⟩ := cellsK G4
    obtain ⟨g5, gf5⟩ := cellsK G5
    have l4 := heap_lt G4
    go_wp2_with fail
    refine bodyPost_ret (v := .agg #[.slice b1 k1 j1, .slice b2 k2 j2]) (by simp [results, Try.results21, go_sem, g4, gf4]) rfl ⟨_, L, rfl, ?_, .inr ⟨_, _, rfl, ?_, HN.out, HPP.out.shape4⟩, fun b hb => by have := HB.out b hb; omega⟩
    · have s3 := X3.size
      ((repeat (first | with_reducible (refine ext_set2 ?_ ?_); focus (first | exact Nat.le_refl _ | (dsimp only; omega) | (simp; omega)) | with_reducible refine ext_alloc2 ?_)); with_reducible exact X2)
    · refine HO.out.keep fun b hb => ?_
      have := HB.out b hb
      iterate 2 rw [setCell_other (by omega)]
  · have hd : DO = store0 := by rw [HD.out, if_neg hok]
    subst hd
    rw [show storeOkB s = false by simpa using hok] at hSO
    clear hBG hok HP HD
    go_enter Try.func21, Try.ntmps21
    go_wp2_with fail
    refine (hSO _ (ext_alloc (ext_alloc (ext_alloc (ext_refl _) _) _) _)).mono ?_; rintro e1 w1 ⟨rfl, hx1⟩
    have X1 := ext_trans (ext_alloc (ext_alloc (ext_alloc (ext_refl w) _) _) _) hx1
    have G2 := keep_ext hx1 (hg_alloc (hg_alloc (hg_new (w := w) (b := w.heap.size) (x := .cells #[.slice a3 s.flash.length n3, .slice a4 s.disk.length n4] 41) rfl)))
    have G3 := keep_ext hx1 (hg_alloc (hg_new (b := w.heap.size + 1) (by simp)))
    have G4 := keep_ext hx1 (hg_new (b := w.heap.size + 1 + 1) (by simp))
    have s1 := hx1.size
    simp at s1
    clear hSO hx1
    obtain ⟨g4, gf4⟩ := cellsK G4
    go_wp2_with fail
    refine bodyPost_ret (v := nilStore) (by simp [results, Try.results21, go_sem, g4, gf4, nilStore]) rfl ⟨_, _, rfl, ?_, .inl ⟨rfl, rfl, rfl⟩, fun b hb => by cases hb⟩
    ((repeat (first | with_reducible (refine ext_set2 ?_ ?_); focus (first | exact Nat.le_refl _ | (dsimp only; omega) | (simp; omega)) | with_reducible refine ext_alloc2 ?_)); with_reducible exact X1)
end Go.Bu
