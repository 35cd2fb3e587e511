/- What happens to a store, as the reference does it in place: l21All, l21Do. -/
import Derived.Test.YtcgedfahgldkoaaFlashLaw2
set_option linter.unusedVariables false
set_option linter.unusedSimpArgs false
namespace Go.Bu
open Go Go.RowKit Go.Plan Go.Proofs

theorem toSteps_len (s : Store) (xs : List Step) (cut : Int) (t : Bool) : (toSteps s xs cut t).flash.length = s.flash.length ∧ (toSteps s xs cut t).disk.length = s.disk.length := by
  unfold toSteps
  have h1 := doAll_len (xs.take cut.toNat) s
  split
  · have h2 := doStep_len (doAll s (xs.take cut.toNat)) ((xs[cut.toNat]?).getD ⟨0, 0, 0, 0, rec0⟩) true
    exact ⟨h2.1.trans h1.1, h2.2.trans h1.2⟩
  · exact h1

theorem l12To_v (c : SC) (s t : Store) (sv : Value) (xs : List Step) (cut : Int) (torn : Bool) (w : World) (h : OwnS c w s) (hs : Shape s) (hx : StepsAt c w sv xs) (hf : ∀ x ∈ xs, Fit x) (hn : xs.length ≤ 1000) (hc : -1000000 ≤ cut)
    (hl : s.flash.length = t.flash.length ∧ s.disk.length = t.disk.length) :
    Calls Try.prog 83 #[.agg #[c.fv t, c.dv t], sv, .int .i64 cut, .bool torn] w (RetOv c w (c.fv t) (c.dv t) (toSteps s xs cut torn)) := by
  obtain ⟨h1, h2⟩ := SC.same (c := c) hl
  have := l12To_c c s sv xs cut torn w h hs hx hf hn hc
  rw [h1, h2] at this
  refine this.mono fun e w' ⟨he, hc, ho⟩ => ⟨?_, hc, ho⟩
  obtain ⟨h3, h4⟩ := SC.same (c := c) (toSteps_len s xs cut torn)
  rw [he, h3, h4, h1, h2]

theorem OwnS.v {c : SC} {w : World} {s t : Store} (h : OwnS c w s) (hl : s.flash.length = t.flash.length ∧ s.disk.length = t.disk.length) : StoreV w (c.fv t) (c.dv t) s := by
  obtain ⟨h1, h2⟩ := SC.same (c := c) hl
  rw [← h1, ← h2]; exact ⟨h.fl, h.dk⟩

def allStep (s : Store) (n : Nat) : Store := doAll s (flushSteps s n)
def addrs6 : List Nat := [0, 1, 2, 3, 4, 5]
def playAllS (s : Store) : Store := addrs6.foldl allStep s
def playDoS (s : Store) (e : Event) : Store := if e.kind = 4 then playAllS s else if e.c < 0 then s else toSteps s (playSteps s e) e.c e.torn
theorem addrs6_get {k : Nat} (h : k < addrs6.length) : addrs6[k] = k := by
  have : k < 6 := h
  rcases (show k = 0 ∨ k = 1 ∨ k = 2 ∨ k = 3 ∨ k = 4 ∨ k = 5 by omega) with rfl | rfl | rfl | rfl | rfl | rfl <;> rfl

theorem toSteps_all (s : Store) (xs : List Step) : toSteps s xs xs.length false = doAll s xs := by
  unfold toSteps; simp
theorem addrStep_at (g : Nat → List Step) (n : Nat) (h : n < 6) : addrStep g ((n : Int) + 1) = g n := by
  unfold addrStep; rw [inB_iff.2 (by omega)]; simp

theorem StoreP.allStep {s : Store} (h : StoreP s) {n : Nat} (hn : n < 6) : StoreP (allStep s n) := h.all (flush_ok (flashOk_iff.1 h.flash) hn)
theorem StoreP.playAll {s : Store} (h : StoreP s) : StoreP (playAllS s) := by
  refine foldl_inv Bu.allStep StoreP addrs6 s h fun s n hn hs => hs.allStep ?_
  simp [addrs6] at hn; omega
theorem StoreP.play {s : Store} (h : StoreP s) (e : Event) : StoreP (playDoS s e) := by
  unfold playDoS
  split
  · exact h.playAll
  · split
    · exact h
    · exact h.to (play_ok (flashOk_iff.1 h.flash) e) _ _
theorem allStep_len (s : Store) (n : Nat) : (allStep s n).flash.length = s.flash.length ∧ (allStep s n).disk.length = s.disk.length := doAll_len _ s
theorem flush_le {s : Store} (h : flashOkB s.flash = true) (n : Nat) : (flushSteps s n).length ≤ 7 := by
  have := write_le h 2 ((n : Int) + 1) (readN s n)
  unfold flushSteps; (repeat' split) <;> simp <;> omega

set_option maxRecDepth 20000 in
set_option maxHeartbeats 4000000 in
theorem l21All_c (c : SC) (s : Store) (w : World) (h : OwnS c w s) (hs : StoreP s) :
    Calls Try.prog 82 #[.agg #[c.fv s, c.dv s]] w (RetO c w (playAllS s)) := by
  have HNB := Lib.hid h.new
  have HS := Lib.hid hs
  obtain ⟨A, hA⟩ : ∃ A, playAllS s = A := ⟨_, rfl⟩
  rw [hA]
  have HA : Hid ((addrs6.drop 0).foldl allStep s = A) := Lib.hid hA
  clear hA hs
  go_enter Try.func82, Try.ntmps82
  go_wp2_with fail
  go_loopw [3] (fun y wr => ∃ (k : Nat) (s1 : Store), k ≤ 6 ∧ y = .int .i64 ((k : Int) + 1) ∧ Chg c.L w wr ∧ OwnS c wr s1 ∧ Hid (StoreP s1) ∧ Hid (s1.flash.length = s.flash.length ∧ s1.disk.length = s.disk.length) ∧
    Hid ((addrs6.drop k).foldl allStep s1 = A) ∧ wr.heap[w.heap.size]? = some (.cells #[c.fv s, c.dv s] 43 (0, 0)) ∧ wr.heap[w.heap.size + 1]? = some (.cells #[.slice none 0 0, .slice none 0 0] 43 (0, 0))) (fun y _ => 7 - (intOf y).toNat)
  case atStart =>
    exact ⟨0, s, by omega, rfl, Chg.of_ext (by go_grown), h.ext (by go_grown), HS, Lib.hid ⟨rfl, rfl⟩, HA, hg_alloc (hg_new rfl), hg_new (by simp)⟩
  case round =>
    obtain ⟨k, s1, hk, rfl, hC, hO, HS1, HE, HR, G0, G1⟩ := hrel
    obtain ⟨g0, gf0⟩ := cellsK G0
    obtain ⟨g1, gf1⟩ := cellsK G1
    have l0 := heap_lt G0
    have l1 := heap_lt G1
    by_cases hlt : k < 6
    · have hq := addrStep_at (flushSteps s1) k hlt
      have hfo := flush_ok (flashOk_iff.1 HS1.out.flash) hlt
      have hfl := flush_le HS1.out.flash k
      have ht := toSteps_all s1 (flushSteps s1 k)
      have hsp := HS1.out.allStep hlt
      have hal := allStep_len s1 k
      rw [foldl_drop _ _ _ _ hlt, addrs6_get hlt, show allStep s1 k = doAll s1 (flushSteps s1 k) from rfl] at HR
      rw [show allStep s1 k = doAll s1 (flushSteps s1 k) from rfl] at hsp hal
      have HT := Lib.hid ht; have HFO := Lib.hid hfo; have HQ := Lib.hid hq; have HSP := Lib.hid hsp; have HAL := Lib.hid hal
      clear ht hfo hq hsp hal
      go_wp2_with fail
      refine (l12Flush_c _ _ s1 ((k : Int) + 1) _ (hO.v HE.out) HS1.out).mono ?_; rintro e1 w1 ⟨sv, rfl, hx1, hS, hsl⟩
      rw [HQ.out] at hS hsl
      generalize flushSteps s1 k = FS at *
      have hat := hS.at_ (c := c) fun b hb hm => by have := hO.lt b hm; omega
      obtain ⟨sa, scap, rfl⟩ := hS.form
      have HAT := Lib.hid hat
      replace G0 := keep_ext hx1 G0
      replace G1 := keep_ext hx1 G1
      clear g0 gf0 g1 gf1 hat hS
      obtain ⟨g0, gf0⟩ := cellsK G0
      obtain ⟨g1, gf1⟩ := cellsK G1
      go_wp2_with fail
      refine (l12To_v c s1 s _ FS FS.length false _ (hO.ext hx1) HS1.out.shape HAT.out (fun x hm => (HFO.out x hm).fit) (by omega) (by omega) HE.out).mono ?_; rintro e2 w2 ⟨rfl, hC2, hO2⟩
      rw [HT.out] at hO2
      have HC2 := Lib.hid (hC.trans (Chg.trans (Chg.of_ext hx1) hC2)); have HO2 := Lib.hid hO2
      replace G0 := hC2.keep G0 (HNB.out _ (by omega))
      replace G1 := hC2.keep G1 (HNB.out _ (by omega))
      clear hC2 hO2 g0 gf0 g1 gf1
      obtain ⟨g0, gf0⟩ := cellsK G0
      obtain ⟨g1, gf1⟩ := cellsK G1
      go_wp2_with fail
      refine ⟨⟨k + 1, doAll s1 FS, by omega, by go_num, ?_, ?_, HSP, Lib.hid ⟨HAL.out.1.trans HE.out.1, HAL.out.2.trans HE.out.2⟩, HR, hgo (by (repeat (first | with_reducible apply hg_here | (with_reducible apply hg_set; focus (dsimp only; omega)) | with_reducible apply hg_alloc)); with_reducible exact G0) ?_, (by (repeat (first | with_reducible apply hg_here | (with_reducible apply hg_set; focus (dsimp only; omega)) | with_reducible apply hg_alloc)); with_reducible exact G1)⟩, by simp [intOf]; omega⟩
      · have hc := HC2.out
        ((repeat (first | with_reducible (refine Chg.set2 ?_ ?_); focus (exact Or.inr (by dsimp only; omega)) | with_reducible refine Chg.alloc2 ?_)); with_reducible exact hc)
      · have ho := HO2.out
        ((repeat (first | (with_reducible apply OwnS.set2; focus (exact HNB.out _ (by dsimp only; omega))) | with_reducible apply OwnS.alloc2)); with_reducible exact ho)
      · simp
    · obtain rfl : k = 6 := by omega
      have hsA : s1 = A := HR.out
      subst hsA
      clear HR HA
      go_wp2_with fail
      refine bodyPost_ret (v := .agg #[c.fv s, c.dv s]) (by simp [results, Try.results82, go_sem, g0, gf0, g1, gf1]) rfl ?_
      obtain ⟨q1, q2⟩ := SC.same (c := c) HE.out
      refine ⟨by rw [q1, q2], ?_, ?_⟩
      · ((repeat (first | with_reducible (refine Chg.set2 ?_ ?_); focus (exact Or.inr (by dsimp only; omega)) | with_reducible refine Chg.alloc2 ?_)); with_reducible exact hC)
      · ((repeat (first | (with_reducible apply OwnS.set2; focus (exact HNB.out _ (by dsimp only; omega))) | with_reducible apply OwnS.alloc2)); with_reducible exact hO)

theorem playAllS_len (s : Store) : (playAllS s).flash.length = s.flash.length ∧ (playAllS s).disk.length = s.disk.length :=
  foldl_inv allStep (fun t => t.flash.length = s.flash.length ∧ t.disk.length = s.disk.length) addrs6 s ⟨rfl, rfl⟩ fun t n _ ht => ⟨(allStep_len t n).1.trans ht.1, (allStep_len t n).2.trans ht.2⟩
theorem playDoS_len (s : Store) (e : Event) : (playDoS s e).flash.length = s.flash.length ∧ (playDoS s e).disk.length = s.disk.length := by
  unfold playDoS
  split
  · exact playAllS_len s
  · split
    · exact ⟨rfl, rfl⟩
    · exact toSteps_len _ _ _ _

theorem play_le {s : Store} (h : flashOkB s.flash = true) (e : Event) : (playSteps s e).length ≤ 7 := by
  unfold playSteps putSteps
  split
  · have := write_le h 1 e.a e.b; omega
  · split
    · unfold addrStep; split
      · exact flush_le h _
      · simp
    · split
      · unfold addrStep; split
        · unfold fillSteps; split
          · simp
          · have := write_le h 2 (((e.a - 1).toNat : Int) + 1) (s.disk.getD (e.a - 1).toNat 0); omega
        · simp
      · simp

set_option maxRecDepth 20000 in
set_option maxHeartbeats 4000000 in
theorem l21Do_c (c : SC) (s : Store) (e : Event) (w : World) (h : OwnS c w s) (hs : StoreP s) :
    Calls Try.prog 63 #[.agg #[c.fv s, c.dv s], eventA e] w (RetO c w (playDoS s e)) := by
  have HNB := Lib.hid h.new
  have HS := Lib.hid hs
  obtain ⟨k, a, b, cut, torn⟩ := e
  by_cases h4 : k = 4
  · subst h4
    rw [show playDoS s ⟨4, a, b, cut, torn⟩ = playAllS s from rfl]
    clear hs
    go_enter Try.func63, Try.ntmps63
    go_wp2_with fail
    refine (l21All_c c s _ (h.ext (by go_grown)) HS.out).mono ?_; rintro e1 w1 ⟨rfl, hC, hO⟩
    obtain ⟨q1, q2⟩ := SC.same (c := c) (playAllS_len s)
    have G2 := hC.keep (hg_new (b := w.heap.size + 1 + 1) (by simp)) (HNB.out _ (by omega))
    obtain ⟨g2, gf2⟩ := cellsK G2
    have HC := Lib.hid (Chg.trans (Chg.of_ext (by go_grown)) hC : Chg c.L w w1); have HO := Lib.hid hO
    have HR : Hid (RetO c w (playAllS s) (.returned (.agg #[c.fv s, c.dv s])) ((w1.setCell ⟨w.heap.size + 1 + 1, 0, none⟩ (c.fv s)).setCell ⟨w.heap.size + 1 + 1, 1, none⟩ (c.dv s))) := by
      refine Lib.hid ⟨by rw [q1, q2], ?_, ?_⟩
      · have hc := HC.out
        ((repeat (first | with_reducible (refine Chg.set2 ?_ ?_); focus (exact Or.inr (by dsimp only; omega)) | with_reducible refine Chg.alloc2 ?_)); with_reducible exact hc)
      · have ho := HO.out
        ((repeat (first | (with_reducible apply OwnS.set2; focus (exact HNB.out _ (by dsimp only; omega))) | with_reducible apply OwnS.alloc2)); with_reducible exact ho)
    rw [q1, q2]
    clear hC hO q1 q2
    generalize playAllS s = s2 at *
    go_wp2_with fail
    exact bodyPost_ret (v := .agg #[c.fv s, c.dv s]) (by simp [results, Try.results63, go_sem, g2, gf2]) rfl HR.out
  by_cases hc0 : cut < 0
  · rw [show playDoS s ⟨k, a, b, cut, torn⟩ = s from by unfold playDoS; rw [if_neg h4, if_pos hc0]]
    have hkf : (k == 4) = false := by simpa using h4
    clear h4 hs
    go_enter Try.func63, Try.ntmps63
    go_wp2_with fail
    refine bodyPost_ret (v := .agg #[c.fv s, c.dv s]) (by simp [results, Try.results63, go_sem]) rfl ⟨rfl, ?_, ?_⟩
    · exact Chg.of_ext (by go_grown)
    · exact h.ext (by go_grown)
  · have hq : playDoS s ⟨k, a, b, cut, torn⟩ = toSteps s (playSteps s ⟨k, a, b, cut, torn⟩) cut torn := by unfold playDoS; rw [if_neg h4, if_neg hc0]
    rw [hq]
    have hkf : (k == 4) = false := by simpa using h4
    have hfo := play_ok (flashOk_iff.1 hs.flash) ⟨k, a, b, cut, torn⟩
    have hle := play_le hs.flash ⟨k, a, b, cut, torn⟩
    have HFO := Lib.hid hfo; have HLE := Lib.hid hle
    obtain ⟨PS, hps⟩ : ∃ PS, playSteps s ⟨k, a, b, cut, torn⟩ = PS := ⟨_, rfl⟩
    have HPS := Lib.hid hps
    rw [hps]
    have hst : ∀ w', Ext w w' → Calls Try.prog 64 #[.agg #[c.fv s, c.dv s], eventA ⟨k, a, b, cut, torn⟩] w' (RetP w' (SΦ w.heap.size PS)) := fun w' hx =>
      (l21Steps_c _ _ s ⟨k, a, b, cut, torn⟩ w' ((h.ext hx).v ⟨rfl, rfl⟩) hs).mono fun e w'' h => by rw [hps] at h; exact RetS.weak h hx.size
    have HST := Lib.hid hst
    clear h4 hs hq hps hfo hle hst
    go_enter Try.func63, Try.ntmps63
    go_wp2_with fail
    refine wp_region_ext [3] [0, 1, 2, 4, 5, 6, 7, 3] [] [8, 9] (by kernel_rfl) (by kernel_rfl) ?late ?_
    case late => exact fun f hf => absurd hf List.not_mem_nil
    iterate 3
      refine Rob.y (v := ?_) rfl rfl (fun w1 hx hH => ?_) ?_; rotate_left
      · (obtain ⟨hcx, hfx⟩ := bcell hx); go_simp; first | done | rfl
      simp only [Act.put, List.setIfInBounds_toArray, List.set_cons_succ, List.set_cons_zero]
    refine Rob.y (v := ?_) rfl rfl (fun w1 hx hH => ?_) ?_; rotate_left
    · go_simp; first | done | rfl | exact (Bool.not_not _).symm
    simp only [Act.put, List.setIfInBounds_toArray, List.set_cons_succ, List.set_cons_zero]
    refine Rob.y (v := ?_) rfl rfl (fun w1 hx hH => ?_) ?_; rotate_left
    · (obtain ⟨hcx, hfx⟩ := bcell hx); go_simp; first | done | rfl
    simp only [Act.put, List.setIfInBounds_toArray, List.set_cons_succ, List.set_cons_zero]
    refine Rob.y (v := ?_) rfl rfl (fun w1 hx hH => ?_) ?_; rotate_left
    · go_simp; first | done | rfl | exact (Bool.not_not _).symm
    simp only [Act.put, List.setIfInBounds_toArray, List.set_cons_succ, List.set_cons_zero]
    refine Rob.y (v := ?_) rfl rfl (fun w1 hx hH => ?_) ?_; rotate_left
    · (obtain ⟨hcx, hfx⟩ := bcell hx); go_simp; first | done | rfl
    simp only [Act.put, List.setIfInBounds_toArray, List.set_cons_succ, List.set_cons_zero]
    refine Rob.c ((fun lo hi v w' => SΦ w.heap.size PS v w')) rfl rfl rfl (fun _ _ => ext_trans) (fun _ _ _ _ _ => fun h hx => h.ext hx) (fun w1 hx hH => ?_) (fun lo3 hi3 v3 hlo3 hhi3 hv3 => ?_)
    · unfold RunTo; go_simp; exact ((HST.out _ (ext_trans (by go_grown) hx))).mono fun e w' h => h.to
    simp only [Act.put, List.setIfInBounds_toArray, List.set_cons_succ, List.set_cons_zero]
    refine fin_tail (fun w2 hx2 _ => ?_)
    simp only [dstOf, List.getElem?_cons_succ, List.getElem?_cons_zero, Option.bind_some, Act.put, List.setIfInBounds_toArray, List.set_cons_succ, List.set_cons_zero, List.filterMap_cons, List.filterMap_nil]
    obtain ⟨hX2, ⟨bb, hbb, hS⟩, hsl⟩ := hx2
    have X2 : Ext w w2 := ext_trans (by go_grown) hX2
    have hO := h.ext X2
    have hat := hS.at_ (c := c) fun b' hb' hm => by have := h.lt b' hm; omega
    obtain ⟨sa, scap, rfl⟩ := hS.form
    have HAT := Lib.hid hat; clear hat hS
    have G2 := keep_ext hX2 (hg_new (b := w.heap.size + 1 + 1) (by simp))
    obtain ⟨g2, gf2⟩ := cellsK G2
    go_wp2_with (go_at_call 83; refine (l12To_v c s s _ PS cut torn _ hO HS.out.shape HAT.out (fun x hm => (HFO.out x (by rw [HPS.out]; exact hm)).fit) (by omega) (by omega) ⟨rfl, rfl⟩).mono ?_; rintro e3 w3 ⟨rfl, hC3, hO3⟩; have HC3 := Lib.hid (Chg.trans (Chg.of_ext X2) hC3); have HO3 := Lib.hid hO3; replace G2 := hC3.keep G2 (HNB.out _ (by omega)); clear hC3 hO3 g2 gf2; obtain ⟨g2, gf2⟩ := cellsK G2)
    have l2 := heap_lt G2
    obtain ⟨q1, q2⟩ := SC.same (c := c) (toSteps_len s PS cut torn)
    refine bodyPost_ret (v := .agg #[c.fv s, c.dv s]) (by simp [results, Try.results63, go_sem, g2, gf2]) rfl ⟨by rw [q1, q2], ?_, ?_⟩
    · have hc := HC3.out
      ((repeat (first | with_reducible (refine Chg.set2 ?_ ?_); focus (exact Or.inr (by dsimp only; omega)) | with_reducible refine Chg.alloc2 ?_)); with_reducible exact hc)
    · have ho := HO3.out
      ((repeat (first | (with_reducible apply OwnS.set2; focus (exact HNB.out _ (by dsimp only; omega))) | with_reducible apply OwnS.alloc2)); with_reducible exact ho)
end Go.Bu
