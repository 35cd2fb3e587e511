/- Steps done one behind the other, and what happens to a store, as the reference does it in place: l12To, l21All, l21Do. -/
import Derived.Test.YtcainddboblpbaaDoS
set_option linter.unusedVariables false
set_option linter.unusedSimpArgs false
namespace Go.Bu
open Go Go.RowKit Go.Plan Go.Proofs

def doAll (s : Store) (xs : List Step) : Store := xs.foldl (fun s x => doStep s x false) s
def toSteps (s : Store) (xs : List Step) (cut : Int) (torn : Bool) : Store :=
  if torn && decide (0 ≤ cut) && decide (cut < xs.length) then doStep (doAll s (xs.take cut.toNat)) ((xs[cut.toNat]?).getD ⟨0, 0, 0, 0, rec0⟩) true else doAll s (xs.take cut.toNat)

theorem mem_set {α : Type} {xs : List α} {i : Nat} {x y : α} (h : y ∈ xs.set i x) : y ∈ xs ∨ y = x := by
  rcases List.mem_or_eq_of_mem_set h with h | h
  · exact .inl h
  · exact .inr h
theorem blockAt_mem {f : List Block} {i : Nat} (h : i < f.length) : blockAt f i ∈ f := by rw [blockAt_get h]; exact List.getElem_mem _

theorem Shape.wipe {s : Store} (h : Shape s) (i : Nat) (t : Bool) (hi : i < 4) : Shape ⟨wipeF s.flash i t, s.disk⟩ := by
  have hb := blockAt_mem (f := s.flash) (i := i) (by rw [h.flash]; exact hi)
  refine ⟨by show (wipeF _ _ _).length = 4; rw [wipeF_len]; exact h.flash, fun b hm => ?_, fun b hm => ?_, h.disk⟩
  · simp only [wipeF] at hm
    split at hm
    · exact h.pages b hm
    · rcases mem_set hm with hm | rfl
      · exact h.pages b hm
      · rfl
  · simp only [wipeF] at hm
    split at hm
    · exact h.worn b hm
    · rcases mem_set hm with hm | rfl
      · exact h.worn b hm
      · have := h.worn _ hb; dsimp only; omega
theorem Shape.write {s : Store} (h : Shape s) (i : Nat) (r : Rec) (t : Bool) (hi : i < 4) : Shape ⟨writeF s.flash i r t, s.disk⟩ := by
  have hb := blockAt_mem (f := s.flash) (i := i) (by rw [h.flash]; exact hi)
  refine ⟨by show (writeF _ _ _ _).length = 4; rw [writeF_len]; exact h.flash, fun b hm => ?_, fun b hm => ?_, h.disk⟩
  · simp only [writeF] at hm
    split at hm
    · rcases mem_set hm with hm | rfl
      · exact h.pages b hm
      · rw [List.length_set]; exact h.pages _ hb
    · exact h.pages b hm
  · simp only [writeF] at hm
    split at hm
    · rcases mem_set hm with hm | rfl
      · exact h.worn b hm
      · have := h.worn _ hb; exact this
    · exact h.worn b hm
theorem Shape.step {s : Store} (h : Shape s) {x : Step} (hx : Fit x) (t : Bool) : Shape (doStep s x t) := by
  unfold doStep
  by_cases h1 : x.kind = 1
  · rw [if_pos h1]; split
    · exact h
    · exact ⟨h.flash, h.pages, h.worn, by simp [h.disk]⟩
  · have hb := hx.block h1
    rw [if_neg h1]; split
    · exact h.wipe _ _ (by omega)
    · split
      · exact h.write _ _ _ (by omega)
      · exact h
theorem Shape.all {xs : List Step} : ∀ {s : Store}, Shape s → (∀ x ∈ xs, Fit x) → Shape (doAll s xs) := fun {s} h hx =>
  foldl_inv (fun s x => doStep s x false) Shape xs s h fun s x hm hs => hs.step (hx x hm) false

/-- steps that lie apart from a store -/
abbrev StepsAt (c : SC) (w : World) (v : Value) (xs : List Step) : Prop := Steps' (fun b => b < w.heap.size ∧ b ∉ c.L) w v xs
theorem StepsAt.chg {c : SC} {w w' : World} {v : Value} {xs : List Step} (h : StepsAt c w v xs) (hx : Chg c.L w w') : StepsAt c w' v xs :=
  Sl.same (plain_kept _) h (fun b hb => hx.block b hb.1 hb.2) fun b hb => ⟨Nat.lt_of_lt_of_le hb.1 hx.size, hb.2⟩
theorem SRow.at_ {c : SC} {base : Nat} {w : World} {v : Value} {xs : List Step} (h : SRow base w v xs) (hb : ∀ b, base ≤ b → b ∉ c.L) : StepsAt c w v xs := by
  rcases h.2 with ⟨rfl, h0⟩ | ⟨g, cap, cur, rfl, hg, hh, _, _, _, ht⟩
  · have : xs = [] := List.length_eq_zero_iff.1 h0
    subst this
    exact ⟨none, 0, rfl, fun i x hx => by simp at hx⟩
  · refine ⟨_, cap, rfl, fun i x hx => ⟨g, 0, stepC x, rfl, ⟨heap_lt hh, hb g hg⟩, rfl, fun j u hu => ?_⟩⟩
    have := flat_get (enc := stepC) (n := 8) (fun _ => rfl) xs i x j u hx hu
    rw [← ht] at this
    have hlt := (List.getElem?_eq_some_iff.1 this).1
    rw [List.length_take] at hlt
    rw [List.getElem?_take_of_lt (by omega)] at this
    rw [cell_block hh, Nat.zero_add]
    simpa using this

theorem doAll_len (xs : List Step) : ∀ s : Store, (doAll s xs).flash.length = s.flash.length ∧ (doAll s xs).disk.length = s.disk.length := by
  induction xs with
  | nil => exact fun s => ⟨rfl, rfl⟩
  | cons x xs ih => exact fun s => ⟨(ih _).1.trans (doStep_len s x false).1, (ih _).2.trans (doStep_len s x false).2⟩

/-- the same, its slices named -/
def RetOv (c : SC) (w : World) (fv dv : Value) (s : Store) (e : Ending) (w' : World) : Prop := e = .returned (.agg #[fv, dv]) ∧ Chg c.L w w' ∧ OwnS c w' s
theorem SC.same {c : SC} {s t : Store} (h : t.flash.length = s.flash.length ∧ t.disk.length = s.disk.length) : c.fv t = c.fv s ∧ c.dv t = c.dv s := ⟨by simp only [SC.fv, h.1], by simp only [SC.dv, h.2]⟩
theorem l12Do_v (c : SC) (s t : Store) (x : Step) (torn : Bool) (w : World) (h : OwnS c w s) (hs : Shape s) (hf : Fit x) (hl : s.flash.length = t.flash.length ∧ s.disk.length = t.disk.length) :
    Calls Try.prog 109 #[.agg #[c.fv t, c.dv t], stepA x, .bool torn] w (RetOv c w (c.fv t) (c.dv t) (doStep s x torn)) := by
  obtain ⟨h1, h2⟩ := SC.same (c := c) hl
  have := l12Do_c c s x torn w h hs hf
  rw [h1, h2] at this
  refine this.mono fun e w' ⟨he, hc, ho⟩ => ⟨?_, hc, ho⟩
  obtain ⟨h3, h4⟩ := SC.same (c := c) (doStep_len s x torn)
  rw [he, h3, h4, h1, h2]

set_option maxRecDepth 20000 in
set_option maxHeartbeats 4000000 in
theorem l12To_c (c : SC) (s : Store) (sv : Value) (xs : List Step) (cut : Int) (torn : Bool) (w : World) (h : OwnS c w s) (hs : Shape s) (hx : StepsAt c w sv xs) (hf : ∀ x ∈ xs, Fit x) (hn : xs.length ≤ 1000) (hc : -1000000 ≤ cut) :
    Calls Try.prog 89 #[.agg #[c.fv s, c.dv s], sv, .int .i64 cut, .bool torn] w (RetO c w (toSteps s xs cut torn)) := by
  obtain ⟨sa, scap, rfl⟩ := hx.form
  have hlt := h.lt
  have HLT := Lib.hid hlt; clear hlt
  have HNB := Lib.hid h.new
  obtain ⟨A, hA⟩ : ∃ A, doAll s (xs.take cut.toNat) = A := ⟨_, rfl⟩
  have HA : Hid (((xs.take cut.toNat).drop 0).foldl (fun s x => doStep s x false) s = A) := Lib.hid hA
  have hAl := doAll_len (xs.take cut.toNat) s
  rw [hA] at hAl
  obtain ⟨hal1, hal2⟩ := hAl
  have HF := Lib.hid hf; have HS := Lib.hid hs
  have HSA : Hid (Shape A) := Lib.hid (by rw [← hA]; exact hs.all fun x hm => hf x (List.mem_of_mem_take hm))
  have HQ : Hid (toSteps s xs cut torn = if torn && decide (0 ≤ cut) && decide (cut < xs.length) then doStep A ((xs[cut.toNat]?).getD ⟨0, 0, 0, 0, rec0⟩) true else A) := Lib.hid (by unfold toSteps; rw [hA])
  have HL1 := Lib.hid hal1; have HL2 := Lib.hid hal2
  clear hA hf hs hal1 hal2
  generalize toSteps s xs cut torn = RR at *
  go_enter Try.func89, Try.ntmps89
  go_wp2_with fail
  go_loopw [9] (fun y wr => ∃ (k : Nat) (s1 : Store), k ≤ xs.length ∧ ((k : Int) ≤ cut ∨ k = 0) ∧ y = .int .i64 k ∧ Chg c.L w wr ∧ OwnS c wr s1 ∧ Hid (Shape s1) ∧ Hid (s1.flash.length = s.flash.length) ∧ Hid (s1.disk.length = s.disk.length) ∧
    Hid (((xs.take cut.toNat).drop k).foldl (fun s x => doStep s x false) s1 = A) ∧ wr.heap[w.heap.size]? = some (.cells #[c.fv s, c.dv s] 32 (0, 0)) ∧ wr.heap[w.heap.size + 1]? = some (.cells #[.slice none 0 0, .slice none 0 0] 32 (0, 0))) (fun y _ => xs.length - (intOf y).toNat)
  case atStart =>
    exact ⟨0, s, by omega, .inr rfl, rfl, Chg.of_ext (by go_grown), h.ext (by go_grown), HS, Lib.hid rfl, Lib.hid rfl, HA, hg_alloc (hg_new rfl), hg_new (by simp)⟩
  case round =>
    obtain ⟨k, s1, hk, hkc, rfl, hC, hO, HS1, HE1, HE2, HR, G0, G1⟩ := hrel
    obtain ⟨g0, gf0⟩ := cellsK G0
    obtain ⟨g1, gf1⟩ := cellsK G1
    have l0 := heap_lt G0
    have l1 := heap_lt G1
    by_cases hgo : k < xs.length ∧ (k : Int) < cut
    · obtain ⟨hkl, hkc2⟩ := hgo
      obtain ⟨b, o, rfl, hb, e0, e1, e2, e3, e4, e5, e6, e7⟩ := (hx.chg hC).at8 hkl
      obtain ⟨hb1, hb2⟩ := hb
      rw [foldl_drop _ _ _ _ (by simp; omega), List.getElem_take] at HR
      go_wp2_with fail
      refine wp_region_ext [] [0, 1, 2, 3, 4] [] [5, 6] (by kernel_rfl) (by kernel_rfl) ?late ?_
      case late => exact fun f hf => absurd hf List.not_mem_nil
      refine Rob.y (v := ?_) rfl rfl (fun w1 hx hH => ?_) ?_; rotate_left
      · (obtain ⟨hcx, hfx⟩ := bcell hx); go_simp; first | done | rfl
      simp only [Act.put, List.setIfInBounds_toArray, List.set_cons_succ, List.set_cons_zero]
      iterate 2
        refine Rob.y (v := ?_) rfl rfl (fun w1 hx hH => ?_) ?_; rotate_left
        · go_simp; first | done | rfl | exact (Bool.not_not _).symm
        simp only [Act.put, List.setIfInBounds_toArray, List.set_cons_succ, List.set_cons_zero]
      iterate 2
        refine Rob.y (v := ?_) rfl rfl (fun w1 hx hH => ?_) ?_; rotate_left
        · (obtain ⟨hcx, hfx⟩ := bcell hx); go_simp; first | done | rfl
        simp only [Act.put, List.setIfInBounds_toArray, List.set_cons_succ, List.set_cons_zero]
      refine fin_tail (fun w1 hx1 _ => ?_)
      simp only [dstOf, List.getElem?_cons_succ, List.getElem?_cons_zero, Option.bind_some, Act.put, List.setIfInBounds_toArray, List.set_cons_succ, List.set_cons_zero, List.filterMap_cons, List.filterMap_nil]
      go_wp2_with (go_at_call 109; refine (l12Do_v c s1 s xs[k] false _ (hO.ext hx1) HS1.out (HF.out _ (List.getElem_mem _)) ⟨HE1.out, HE2.out⟩).mono ?_; rintro e2 w2 ⟨rfl, hC2, hO2⟩; have HC2 := Lib.hid (hC.trans (Chg.trans (Chg.of_ext hx1) hC2)); have HO2 := Lib.hid hO2; replace G0 := hC2.keep (keep_ext hx1 G0) (HNB.out _ (by omega)); replace G1 := hC2.keep (keep_ext hx1 G1) (HNB.out _ (by omega)); clear hC2 hO2 g0 gf0 g1 gf1; obtain ⟨g0, gf0⟩ := cellsK G0; obtain ⟨g1, gf1⟩ := cellsK G1)
      obtain ⟨hl1, hl2⟩ := doStep_len s1 xs[k] false
      refine ⟨⟨k + 1, doStep s1 xs[k] false, by omega, .inl (by omega), by go_num, ?_, ?_, Lib.hid (HS1.out.step (HF.out _ (List.getElem_mem _)) false), Lib.hid (hl1.trans HE1.out), Lib.hid (hl2.trans HE2.out), HR, hgo (by (repeat (first | with_reducible apply hg_here | (with_reducible apply hg_set; focus (dsimp only; omega)) | with_reducible apply hg_alloc)); with_reducible exact G0) ?_, (by (repeat (first | with_reducible apply hg_here | (with_reducible apply hg_set; focus (dsimp only; omega)) | with_reducible apply hg_alloc)); with_reducible exact G1)⟩, by simp [intOf]; omega⟩
      · have hc := HC2.out
        ((repeat (first | with_reducible (refine Chg.set2 ?_ ?_); focus (exact Or.inr (by dsimp only; omega)) | with_reducible refine Chg.alloc2 ?_)); with_reducible exact hc)
      · have ho := HO2.out
        ((repeat (first | (with_reducible apply OwnS.set2; focus (exact HNB.out _ (by dsimp only; omega))) | with_reducible apply OwnS.alloc2)); with_reducible exact ho)
      · simp
    · have hsA : s1 = A := by
        have := HR.out
        rw [List.drop_eq_nil_of_le (by simp; omega)] at this
        exact this
      subst hsA
      clear HR HA
      cases torn with
      | false =>
        go_wp2_with fail
        all_goals
          refine bodyPost_ret (v := .agg #[c.fv s, c.dv s]) (by simp [results, Try.results89, go_sem, g0, gf0, g1, gf1]) rfl ?_
          have hr : RR = s1 := by rw [HQ.out]; simp
          rw [hr]
          obtain ⟨q1, q2⟩ := SC.same (c := c) (⟨HE1.out, HE2.out⟩)
          refine ⟨by rw [q1, q2], ?_, ?_⟩
          · have hc := hC
            ((repeat (first | with_reducible (refine Chg.set2 ?_ ?_); focus (exact Or.inr (by dsimp only; omega)) | with_reducible refine Chg.alloc2 ?_)); with_reducible exact hc)
          · have ho := hO
            ((repeat (first | (with_reducible apply OwnS.set2; focus (exact HNB.out _ (by dsimp only; omega))) | with_reducible apply OwnS.alloc2)); with_reducible exact ho)
      | true =>
        cases hin : inB cut 0 ((xs.length : Int) - 1) with
        | false =>
          have HI := Lib.hid hin; clear hin
          go_wp2_with (go_at_call 36; refine (l6In_c _ _ _ _).mono ?_; rintro e1 w1 ⟨rfl, rfl⟩; rw [HI.out])
          all_goals
            refine bodyPost_ret (v := .agg #[c.fv s, c.dv s]) (by simp [results, Try.results89, go_sem, g0, gf0, g1, gf1]) rfl ?_
            have hr : RR = s1 := by rw [HQ.out, if_neg (by have := inB_no.1 HI.out; simp; omega)]
            rw [hr]
            obtain ⟨q1, q2⟩ := SC.same (c := c) (⟨HE1.out, HE2.out⟩)
            refine ⟨by rw [q1, q2], ?_, ?_⟩
            · have hc := hC
              ((repeat (first | with_reducible (refine Chg.set2 ?_ ?_); focus (exact Or.inr (by dsimp only; omega)) | with_reducible refine Chg.alloc2 ?_)); with_reducible exact hc)
            · have ho := hO
              ((repeat (first | (with_reducible apply OwnS.set2; focus (exact HNB.out _ (by dsimp only; omega))) | with_reducible apply OwnS.alloc2)); with_reducible exact ho)
        | true =>
          have hcb := inB_iff.1 hin
          obtain ⟨n, rfl⟩ : ∃ n : Nat, cut = n := ⟨cut.toNat, by omega⟩
          have hnl : n < xs.length := by omega
          have HI := Lib.hid hin; clear hin
          obtain ⟨b, o, rfl, hb, e0, e1, e2, e3, e4, e5, e6, e7⟩ := (hx.chg hC).at8 hnl
          obtain ⟨hb1, hb2⟩ := hb
          go_wp2_with (go_at_call 36; refine (l6In_c _ _ _ _).mono ?_; rintro e1 w1 ⟨rfl, rfl⟩; rw [HI.out])
          all_goals
            refine wp_region_ext [] [0, 1, 2, 3, 4] [] [5, 6] (by kernel_rfl) (by kernel_rfl) ?late ?_
            case late => exact fun f hf => absurd hf List.not_mem_nil
            refine Rob.y (v := ?_) rfl rfl (fun w1 hx hH => ?_) ?_; rotate_left
            · (obtain ⟨hcx, hfx⟩ := bcell hx); go_simp; first | done | rfl
            simp only [Act.put, List.setIfInBounds_toArray, List.set_cons_succ, List.set_cons_zero]
            iterate 2
              refine Rob.y (v := ?_) rfl rfl (fun w1 hx hH => ?_) ?_; rotate_left
              · go_simp; first | done | rfl | exact (Bool.not_not _).symm
              simp only [Act.put, List.setIfInBounds_toArray, List.set_cons_succ, List.set_cons_zero]
            iterate 2
              refine Rob.y (v := ?_) rfl rfl (fun w1 hx hH => ?_) ?_; rotate_left
              · (obtain ⟨hcx, hfx⟩ := bcell hx); go_simp; first | done | rfl
              simp only [Act.put, List.setIfInBounds_toArray, List.set_cons_succ, List.set_cons_zero]
            refine fin_tail (fun w1 hx1 _ => ?_)
            simp only [dstOf, List.getElem?_cons_succ, List.getElem?_cons_zero, Option.bind_some, Act.put, List.setIfInBounds_toArray, List.set_cons_succ, List.set_cons_zero, List.filterMap_cons, List.filterMap_nil]
            go_wp2_with (go_at_call 109; refine (l12Do_v c s1 s xs[n] true _ (hO.ext hx1) HS1.out (HF.out _ (List.getElem_mem _)) ⟨HE1.out, HE2.out⟩).mono ?_; rintro e2 w2 ⟨rfl, hC2, hO2⟩; have HC2 := Lib.hid (hC.trans (Chg.trans (Chg.of_ext hx1) hC2)); have HO2 := Lib.hid hO2; replace G0 := hC2.keep (keep_ext hx1 G0) (HNB.out _ (by omega)); replace G1 := hC2.keep (keep_ext hx1 G1) (HNB.out _ (by omega)); clear hC2 hO2 g0 gf0 g1 gf1; obtain ⟨g0, gf0⟩ := cellsK G0; obtain ⟨g1, gf1⟩ := cellsK G1)
            obtain ⟨hl1, hl2⟩ := doStep_len s1 xs[n] true
            refine bodyPost_ret (v := .agg #[c.fv s, c.dv s]) (by simp [results, Try.results89, go_sem, g0, gf0, g1, gf1]) rfl ?_
            have hr : RR = doStep s1 xs[n] true := by rw [HQ.out, if_pos (by simp; omega)]; simp [List.getElem?_eq_getElem hnl]
            rw [hr]
            obtain ⟨q1, q2⟩ := SC.same (c := c) (⟨hl1.trans HE1.out, hl2.trans HE2.out⟩)
            refine ⟨by rw [q1, q2], ?_, ?_⟩
            · have hc := HC2.out
              ((repeat (first | with_reducible (refine Chg.set2 ?_ ?_); focus (exact Or.inr (by dsimp only; omega)) | with_reducible refine Chg.alloc2 ?_)); with_reducible exact hc)
            · have ho := HO2.out
              ((repeat (first | (with_reducible apply OwnS.set2; focus (exact HNB.out _ (by dsimp only; omega))) | with_reducible apply OwnS.alloc2)); with_reducible exact ho)
end Go.Bu
