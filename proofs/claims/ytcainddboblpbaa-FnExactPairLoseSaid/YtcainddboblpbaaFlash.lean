/- A flash that is well formed, as the reference asks it: page by page, with the numbers met so far. -/
import Derived.Test.YtcainddboblpbaaLast
import Derived.Test.YtcainddboblpbaaNew2
set_option linter.unusedVariables false
set_option linter.unusedSimpArgs false
namespace Go.Bu
open Go Go.RowKit Go.Plan Go.Proofs

def scanP (prev : Bool) (seen : List Int) : List Page → Option (List Int)
  | [] => some seen
  | p :: ps => if !pageOkB p || (prev && p.state != 0) || (p.state == 1 && seen.contains p.r.seq) then none else scanP (p.state == 0) (if p.state == 1 then p.r.seq :: seen else seen) ps
def scanF (seen : List Int) : List Block → Option (List Int)
  | [] => some seen
  | b :: f => if b.pages.length != 4 || !inB b.worn 0 200 then none else (scanP false seen b.pages).bind fun s => scanF s f
def flashOkB (f : List Block) : Bool := f.length == 4 && (scanF [] f).isSome

theorem scanP_drop (prev : Bool) (seen : List Int) (ps : List Page) (k : Nat) (h : k < ps.length) : scanP prev seen (ps.drop k) =
    if !pageOkB ps[k] || (prev && ps[k].state != 0) || (ps[k].state == 1 && seen.contains ps[k].r.seq) then none else scanP (ps[k].state == 0) (if ps[k].state == 1 then ps[k].r.seq :: seen else seen) (ps.drop (k + 1)) := by
  rw [List.drop_eq_getElem_cons h]; rfl
theorem scanF_drop (seen : List Int) (f : List Block) (k : Nat) (h : k < f.length) : scanF seen (f.drop k) =
    if f[k].pages.length != 4 || !inB f[k].worn 0 200 then none else (scanP false seen f[k].pages).bind fun s => scanF s (f.drop (k + 1)) := by
  rw [List.drop_eq_getElem_cons h]; rfl

theorem scanP_stop {prev : Bool} {seen : List Int} {ps : List Page} {k : Nat} {rest : List Block} {A : Bool} (h : ((scanP prev seen (ps.drop k)).bind fun s => scanF s rest).isSome = A) (hk : k < ps.length)
    (hb : (!pageOkB ps[k] || (prev && ps[k].state != 0) || (ps[k].state == 1 && seen.contains ps[k].r.seq)) = true) : A = false := by
  rw [scanP_drop _ _ _ _ hk, if_pos hb] at h; exact h.symm
theorem scanP_go {prev : Bool} {seen : List Int} {ps : List Page} {k : Nat} {rest : List Block} {A : Bool} (n : Int) (u : Bool) (h : ((scanP prev seen (ps.drop k)).bind fun s => scanF s rest).isSome = A) (hk : k < ps.length) (hp : pageOkB ps[k] = true)
    (hn : ps[k].r.seq = n) (hu : (ps[k].state == 1) = u) (h1 : (prev && ps[k].state != 0) = false) (h2 : (u && seen.contains n) = false) :
    ((scanP (decide (0 < k + 1) && (ps[k + 1 - 1]?).any (·.state == 0)) (if u then n :: seen else seen) (ps.drop (k + 1))).bind fun s => scanF s rest).isSome = A := by
  rw [scanP_drop _ _ _ _ hk, hn, hu, if_neg (by rw [hp, h1, h2]; simp)] at h
  rw [← h]; simp [hk]

theorem pageOk_seq {p : Page} (h : pageOkB p = true) : 0 ≤ p.r.seq ∧ p.r.seq ≤ 600 := by
  unfold pageOkB at h
  by_cases hs : p.state = 1
  · rw [if_pos hs] at h
    simp only [recOkB, Bool.and_eq_true, inB_iff] at h
    omega
  · rw [if_neg hs] at h
    simp only [recZ, Bool.and_eq_true, beq_iff_eq] at h
    omega

/-- the numbers that were met -/
def Seen (w : World) (S : Nat) (L : List Int) : Prop := ∃ c T, w.heap[S]? = some (.cells c T (0, 0)) ∧ ∀ n : Nat, n < 601 → c[n]? = some (.bool (L.contains (n : Int)))
theorem Seen.ext {w w' : World} {S : Nat} {L : List Int} (h : Seen w S L) (hx : Ext w w') : Seen w' S L := by obtain ⟨c, T, h1, h2⟩ := h; exact ⟨c, T, keep_ext hx h1, h2⟩
theorem Seen.cell {w : World} {S : Nat} {L : List Int} (h : Seen w S L) {n : Nat} (hn : n < 601) : w.cell? ⟨S, n, none⟩ = some (.bool (L.contains (n : Int))) := by obtain ⟨c, T, h1, h2⟩ := h; rw [cell_block h1]; exact h2 n hn
theorem Seen.frozen {w : World} {S : Nat} {L : List Int} (h : Seen w S L) (n : Nat) : w.frozen? ⟨S, n, none⟩ = false := by obtain ⟨c, T, h1, h2⟩ := h; exact frozen_block h1 n
theorem Seen.lt {w : World} {S : Nat} {L : List Int} (h : Seen w S L) : S < w.heap.size := by obtain ⟨c, T, h1, h2⟩ := h; exact heap_lt h1
theorem Seen.set {w : World} {S : Nat} {L : List Int} (h : Seen w S L) {n : Nat} (hn : n < 601) (b : Bool) (u : Bool) (hu : u = (L.contains (n : Int) || b)) : Seen (w.setCell ⟨S, n, none⟩ (.bool u)) S (if b then (n : Int) :: L else L) := by
  obtain ⟨c, T, h1, h2⟩ := h
  refine ⟨_, T, setCell_block h1, fun m hm => ?_⟩
  subst hu
  by_cases hmn : m = n
  · subst hmn
    have := (Array.getElem?_eq_some_iff.1 (h2 m hm)).1
    rw [Array.getElem?_setIfInBounds_self_of_lt this]
    cases b <;> simp
  · rw [Array.getElem?_setIfInBounds_ne (Ne.symm hmn), h2 m hm]
    cases b
    · simp
    · have : ((m : Int) == (n : Int)) = false := by simp; omega
      simp [this]
      intro h; omega
theorem Seen.made (w : World) (T : TypeId) : Seen (w.alloc (.cells (madeCells #[.bool false] 601) T)) w.heap.size [] := by
  refine ⟨_, T, alloc_get_new rfl, fun n hn => ?_⟩
  simp only [madeCells, Array.getElem?_map, Array.getElem?_range, hn, if_true, Option.map_some]
  simp [Nat.mod_one]

set_option maxRecDepth 20000 in
set_option maxHeartbeats 1000000 in
theorem specFlashOk_c (v : Value) (f : List Block) (w : World) (h : Flash (Old w) w v f) (hn : f.length ≤ 1048576) :
    Calls Try.prog 93 #[v] w (Ret w (.bool (flashOkB f))) := by
  obtain ⟨a, cap, rfl⟩ := h.form
  obtain ⟨A, hA⟩ : ∃ A, (scanF [] f).isSome = A := ⟨_, rfl⟩
  unfold flashOkB
  rw [hA]
  have HA := Lib.hid hA; clear hA
  have hmk : ∀ w : World, (Instr.makeSlice 150 (.int .i64 601) (.int .i64 601)).run Try.prog w = .ok (.slice (some ⟨w.heap.size, 0, none⟩) 601 601) (w.alloc (.cells (madeCells #[.bool false] 601) 4)) :=
    make_n (P := Try.prog) 150 4 #[.bool false] 1 1 Try.underlying150 (by kernel_rfl) 601 (by omega) (by omega)
  go_enter Try.func93, Try.ntmps93
  go_wp2
  clear hmk
  go_loopw [4] (fun y wr => ∃ (i : Nat) (L : List Int), i ≤ f.length ∧ y = .int .i64 i ∧ Ext w wr ∧ Hid (Seen wr w.heap.size L) ∧ Hid ((scanF L (f.drop i)).isSome = A)) (fun y _ => f.length - (intOf y).toNat)
  case atStart => exact ⟨0, [], by omega, rfl, by go_grown, Lib.hid (Seen.made _ _), Lib.hid (by simpa using HA.out)⟩
  case round =>
    obtain ⟨i, L, hi, rfl, hX, HS, HR⟩ := hrel
    by_cases hlt : i < f.length
    · obtain ⟨b, o, pv, rfl, hb, hpp, h0, h1⟩ := h.at2 hlt
      obtain ⟨pa, pcap, rfl⟩ := hpp.form
      obtain ⟨hc, hf⟩ := bcell hX
      have hb' : b < w.heap.size := hb
      rw [scanF_drop _ _ _ hlt] at HR
      by_cases hlen : f[i].pages.length = 4
      · have hnl : (((4 : Nat) : Int) != 4) = false := by decide
        have HL := Lib.hid hlen
        rw [hlen] at h0 hpp
        clear hlen
        by_cases hworn : inB f[i].worn 0 200 = true
        · go_wp2_with (go_at_call 36; refine (l6In_c _ _ _ _).mono ?_; rintro e1 w1 ⟨rfl, rfl⟩; rw [hworn])
          have HRR : Hid (((scanP false L (f[i].pages.drop 0)).bind fun s => scanF s (f.drop (i + 1))).isSome = A) := by
            have := HR.out
            rw [if_neg (by rw [HL.out, hworn]; decide)] at this
            exact this
          clear hworn HR
          go_loopw [5] (fun y wr => ∃ (k : Nat) (L : List Int), k ≤ 4 ∧ y = .int .i64 k ∧ Ext w wr ∧ Hid (Seen wr w.heap.size L) ∧
            Hid (((scanP (decide (0 < k) && ((f[i].pages[k - 1]?).any (·.state == 0))) L (f[i].pages.drop k)).bind fun s => scanF s (f.drop (i + 1))).isSome = A)) (fun y _ => 4 - (intOf y).toNat)
          case atStart => exact ⟨0, L, by omega, rfl, hX, HS, HRR⟩
          case round =>
            clear hX HS HRR hc hf
            obtain ⟨k, L, hk, rfl, hX, HS, HR⟩ := hrel
            obtain ⟨hc, hf⟩ := bcell hX
            by_cases hk4 : k < 4
            · have hkl : k < f[i].pages.length := by have := HL.out; omega
              obtain ⟨b2, o2, rfl, hb2, e0, e1, e2, e3, e4⟩ := hpp.at5 hkl
              have hb2' : b2 < w.heap.size := hb2
              by_cases hpo : pageOkB f[i].pages[k] = true
              · obtain ⟨n, hnq⟩ : ∃ n : Nat, f[i].pages[k].r.seq = n := ⟨f[i].pages[k].r.seq.toNat, by have := (pageOk_seq hpo).1; omega⟩
                have hn6 : n < 601 := by have := (pageOk_seq hpo).2; omega
                rw [hnq] at e2
                have hpc : ∀ w, Calls Try.prog 114 #[.agg #[.int .i64 f[i].pages[k].state, .int .i64 f[i].pages[k].r.kind, .int .i64 n, .int .i64 f[i].pages[k].r.addr, .int .i64 f[i].pages[k].r.val]] w (Ret w (.bool true)) := by
                  intro w
                  have := specPageOk_c f[i].pages[k] w
                  rw [hpo] at this
                  simp only [pageA, hnq] at this
                  exact this
                have HPC := Lib.hid hpc; have HPO := Lib.hid hpo; have HNQ := Lib.hid hnq
                have sc := HS.out.cell hn6
                have sf := HS.out.frozen n
                have hn7 : ((n : Nat) : Int) < 601 := by omega
                have LS := HS.out.lt
                clear hpc hpo hnq
                rcases k with _ | m
                · simp only [Nat.zero_mul, Nat.add_zero] at e0 e1 e2 e3 e4
                  have HM := Lib.hid (rfl : (0 : Nat) = 0)
                  go_wp2_with (go_at_call 114; (with_reducible refine (HPC.out _).mono ?_); rintro e5 w5 ⟨rfl, hx5⟩; obtain ⟨hc5, hf5, hz5, hX5⟩ := after1 hx5; have hz6 := Nat.lt_trans LS hz5; obtain ⟨hb5, hg5⟩ := bcell (ext_trans hX hX5))
                  all_goals try
                    go_ret
                    have hA := scanP_stop HR.out hkl (by rw [HPO.out, HNQ.out]; first | (simp [HM.out, *]; done) | (simp [HM.out, *]; rename_i hq; exact hq.resolve_left (by simp; assumption)))
                    exact ⟨by rw [hA]; simp, ext_trans hX hX5⟩
                  all_goals
                    have HS5 := Lib.hid (HS.out.ext hX5)
                    refine wp_region_ext [] [0, 1, 2, 3, 4, 5, 6, 7, 8, 9, 10, 11, 12, 13, 14, 15] [] [16] (by kernel_rfl) (by kernel_rfl) ?late ?_
                    case late => exact fun f hf => absurd hf List.not_mem_nil
                    iterate 3
                      refine Rob.y (v := ?_) rfl rfl (fun w1 hx hH => ?_) ?_; rotate_left
                      · go_simp; first | done | rfl | exact (Bool.not_not _).symm
                      simp only [Act.put, List.setIfInBounds_toArray, List.set_cons_succ, List.set_cons_zero]
                    refine Rob.y (v := ?_) rfl rfl (fun w1 hx hH => ?_) ?_; rotate_left
                    · (obtain ⟨hcx, hfx⟩ := bcell hx); go_simp; first | done | rfl
                    simp only [Act.put, List.setIfInBounds_toArray, List.set_cons_succ, List.set_cons_zero]
                    iterate 3
                      refine Rob.y (v := ?_) rfl rfl (fun w1 hx hH => ?_) ?_; rotate_left
                      · go_simp; first | done | rfl | exact (Bool.not_not _).symm
                      simp only [Act.put, List.setIfInBounds_toArray, List.set_cons_succ, List.set_cons_zero]
                    iterate 3
                      refine Rob.y (v := ?_) rfl rfl (fun w1 hx hH => ?_) ?_; rotate_left
                      · (obtain ⟨hcx, hfx⟩ := bcell hx); go_simp; first | done | rfl
                      simp only [Act.put, List.setIfInBounds_toArray, List.set_cons_succ, List.set_cons_zero]
                    refine Rob.yB (b := ?_) rfl rfl (fun w1 hx hH => ?_) (fun hb10 => ?_) (fun hb10 => ?_); rotate_left
                    · go_simp; first | done | rfl | exact (Bool.not_not _).symm
                    focus
                      try contradiction
                      all_goals
                        simp only [Act.put, List.setIfInBounds_toArray, List.set_cons_succ, List.set_cons_zero]
                        iterate 3
                          refine Rob.no rfl rfl ?_
                          simp only [Act.put, List.setIfInBounds_toArray, List.set_cons_succ, List.set_cons_zero]
                        refine Rob.y (v := ?_) rfl rfl (fun w1 hx hH => ?_) ?_; rotate_left
                        · go_simp; first | done | rfl | exact (Bool.not_not _).symm
                        simp only [Act.put, List.setIfInBounds_toArray, List.set_cons_succ, List.set_cons_zero]
                        refine Rob.y (v := ?_) rfl rfl (fun w1 hx hH => ?_) ?_; rotate_left
                        · (obtain ⟨hcx, hfx⟩ := bcell hx); go_simp; first | done | rfl
                        simp only [Act.put, List.setIfInBounds_toArray, List.set_cons_succ, List.set_cons_zero]
                    rotate_right
                    focus
                      try contradiction
                      all_goals
                        simp only [Act.put, List.setIfInBounds_toArray, List.set_cons_succ, List.set_cons_zero]
                        refine Rob.yg (v := ?_) rfl rfl (fun w1 hx hH => ?_) ?_; rotate_left
                        · go_simp; first | done | rfl | exact (Bool.not_not _).symm
                        simp only [Act.put, List.setIfInBounds_toArray, List.set_cons_succ, List.set_cons_zero]
                        refine Rob.yg (v := ?_) rfl rfl (fun w1 hx hH => ?_) ?_; rotate_left
                        · (obtain ⟨hcx, hfx⟩ := bcell hx); go_simp; first | done | rfl
                        simp only [Act.put, List.setIfInBounds_toArray, List.set_cons_succ, List.set_cons_zero]
                        refine Rob.yg (v := ?_) rfl rfl (fun w1 hx hH => ?_) ?_; rotate_left
                        · go_simp; first | done | rfl | exact (Bool.not_not _).symm
                        simp only [Act.put, List.setIfInBounds_toArray, List.set_cons_succ, List.set_cons_zero]
                        refine Rob.y (v := ?_) rfl rfl (fun w1 hx hH => ?_) ?_; rotate_left
                        · go_simp; first | done | rfl | exact (Bool.not_not _).symm
                        simp only [Act.put, List.setIfInBounds_toArray, List.set_cons_succ, List.set_cons_zero]
                        refine Rob.y (v := ?_) rfl rfl (fun w1 hx hH => ?_) ?_; rotate_left
                        · (obtain ⟨hcx, hfx⟩ := bcell hx); go_simp; first | done | rfl
                        simp only [Act.put, List.setIfInBounds_toArray, List.set_cons_succ, List.set_cons_zero]
                    all_goals
                      refine fin_tail (fun w6 hx6 _ => ?_)
                      simp only [dstOf, List.getElem?_cons_succ, List.getElem?_cons_zero, Option.bind_some, Act.put, List.setIfInBounds_toArray, List.set_cons_succ, List.set_cons_zero, List.filterMap_cons, List.filterMap_nil]
                      have sc6 := (HS5.out.ext hx6).cell hn6
                      have sf6 := (HS5.out.ext hx6).frozen n
                      have X6 := ext_trans hX (ext_trans hX5 hx6)
                      refine wpList_plain rfl (fun K hK => ?_)
                      go_simp
                      refine hK _ _ ?_
                      clear hK K
                      refine wpList_nil ?_
                      go_wp2
                      refine ⟨⟨0 + 1, _, by omega, by go_num, ext_set X6 (Nat.le_refl _) _, Lib.hid ((HS5.out.ext hx6).set hn6 (f[i].pages[0].state == 1) _ (by simp [*])), Lib.hid (scanP_go n _ HR.out hkl HPO.out HNQ.out rfl (by simp [HM.out, *]) (by simp [*]))⟩, by simp [intOf]; try omega⟩
                · obtain ⟨b3, o3, heq, hb3, d0, -⟩ := hpp.at5 (k := m) (by omega)
                  simp only [Option.some.injEq, Addr.mk.injEq, and_true] at heq
                  obtain ⟨rfl, rfl⟩ := heq
                  have HM := Lib.hid (List.getElem?_eq_getElem (l := f[i].pages) (i := m) (by omega))
                  go_wp2_with (go_at_call 114; (with_reducible refine (HPC.out _).mono ?_); rintro e5 w5 ⟨rfl, hx5⟩; obtain ⟨hc5, hf5, hz5, hX5⟩ := after1 hx5; have hz6 := Nat.lt_trans LS hz5; obtain ⟨hb5, hg5⟩ := bcell (ext_trans hX hX5))
                  all_goals try
                    go_ret
                    have hA := scanP_stop HR.out hkl (by rw [HPO.out, HNQ.out]; first | (simp [HM.out, *]; done) | (simp [HM.out, *]; rename_i hq; exact hq.resolve_left (by simp; assumption)))
                    exact ⟨by rw [hA]; simp, ext_trans hX hX5⟩
                  all_goals
                    have HS5 := Lib.hid (HS.out.ext hX5)
                    refine wp_region_ext [] [0, 1, 2, 3, 4, 5, 6, 7, 8, 9, 10, 11, 12, 13, 14, 15] [] [16] (by kernel_rfl) (by kernel_rfl) ?late ?_
                    case late => exact fun f hf => absurd hf List.not_mem_nil
                    iterate 3
                      refine Rob.y (v := ?_) rfl rfl (fun w1 hx hH => ?_) ?_; rotate_left
                      · go_simp; first | done | rfl | exact (Bool.not_not _).symm
                      simp only [Act.put, List.setIfInBounds_toArray, List.set_cons_succ, List.set_cons_zero]
                    refine Rob.y (v := ?_) rfl rfl (fun w1 hx hH => ?_) ?_; rotate_left
                    · (obtain ⟨hcx, hfx⟩ := bcell hx); go_simp; first | done | rfl
                    simp only [Act.put, List.setIfInBounds_toArray, List.set_cons_succ, List.set_cons_zero]
                    iterate 3
                      refine Rob.y (v := ?_) rfl rfl (fun w1 hx hH => ?_) ?_; rotate_left
                      · go_simp; first | done | rfl | exact (Bool.not_not _).symm
                      simp only [Act.put, List.setIfInBounds_toArray, List.set_cons_succ, List.set_cons_zero]
                    iterate 3
                      refine Rob.y (v := ?_) rfl rfl (fun w1 hx hH => ?_) ?_; rotate_left
                      · (obtain ⟨hcx, hfx⟩ := bcell hx); go_simp; first | done | rfl
                      simp only [Act.put, List.setIfInBounds_toArray, List.set_cons_succ, List.set_cons_zero]
                    refine Rob.yB (b := ?_) rfl rfl (fun w1 hx hH => ?_) (fun hb10 => ?_) (fun hb10 => ?_); rotate_left
                    · go_simp; first | done | rfl | exact (Bool.not_not _).symm
                    focus
                      try contradiction
                      all_goals
                        simp only [Act.put, List.setIfInBounds_toArray, List.set_cons_succ, List.set_cons_zero]
                        iterate 3
                          refine Rob.no rfl rfl ?_
                          simp only [Act.put, List.setIfInBounds_toArray, List.set_cons_succ, List.set_cons_zero]
                        refine Rob.y (v := ?_) rfl rfl (fun w1 hx hH => ?_) ?_; rotate_left
                        · go_simp; first | done | rfl | exact (Bool.not_not _).symm
                        simp only [Act.put, List.setIfInBounds_toArray, List.set_cons_succ, List.set_cons_zero]
                        refine Rob.y (v := ?_) rfl rfl (fun w1 hx hH => ?_) ?_; rotate_left
                        · (obtain ⟨hcx, hfx⟩ := bcell hx); go_simp; first | done | rfl
                        simp only [Act.put, List.setIfInBounds_toArray, List.set_cons_succ, List.set_cons_zero]
                    rotate_right
                    focus
                      try contradiction
                      all_goals
                        simp only [Act.put, List.setIfInBounds_toArray, List.set_cons_succ, List.set_cons_zero]
                        refine Rob.yg (v := ?_) rfl rfl (fun w1 hx hH => ?_) ?_; rotate_left
                        · go_simp; first | done | rfl | exact (Bool.not_not _).symm
                        simp only [Act.put, List.setIfInBounds_toArray, List.set_cons_succ, List.set_cons_zero]
                        refine Rob.yg (v := ?_) rfl rfl (fun w1 hx hH => ?_) ?_; rotate_left
                        · (obtain ⟨hcx, hfx⟩ := bcell hx); go_simp; first | done | rfl
                        simp only [Act.put, List.setIfInBounds_toArray, List.set_cons_succ, List.set_cons_zero]
                        refine Rob.yg (v := ?_) rfl rfl (fun w1 hx hH => ?_) ?_; rotate_left
                        · go_simp; first | done | rfl | exact (Bool.not_not _).symm
                        simp only [Act.put, List.setIfInBounds_toArray, List.set_cons_succ, List.set_cons_zero]
                        refine Rob.y (v := ?_) rfl rfl (fun w1 hx hH => ?_) ?_; rotate_left
                        · go_simp; first | done | rfl | exact (Bool.not_not _).symm
                        simp only [Act.put, List.setIfInBounds_toArray, List.set_cons_succ, List.set_cons_zero]
                        refine Rob.y (v := ?_) rfl rfl (fun w1 hx hH => ?_) ?_; rotate_left
                        · (obtain ⟨hcx, hfx⟩ := bcell hx); go_simp; first | done | rfl
                        simp only [Act.put, List.setIfInBounds_toArray, List.set_cons_succ, List.set_cons_zero]
                    all_goals
                      refine fin_tail (fun w6 hx6 _ => ?_)
                      simp only [dstOf, List.getElem?_cons_succ, List.getElem?_cons_zero, Option.bind_some, Act.put, List.setIfInBounds_toArray, List.set_cons_succ, List.set_cons_zero, List.filterMap_cons, List.filterMap_nil]
                      have sc6 := (HS5.out.ext hx6).cell hn6
                      have sf6 := (HS5.out.ext hx6).frozen n
                      have X6 := ext_trans hX (ext_trans hX5 hx6)
                      refine wpList_plain rfl (fun K hK => ?_)
                      go_simp
                      refine hK _ _ ?_
                      clear hK K
                      refine wpList_nil ?_
                      go_wp2
                      refine ⟨⟨(m + 1) + 1, _, by omega, by go_num, ext_set X6 (Nat.le_refl _) _, Lib.hid ((HS5.out.ext hx6).set hn6 (f[i].pages[(m + 1)].state == 1) _ (by simp [*])), Lib.hid (scanP_go n _ HR.out hkl HPO.out HNQ.out rfl (by simp [HM.out, *]) (by simp [*]))⟩, by simp [intOf]; try omega⟩
              · have hpf : pageOkB f[i].pages[k] = false := by simpa using hpo
                clear hpo
                go_wp2_with (go_at_call 114; (with_reducible refine (specPageOk_c f[i].pages[k] _).mono ?_); rintro e5 w5 ⟨rfl, hx5⟩; obtain ⟨hc5, hf5, hz5, hX5⟩ := after1 hx5; rw [hpf])
                go_ret
                have hA := scanP_stop HR.out hkl (by rw [hpf]; simp)
                exact ⟨by rw [hA]; simp, ext_trans hX hX5⟩
            · obtain rfl : k = 4 := by omega
              have hR := HR.out
              rw [List.drop_eq_nil_of_le (by have := HL.out; omega)] at hR
              have hR2 : (scanF L (f.drop (i + 1))).isSome = A := hR
              have HR2 := Lib.hid hR2
              clear hR hR2
              go_wp2_with fail
              exact ⟨⟨i + 1, L, by omega, by go_num, hX, HS, HR2⟩, by simp [intOf]; omega⟩
        · have hw' : inB f[i].worn 0 200 = false := by simpa using hworn
          go_wp2_with (go_at_call 36; refine (l6In_c _ _ _ _).mono ?_; rintro e1 w1 ⟨rfl, rfl⟩; rw [hw'])
          go_ret
          have := HR.out
          rw [if_pos (by rw [hw']; simp)] at this
          exact ⟨by rw [← this]; simp, hX⟩
      · have hnl : (((f[i].pages.length : Nat) : Int) != 4) = true := by simp; omega
        have hnl2 : (f[i].pages.length != 4) = true := by simpa using hlen
        have HN := Lib.hid hnl2; clear hnl2
        go_wp2_with fail
        go_ret
        have := HR.out
        rw [if_pos (by rw [HN.out]; rfl)] at this
        exact ⟨by rw [← this]; simp, hX⟩
    · obtain rfl : i = f.length := by omega
      have hr := HR.out
      rw [List.drop_length] at hr
      simp only [scanF, Option.isSome_some] at hr
      subst hr
      go_wp2
      go_ret
      refine ⟨?_, hX⟩
      show Ending.returned (.bool (((f.length : Nat) : Int) == 4)) = _
      rw [Bool.and_true, show (((f.length : Nat) : Int) == 4) = (f.length == 4) from by rw [Bool.eq_iff_iff]; simp; omega]
end Go.Bu
