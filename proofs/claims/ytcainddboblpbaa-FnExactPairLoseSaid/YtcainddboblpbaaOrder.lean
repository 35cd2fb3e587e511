/- What follows of a flash that is well formed; blocks in order, as the reference asks it. -/
import Derived.Test.YtcainddboblpbaaFlash
import Derived.Test.YtcainddboblpbaaFind
set_option linter.unusedVariables false
set_option linter.unusedSimpArgs false
namespace Go.Bu
open Go Go.RowKit Go.Plan Go.Proofs

theorem scanF_blocks : ∀ (f : List Block) (L L' : List Int), scanF L f = some L' → ∀ b ∈ f, b.pages.length = 4 ∧ inB b.worn 0 200 = true ∧ ∃ s s', scanP false s b.pages = some s'
  | [], _, _, _, b, hb => by cases hb
  | x :: f, L, L', h, b, hb => by
    simp only [scanF] at h
    split at h
    · cases h
    · rename_i hc
      simp only [Bool.or_eq_true, bne_iff_ne, ne_eq, Bool.not_eq_true', not_or, Decidable.not_not, Bool.not_eq_false] at hc
      cases hs : scanP false L x.pages with
      | none => rw [hs] at h; cases h
      | some s =>
        rw [hs] at h
        rcases List.mem_cons.1 hb with rfl | hb
        · exact ⟨hc.1, hc.2, L, s, hs⟩
        · exact scanF_blocks f s L' h b hb
theorem scanP_pages : ∀ (ps : List Page) (prev : Bool) (L L' : List Int), scanP prev L ps = some L' → ∀ p ∈ ps, pageOkB p = true
  | [], _, _, _, _, p, hp => by cases hp
  | x :: ps, prev, L, L', h, p, hp => by
    simp only [scanP] at h
    split at h
    · cases h
    · rename_i hc
      simp only [Bool.or_eq_true, not_or, Bool.not_eq_true', Bool.not_eq_false] at hc
      rcases List.mem_cons.1 hp with rfl | hp
      · exact hc.1.1
      · exact scanP_pages ps _ _ L' h p hp

theorem flashOk_len {f : List Block} (h : flashOkB f = true) : f.length = 4 := by simp only [flashOkB, Bool.and_eq_true, beq_iff_eq] at h; exact h.1
theorem flashOk_some {f : List Block} (h : flashOkB f = true) : ∃ L, scanF [] f = some L := by simp only [flashOkB, Bool.and_eq_true] at h; exact Option.isSome_iff_exists.1 h.2
theorem flashOk_block {f : List Block} (h : flashOkB f = true) {b : Block} (hb : b ∈ f) : b.pages.length = 4 ∧ 0 ≤ b.worn ∧ b.worn ≤ 200 ∧ ∀ p ∈ b.pages, pageOkB p = true := by
  obtain ⟨L, hL⟩ := flashOk_some h
  obtain ⟨h1, h2, s, s', h3⟩ := scanF_blocks f [] L hL b hb
  have := inB_iff.1 h2
  exact ⟨h1, this.1, this.2, scanP_pages b.pages false s s' h3⟩

def badPair (i k : Nat) (a b : Block) : Bool :=
  (decide (i ≠ k) && decide (0 < most a.pages) && decide (0 < most b.pages) && decide (least a.pages < most b.pages) && decide (least b.pages < most a.pages)) ||
  (decide (i ≠ k) && decide (0 < cleanN a.pages) && decide (cleanN a.pages < 4) && ((decide (0 < cleanN b.pages) && decide (cleanN b.pages < 4)) || (decide (0 < most a.pages) && decide (most a.pages < most b.pages))))
def orderIn (i : Nat) (a : Block) : Nat → List Block → Bool
  | _, [] => true
  | k, b :: rest => if badPair i k a b then false else orderIn i a (k + 1) rest
def orderOut (f : List Block) : Nat → List Block → Bool
  | _, [] => true
  | i, a :: rest => orderIn i a 0 f && orderOut f (i + 1) rest
def orderB (f : List Block) : Bool := flashOkB f && orderOut f 0 f
theorem orderIn_drop (i : Nat) (a : Block) (f : List Block) (k : Nat) (h : k < f.length) : orderIn i a k (f.drop k) = if badPair i k a f[k] then false else orderIn i a (k + 1) (f.drop (k + 1)) := by
  rw [List.drop_eq_getElem_cons h]; rfl
theorem orderOut_drop (f : List Block) (k : Nat) (h : k < f.length) : orderOut f k (f.drop k) = (orderIn k f[k] 0 f && orderOut f (k + 1) (f.drop (k + 1))) := by
  rw [List.drop_eq_getElem_cons h]; rfl

set_option maxRecDepth 20000 in
set_option maxHeartbeats 4000000 in
theorem specFindOrder_c (v : Value) (f : List Block) (w : World) (h : Flash (Old w) w v f) (hn : f.length ≤ 1048576) :
    Calls Try.prog 73 #[v] w (Ret w (.bool (orderB f))) := by
  obtain ⟨a, cap, rfl⟩ := h.form
  cases hok : flashOkB f with
  | false =>
    have hq : orderB f = false := by unfold orderB; rw [hok]; rfl
    rw [hq]
    have HOK := Lib.hid hok; clear hok hq
    go_enter Try.func73, Try.ntmps73
    go_wp2_with fail
    refine (specFlashOk_c _ f _ h hn).mono ?_; rintro e1 w1 ⟨rfl, hx1⟩
    rw [HOK.out]
    go_wp2
    go_ret
    exact ⟨rfl, hx1⟩
  | true =>
    obtain ⟨A, hA⟩ : ∃ A, orderOut f 0 f = A := ⟨_, rfl⟩
    have hq : orderB f = A := by unfold orderB; rw [hok, hA]; rfl
    rw [hq]
    have HA := Lib.hid hA; clear hA hq
    have HB := Lib.hid (fun b (hb : b ∈ f) => (show b.pages.length ≤ 1048576 from by have := (flashOk_block hok hb).1; omega))
    have HOK := Lib.hid hok; clear hok
    go_enter Try.func73, Try.ntmps73
    go_wp2_with fail
    refine (specFlashOk_c _ f _ h hn).mono ?_; rintro e1 w1 ⟨rfl, hx1⟩
    rw [HOK.out]
    go_wp2
    go_loopw [3] (fun y wr => ∃ (i : Nat), i ≤ f.length ∧ y = .int .i64 i ∧ Ext w wr ∧ Hid (orderOut f i (f.drop i) = A)) (fun y _ => f.length - (intOf y).toNat)
    case atStart => exact ⟨0, by omega, rfl, hx1, HA⟩
    case round =>
      obtain ⟨i, hi, rfl, hX, HR⟩ := hrel
      by_cases hlt : i < f.length
      · obtain ⟨b, o, pv, rfl, hb, hpp, h0, h1⟩ := h.at2 hlt
        obtain ⟨pa, pcap, rfl⟩ := hpp.form
        have hb' : b < w.heap.size := hb
        have hpl := HB.out f[i] (List.getElem_mem _)
        rw [orderOut_drop _ _ hlt] at HR
        have HR2 : Hid ((orderIn i f[i] 0 (f.drop 0) && orderOut f (i + 1) (f.drop (i + 1))) = A) := HR
        clear HR
        go_wp2
        go_loopw [4] (fun y wr => ∃ (k : Nat), k ≤ f.length ∧ y = .int .i64 k ∧ Ext w wr ∧ Hid ((orderIn i f[i] k (f.drop k) && orderOut f (i + 1) (f.drop (i + 1))) = A)) (fun y _ => f.length - (intOf y).toNat)
        case atStart => exact ⟨0, by omega, rfl, hX, HR2⟩
        case round =>
          clear hX HR2
          obtain ⟨k, hk, rfl, hX, HR⟩ := hrel
          obtain ⟨hc, hf⟩ := bcell hX
          by_cases hlk : k < f.length
          · obtain ⟨b2, o2, pv2, heq, hb2, hpp2, d0, d1⟩ := h.at2 hlk
            simp only [Option.some.injEq, Addr.mk.injEq, and_true] at heq
            obtain ⟨rfl, rfl⟩ := heq
            obtain ⟨pa2, pcap2, rfl⟩ := hpp2.form
            have hbw : b < wr.heap.size := Nat.lt_of_lt_of_le hb' hX.size
            have hpl2 := HB.out f[k] (List.getElem_mem _)
            rw [orderIn_drop _ _ _ _ hlk] at HR
            by_cases hik : i = k
            · subst hik
              have hr := HR.out
              rw [if_neg (by simp [badPair])] at hr
              have HR2 := Lib.hid hr; clear hr HR
              have hne : (((i : Nat) : Int) != ((i : Nat) : Int)) = false := by simp
              go_wp2_with fail
              refine wp_region_ext [5, 10, 15, 17, 22, 24] [0, 1, 2, 3, 4, 5, 6, 7, 8, 9, 10, 11, 12, 13, 14, 16, 15, 17, 18, 19, 20, 21, 23, 22, 24, 25, 26] [] [] (by kernel_rfl) (by kernel_rfl) ?late ?_
              case late => exact fun f hf => absurd hf List.not_mem_nil
              iterate 4
                refine Rob.y (v := ?_) rfl rfl (fun w1 hx hH => ?_) ?_; rotate_left
                · go_simp; first | done | rfl | exact (Bool.not_not _).symm
                simp only [Act.put, List.setIfInBounds_toArray, List.set_cons_succ, List.set_cons_zero]
              iterate 3
                refine Rob.no rfl rfl ?_
                simp only [Act.put, List.setIfInBounds_toArray, List.set_cons_succ, List.set_cons_zero]
              refine Rob.y (v := ?_) rfl rfl (fun w1 hx hH => ?_) ?_; rotate_left
              · go_simp; first | done | rfl | exact (Bool.not_not _).symm
              simp only [Act.put, List.setIfInBounds_toArray, List.set_cons_succ, List.set_cons_zero]
              refine Rob.yB (b := ?_) rfl rfl (fun w1 hx hH => ?_) (fun hb8 => ?_) (fun hb8 => ?_); rotate_left
              · go_simp; first | done | rfl | exact (Bool.not_not _).symm
              focus
                try contradiction
                all_goals
                  simp only [Act.put, List.setIfInBounds_toArray, List.set_cons_succ, List.set_cons_zero]
                  refine Rob.yg (v := ?_) rfl rfl (fun w1 hx hH => ?_) ?_; rotate_left
                  · (obtain ⟨hcx, hfx⟩ := bcell hx); go_simp; first | done | rfl
                  simp only [Act.put, List.setIfInBounds_toArray, List.set_cons_succ, List.set_cons_zero]
                  refine Rob.no rfl rfl ?_
                  simp only [Act.put, List.setIfInBounds_toArray, List.set_cons_succ, List.set_cons_zero]
                  refine Rob.yg (v := ?_) rfl rfl (fun w1 hx hH => ?_) ?_; rotate_left
                  · go_simp; first | done | rfl | exact (Bool.not_not _).symm
                  simp only [Act.put, List.setIfInBounds_toArray, List.set_cons_succ, List.set_cons_zero]
                  refine Rob.y (v := ?_) rfl rfl (fun w1 hx hH => ?_) ?_; rotate_left
                  · go_simp; first | done | rfl | exact (Bool.not_not _).symm
                  simp only [Act.put, List.setIfInBounds_toArray, List.set_cons_succ, List.set_cons_zero]
                  refine Rob.yB (b := ?_) rfl rfl (fun w1 hx hH => ?_) (fun hb13 => ?_) (fun hb13 => ?_); rotate_left
                  · go_simp; first | done | rfl | exact (Bool.not_not _).symm
                  focus
                    try contradiction
                    all_goals
                      simp only [Act.put, List.setIfInBounds_toArray, List.set_cons_succ, List.set_cons_zero]
                      iterate 2
                        refine Rob.yg (v := ?_) rfl rfl (fun w1 hx hH => ?_) ?_; rotate_left
                        · (obtain ⟨hcx, hfx⟩ := bcell hx); go_simp; first | done | rfl
                        simp only [Act.put, List.setIfInBounds_toArray, List.set_cons_succ, List.set_cons_zero]
                      iterate 2
                        refine Rob.no rfl rfl ?_
                        simp only [Act.put, List.setIfInBounds_toArray, List.set_cons_succ, List.set_cons_zero]
                      refine Rob.yg (v := ?_) rfl rfl (fun w1 hx hH => ?_) ?_; rotate_left
                      · go_simp; first | done | rfl | exact (Bool.not_not _).symm
                      simp only [Act.put, List.setIfInBounds_toArray, List.set_cons_succ, List.set_cons_zero]
                      refine Rob.y (v := ?_) rfl rfl (fun w1 hx hH => ?_) ?_; rotate_left
                      · go_simp; first | done | rfl | exact (Bool.not_not _).symm
                      simp only [Act.put, List.setIfInBounds_toArray, List.set_cons_succ, List.set_cons_zero]
                      refine Rob.yB (b := ?_) rfl rfl (fun w1 hx hH => ?_) (fun hb20 => ?_) (fun hb20 => ?_); rotate_left
                      · go_simp; first | done | rfl | exact (Bool.not_not _).symm
                      focus
                        try contradiction
                        all_goals
                          simp only [Act.put, List.setIfInBounds_toArray, List.set_cons_succ, List.set_cons_zero]
                          iterate 2
                            refine Rob.yg (v := ?_) rfl rfl (fun w1 hx hH => ?_) ?_; rotate_left
                            · (obtain ⟨hcx, hfx⟩ := bcell hx); go_simp; first | done | rfl
                            simp only [Act.put, List.setIfInBounds_toArray, List.set_cons_succ, List.set_cons_zero]
                          iterate 2
                            refine Rob.no rfl rfl ?_
                            simp only [Act.put, List.setIfInBounds_toArray, List.set_cons_succ, List.set_cons_zero]
                          refine Rob.yg (v := ?_) rfl rfl (fun w1 hx hH => ?_) ?_; rotate_left
                          · go_simp; first | done | rfl | exact (Bool.not_not _).symm
                          simp only [Act.put, List.setIfInBounds_toArray, List.set_cons_succ, List.set_cons_zero]
                          refine Rob.y (v := ?_) rfl rfl (fun w1 hx hH => ?_) ?_; rotate_left
                          · go_simp; first | done | rfl | exact (Bool.not_not _).symm
                          simp only [Act.put, List.setIfInBounds_toArray, List.set_cons_succ, List.set_cons_zero]
                      rotate_right
                      focus
                        try contradiction
                        all_goals
                          simp only [Act.put, List.setIfInBounds_toArray, List.set_cons_succ, List.set_cons_zero]
                          iterate 5
                            refine Rob.no rfl rfl ?_
                            simp only [Act.put, List.setIfInBounds_toArray, List.set_cons_succ, List.set_cons_zero]
                          refine Rob.y (v := ?_) rfl rfl (fun w1 hx hH => ?_) ?_; rotate_left
                          · go_simp; first | done | rfl | exact (Bool.not_not _).symm
                          simp only [Act.put, List.setIfInBounds_toArray, List.set_cons_succ, List.set_cons_zero]
                  rotate_right
                  focus
                    try contradiction
                    all_goals
                      simp only [Act.put, List.setIfInBounds_toArray, List.set_cons_succ, List.set_cons_zero]
                      iterate 5
                        refine Rob.no rfl rfl ?_
                        simp only [Act.put, List.setIfInBounds_toArray, List.set_cons_succ, List.set_cons_zero]
                      refine Rob.y (v := ?_) rfl rfl (fun w1 hx hH => ?_) ?_; rotate_left
                      · go_simp; first | done | rfl | exact (Bool.not_not _).symm
                      simp only [Act.put, List.setIfInBounds_toArray, List.set_cons_succ, List.set_cons_zero]
                      refine Rob.yB (b := ?_) rfl rfl (fun w1 hx hH => ?_) (fun hb20 => ?_) (fun hb20 => ?_); rotate_left
                      · go_simp; first | done | rfl | exact (Bool.not_not _).symm
                      focus
                        try contradiction
                        all_goals
                          simp only [Act.put, List.setIfInBounds_toArray, List.set_cons_succ, List.set_cons_zero]
                          iterate 2
                            refine Rob.yg (v := ?_) rfl rfl (fun w1 hx hH => ?_) ?_; rotate_left
                            · (obtain ⟨hcx, hfx⟩ := bcell hx); go_simp; first | done | rfl
                            simp only [Act.put, List.setIfInBounds_toArray, List.set_cons_succ, List.set_cons_zero]
                          iterate 2
                            refine Rob.no rfl rfl ?_
                            simp only [Act.put, List.setIfInBounds_toArray, List.set_cons_succ, List.set_cons_zero]
                          refine Rob.yg (v := ?_) rfl rfl (fun w1 hx hH => ?_) ?_; rotate_left
                          · go_simp; first | done | rfl | exact (Bool.not_not _).symm
                          simp only [Act.put, List.setIfInBounds_toArray, List.set_cons_succ, List.set_cons_zero]
                          refine Rob.y (v := ?_) rfl rfl (fun w1 hx hH => ?_) ?_; rotate_left
                          · go_simp; first | done | rfl | exact (Bool.not_not _).symm
                          simp only [Act.put, List.setIfInBounds_toArray, List.set_cons_succ, List.set_cons_zero]
                      rotate_right
                      focus
                        try contradiction
                        all_goals
                          simp only [Act.put, List.setIfInBounds_toArray, List.set_cons_succ, List.set_cons_zero]
                          iterate 5
                            refine Rob.no rfl rfl ?_
                            simp only [Act.put, List.setIfInBounds_toArray, List.set_cons_succ, List.set_cons_zero]
                          refine Rob.y (v := ?_) rfl rfl (fun w1 hx hH => ?_) ?_; rotate_left
                          · go_simp; first | done | rfl | exact (Bool.not_not _).symm
                          simp only [Act.put, List.setIfInBounds_toArray, List.set_cons_succ, List.set_cons_zero]
              rotate_right
              focus
                try contradiction
                all_goals
                  simp only [Act.put, List.setIfInBounds_toArray, List.set_cons_succ, List.set_cons_zero]
                  iterate 3
                    refine Rob.no rfl rfl ?_
                    simp only [Act.put, List.setIfInBounds_toArray, List.set_cons_succ, List.set_cons_zero]
                  refine Rob.y (v := ?_) rfl rfl (fun w1 hx hH => ?_) ?_; rotate_left
                  · go_simp; first | done | rfl | exact (Bool.not_not _).symm
                  simp only [Act.put, List.setIfInBounds_toArray, List.set_cons_succ, List.set_cons_zero]
                  refine Rob.yB (b := ?_) rfl rfl (fun w1 hx hH => ?_) (fun hb13 => ?_) (fun hb13 => ?_); rotate_left
                  · go_simp; first | done | rfl | exact (Bool.not_not _).symm
                  focus
                    try contradiction
                    all_goals
                      simp only [Act.put, List.setIfInBounds_toArray, List.set_cons_succ, List.set_cons_zero]
                      iterate 2
                        refine Rob.yg (v := ?_) rfl rfl (fun w1 hx hH => ?_) ?_; rotate_left
                        · (obtain ⟨hcx, hfx⟩ := bcell hx); go_simp; first | done | rfl
                        simp only [Act.put, List.setIfInBounds_toArray, List.set_cons_succ, List.set_cons_zero]
                      iterate 2
                        refine Rob.no rfl rfl ?_
                        simp only [Act.put, List.setIfInBounds_toArray, List.set_cons_succ, List.set_cons_zero]
                      refine Rob.yg (v := ?_) rfl rfl (fun w1 hx hH => ?_) ?_; rotate_left
                      · go_simp; first | done | rfl | exact (Bool.not_not _).symm
                      simp only [Act.put, List.setIfInBounds_toArray, List.set_cons_succ, List.set_cons_zero]
                      refine Rob.y (v := ?_) rfl rfl (fun w1 hx hH => ?_) ?_; rotate_left
                      · go_simp; first | done | rfl | exact (Bool.not_not _).symm
                      simp only [Act.put, List.setIfInBounds_toArray, List.set_cons_succ, List.set_cons_zero]
                      refine Rob.yB (b := ?_) rfl rfl (fun w1 hx hH => ?_) (fun hb20 => ?_) (fun hb20 => ?_); rotate_left
                      · go_simp; first | done | rfl | exact (Bool.not_not _).symm
                      focus
                        try contradiction
                        all_goals
                          simp only [Act.put, List.setIfInBounds_toArray, List.set_cons_succ, List.set_cons_zero]
                          iterate 2
                            refine Rob.yg (v := ?_) rfl rfl (fun w1 hx hH => ?_) ?_; rotate_left
                            · (obtain ⟨hcx, hfx⟩ := bcell hx); go_simp; first | done | rfl
                            simp only [Act.put, List.setIfInBounds_toArray, List.set_cons_succ, List.set_cons_zero]
                          iterate 2
                            refine Rob.no rfl rfl ?_
                            simp only [Act.put, List.setIfInBounds_toArray, List.set_cons_succ, List.set_cons_zero]
                          refine Rob.yg (v := ?_) rfl rfl (fun w1 hx hH => ?_) ?_; rotate_left
                          · go_simp; first | done | rfl | exact (Bool.not_not _).symm
                          simp only [Act.put, List.setIfInBounds_toArray, List.set_cons_succ, List.set_cons_zero]
                          refine Rob.y (v := ?_) rfl rfl (fun w1 hx hH => ?_) ?_; rotate_left
                          · go_simp; first | done | rfl | exact (Bool.not_not _).symm
                          simp only [Act.put, List.setIfInBounds_toArray, List.set_cons_succ, List.set_cons_zero]
                      rotate_right
                      focus
                        try contradiction
                        all_goals
                          simp only [Act.put, List.setIfInBounds_toArray, List.set_cons_succ, List.set_cons_zero]
                          iterate 5
                            refine Rob.no rfl rfl ?_
                            simp only [Act.put, List.setIfInBounds_toArray, List.set_cons_succ, List.set_cons_zero]
                          refine Rob.y (v := ?_) rfl rfl (fun w1 hx hH => ?_) ?_; rotate_left
                          · go_simp; first | done | rfl | exact (Bool.not_not _).symm
                          simp only [Act.put, List.setIfInBounds_toArray, List.set_cons_succ, List.set_cons_zero]
                  rotate_right
                  focus
                    try contradiction
                    all_goals
                      simp only [Act.put, List.setIfInBounds_toArray, List.set_cons_succ, List.set_cons_zero]
                      iterate 5
                        refine Rob.no rfl rfl ?_
                        simp only [Act.put, List.setIfInBounds_toArray, List.set_cons_succ, List.set_cons_zero]
                      refine Rob.y (v := ?_) rfl rfl (fun w1 hx hH => ?_) ?_; rotate_left
                      · go_simp; first | done | rfl | exact (Bool.not_not _).symm
                      simp only [Act.put, List.setIfInBounds_toArray, List.set_cons_succ, List.set_cons_zero]
                      refine Rob.yB (b := ?_) rfl rfl (fun w1 hx hH => ?_) (fun hb20 => ?_) (fun hb20 => ?_); rotate_left
                      · go_simp; first | done | rfl | exact (Bool.not_not _).symm
                      focus
                        try contradiction
                        all_goals
                          simp only [Act.put, List.setIfInBounds_toArray, List.set_cons_succ, List.set_cons_zero]
                          iterate 2
                            refine Rob.yg (v := ?_) rfl rfl (fun w1 hx hH => ?_) ?_; rotate_left
                            · (obtain ⟨hcx, hfx⟩ := bcell hx); go_simp; first | done | rfl
                            simp only [Act.put, List.setIfInBounds_toArray, List.set_cons_succ, List.set_cons_zero]
                          iterate 2
                            refine Rob.no rfl rfl ?_
                            simp only [Act.put, List.setIfInBounds_toArray, List.set_cons_succ, List.set_cons_zero]
                          refine Rob.yg (v := ?_) rfl rfl (fun w1 hx hH => ?_) ?_; rotate_left
                          · go_simp; first | done | rfl | exact (Bool.not_not _).symm
                          simp only [Act.put, List.setIfInBounds_toArray, List.set_cons_succ, List.set_cons_zero]
                          refine Rob.y (v := ?_) rfl rfl (fun w1 hx hH => ?_) ?_; rotate_left
                          · go_simp; first | done | rfl | exact (Bool.not_not _).symm
                          simp only [Act.put, List.setIfInBounds_toArray, List.set_cons_succ, List.set_cons_zero]
                      rotate_right
                      focus
                        try contradiction
                        all_goals
                          simp only [Act.put, List.setIfInBounds_toArray, List.set_cons_succ, List.set_cons_zero]
                          iterate 5
                            refine Rob.no rfl rfl ?_
                            simp only [Act.put, List.setIfInBounds_toArray, List.set_cons_succ, List.set_cons_zero]
                          refine Rob.y (v := ?_) rfl rfl (fun w1 hx hH => ?_) ?_; rotate_left
                          · go_simp; first | done | rfl | exact (Bool.not_not _).symm
                          simp only [Act.put, List.setIfInBounds_toArray, List.set_cons_succ, List.set_cons_zero]
              refine fin_nil (fun w2 hx2 _ => ?_)
              go_wp2_with fail
              refine wp_region_ext [5, 10, 15, 19, 24, 28, 30] [0, 1, 2, 3, 4, 5, 6, 7, 8, 9, 10, 11, 12, 13, 14, 15, 16, 17, 18, 19, 20, 21, 22, 23, 24, 25, 26, 27, 29, 28, 30, 31, 32, 33, 34] [] [] (by kernel_rfl) (by kernel_rfl) ?late ?_
              case late => exact fun f hf => absurd hf List.not_mem_nil
              iterate 4
                refine Rob.y (v := ?_) rfl rfl (fun w1 hx hH => ?_) ?_; rotate_left
                · go_simp; first | done | rfl | exact (Bool.not_not _).symm
                simp only [Act.put, List.setIfInBounds_toArray, List.set_cons_succ, List.set_cons_zero]
              iterate 3
                refine Rob.no rfl rfl ?_
                simp only [Act.put, List.setIfInBounds_toArray, List.set_cons_succ, List.set_cons_zero]
              refine Rob.y (v := ?_) rfl rfl (fun w1 hx hH => ?_) ?_; rotate_left
              · go_simp; first | done | rfl | exact (Bool.not_not _).symm
              simp only [Act.put, List.setIfInBounds_toArray, List.set_cons_succ, List.set_cons_zero]
              refine Rob.yB (b := ?_) rfl rfl (fun w1 hx hH => ?_) (fun hb8 => ?_) (fun hb8 => ?_); rotate_left
              · go_simp; first | done | rfl | exact (Bool.not_not _).symm
              focus
                try contradiction
                all_goals
                  simp only [Act.put, List.setIfInBounds_toArray, List.set_cons_succ, List.set_cons_zero]
                  refine Rob.yg (v := ?_) rfl rfl (fun w1 hx hH => ?_) ?_; rotate_left
                  · (obtain ⟨hcx, hfx⟩ := bcell hx); go_simp; first | done | rfl
                  simp only [Act.put, List.setIfInBounds_toArray, List.set_cons_succ, List.set_cons_zero]
                  refine Rob.no rfl rfl ?_
                  simp only [Act.put, List.setIfInBounds_toArray, List.set_cons_succ, List.set_cons_zero]
                  refine Rob.yg (v := ?_) rfl rfl (fun w1 hx hH => ?_) ?_; rotate_left
                  · go_simp; first | done | rfl | exact (Bool.not_not _).symm
                  simp only [Act.put, List.setIfInBounds_toArray, List.set_cons_succ, List.set_cons_zero]
                  refine Rob.y (v := ?_) rfl rfl (fun w1 hx hH => ?_) ?_; rotate_left
                  · go_simp; first | done | rfl | exact (Bool.not_not _).symm
                  simp only [Act.put, List.setIfInBounds_toArray, List.set_cons_succ, List.set_cons_zero]
                  refine Rob.yB (b := ?_) rfl rfl (fun w1 hx hH => ?_) (fun hb13 => ?_) (fun hb13 => ?_); rotate_left
                  · go_simp; first | done | rfl | exact (Bool.not_not _).symm
                  focus
                    try contradiction
                    all_goals
                      simp only [Act.put, List.setIfInBounds_toArray, List.set_cons_succ, List.set_cons_zero]
                      refine Rob.yg (v := ?_) rfl rfl (fun w1 hx hH => ?_) ?_; rotate_left
                      · (obtain ⟨hcx, hfx⟩ := bcell hx); go_simp; first | done | rfl
                      simp only [Act.put, List.setIfInBounds_toArray, List.set_cons_succ, List.set_cons_zero]
                      refine Rob.no rfl rfl ?_
                      simp only [Act.put, List.setIfInBounds_toArray, List.set_cons_succ, List.set_cons_zero]
                      refine Rob.yg (v := ?_) rfl rfl (fun w1 hx hH => ?_) ?_; rotate_left
                      · go_simp; first | done | rfl | exact (Bool.not_not _).symm
                      simp only [Act.put, List.setIfInBounds_toArray, List.set_cons_succ, List.set_cons_zero]
                      refine Rob.yB (b := ?_) rfl rfl (fun w1 hx hH => ?_) (fun hb17 => ?_) (fun hb17 => ?_); rotate_left
                      · go_simp; first | done | rfl | exact (Bool.not_not _).symm
                      focus
                        try contradiction
                        all_goals
                          simp only [Act.put, List.setIfInBounds_toArray, List.set_cons_succ, List.set_cons_zero]
                          refine Rob.yg (v := ?_) rfl rfl (fun w1 hx hH => ?_) ?_; rotate_left
                          · (obtain ⟨hcx, hfx⟩ := bcell hx); go_simp; first | done | rfl
                          simp only [Act.put, List.setIfInBounds_toArray, List.set_cons_succ, List.set_cons_zero]
                          refine Rob.no rfl rfl ?_
                          simp only [Act.put, List.setIfInBounds_toArray, List.set_cons_succ, List.set_cons_zero]
                          iterate 2
                            refine Rob.yg (v := ?_) rfl rfl (fun w1 hx hH => ?_) ?_; rotate_left
                            · go_simp; first | done | rfl | exact (Bool.not_not _).symm
                            simp only [Act.put, List.setIfInBounds_toArray, List.set_cons_succ, List.set_cons_zero]
                          refine Rob.yB (b := ?_) rfl rfl (fun w1 hx hH => ?_) (fun hb22 => ?_) (fun hb22 => ?_); rotate_left
                          · go_simp; first | done | rfl | exact (Bool.not_not _).symm
                          focus
                            try contradiction
                            all_goals
                              simp only [Act.put, List.setIfInBounds_toArray, List.set_cons_succ, List.set_cons_zero]
                              iterate 10
                                refine Rob.no rfl rfl ?_
                                simp only [Act.put, List.setIfInBounds_toArray, List.set_cons_succ, List.set_cons_zero]
                              refine Rob.yg (v := ?_) rfl rfl (fun w1 hx hH => ?_) ?_; rotate_left
                              · go_simp; first | done | rfl | exact (Bool.not_not _).symm
                              simp only [Act.put, List.setIfInBounds_toArray, List.set_cons_succ, List.set_cons_zero]
                              refine Rob.y (v := ?_) rfl rfl (fun w1 hx hH => ?_) ?_; rotate_left
                              · go_simp; first | done | rfl | exact (Bool.not_not _).symm
                              simp only [Act.put, List.setIfInBounds_toArray, List.set_cons_succ, List.set_cons_zero]
                          rotate_right
                          focus
                            try contradiction
                            all_goals
                              simp only [Act.put, List.setIfInBounds_toArray, List.set_cons_succ, List.set_cons_zero]
                              refine Rob.yg (v := ?_) rfl rfl (fun w1 hx hH => ?_) ?_; rotate_left
                              · (obtain ⟨hcx, hfx⟩ := bcell hx); go_simp; first | done | rfl
                              simp only [Act.put, List.setIfInBounds_toArray, List.set_cons_succ, List.set_cons_zero]
                              refine Rob.no rfl rfl ?_
                              simp only [Act.put, List.setIfInBounds_toArray, List.set_cons_succ, List.set_cons_zero]
                              refine Rob.yg (v := ?_) rfl rfl (fun w1 hx hH => ?_) ?_; rotate_left
                              · go_simp; first | done | rfl | exact (Bool.not_not _).symm
                              simp only [Act.put, List.setIfInBounds_toArray, List.set_cons_succ, List.set_cons_zero]
                              refine Rob.yB (b := ?_) rfl rfl (fun w1 hx hH => ?_) (fun hb26 => ?_) (fun hb26 => ?_); rotate_left
                              · go_simp; first | done | rfl | exact (Bool.not_not _).symm
                              focus
                                try contradiction
                                all_goals
                                  simp only [Act.put, List.setIfInBounds_toArray, List.set_cons_succ, List.set_cons_zero]
                                  iterate 2
                                    refine Rob.yg (v := ?_) rfl rfl (fun w1 hx hH => ?_) ?_; rotate_left
                                    · (obtain ⟨hcx, hfx⟩ := bcell hx); go_simp; first | done | rfl
                                    simp only [Act.put, List.setIfInBounds_toArray, List.set_cons_succ, List.set_cons_zero]
                                  iterate 2
                                    refine Rob.no rfl rfl ?_
                                    simp only [Act.put, List.setIfInBounds_toArray, List.set_cons_succ, List.set_cons_zero]
                                  iterate 3
                                    refine Rob.yg (v := ?_) rfl rfl (fun w1 hx hH => ?_) ?_; rotate_left
                                    · go_simp; first | done | rfl | exact (Bool.not_not _).symm
                                    simp only [Act.put, List.setIfInBounds_toArray, List.set_cons_succ, List.set_cons_zero]
                                  refine Rob.y (v := ?_) rfl rfl (fun w1 hx hH => ?_) ?_; rotate_left
                                  · go_simp; first | done | rfl | exact (Bool.not_not _).symm
                                  simp only [Act.put, List.setIfInBounds_toArray, List.set_cons_succ, List.set_cons_zero]
                              rotate_right
                              focus
                                try contradiction
                                all_goals
                                  simp only [Act.put, List.setIfInBounds_toArray, List.set_cons_succ, List.set_cons_zero]
                                  iterate 5
                                    refine Rob.no rfl rfl ?_
                                    simp only [Act.put, List.setIfInBounds_toArray, List.set_cons_succ, List.set_cons_zero]
                                  iterate 2
                                    refine Rob.yg (v := ?_) rfl rfl (fun w1 hx hH => ?_) ?_; rotate_left
                                    · go_simp; first | done | rfl | exact (Bool.not_not _).symm
                                    simp only [Act.put, List.setIfInBounds_toArray, List.set_cons_succ, List.set_cons_zero]
                                  refine Rob.y (v := ?_) rfl rfl (fun w1 hx hH => ?_) ?_; rotate_left
                                  · go_simp; first | done | rfl | exact (Bool.not_not _).symm
                                  simp only [Act.put, List.setIfInBounds_toArray, List.set_cons_succ, List.set_cons_zero]
                      rotate_right
                      focus
                        try contradiction
                        all_goals
                          simp only [Act.put, List.setIfInBounds_toArray, List.set_cons_succ, List.set_cons_zero]
                          iterate 3
                            refine Rob.no rfl rfl ?_
                            simp only [Act.put, List.setIfInBounds_toArray, List.set_cons_succ, List.set_cons_zero]
                          refine Rob.yg (v := ?_) rfl rfl (fun w1 hx hH => ?_) ?_; rotate_left
                          · go_simp; first | done | rfl | exact (Bool.not_not _).symm
                          simp only [Act.put, List.setIfInBounds_toArray, List.set_cons_succ, List.set_cons_zero]
                          refine Rob.yB (b := ?_) rfl rfl (fun w1 hx hH => ?_) (fun hb22 => ?_) (fun hb22 => ?_); rotate_left
                          · go_simp; first | done | rfl | exact (Bool.not_not _).symm
                          focus
                            try contradiction
                            all_goals
                              simp only [Act.put, List.setIfInBounds_toArray, List.set_cons_succ, List.set_cons_zero]
                              iterate 10
                                refine Rob.no rfl rfl ?_
                                simp only [Act.put, List.setIfInBounds_toArray, List.set_cons_succ, List.set_cons_zero]
                              refine Rob.yg (v := ?_) rfl rfl (fun w1 hx hH => ?_) ?_; rotate_left
                              · go_simp; first | done | rfl | exact (Bool.not_not _).symm
                              simp only [Act.put, List.setIfInBounds_toArray, List.set_cons_succ, List.set_cons_zero]
                              refine Rob.y (v := ?_) rfl rfl (fun w1 hx hH => ?_) ?_; rotate_left
                              · go_simp; first | done | rfl | exact (Bool.not_not _).symm
                              simp only [Act.put, List.setIfInBounds_toArray, List.set_cons_succ, List.set_cons_zero]
                          rotate_right
                          focus
                            try contradiction
                            all_goals
                              simp only [Act.put, List.setIfInBounds_toArray, List.set_cons_succ, List.set_cons_zero]
                              refine Rob.yg (v := ?_) rfl rfl (fun w1 hx hH => ?_) ?_; rotate_left
                              · (obtain ⟨hcx, hfx⟩ := bcell hx); go_simp; first | done | rfl
                              simp only [Act.put, List.setIfInBounds_toArray, List.set_cons_succ, List.set_cons_zero]
                              refine Rob.no rfl rfl ?_
                              simp only [Act.put, List.setIfInBounds_toArray, List.set_cons_succ, List.set_cons_zero]
                              refine Rob.yg (v := ?_) rfl rfl (fun w1 hx hH => ?_) ?_; rotate_left
                              · go_simp; first | done | rfl | exact (Bool.not_not _).symm
                              simp only [Act.put, List.setIfInBounds_toArray, List.set_cons_succ, List.set_cons_zero]
                              refine Rob.yB (b := ?_) rfl rfl (fun w1 hx hH => ?_) (fun hb26 => ?_) (fun hb26 => ?_); rotate_left
                              · go_simp; first | done | rfl | exact (Bool.not_not _).symm
                              focus
                                try contradiction
                                all_goals
                                  simp only [Act.put, List.setIfInBounds_toArray, List.set_cons_succ, List.set_cons_zero]
                                  iterate 2
                                    refine Rob.yg (v := ?_) rfl rfl (fun w1 hx hH => ?_) ?_; rotate_left
                                    · (obtain ⟨hcx, hfx⟩ := bcell hx); go_simp; first | done | rfl
                                    simp only [Act.put, List.setIfInBounds_toArray, List.set_cons_succ, List.set_cons_zero]
                                  iterate 2
                                    refine Rob.no rfl rfl ?_
                                    simp only [Act.put, List.setIfInBounds_toArray, List.set_cons_succ, List.set_cons_zero]
                                  iterate 3
                                    refine Rob.yg (v := ?_) rfl rfl (fun w1 hx hH => ?_) ?_; rotate_left
                                    · go_simp; first | done | rfl | exact (Bool.not_not _).symm
                                    simp only [Act.put, List.setIfInBounds_toArray, List.set_cons_succ, List.set_cons_zero]
                                  refine Rob.y (v := ?_) rfl rfl (fun w1 hx hH => ?_) ?_; rotate_left
                                  · go_simp; first | done | rfl | exact (Bool.not_not _).symm
                                  simp only [Act.put, List.setIfInBounds_toArray, List.set_cons_succ, List.set_cons_zero]
                              rotate_right
                              focus
                                try contradiction
                                all_goals
                                  simp only [Act.put, List.setIfInBounds_toArray, List.set_cons_succ, List.set_cons_zero]
                                  iterate 5
                                    refine Rob.no rfl rfl ?_
                                    simp only [Act.put, List.setIfInBounds_toArray, List.set_cons_succ, List.set_cons_zero]
                                  iterate 2
                                    refine Rob.yg (v := ?_) rfl rfl (fun w1 hx hH => ?_) ?_; rotate_left
                                    · go_simp; first | done | rfl | exact (Bool.not_not _).symm
                                    simp only [Act.put, List.setIfInBounds_toArray, List.set_cons_succ, List.set_cons_zero]
                                  refine Rob.y (v := ?_) rfl rfl (fun w1 hx hH => ?_) ?_; rotate_left
                                  · go_simp; first | done | rfl | exact (Bool.not_not _).symm
                                  simp only [Act.put, List.setIfInBounds_toArray, List.set_cons_succ, List.set_cons_zero]
                  rotate_right
                  focus
                    try contradiction
                    all_goals
                      simp only [Act.put, List.setIfInBounds_toArray, List.set_cons_succ, List.set_cons_zero]
                      iterate 20
                        refine Rob.no rfl rfl ?_
                        simp only [Act.put, List.setIfInBounds_toArray, List.set_cons_succ, List.set_cons_zero]
                      refine Rob.y (v := ?_) rfl rfl (fun w1 hx hH => ?_) ?_; rotate_left
                      · go_simp; first | done | rfl | exact (Bool.not_not _).symm
                      simp only [Act.put, List.setIfInBounds_toArray, List.set_cons_succ, List.set_cons_zero]
              rotate_right
              focus
                try contradiction
                all_goals
                  simp only [Act.put, List.setIfInBounds_toArray, List.set_cons_succ, List.set_cons_zero]
                  iterate 3
                    refine Rob.no rfl rfl ?_
                    simp only [Act.put, List.setIfInBounds_toArray, List.set_cons_succ, List.set_cons_zero]
                  refine Rob.y (v := ?_) rfl rfl (fun w1 hx hH => ?_) ?_; rotate_left
                  · go_simp; first | done | rfl | exact (Bool.not_not _).symm
                  simp only [Act.put, List.setIfInBounds_toArray, List.set_cons_succ, List.set_cons_zero]
                  refine Rob.yB (b := ?_) rfl rfl (fun w1 hx hH => ?_) (fun hb13 => ?_) (fun hb13 => ?_); rotate_left
                  · go_simp; first | done | rfl | exact (Bool.not_not _).symm
                  focus
                    try contradiction
                    all_goals
                      simp only [Act.put, List.setIfInBounds_toArray, List.set_cons_succ, List.set_cons_zero]
                      refine Rob.yg (v := ?_) rfl rfl (fun w1 hx hH => ?_) ?_; rotate_left
                      · (obtain ⟨hcx, hfx⟩ := bcell hx); go_simp; first | done | rfl
                      simp only [Act.put, List.setIfInBounds_toArray, List.set_cons_succ, List.set_cons_zero]
                      refine Rob.no rfl rfl ?_
                      simp only [Act.put, List.setIfInBounds_toArray, List.set_cons_succ, List.set_cons_zero]
                      refine Rob.yg (v := ?_) rfl rfl (fun w1 hx hH => ?_) ?_; rotate_left
                      · go_simp; first | done | rfl | exact (Bool.not_not _).symm
                      simp only [Act.put, List.setIfInBounds_toArray, List.set_cons_succ, List.set_cons_zero]
                      refine Rob.yB (b := ?_) rfl rfl (fun w1 hx hH => ?_) (fun hb17 => ?_) (fun hb17 => ?_); rotate_left
                      · go_simp; first | done | rfl | exact (Bool.not_not _).symm
                      focus
                        try contradiction
                        all_goals
                          simp only [Act.put, List.setIfInBounds_toArray, List.set_cons_succ, List.set_cons_zero]
                          refine Rob.yg (v := ?_) rfl rfl (fun w1 hx hH => ?_) ?_; rotate_left
                          · (obtain ⟨hcx, hfx⟩ := bcell hx); go_simp; first | done | rfl
                          simp only [Act.put, List.setIfInBounds_toArray, List.set_cons_succ, List.set_cons_zero]
                          refine Rob.no rfl rfl ?_
                          simp only [Act.put, List.setIfInBounds_toArray, List.set_cons_succ, List.set_cons_zero]
                          iterate 2
                            refine Rob.yg (v := ?_) rfl rfl (fun w1 hx hH => ?_) ?_; rotate_left
                            · go_simp; first | done | rfl | exact (Bool.not_not _).symm
                            simp only [Act.put, List.setIfInBounds_toArray, List.set_cons_succ, List.set_cons_zero]
                          refine Rob.yB (b := ?_) rfl rfl (fun w1 hx hH => ?_) (fun hb22 => ?_) (fun hb22 => ?_); rotate_left
                          · go_simp; first | done | rfl | exact (Bool.not_not _).symm
                          focus
                            try contradiction
                            all_goals
                              simp only [Act.put, List.setIfInBounds_toArray, List.set_cons_succ, List.set_cons_zero]
                              iterate 10
                                refine Rob.no rfl rfl ?_
                                simp only [Act.put, List.setIfInBounds_toArray, List.set_cons_succ, List.set_cons_zero]
                              refine Rob.yg (v := ?_) rfl rfl (fun w1 hx hH => ?_) ?_; rotate_left
                              · go_simp; first | done | rfl | exact (Bool.not_not _).symm
                              simp only [Act.put, List.setIfInBounds_toArray, List.set_cons_succ, List.set_cons_zero]
                              refine Rob.y (v := ?_) rfl rfl (fun w1 hx hH => ?_) ?_; rotate_left
                              · go_simp; first | done | rfl | exact (Bool.not_not _).symm
                              simp only [Act.put, List.setIfInBounds_toArray, List.set_cons_succ, List.set_cons_zero]
                          rotate_right
                          focus
                            try contradiction
                            all_goals
                              simp only [Act.put, List.setIfInBounds_toArray, List.set_cons_succ, List.set_cons_zero]
                              refine Rob.yg (v := ?_) rfl rfl (fun w1 hx hH => ?_) ?_; rotate_left
                              · (obtain ⟨hcx, hfx⟩ := bcell hx); go_simp; first | done | rfl
                              simp only [Act.put, List.setIfInBounds_toArray, List.set_cons_succ, List.set_cons_zero]
                              refine Rob.no rfl rfl ?_
                              simp only [Act.put, List.setIfInBounds_toArray, List.set_cons_succ, List.set_cons_zero]
                              refine Rob.yg (v := ?_) rfl rfl (fun w1 hx hH => ?_) ?_; rotate_left
                              · go_simp; first | done | rfl | exact (Bool.not_not _).symm
                              simp only [Act.put, List.setIfInBounds_toArray, List.set_cons_succ, List.set_cons_zero]
                              refine Rob.yB (b := ?_) rfl rfl (fun w1 hx hH => ?_) (fun hb26 => ?_) (fun hb26 => ?_); rotate_left
                              · go_simp; first | done | rfl | exact (Bool.not_not _).symm
                              focus
                                try contradiction
                                all_goals
                                  simp only [Act.put, List.setIfInBounds_toArray, List.set_cons_succ, List.set_cons_zero]
                                  iterate 2
                                    refine Rob.yg (v := ?_) rfl rfl (fun w1 hx hH => ?_) ?_; rotate_left
                                    · (obtain ⟨hcx, hfx⟩ := bcell hx); go_simp; first | done | rfl
                                    simp only [Act.put, List.setIfInBounds_toArray, List.set_cons_succ, List.set_cons_zero]
                                  iterate 2
                                    refine Rob.no rfl rfl ?_
                                    simp only [Act.put, List.setIfInBounds_toArray, List.set_cons_succ, List.set_cons_zero]
                                  iterate 3
                                    refine Rob.yg (v := ?_) rfl rfl (fun w1 hx hH => ?_) ?_; rotate_left
                                    · go_simp; first | done | rfl | exact (Bool.not_not _).symm
                                    simp only [Act.put, List.setIfInBounds_toArray, List.set_cons_succ, List.set_cons_zero]
                                  refine Rob.y (v := ?_) rfl rfl (fun w1 hx hH => ?_) ?_; rotate_left
                                  · go_simp; first | done | rfl | exact (Bool.not_not _).symm
                                  simp only [Act.put, List.setIfInBounds_toArray, List.set_cons_succ, List.set_cons_zero]
                              rotate_right
                              focus
                                try contradiction
                                all_goals
                                  simp only [Act.put, List.setIfInBounds_toArray, List.set_cons_succ, List.set_cons_zero]
                                  iterate 5
                                    refine Rob.no rfl rfl ?_
                                    simp only [Act.put, List.setIfInBounds_toArray, List.set_cons_succ, List.set_cons_zero]
                                  iterate 2
                                    refine Rob.yg (v := ?_) rfl rfl (fun w1 hx hH => ?_) ?_; rotate_left
                                    · go_simp; first | done | rfl | exact (Bool.not_not _).symm
                                    simp only [Act.put, List.setIfInBounds_toArray, List.set_cons_succ, List.set_cons_zero]
                                  refine Rob.y (v := ?_) rfl rfl (fun w1 hx hH => ?_) ?_; rotate_left
                                  · go_simp; first | done | rfl | exact (Bool.not_not _).symm
                                  simp only [Act.put, List.setIfInBounds_toArray, List.set_cons_succ, List.set_cons_zero]
                      rotate_right
                      focus
                        try contradiction
                        all_goals
                          simp only [Act.put, List.setIfInBounds_toArray, List.set_cons_succ, List.set_cons_zero]
                          iterate 3
                            refine Rob.no rfl rfl ?_
                            simp only [Act.put, List.setIfInBounds_toArray, List.set_cons_succ, List.set_cons_zero]
                          refine Rob.yg (v := ?_) rfl rfl (fun w1 hx hH => ?_) ?_; rotate_left
                          · go_simp; first | done | rfl | exact (Bool.not_not _).symm
                          simp only [Act.put, List.setIfInBounds_toArray, List.set_cons_succ, List.set_cons_zero]
                          refine Rob.yB (b := ?_) rfl rfl (fun w1 hx hH => ?_) (fun hb22 => ?_) (fun hb22 => ?_); rotate_left
                          · go_simp; first | done | rfl | exact (Bool.not_not _).symm
                          focus
                            try contradiction
                            all_goals
                              simp only [Act.put, List.setIfInBounds_toArray, List.set_cons_succ, List.set_cons_zero]
                              iterate 10
                                refine Rob.no rfl rfl ?_
                                simp only [Act.put, List.setIfInBounds_toArray, List.set_cons_succ, List.set_cons_zero]
                              refine Rob.yg (v := ?_) rfl rfl (fun w1 hx hH => ?_) ?_; rotate_left
                              · go_simp; first | done | rfl | exact (Bool.not_not _).symm
                              simp only [Act.put, List.setIfInBounds_toArray, List.set_cons_succ, List.set_cons_zero]
                              refine Rob.y (v := ?_) rfl rfl (fun w1 hx hH => ?_) ?_; rotate_left
                              · go_simp; first | done | rfl | exact (Bool.not_not _).symm
                              simp only [Act.put, List.setIfInBounds_toArray, List.set_cons_succ, List.set_cons_zero]
                          rotate_right
                          focus
                            try contradiction
                            all_goals
                              simp only [Act.put, List.setIfInBounds_toArray, List.set_cons_succ, List.set_cons_zero]
                              refine Rob.yg (v := ?_) rfl rfl (fun w1 hx hH => ?_) ?_; rotate_left
                              · (obtain ⟨hcx, hfx⟩ := bcell hx); go_simp; first | done | rfl
                              simp only [Act.put, List.setIfInBounds_toArray, List.set_cons_succ, List.set_cons_zero]
                              refine Rob.no rfl rfl ?_
                              simp only [Act.put, List.setIfInBounds_toArray, List.set_cons_succ, List.set_cons_zero]
                              refine Rob.yg (v := ?_) rfl rfl (fun w1 hx hH => ?_) ?_; rotate_left
                              · go_simp; first | done | rfl | exact (Bool.not_not _).symm
                              simp only [Act.put, List.setIfInBounds_toArray, List.set_cons_succ, List.set_cons_zero]
                              refine Rob.yB (b := ?_) rfl rfl (fun w1 hx hH => ?_) (fun hb26 => ?_) (fun hb26 => ?_); rotate_left
                              · go_simp; first | done | rfl | exact (Bool.not_not _).symm
                              focus
                                try contradiction
                                all_goals
                                  simp only [Act.put, List.setIfInBounds_toArray, List.set_cons_succ, List.set_cons_zero]
                                  iterate 2
                                    refine Rob.yg (v := ?_) rfl rfl (fun w1 hx hH => ?_) ?_; rotate_left
                                    · (obtain ⟨hcx, hfx⟩ := bcell hx); go_simp; first | done | rfl
                                    simp only [Act.put, List.setIfInBounds_toArray, List.set_cons_succ, List.set_cons_zero]
                                  iterate 2
                                    refine Rob.no rfl rfl ?_
                                    simp only [Act.put, List.setIfInBounds_toArray, List.set_cons_succ, List.set_cons_zero]
                                  iterate 3
                                    refine Rob.yg (v := ?_) rfl rfl (fun w1 hx hH => ?_) ?_; rotate_left
                                    · go_simp; first | done | rfl | exact (Bool.not_not _).symm
                                    simp only [Act.put, List.setIfInBounds_toArray, List.set_cons_succ, List.set_cons_zero]
                                  refine Rob.y (v := ?_) rfl rfl (fun w1 hx hH => ?_) ?_; rotate_left
                                  · go_simp; first | done | rfl | exact (Bool.not_not _).symm
                                  simp only [Act.put, List.setIfInBounds_toArray, List.set_cons_succ, List.set_cons_zero]
                              rotate_right
                              focus
                                try contradiction
                                all_goals
                                  simp only [Act.put, List.setIfInBounds_toArray, List.set_cons_succ, List.set_cons_zero]
                                  iterate 5
                                    refine Rob.no rfl rfl ?_
                                    simp only [Act.put, List.setIfInBounds_toArray, List.set_cons_succ, List.set_cons_zero]
                                  iterate 2
                                    refine Rob.yg (v := ?_) rfl rfl (fun w1 hx hH => ?_) ?_; rotate_left
                                    · go_simp; first | done | rfl | exact (Bool.not_not _).symm
                                    simp only [Act.put, List.setIfInBounds_toArray, List.set_cons_succ, List.set_cons_zero]
                                  refine Rob.y (v := ?_) rfl rfl (fun w1 hx hH => ?_) ?_; rotate_left
                                  · go_simp; first | done | rfl | exact (Bool.not_not _).symm
                                  simp only [Act.put, List.setIfInBounds_toArray, List.set_cons_succ, List.set_cons_zero]
                  rotate_right
                  focus
                    try contradiction
                    all_goals
                      simp only [Act.put, List.setIfInBounds_toArray, List.set_cons_succ, List.set_cons_zero]
                      iterate 20
                        refine Rob.no rfl rfl ?_
                        simp only [Act.put, List.setIfInBounds_toArray, List.set_cons_succ, List.set_cons_zero]
                      refine Rob.y (v := ?_) rfl rfl (fun w1 hx hH => ?_) ?_; rotate_left
                      · go_simp; first | done | rfl | exact (Bool.not_not _).symm
                      simp only [Act.put, List.setIfInBounds_toArray, List.set_cons_succ, List.set_cons_zero]
              refine fin_nil (fun w3 hx3 _ => ?_)
              have X3 := ext_trans (ext_trans (ext_alloc (ext_alloc hX _) _) hx2) hx3
              clear hc hf hne
              go_wp2_with fail
              exact ⟨⟨i + 1, by omega, by go_num, X3, HR2⟩, by simp [intOf]; omega⟩
            · have hne : (((i : Nat) : Int) != ((k : Nat) : Int)) = true := by simp; omega
              have hned : decide (i ≠ k) = true := by simp [hik]
              have HN := Lib.hid hned; clear hned
              go_wp2_with fail
              refine wp_region_ext [5, 10, 15, 17, 22, 24] [0, 1, 2, 3, 4, 5, 6, 7, 8, 9, 10, 11, 12, 13, 14, 16, 15, 17, 18, 19, 20, 21, 23, 22, 24, 25, 26] [] [] (by kernel_rfl) (by kernel_rfl) ?late ?_
              case late => exact fun f hf => absurd hf List.not_mem_nil
              iterate 4
                refine Rob.y (v := ?_) rfl rfl (fun w1 hx hH => ?_) ?_; rotate_left
                · go_simp; first | done | rfl | exact (Bool.not_not _).symm
                simp only [Act.put, List.setIfInBounds_toArray, List.set_cons_succ, List.set_cons_zero]
              refine Rob.yg (v := ?_) rfl rfl (fun w1 hx hH => ?_) ?_; rotate_left
              · (obtain ⟨hcx, hfx⟩ := bcell hx); go_simp; first | done | rfl
              simp only [Act.put, List.setIfInBounds_toArray, List.set_cons_succ, List.set_cons_zero]
              refine Rob.cv (.int .i64 (most f[i].pages)) rfl rfl rfl (fun _ _ => ext_trans) (fun w1 hx hH => ?_) (fun lo5 hi5 hlo5 hhi5 => ?_)
              · unfold RunTo; go_simp; exact (l3Most_c _ f[i].pages f[i].worn _ (hpp.ext (ext_trans (ext_alloc (ext_alloc hX _) _) hx)) hpl).mono fun e w' h => h.to
              simp only [Act.put, List.setIfInBounds_toArray, List.set_cons_succ, List.set_cons_zero]
              refine Rob.yg (v := ?_) rfl rfl (fun w1 hx hH => ?_) ?_; rotate_left
              · go_simp; first | done | rfl | exact (Bool.not_not _).symm
              simp only [Act.put, List.setIfInBounds_toArray, List.set_cons_succ, List.set_cons_zero]
              refine Rob.y (v := ?_) rfl rfl (fun w1 hx hH => ?_) ?_; rotate_left
              · go_simp; first | done | rfl | exact (Bool.not_not _).symm
              simp only [Act.put, List.setIfInBounds_toArray, List.set_cons_succ, List.set_cons_zero]
              refine Rob.yB (b := ?_) rfl rfl (fun w1 hx hH => ?_) (fun hb8 => ?_) (fun hb8 => ?_); rotate_left
              · go_simp; first | done | rfl | exact (Bool.not_not _).symm
              focus
                try contradiction
                all_goals
                  simp only [Act.put, List.setIfInBounds_toArray, List.set_cons_succ, List.set_cons_zero]
                  refine Rob.yg (v := ?_) rfl rfl (fun w1 hx hH => ?_) ?_; rotate_left
                  · (obtain ⟨hcx, hfx⟩ := bcell hx); go_simp; first | done | rfl
                  simp only [Act.put, List.setIfInBounds_toArray, List.set_cons_succ, List.set_cons_zero]
                  refine Rob.cv (.int .i64 (most f[k].pages)) rfl rfl rfl (fun _ _ => ext_trans) (fun w1 hx hH => ?_) (fun lo10 hi10 hlo10 hhi10 => ?_)
                  · unfold RunTo; go_simp; exact (l3Most_c _ f[k].pages f[k].worn _ (hpp2.ext (ext_trans (ext_alloc (ext_alloc hX _) _) hx)) hpl2).mono fun e w' h => h.to
                  simp only [Act.put, List.setIfInBounds_toArray, List.set_cons_succ, List.set_cons_zero]
                  refine Rob.yg (v := ?_) rfl rfl (fun w1 hx hH => ?_) ?_; rotate_left
                  · go_simp; first | done | rfl | exact (Bool.not_not _).symm
                  simp only [Act.put, List.setIfInBounds_toArray, List.set_cons_succ, List.set_cons_zero]
                  refine Rob.y (v := ?_) rfl rfl (fun w1 hx hH => ?_) ?_; rotate_left
                  · go_simp; first | done | rfl | exact (Bool.not_not _).symm
                  simp only [Act.put, List.setIfInBounds_toArray, List.set_cons_succ, List.set_cons_zero]
                  refine Rob.yB (b := ?_) rfl rfl (fun w1 hx hH => ?_) (fun hb13 => ?_) (fun hb13 => ?_); rotate_left
                  · go_simp; first | done | rfl | exact (Bool.not_not _).symm
                  focus
                    try contradiction
                    all_goals
                      simp only [Act.put, List.setIfInBounds_toArray, List.set_cons_succ, List.set_cons_zero]
                      iterate 2
                        refine Rob.yg (v := ?_) rfl rfl (fun w1 hx hH => ?_) ?_; rotate_left
                        · (obtain ⟨hcx, hfx⟩ := bcell hx); go_simp; first | done | rfl
                        simp only [Act.put, List.setIfInBounds_toArray, List.set_cons_succ, List.set_cons_zero]
                      refine Rob.cv (.int .i64 (least f[i].pages)) rfl rfl rfl (fun _ _ => ext_trans) (fun w1 hx hH => ?_) (fun lo15 hi15 hlo15 hhi15 => ?_)
                      · unfold RunTo; go_simp; exact (l3Least_c _ f[i].pages f[i].worn _ (hpp.ext (ext_trans (ext_alloc (ext_alloc hX _) _) hx)) hpl).mono fun e w' h => h.to
                      simp only [Act.put, List.setIfInBounds_toArray, List.set_cons_succ, List.set_cons_zero]
                      refine Rob.cv (.int .i64 (most f[k].pages)) rfl rfl rfl (fun _ _ => ext_trans) (fun w1 hx hH => ?_) (fun lo17 hi17 hlo17 hhi17 => ?_)
                      · unfold RunTo; go_simp; exact (l3Most_c _ f[k].pages f[k].worn _ (hpp2.ext (ext_trans (ext_alloc (ext_alloc hX _) _) hx)) hpl2).mono fun e w' h => h.to
                      simp only [Act.put, List.setIfInBounds_toArray, List.set_cons_succ, List.set_cons_zero]
                      refine Rob.yg (v := ?_) rfl rfl (fun w1 hx hH => ?_) ?_; rotate_left
                      · go_simp; first | done | rfl | exact (Bool.not_not _).symm
                      simp only [Act.put, List.setIfInBounds_toArray, List.set_cons_succ, List.set_cons_zero]
                      refine Rob.y (v := ?_) rfl rfl (fun w1 hx hH => ?_) ?_; rotate_left
                      · go_simp; first | done | rfl | exact (Bool.not_not _).symm
                      simp only [Act.put, List.setIfInBounds_toArray, List.set_cons_succ, List.set_cons_zero]
                      refine Rob.yB (b := ?_) rfl rfl (fun w1 hx hH => ?_) (fun hb20 => ?_) (fun hb20 => ?_); rotate_left
                      · go_simp; first | done | rfl | exact (Bool.not_not _).symm
                      focus
                        try contradiction
                        all_goals
                          simp only [Act.put, List.setIfInBounds_toArray, List.set_cons_succ, List.set_cons_zero]
                          iterate 2
                            refine Rob.yg (v := ?_) rfl rfl (fun w1 hx hH => ?_) ?_; rotate_left
                            · (obtain ⟨hcx, hfx⟩ := bcell hx); go_simp; first | done | rfl
                            simp only [Act.put, List.setIfInBounds_toArray, List.set_cons_succ, List.set_cons_zero]
                          refine Rob.cv (.int .i64 (least f[k].pages)) rfl rfl rfl (fun _ _ => ext_trans) (fun w1 hx hH => ?_) (fun lo22 hi22 hlo22 hhi22 => ?_)
                          · unfold RunTo; go_simp; exact (l3Least_c _ f[k].pages f[k].worn _ (hpp2.ext (ext_trans (ext_alloc (ext_alloc hX _) _) hx)) hpl2).mono fun e w' h => h.to
                          simp only [Act.put, List.setIfInBounds_toArray, List.set_cons_succ, List.set_cons_zero]
                          refine Rob.cv (.int .i64 (most f[i].pages)) rfl rfl rfl (fun _ _ => ext_trans) (fun w1 hx hH => ?_) (fun lo24 hi24 hlo24 hhi24 => ?_)
                          · unfold RunTo; go_simp; exact (l3Most_c _ f[i].pages f[i].worn _ (hpp.ext (ext_trans (ext_alloc (ext_alloc hX _) _) hx)) hpl).mono fun e w' h => h.to
                          simp only [Act.put, List.setIfInBounds_toArray, List.set_cons_succ, List.set_cons_zero]
                          refine Rob.yg (v := ?_) rfl rfl (fun w1 hx hH => ?_) ?_; rotate_left
                          · go_simp; first | done | rfl | exact (Bool.not_not _).symm
                          simp only [Act.put, List.setIfInBounds_toArray, List.set_cons_succ, List.set_cons_zero]
                          refine Rob.y (v := ?_) rfl rfl (fun w1 hx hH => ?_) ?_; rotate_left
                          · go_simp; first | done | rfl | exact (Bool.not_not _).symm
                          simp only [Act.put, List.setIfInBounds_toArray, List.set_cons_succ, List.set_cons_zero]
                      rotate_right
                      focus
                        try contradiction
                        all_goals
                          simp only [Act.put, List.setIfInBounds_toArray, List.set_cons_succ, List.set_cons_zero]
                          iterate 5
                            refine Rob.no rfl rfl ?_
                            simp only [Act.put, List.setIfInBounds_toArray, List.set_cons_succ, List.set_cons_zero]
                          refine Rob.y (v := ?_) rfl rfl (fun w1 hx hH => ?_) ?_; rotate_left
                          · go_simp; first | done | rfl | exact (Bool.not_not _).symm
                          simp only [Act.put, List.setIfInBounds_toArray, List.set_cons_succ, List.set_cons_zero]
                  rotate_right
                  focus
                    try contradiction
                    all_goals
                      simp only [Act.put, List.setIfInBounds_toArray, List.set_cons_succ, List.set_cons_zero]
                      iterate 5
                        refine Rob.no rfl rfl ?_
                        simp only [Act.put, List.setIfInBounds_toArray, List.set_cons_succ, List.set_cons_zero]
                      refine Rob.y (v := ?_) rfl rfl (fun w1 hx hH => ?_) ?_; rotate_left
                      · go_simp; first | done | rfl | exact (Bool.not_not _).symm
                      simp only [Act.put, List.setIfInBounds_toArray, List.set_cons_succ, List.set_cons_zero]
                      refine Rob.yB (b := ?_) rfl rfl (fun w1 hx hH => ?_) (fun hb20 => ?_) (fun hb20 => ?_); rotate_left
                      · go_simp; first | done | rfl | exact (Bool.not_not _).symm
                      focus
                        try contradiction
                        all_goals
                          simp only [Act.put, List.setIfInBounds_toArray, List.set_cons_succ, List.set_cons_zero]
                          iterate 2
                            refine Rob.yg (v := ?_) rfl rfl (fun w1 hx hH => ?_) ?_; rotate_left
                            · (obtain ⟨hcx, hfx⟩ := bcell hx); go_simp; first | done | rfl
                            simp only [Act.put, List.setIfInBounds_toArray, List.set_cons_succ, List.set_cons_zero]
                          refine Rob.cv (.int .i64 (least f[k].pages)) rfl rfl rfl (fun _ _ => ext_trans) (fun w1 hx hH => ?_) (fun lo22 hi22 hlo22 hhi22 => ?_)
                          · unfold RunTo; go_simp; exact (l3Least_c _ f[k].pages f[k].worn _ (hpp2.ext (ext_trans (ext_alloc (ext_alloc hX _) _) hx)) hpl2).mono fun e w' h => h.to
                          simp only [Act.put, List.setIfInBounds_toArray, List.set_cons_succ, List.set_cons_zero]
                          refine Rob.cv (.int .i64 (most f[i].pages)) rfl rfl rfl (fun _ _ => ext_trans) (fun w1 hx hH => ?_) (fun lo24 hi24 hlo24 hhi24 => ?_)
                          · unfold RunTo; go_simp; exact (l3Most_c _ f[i].pages f[i].worn _ (hpp.ext (ext_trans (ext_alloc (ext_alloc hX _) _) hx)) hpl).mono fun e w' h => h.to
                          simp only [Act.put, List.setIfInBounds_toArray, List.set_cons_succ, List.set_cons_zero]
                          refine Rob.yg (v := ?_) rfl rfl (fun w1 hx hH => ?_) ?_; rotate_left
                          · go_simp; first | done | rfl | exact (Bool.not_not _).symm
                          simp only [Act.put, List.setIfInBounds_toArray, List.set_cons_succ, List.set_cons_zero]
                          refine Rob.y (v := ?_) rfl rfl (fun w1 hx hH => ?_) ?_; rotate_left
                          · go_simp; first | done | rfl | exact (Bool.not_not _).symm
                          simp only [Act.put, List.setIfInBounds_toArray, List.set_cons_succ, List.set_cons_zero]
                      rotate_right
                      focus
                        try contradiction
                        all_goals
                          simp only [Act.put, List.setIfInBounds_toArray, List.set_cons_succ, List.set_cons_zero]
                          iterate 5
                            refine Rob.no rfl rfl ?_
                            simp only [Act.put, List.setIfInBounds_toArray, List.set_cons_succ, List.set_cons_zero]
                          refine Rob.y (v := ?_) rfl rfl (fun w1 hx hH => ?_) ?_; rotate_left
                          · go_simp; first | done | rfl | exact (Bool.not_not _).symm
                          simp only [Act.put, List.setIfInBounds_toArray, List.set_cons_succ, List.set_cons_zero]
              rotate_right
              focus
                try contradiction
                all_goals
                  simp only [Act.put, List.setIfInBounds_toArray, List.set_cons_succ, List.set_cons_zero]
                  iterate 3
                    refine Rob.no rfl rfl ?_
                    simp only [Act.put, List.setIfInBounds_toArray, List.set_cons_succ, List.set_cons_zero]
                  refine Rob.y (v := ?_) rfl rfl (fun w1 hx hH => ?_) ?_; rotate_left
                  · go_simp; first | done | rfl | exact (Bool.not_not _).symm
                  simp only [Act.put, List.setIfInBounds_toArray, List.set_cons_succ, List.set_cons_zero]
                  refine Rob.yB (b := ?_) rfl rfl (fun w1 hx hH => ?_) (fun hb13 => ?_) (fun hb13 => ?_); rotate_left
                  · go_simp; first | done | rfl | exact (Bool.not_not _).symm
                  focus
                    try contradiction
                    all_goals
                      simp only [Act.put, List.setIfInBounds_toArray, List.set_cons_succ, List.set_cons_zero]
                      iterate 2
                        refine Rob.yg (v := ?_) rfl rfl (fun w1 hx hH => ?_) ?_; rotate_left
                        · (obtain ⟨hcx, hfx⟩ := bcell hx); go_simp; first | done | rfl
                        simp only [Act.put, List.setIfInBounds_toArray, List.set_cons_succ, List.set_cons_zero]
                      refine Rob.cv (.int .i64 (least f[i].pages)) rfl rfl rfl (fun _ _ => ext_trans) (fun w1 hx hH => ?_) (fun lo15 hi15 hlo15 hhi15 => ?_)
                      · unfold RunTo; go_simp; exact (l3Least_c _ f[i].pages f[i].worn _ (hpp.ext (ext_trans (ext_alloc (ext_alloc hX _) _) hx)) hpl).mono fun e w' h => h.to
                      simp only [Act.put, List.setIfInBounds_toArray, List.set_cons_succ, List.set_cons_zero]
                      refine Rob.cv (.int .i64 (most f[k].pages)) rfl rfl rfl (fun _ _ => ext_trans) (fun w1 hx hH => ?_) (fun lo17 hi17 hlo17 hhi17 => ?_)
                      · unfold RunTo; go_simp; exact (l3Most_c _ f[k].pages f[k].worn _ (hpp2.ext (ext_trans (ext_alloc (ext_alloc hX _) _) hx)) hpl2).mono fun e w' h => h.to
                      simp only [Act.put, List.setIfInBounds_toArray, List.set_cons_succ, List.set_cons_zero]
                      refine Rob.yg (v := ?_) rfl rfl (fun w1 hx hH => ?_) ?_; rotate_left
                      · go_simp; first | done | rfl | exact (Bool.not_not _).symm
                      simp only [Act.put, List.setIfInBounds_toArray, List.set_cons_succ, List.set_cons_zero]
                      refine Rob.y (v := ?_) rfl rfl (fun w1 hx hH => ?_) ?_; rotate_left
                      · go_simp; first | done | rfl | exact (Bool.not_not _).symm
                      simp only [Act.put, List.setIfInBounds_toArray, List.set_cons_succ, List.set_cons_zero]
                      refine Rob.yB (b := ?_) rfl rfl (fun w1 hx hH => ?_) (fun hb20 => ?_) (fun hb20 => ?_); rotate_left
                      · go_simp; first | done | rfl | exact (Bool.not_not _).symm
                      focus
                        try contradiction
                        all_goals
                          simp only [Act.put, List.setIfInBounds_toArray, List.set_cons_succ, List.set_cons_zero]
                          iterate 2
                            refine Rob.yg (v := ?_) rfl rfl (fun w1 hx hH => ?_) ?_; rotate_left
                            · (obtain ⟨hcx, hfx⟩ := bcell hx); go_simp; first | done | rfl
                            simp only [Act.put, List.setIfInBounds_toArray, List.set_cons_succ, List.set_cons_zero]
                          refine Rob.cv (.int .i64 (least f[k].pages)) rfl rfl rfl (fun _ _ => ext_trans) (fun w1 hx hH => ?_) (fun lo22 hi22 hlo22 hhi22 => ?_)
                          · unfold RunTo; go_simp; exact (l3Least_c _ f[k].pages f[k].worn _ (hpp2.ext (ext_trans (ext_alloc (ext_alloc hX _) _) hx)) hpl2).mono fun e w' h => h.to
                          simp only [Act.put, List.setIfInBounds_toArray, List.set_cons_succ, List.set_cons_zero]
                          refine Rob.cv (.int .i64 (most f[i].pages)) rfl rfl rfl (fun _ _ => ext_trans) (fun w1 hx hH => ?_) (fun lo24 hi24 hlo24 hhi24 => ?_)
                          · unfold RunTo; go_simp; exact (l3Most_c _ f[i].pages f[i].worn _ (hpp.ext (ext_trans (ext_alloc (ext_alloc hX _) _) hx)) hpl).mono fun e w' h => h.to
                          simp only [Act.put, List.setIfInBounds_toArray, List.set_cons_succ, List.set_cons_zero]
                          refine Rob.yg (v := ?_) rfl rfl (fun w1 hx hH => ?_) ?_; rotate_left
                          · go_simp; first | done | rfl | exact (Bool.not_not _).symm
                          simp only [Act.put, List.setIfInBounds_toArray, List.set_cons_succ, List.set_cons_zero]
                          refine Rob.y (v := ?_) rfl rfl (fun w1 hx hH => ?_) ?_; rotate_left
                          · go_simp; first | done | rfl | exact (Bool.not_not _).symm
                          simp only [Act.put, List.setIfInBounds_toArray, List.set_cons_succ, List.set_cons_zero]
                      rotate_right
                      focus
                        try contradiction
                        all_goals
                          simp only [Act.put, List.setIfInBounds_toArray, List.set_cons_succ, List.set_cons_zero]
                          iterate 5
                            refine Rob.no rfl rfl ?_
                            simp only [Act.put, List.setIfInBounds_toArray, List.set_cons_succ, List.set_cons_zero]
                          refine Rob.y (v := ?_) rfl rfl (fun w1 hx hH => ?_) ?_; rotate_left
                          · go_simp; first | done | rfl | exact (Bool.not_not _).symm
                          simp only [Act.put, List.setIfInBounds_toArray, List.set_cons_succ, List.set_cons_zero]
                  rotate_right
                  focus
                    try contradiction
                    all_goals
                      simp only [Act.put, List.setIfInBounds_toArray, List.set_cons_succ, List.set_cons_zero]
                      iterate 5
                        refine Rob.no rfl rfl ?_
                        simp only [Act.put, List.setIfInBounds_toArray, List.set_cons_succ, List.set_cons_zero]
                      refine Rob.y (v := ?_) rfl rfl (fun w1 hx hH => ?_) ?_; rotate_left
                      · go_simp; first | done | rfl | exact (Bool.not_not _).symm
                      simp only [Act.put, List.setIfInBounds_toArray, List.set_cons_succ, List.set_cons_zero]
                      refine Rob.yB (b := ?_) rfl rfl (fun w1 hx hH => ?_) (fun hb20 => ?_) (fun hb20 => ?_); rotate_left
                      · go_simp; first | done | rfl | exact (Bool.not_not _).symm
                      focus
                        try contradiction
                        all_goals
                          simp only [Act.put, List.setIfInBounds_toArray, List.set_cons_succ, List.set_cons_zero]
                          iterate 2
                            refine Rob.yg (v := ?_) rfl rfl (fun w1 hx hH => ?_) ?_; rotate_left
                            · (obtain ⟨hcx, hfx⟩ := bcell hx); go_simp; first | done | rfl
                            simp only [Act.put, List.setIfInBounds_toArray, List.set_cons_succ, List.set_cons_zero]
                          refine Rob.cv (.int .i64 (least f[k].pages)) rfl rfl rfl (fun _ _ => ext_trans) (fun w1 hx hH => ?_) (fun lo22 hi22 hlo22 hhi22 => ?_)
                          · unfold RunTo; go_simp; exact (l3Least_c _ f[k].pages f[k].worn _ (hpp2.ext (ext_trans (ext_alloc (ext_alloc hX _) _) hx)) hpl2).mono fun e w' h => h.to
                          simp only [Act.put, List.setIfInBounds_toArray, List.set_cons_succ, List.set_cons_zero]
                          refine Rob.cv (.int .i64 (most f[i].pages)) rfl rfl rfl (fun _ _ => ext_trans) (fun w1 hx hH => ?_) (fun lo24 hi24 hlo24 hhi24 => ?_)
                          · unfold RunTo; go_simp; exact (l3Most_c _ f[i].pages f[i].worn _ (hpp.ext (ext_trans (ext_alloc (ext_alloc hX _) _) hx)) hpl).mono fun e w' h => h.to
                          simp only [Act.put, List.setIfInBounds_toArray, List.set_cons_succ, List.set_cons_zero]
                          refine Rob.yg (v := ?_) rfl rfl (fun w1 hx hH => ?_) ?_; rotate_left
                          · go_simp; first | done | rfl | exact (Bool.not_not _).symm
                          simp only [Act.put, List.setIfInBounds_toArray, List.set_cons_succ, List.set_cons_zero]
                          refine Rob.y (v := ?_) rfl rfl (fun w1 hx hH => ?_) ?_; rotate_left
                          · go_simp; first | done | rfl | exact (Bool.not_not _).symm
                          simp only [Act.put, List.setIfInBounds_toArray, List.set_cons_succ, List.set_cons_zero]
                      rotate_right
                      focus
                        try contradiction
                        all_goals
                          simp only [Act.put, List.setIfInBounds_toArray, List.set_cons_succ, List.set_cons_zero]
                          iterate 5
                            refine Rob.no rfl rfl ?_
                            simp only [Act.put, List.setIfInBounds_toArray, List.set_cons_succ, List.set_cons_zero]
                          refine Rob.y (v := ?_) rfl rfl (fun w1 hx hH => ?_) ?_; rotate_left
                          · go_simp; first | done | rfl | exact (Bool.not_not _).symm
                          simp only [Act.put, List.setIfInBounds_toArray, List.set_cons_succ, List.set_cons_zero]
              all_goals
                refine fin_nil (fun w2 hx2 _ => ?_)
                have X2 := ext_trans (ext_alloc (ext_alloc hX _) _) hx2
                go_wp2_with fail
              all_goals try
                go_ret
                have hr := HR.out
                rw [if_pos (by simp [badPair, hik, *])] at hr
                exact ⟨by rw [← hr]; rfl, X2⟩
              all_goals
                have hb1 : (decide (i ≠ k) && decide (0 < most f[i].pages) && decide (0 < most f[k].pages) && decide (least f[i].pages < most f[k].pages) && decide (least f[k].pages < most f[i].pages)) = false := by simp [hik, *]
                have HB1 := Lib.hid hb1; clear hb1
                refine wp_region_ext [5, 10, 15, 19, 24, 28, 30] [0, 1, 2, 3, 4, 5, 6, 7, 8, 9, 10, 11, 12, 13, 14, 15, 16, 17, 18, 19, 20, 21, 22, 23, 24, 25, 26, 27, 29, 28, 30, 31, 32, 33, 34] [] [] (by kernel_rfl) (by kernel_rfl) ?late ?_
                case late => exact fun f hf => absurd hf List.not_mem_nil
                iterate 4
                  refine Rob.y (v := ?_) rfl rfl (fun w1 hx hH => ?_) ?_; rotate_left
                  · go_simp; first | done | rfl | exact (Bool.not_not _).symm
                  simp only [Act.put, List.setIfInBounds_toArray, List.set_cons_succ, List.set_cons_zero]
                refine Rob.yg (v := ?_) rfl rfl (fun w1 hx hH => ?_) ?_; rotate_left
                · (obtain ⟨hcx, hfx⟩ := bcell (ext_trans hx2 hx)); go_simp; first | done | rfl
                simp only [Act.put, List.setIfInBounds_toArray, List.set_cons_succ, List.set_cons_zero]
                refine Rob.cv (.int .i64 (cleanN f[i].pages)) rfl rfl rfl (fun _ _ => ext_trans) (fun w1 hx hH => ?_) (fun lo5 hi5 hlo5 hhi5 => ?_)
                · unfold RunTo; go_simp; exact (l2Clean_c _ f[i].pages f[i].worn _ (hpp.ext (ext_trans X2 hx)) hpl).mono fun e w' h => h.to
                simp only [Act.put, List.setIfInBounds_toArray, List.set_cons_succ, List.set_cons_zero]
                refine Rob.yg (v := ?_) rfl rfl (fun w1 hx hH => ?_) ?_; rotate_left
                · go_simp; first | done | rfl | exact (Bool.not_not _).symm
                simp only [Act.put, List.setIfInBounds_toArray, List.set_cons_succ, List.set_cons_zero]
                refine Rob.y (v := ?_) rfl rfl (fun w1 hx hH => ?_) ?_; rotate_left
                · go_simp; first | done | rfl | exact (Bool.not_not _).symm
                simp only [Act.put, List.setIfInBounds_toArray, List.set_cons_succ, List.set_cons_zero]
                refine Rob.yB (b := ?_) rfl rfl (fun w1 hx hH => ?_) (fun hb8 => ?_) (fun hb8 => ?_); rotate_left
                · go_simp; first | done | rfl | exact (Bool.not_not _).symm
                focus
                  try contradiction
                  all_goals
                    simp only [Act.put, List.setIfInBounds_toArray, List.set_cons_succ, List.set_cons_zero]
                    refine Rob.yg (v := ?_) rfl rfl (fun w1 hx hH => ?_) ?_; rotate_left
                    · (obtain ⟨hcx, hfx⟩ := bcell (ext_trans hx2 hx)); go_simp; first | done | rfl
                    simp only [Act.put, List.setIfInBounds_toArray, List.set_cons_succ, List.set_cons_zero]
                    refine Rob.cv (.int .i64 (cleanN f[i].pages)) rfl rfl rfl (fun _ _ => ext_trans) (fun w1 hx hH => ?_) (fun lo10 hi10 hlo10 hhi10 => ?_)
                    · unfold RunTo; go_simp; exact (l2Clean_c _ f[i].pages f[i].worn _ (hpp.ext (ext_trans X2 hx)) hpl).mono fun e w' h => h.to
                    simp only [Act.put, List.setIfInBounds_toArray, List.set_cons_succ, List.set_cons_zero]
                    refine Rob.yg (v := ?_) rfl rfl (fun w1 hx hH => ?_) ?_; rotate_left
                    · go_simp; first | done | rfl | exact (Bool.not_not _).symm
                    simp only [Act.put, List.setIfInBounds_toArray, List.set_cons_succ, List.set_cons_zero]
                    refine Rob.y (v := ?_) rfl rfl (fun w1 hx hH => ?_) ?_; rotate_left
                    · go_simp; first | done | rfl | exact (Bool.not_not _).symm
                    simp only [Act.put, List.setIfInBounds_toArray, List.set_cons_succ, List.set_cons_zero]
                    refine Rob.yB (b := ?_) rfl rfl (fun w1 hx hH => ?_) (fun hb13 => ?_) (fun hb13 => ?_); rotate_left
                    · go_simp; first | done | rfl | exact (Bool.not_not _).symm
                    focus
                      try contradiction
                      all_goals
                        simp only [Act.put, List.setIfInBounds_toArray, List.set_cons_succ, List.set_cons_zero]
                        refine Rob.yg (v := ?_) rfl rfl (fun w1 hx hH => ?_) ?_; rotate_left
                        · (obtain ⟨hcx, hfx⟩ := bcell (ext_trans hx2 hx)); go_simp; first | done | rfl
                        simp only [Act.put, List.setIfInBounds_toArray, List.set_cons_succ, List.set_cons_zero]
                        refine Rob.cv (.int .i64 (cleanN f[k].pages)) rfl rfl rfl (fun _ _ => ext_trans) (fun w1 hx hH => ?_) (fun lo15 hi15 hlo15 hhi15 => ?_)
                        · unfold RunTo; go_simp; exact (l2Clean_c _ f[k].pages f[k].worn _ (hpp2.ext (ext_trans X2 hx)) hpl2).mono fun e w' h => h.to
                        simp only [Act.put, List.setIfInBounds_toArray, List.set_cons_succ, List.set_cons_zero]
                        refine Rob.yg (v := ?_) rfl rfl (fun w1 hx hH => ?_) ?_; rotate_left
                        · go_simp; first | done | rfl | exact (Bool.not_not _).symm
                        simp only [Act.put, List.setIfInBounds_toArray, List.set_cons_succ, List.set_cons_zero]
                        refine Rob.yB (b := ?_) rfl rfl (fun w1 hx hH => ?_) (fun hb17 => ?_) (fun hb17 => ?_); rotate_left
                        · go_simp; first | done | rfl | exact (Bool.not_not _).symm
                        focus
                          try contradiction
                          all_goals
                            simp only [Act.put, List.setIfInBounds_toArray, List.set_cons_succ, List.set_cons_zero]
                            refine Rob.yg (v := ?_) rfl rfl (fun w1 hx hH => ?_) ?_; rotate_left
                            · (obtain ⟨hcx, hfx⟩ := bcell (ext_trans hx2 hx)); go_simp; first | done | rfl
                            simp only [Act.put, List.setIfInBounds_toArray, List.set_cons_succ, List.set_cons_zero]
                            refine Rob.cv (.int .i64 (cleanN f[k].pages)) rfl rfl rfl (fun _ _ => ext_trans) (fun w1 hx hH => ?_) (fun lo19 hi19 hlo19 hhi19 => ?_)
                            · unfold RunTo; go_simp; exact (l2Clean_c _ f[k].pages f[k].worn _ (hpp2.ext (ext_trans X2 hx)) hpl2).mono fun e w' h => h.to
                            simp only [Act.put, List.setIfInBounds_toArray, List.set_cons_succ, List.set_cons_zero]
                            iterate 2
                              refine Rob.yg (v := ?_) rfl rfl (fun w1 hx hH => ?_) ?_; rotate_left
                              · go_simp; first | done | rfl | exact (Bool.not_not _).symm
                              simp only [Act.put, List.setIfInBounds_toArray, List.set_cons_succ, List.set_cons_zero]
                            refine Rob.yB (b := ?_) rfl rfl (fun w1 hx hH => ?_) (fun hb22 => ?_) (fun hb22 => ?_); rotate_left
                            · go_simp; first | done | rfl | exact (Bool.not_not _).symm
                            focus
                              try contradiction
                              all_goals
                                simp only [Act.put, List.setIfInBounds_toArray, List.set_cons_succ, List.set_cons_zero]
                                iterate 10
                                  refine Rob.no rfl rfl ?_
                                  simp only [Act.put, List.setIfInBounds_toArray, List.set_cons_succ, List.set_cons_zero]
                                refine Rob.yg (v := ?_) rfl rfl (fun w1 hx hH => ?_) ?_; rotate_left
                                · go_simp; first | done | rfl | exact (Bool.not_not _).symm
                                simp only [Act.put, List.setIfInBounds_toArray, List.set_cons_succ, List.set_cons_zero]
                                refine Rob.y (v := ?_) rfl rfl (fun w1 hx hH => ?_) ?_; rotate_left
                                · go_simp; first | done | rfl | exact (Bool.not_not _).symm
                                simp only [Act.put, List.setIfInBounds_toArray, List.set_cons_succ, List.set_cons_zero]
                            rotate_right
                            focus
                              try contradiction
                              all_goals
                                simp only [Act.put, List.setIfInBounds_toArray, List.set_cons_succ, List.set_cons_zero]
                                refine Rob.yg (v := ?_) rfl rfl (fun w1 hx hH => ?_) ?_; rotate_left
                                · (obtain ⟨hcx, hfx⟩ := bcell (ext_trans hx2 hx)); go_simp; first | done | rfl
                                simp only [Act.put, List.setIfInBounds_toArray, List.set_cons_succ, List.set_cons_zero]
                                refine Rob.cv (.int .i64 (most f[i].pages)) rfl rfl rfl (fun _ _ => ext_trans) (fun w1 hx hH => ?_) (fun lo24 hi24 hlo24 hhi24 => ?_)
                                · unfold RunTo; go_simp; exact (l3Most_c _ f[i].pages f[i].worn _ (hpp.ext (ext_trans X2 hx)) hpl).mono fun e w' h => h.to
                                simp only [Act.put, List.setIfInBounds_toArray, List.set_cons_succ, List.set_cons_zero]
                                refine Rob.yg (v := ?_) rfl rfl (fun w1 hx hH => ?_) ?_; rotate_left
                                · go_simp; first | done | rfl | exact (Bool.not_not _).symm
                                simp only [Act.put, List.setIfInBounds_toArray, List.set_cons_succ, List.set_cons_zero]
                                refine Rob.yB (b := ?_) rfl rfl (fun w1 hx hH => ?_) (fun hb26 => ?_) (fun hb26 => ?_); rotate_left
                                · go_simp; first | done | rfl | exact (Bool.not_not _).symm
                                focus
                                  try contradiction
                                  all_goals
                                    simp only [Act.put, List.setIfInBounds_toArray, List.set_cons_succ, List.set_cons_zero]
                                    iterate 2
                                      refine Rob.yg (v := ?_) rfl rfl (fun w1 hx hH => ?_) ?_; rotate_left
                                      · (obtain ⟨hcx, hfx⟩ := bcell (ext_trans hx2 hx)); go_simp; first | done | rfl
                                      simp only [Act.put, List.setIfInBounds_toArray, List.set_cons_succ, List.set_cons_zero]
                                    refine Rob.cv (.int .i64 (most f[k].pages)) rfl rfl rfl (fun _ _ => ext_trans) (fun w1 hx hH => ?_) (fun lo28 hi28 hlo28 hhi28 => ?_)
                                    · unfold RunTo; go_simp; exact (l3Most_c _ f[k].pages f[k].worn _ (hpp2.ext (ext_trans X2 hx)) hpl2).mono fun e w' h => h.to
                                    simp only [Act.put, List.setIfInBounds_toArray, List.set_cons_succ, List.set_cons_zero]
                                    refine Rob.cv (.int .i64 (most f[i].pages)) rfl rfl rfl (fun _ _ => ext_trans) (fun w1 hx hH => ?_) (fun lo30 hi30 hlo30 hhi30 => ?_)
                                    · unfold RunTo; go_simp; exact (l3Most_c _ f[i].pages f[i].worn _ (hpp.ext (ext_trans X2 hx)) hpl).mono fun e w' h => h.to
                                    simp only [Act.put, List.setIfInBounds_toArray, List.set_cons_succ, List.set_cons_zero]
                                    iterate 3
                                      refine Rob.yg (v := ?_) rfl rfl (fun w1 hx hH => ?_) ?_; rotate_left
                                      · go_simp; first | done | rfl | exact (Bool.not_not _).symm
                                      simp only [Act.put, List.setIfInBounds_toArray, List.set_cons_succ, List.set_cons_zero]
                                    refine Rob.y (v := ?_) rfl rfl (fun w1 hx hH => ?_) ?_; rotate_left
                                    · go_simp; first | done | rfl | exact (Bool.not_not _).symm
                                    simp only [Act.put, List.setIfInBounds_toArray, List.set_cons_succ, List.set_cons_zero]
                                rotate_right
                                focus
                                  try contradiction
                                  all_goals
                                    simp only [Act.put, List.setIfInBounds_toArray, List.set_cons_succ, List.set_cons_zero]
                                    iterate 5
                                      refine Rob.no rfl rfl ?_
                                      simp only [Act.put, List.setIfInBounds_toArray, List.set_cons_succ, List.set_cons_zero]
                                    iterate 2
                                      refine Rob.yg (v := ?_) rfl rfl (fun w1 hx hH => ?_) ?_; rotate_left
                                      · go_simp; first | done | rfl | exact (Bool.not_not _).symm
                                      simp only [Act.put, List.setIfInBounds_toArray, List.set_cons_succ, List.set_cons_zero]
                                    refine Rob.y (v := ?_) rfl rfl (fun w1 hx hH => ?_) ?_; rotate_left
                                    · go_simp; first | done | rfl | exact (Bool.not_not _).symm
                                    simp only [Act.put, List.setIfInBounds_toArray, List.set_cons_succ, List.set_cons_zero]
                        rotate_right
                        focus
                          try contradiction
                          all_goals
                            simp only [Act.put, List.setIfInBounds_toArray, List.set_cons_succ, List.set_cons_zero]
                            iterate 3
                              refine Rob.no rfl rfl ?_
                              simp only [Act.put, List.setIfInBounds_toArray, List.set_cons_succ, List.set_cons_zero]
                            refine Rob.yg (v := ?_) rfl rfl (fun w1 hx hH => ?_) ?_; rotate_left
                            · go_simp; first | done | rfl | exact (Bool.not_not _).symm
                            simp only [Act.put, List.setIfInBounds_toArray, List.set_cons_succ, List.set_cons_zero]
                            refine Rob.yB (b := ?_) rfl rfl (fun w1 hx hH => ?_) (fun hb22 => ?_) (fun hb22 => ?_); rotate_left
                            · go_simp; first | done | rfl | exact (Bool.not_not _).symm
                            focus
                              try contradiction
                              all_goals
                                simp only [Act.put, List.setIfInBounds_toArray, List.set_cons_succ, List.set_cons_zero]
                                iterate 10
                                  refine Rob.no rfl rfl ?_
                                  simp only [Act.put, List.setIfInBounds_toArray, List.set_cons_succ, List.set_cons_zero]
                                refine Rob.yg (v := ?_) rfl rfl (fun w1 hx hH => ?_) ?_; rotate_left
                                · go_simp; first | done | rfl | exact (Bool.not_not _).symm
                                simp only [Act.put, List.setIfInBounds_toArray, List.set_cons_succ, List.set_cons_zero]
                                refine Rob.y (v := ?_) rfl rfl (fun w1 hx hH => ?_) ?_; rotate_left
                                · go_simp; first | done | rfl | exact (Bool.not_not _).symm
                                simp only [Act.put, List.setIfInBounds_toArray, List.set_cons_succ, List.set_cons_zero]
                            rotate_right
                            focus
                              try contradiction
                              all_goals
                                simp only [Act.put, List.setIfInBounds_toArray, List.set_cons_succ, List.set_cons_zero]
                                refine Rob.yg (v := ?_) rfl rfl (fun w1 hx hH => ?_) ?_; rotate_left
                                · (obtain ⟨hcx, hfx⟩ := bcell (ext_trans hx2 hx)); go_simp; first | done | rfl
                                simp only [Act.put, List.setIfInBounds_toArray, List.set_cons_succ, List.set_cons_zero]
                                refine Rob.cv (.int .i64 (most f[i].pages)) rfl rfl rfl (fun _ _ => ext_trans) (fun w1 hx hH => ?_) (fun lo24 hi24 hlo24 hhi24 => ?_)
                                · unfold RunTo; go_simp; exact (l3Most_c _ f[i].pages f[i].worn _ (hpp.ext (ext_trans X2 hx)) hpl).mono fun e w' h => h.to
                                simp only [Act.put, List.setIfInBounds_toArray, List.set_cons_succ, List.set_cons_zero]
                                refine Rob.yg (v := ?_) rfl rfl (fun w1 hx hH => ?_) ?_; rotate_left
                                · go_simp; first | done | rfl | exact (Bool.not_not _).symm
                                simp only [Act.put, List.setIfInBounds_toArray, List.set_cons_succ, List.set_cons_zero]
                                refine Rob.yB (b := ?_) rfl rfl (fun w1 hx hH => ?_) (fun hb26 => ?_) (fun hb26 => ?_); rotate_left
                                · go_simp; first | done | rfl | exact (Bool.not_not _).symm
                                focus
                                  try contradiction
                                  all_goals
                                    simp only [Act.put, List.setIfInBounds_toArray, List.set_cons_succ, List.set_cons_zero]
                                    iterate 2
                                      refine Rob.yg (v := ?_) rfl rfl (fun w1 hx hH => ?_) ?_; rotate_left
                                      · (obtain ⟨hcx, hfx⟩ := bcell (ext_trans hx2 hx)); go_simp; first | done | rfl
                                      simp only [Act.put, List.setIfInBounds_toArray, List.set_cons_succ, List.set_cons_zero]
                                    refine Rob.cv (.int .i64 (most f[k].pages)) rfl rfl rfl (fun _ _ => ext_trans) (fun w1 hx hH => ?_) (fun lo28 hi28 hlo28 hhi28 => ?_)
                                    · unfold RunTo; go_simp; exact (l3Most_c _ f[k].pages f[k].worn _ (hpp2.ext (ext_trans X2 hx)) hpl2).mono fun e w' h => h.to
                                    simp only [Act.put, List.setIfInBounds_toArray, List.set_cons_succ, List.set_cons_zero]
                                    refine Rob.cv (.int .i64 (most f[i].pages)) rfl rfl rfl (fun _ _ => ext_trans) (fun w1 hx hH => ?_) (fun lo30 hi30 hlo30 hhi30 => ?_)
                                    · unfold RunTo; go_simp; exact (l3Most_c _ f[i].pages f[i].worn _ (hpp.ext (ext_trans X2 hx)) hpl).mono fun e w' h => h.to
                                    simp only [Act.put, List.setIfInBounds_toArray, List.set_cons_succ, List.set_cons_zero]
                                    iterate 3
                                      refine Rob.yg (v := ?_) rfl rfl (fun w1 hx hH => ?_) ?_; rotate_left
                                      · go_simp; first | done | rfl | exact (Bool.not_not _).symm
                                      simp only [Act.put, List.setIfInBounds_toArray, List.set_cons_succ, List.set_cons_zero]
                                    refine Rob.y (v := ?_) rfl rfl (fun w1 hx hH => ?_) ?_; rotate_left
                                    · go_simp; first | done | rfl | exact (Bool.not_not _).symm
                                    simp only [Act.put, List.setIfInBounds_toArray, List.set_cons_succ, List.set_cons_zero]
                                rotate_right
                                focus
                                  try contradiction
                                  all_goals
                                    simp only [Act.put, List.setIfInBounds_toArray, List.set_cons_succ, List.set_cons_zero]
                                    iterate 5
                                      refine Rob.no rfl rfl ?_
                                      simp only [Act.put, List.setIfInBounds_toArray, List.set_cons_succ, List.set_cons_zero]
                                    iterate 2
                                      refine Rob.yg (v := ?_) rfl rfl (fun w1 hx hH => ?_) ?_; rotate_left
                                      · go_simp; first | done | rfl | exact (Bool.not_not _).symm
                                      simp only [Act.put, List.setIfInBounds_toArray, List.set_cons_succ, List.set_cons_zero]
                                    refine Rob.y (v := ?_) rfl rfl (fun w1 hx hH => ?_) ?_; rotate_left
                                    · go_simp; first | done | rfl | exact (Bool.not_not _).symm
                                    simp only [Act.put, List.setIfInBounds_toArray, List.set_cons_succ, List.set_cons_zero]
                    rotate_right
                    focus
                      try contradiction
                      all_goals
                        simp only [Act.put, List.setIfInBounds_toArray, List.set_cons_succ, List.set_cons_zero]
                        iterate 20
                          refine Rob.no rfl rfl ?_
                          simp only [Act.put, List.setIfInBounds_toArray, List.set_cons_succ, List.set_cons_zero]
                        refine Rob.y (v := ?_) rfl rfl (fun w1 hx hH => ?_) ?_; rotate_left
                        · go_simp; first | done | rfl | exact (Bool.not_not _).symm
                        simp only [Act.put, List.setIfInBounds_toArray, List.set_cons_succ, List.set_cons_zero]
                rotate_right
                focus
                  try contradiction
                  all_goals
                    simp only [Act.put, List.setIfInBounds_toArray, List.set_cons_succ, List.set_cons_zero]
                    iterate 3
                      refine Rob.no rfl rfl ?_
                      simp only [Act.put, List.setIfInBounds_toArray, List.set_cons_succ, List.set_cons_zero]
                    refine Rob.y (v := ?_) rfl rfl (fun w1 hx hH => ?_) ?_; rotate_left
                    · go_simp; first | done | rfl | exact (Bool.not_not _).symm
                    simp only [Act.put, List.setIfInBounds_toArray, List.set_cons_succ, List.set_cons_zero]
                    refine Rob.yB (b := ?_) rfl rfl (fun w1 hx hH => ?_) (fun hb13 => ?_) (fun hb13 => ?_); rotate_left
                    · go_simp; first | done | rfl | exact (Bool.not_not _).symm
                    focus
                      try contradiction
                      all_goals
                        simp only [Act.put, List.setIfInBounds_toArray, List.set_cons_succ, List.set_cons_zero]
                        refine Rob.yg (v := ?_) rfl rfl (fun w1 hx hH => ?_) ?_; rotate_left
                        · (obtain ⟨hcx, hfx⟩ := bcell (ext_trans hx2 hx)); go_simp; first | done | rfl
                        simp only [Act.put, List.setIfInBounds_toArray, List.set_cons_succ, List.set_cons_zero]
                        refine Rob.cv (.int .i64 (cleanN f[k].pages)) rfl rfl rfl (fun _ _ => ext_trans) (fun w1 hx hH => ?_) (fun lo15 hi15 hlo15 hhi15 => ?_)
                        · unfold RunTo; go_simp; exact (l2Clean_c _ f[k].pages f[k].worn _ (hpp2.ext (ext_trans X2 hx)) hpl2).mono fun e w' h => h.to
                        simp only [Act.put, List.setIfInBounds_toArray, List.set_cons_succ, List.set_cons_zero]
                        refine Rob.yg (v := ?_) rfl rfl (fun w1 hx hH => ?_) ?_; rotate_left
                        · go_simp; first | done | rfl | exact (Bool.not_not _).symm
                        simp only [Act.put, List.setIfInBounds_toArray, List.set_cons_succ, List.set_cons_zero]
                        refine Rob.yB (b := ?_) rfl rfl (fun w1 hx hH => ?_) (fun hb17 => ?_) (fun hb17 => ?_); rotate_left
                        · go_simp; first | done | rfl | exact (Bool.not_not _).symm
                        focus
                          try contradiction
                          all_goals
                            simp only [Act.put, List.setIfInBounds_toArray, List.set_cons_succ, List.set_cons_zero]
                            refine Rob.yg (v := ?_) rfl rfl (fun w1 hx hH => ?_) ?_; rotate_left
                            · (obtain ⟨hcx, hfx⟩ := bcell (ext_trans hx2 hx)); go_simp; first | done | rfl
                            simp only [Act.put, List.setIfInBounds_toArray, List.set_cons_succ, List.set_cons_zero]
                            refine Rob.cv (.int .i64 (cleanN f[k].pages)) rfl rfl rfl (fun _ _ => ext_trans) (fun w1 hx hH => ?_) (fun lo19 hi19 hlo19 hhi19 => ?_)
                            · unfold RunTo; go_simp; exact (l2Clean_c _ f[k].pages f[k].worn _ (hpp2.ext (ext_trans X2 hx)) hpl2).mono fun e w' h => h.to
                            simp only [Act.put, List.setIfInBounds_toArray, List.set_cons_succ, List.set_cons_zero]
                            iterate 2
                              refine Rob.yg (v := ?_) rfl rfl (fun w1 hx hH => ?_) ?_; rotate_left
                              · go_simp; first | done | rfl | exact (Bool.not_not _).symm
                              simp only [Act.put, List.setIfInBounds_toArray, List.set_cons_succ, List.set_cons_zero]
                            refine Rob.yB (b := ?_) rfl rfl (fun w1 hx hH => ?_) (fun hb22 => ?_) (fun hb22 => ?_); rotate_left
                            · go_simp; first | done | rfl | exact (Bool.not_not _).symm
                            focus
                              try contradiction
                              all_goals
                                simp only [Act.put, List.setIfInBounds_toArray, List.set_cons_succ, List.set_cons_zero]
                                iterate 10
                                  refine Rob.no rfl rfl ?_
                                  simp only [Act.put, List.setIfInBounds_toArray, List.set_cons_succ, List.set_cons_zero]
                                refine Rob.yg (v := ?_) rfl rfl (fun w1 hx hH => ?_) ?_; rotate_left
                                · go_simp; first | done | rfl | exact (Bool.not_not _).symm
                                simp only [Act.put, List.setIfInBounds_toArray, List.set_cons_succ, List.set_cons_zero]
                                refine Rob.y (v := ?_) rfl rfl (fun w1 hx hH => ?_) ?_; rotate_left
                                · go_simp; first | done | rfl | exact (Bool.not_not _).symm
                                simp only [Act.put, List.setIfInBounds_toArray, List.set_cons_succ, List.set_cons_zero]
                            rotate_right
                            focus
                              try contradiction
                              all_goals
                                simp only [Act.put, List.setIfInBounds_toArray, List.set_cons_succ, List.set_cons_zero]
                                refine Rob.yg (v := ?_) rfl rfl (fun w1 hx hH => ?_) ?_; rotate_left
                                · (obtain ⟨hcx, hfx⟩ := bcell (ext_trans hx2 hx)); go_simp; first | done | rfl
                                simp only [Act.put, List.setIfInBounds_toArray, List.set_cons_succ, List.set_cons_zero]
                                refine Rob.cv (.int .i64 (most f[i].pages)) rfl rfl rfl (fun _ _ => ext_trans) (fun w1 hx hH => ?_) (fun lo24 hi24 hlo24 hhi24 => ?_)
                                · unfold RunTo; go_simp; exact (l3Most_c _ f[i].pages f[i].worn _ (hpp.ext (ext_trans X2 hx)) hpl).mono fun e w' h => h.to
                                simp only [Act.put, List.setIfInBounds_toArray, List.set_cons_succ, List.set_cons_zero]
                                refine Rob.yg (v := ?_) rfl rfl (fun w1 hx hH => ?_) ?_; rotate_left
                                · go_simp; first | done | rfl | exact (Bool.not_not _).symm
                                simp only [Act.put, List.setIfInBounds_toArray, List.set_cons_succ, List.set_cons_zero]
                                refine Rob.yB (b := ?_) rfl rfl (fun w1 hx hH => ?_) (fun hb26 => ?_) (fun hb26 => ?_); rotate_left
                                · go_simp; first | done | rfl | exact (Bool.not_not _).symm
                                focus
                                  try contradiction
                                  all_goals
                                    simp only [Act.put, List.setIfInBounds_toArray, List.set_cons_succ, List.set_cons_zero]
                                    iterate 2
                                      refine Rob.yg (v := ?_) rfl rfl (fun w1 hx hH => ?_) ?_; rotate_left
                                      · (obtain ⟨hcx, hfx⟩ := bcell (ext_trans hx2 hx)); go_simp; first | done | rfl
                                      simp only [Act.put, List.setIfInBounds_toArray, List.set_cons_succ, List.set_cons_zero]
                                    refine Rob.cv (.int .i64 (most f[k].pages)) rfl rfl rfl (fun _ _ => ext_trans) (fun w1 hx hH => ?_) (fun lo28 hi28 hlo28 hhi28 => ?_)
                                    · unfold RunTo; go_simp; exact (l3Most_c _ f[k].pages f[k].worn _ (hpp2.ext (ext_trans X2 hx)) hpl2).mono fun e w' h => h.to
                                    simp only [Act.put, List.setIfInBounds_toArray, List.set_cons_succ, List.set_cons_zero]
                                    refine Rob.cv (.int .i64 (most f[i].pages)) rfl rfl rfl (fun _ _ => ext_trans) (fun w1 hx hH => ?_) (fun lo30 hi30 hlo30 hhi30 => ?_)
                                    · unfold RunTo; go_simp; exact (l3Most_c _ f[i].pages f[i].worn _ (hpp.ext (ext_trans X2 hx)) hpl).mono fun e w' h => h.to
                                    simp only [Act.put, List.setIfInBounds_toArray, List.set_cons_succ, List.set_cons_zero]
                                    iterate 3
                                      refine Rob.yg (v := ?_) rfl rfl (fun w1 hx hH => ?_) ?_; rotate_left
                                      · go_simp; first | done | rfl | exact (Bool.not_not _).symm
                                      simp only [Act.put, List.setIfInBounds_toArray, List.set_cons_succ, List.set_cons_zero]
                                    refine Rob.y (v := ?_) rfl rfl (fun w1 hx hH => ?_) ?_; rotate_left
                                    · go_simp; first | done | rfl | exact (Bool.not_not _).symm
                                    simp only [Act.put, List.setIfInBounds_toArray, List.set_cons_succ, List.set_cons_zero]
                                rotate_right
                                focus
                                  try contradiction
                                  all_goals
                                    simp only [Act.put, List.setIfInBounds_toArray, List.set_cons_succ, List.set_cons_zero]
                                    iterate 5
                                      refine Rob.no rfl rfl ?_
                                      simp only [Act.put, List.setIfInBounds_toArray, List.set_cons_succ, List.set_cons_zero]
                                    iterate 2
                                      refine Rob.yg (v := ?_) rfl rfl (fun w1 hx hH => ?_) ?_; rotate_left
                                      · go_simp; first | done | rfl | exact (Bool.not_not _).symm
                                      simp only [Act.put, List.setIfInBounds_toArray, List.set_cons_succ, List.set_cons_zero]
                                    refine Rob.y (v := ?_) rfl rfl (fun w1 hx hH => ?_) ?_; rotate_left
                                    · go_simp; first | done | rfl | exact (Bool.not_not _).symm
                                    simp only [Act.put, List.setIfInBounds_toArray, List.set_cons_succ, List.set_cons_zero]
                        rotate_right
                        focus
                          try contradiction
                          all_goals
                            simp only [Act.put, List.setIfInBounds_toArray, List.set_cons_succ, List.set_cons_zero]
                            iterate 3
                              refine Rob.no rfl rfl ?_
                              simp only [Act.put, List.setIfInBounds_toArray, List.set_cons_succ, List.set_cons_zero]
                            refine Rob.yg (v := ?_) rfl rfl (fun w1 hx hH => ?_) ?_; rotate_left
                            · go_simp; first | done | rfl | exact (Bool.not_not _).symm
                            simp only [Act.put, List.setIfInBounds_toArray, List.set_cons_succ, List.set_cons_zero]
                            refine Rob.yB (b := ?_) rfl rfl (fun w1 hx hH => ?_) (fun hb22 => ?_) (fun hb22 => ?_); rotate_left
                            · go_simp; first | done | rfl | exact (Bool.not_not _).symm
                            focus
                              try contradiction
                              all_goals
                                simp only [Act.put, List.setIfInBounds_toArray, List.set_cons_succ, List.set_cons_zero]
                                iterate 10
                                  refine Rob.no rfl rfl ?_
                                  simp only [Act.put, List.setIfInBounds_toArray, List.set_cons_succ, List.set_cons_zero]
                                refine Rob.yg (v := ?_) rfl rfl (fun w1 hx hH => ?_) ?_; rotate_left
                                · go_simp; first | done | rfl | exact (Bool.not_not _).symm
                                simp only [Act.put, List.setIfInBounds_toArray, List.set_cons_succ, List.set_cons_zero]
                                refine Rob.y (v := ?_) rfl rfl (fun w1 hx hH => ?_) ?_; rotate_left
                                · go_simp; first | done | rfl | exact (Bool.not_not _).symm
                                simp only [Act.put, List.setIfInBounds_toArray, List.set_cons_succ, List.set_cons_zero]
                            rotate_right
                            focus
                              try contradiction
                              all_goals
                                simp only [Act.put, List.setIfInBounds_toArray, List.set_cons_succ, List.set_cons_zero]
                                refine Rob.yg (v := ?_) rfl rfl (fun w1 hx hH => ?_) ?_; rotate_left
                                · (obtain ⟨hcx, hfx⟩ := bcell (ext_trans hx2 hx)); go_simp; first | done | rfl
                                simp only [Act.put, List.setIfInBounds_toArray, List.set_cons_succ, List.set_cons_zero]
                                refine Rob.cv (.int .i64 (most f[i].pages)) rfl rfl rfl (fun _ _ => ext_trans) (fun w1 hx hH => ?_) (fun lo24 hi24 hlo24 hhi24 => ?_)
                                · unfold RunTo; go_simp; exact (l3Most_c _ f[i].pages f[i].worn _ (hpp.ext (ext_trans X2 hx)) hpl).mono fun e w' h => h.to
                                simp only [Act.put, List.setIfInBounds_toArray, List.set_cons_succ, List.set_cons_zero]
                                refine Rob.yg (v := ?_) rfl rfl (fun w1 hx hH => ?_) ?_; rotate_left
                                · go_simp; first | done | rfl | exact (Bool.not_not _).symm
                                simp only [Act.put, List.setIfInBounds_toArray, List.set_cons_succ, List.set_cons_zero]
                                refine Rob.yB (b := ?_) rfl rfl (fun w1 hx hH => ?_) (fun hb26 => ?_) (fun hb26 => ?_); rotate_left
                                · go_simp; first | done | rfl | exact (Bool.not_not _).symm
                                focus
                                  try contradiction
                                  all_goals
                                    simp only [Act.put, List.setIfInBounds_toArray, List.set_cons_succ, List.set_cons_zero]
                                    iterate 2
                                      refine Rob.yg (v := ?_) rfl rfl (fun w1 hx hH => ?_) ?_; rotate_left
                                      · (obtain ⟨hcx, hfx⟩ := bcell (ext_trans hx2 hx)); go_simp; first | done | rfl
                                      simp only [Act.put, List.setIfInBounds_toArray, List.set_cons_succ, List.set_cons_zero]
                                    refine Rob.cv (.int .i64 (most f[k].pages)) rfl rfl rfl (fun _ _ => ext_trans) (fun w1 hx hH => ?_) (fun lo28 hi28 hlo28 hhi28 => ?_)
                                    · unfold RunTo; go_simp; exact (l3Most_c _ f[k].pages f[k].worn _ (hpp2.ext (ext_trans X2 hx)) hpl2).mono fun e w' h => h.to
                                    simp only [Act.put, List.setIfInBounds_toArray, List.set_cons_succ, List.set_cons_zero]
                                    refine Rob.cv (.int .i64 (most f[i].pages)) rfl rfl rfl (fun _ _ => ext_trans) (fun w1 hx hH => ?_) (fun lo30 hi30 hlo30 hhi30 => ?_)
                                    · unfold RunTo; go_simp; exact (l3Most_c _ f[i].pages f[i].worn _ (hpp.ext (ext_trans X2 hx)) hpl).mono fun e w' h => h.to
                                    simp only [Act.put, List.setIfInBounds_toArray, List.set_cons_succ, List.set_cons_zero]
                                    iterate 3
                                      refine Rob.yg (v := ?_) rfl rfl (fun w1 hx hH => ?_) ?_; rotate_left
                                      · go_simp; first | done | rfl | exact (Bool.not_not _).symm
                                      simp only [Act.put, List.setIfInBounds_toArray, List.set_cons_succ, List.set_cons_zero]
                                    refine Rob.y (v := ?_) rfl rfl (fun w1 hx hH => ?_) ?_; rotate_left
                                    · go_simp; first | done | rfl | exact (Bool.not_not _).symm
                                    simp only [Act.put, List.setIfInBounds_toArray, List.set_cons_succ, List.set_cons_zero]
                                rotate_right
                                focus
                                  try contradiction
                                  all_goals
                                    simp only [Act.put, List.setIfInBounds_toArray, List.set_cons_succ, List.set_cons_zero]
                                    iterate 5
                                      refine Rob.no rfl rfl ?_
                                      simp only [Act.put, List.setIfInBounds_toArray, List.set_cons_succ, List.set_cons_zero]
                                    iterate 2
                                      refine Rob.yg (v := ?_) rfl rfl (fun w1 hx hH => ?_) ?_; rotate_left
                                      · go_simp; first | done | rfl | exact (Bool.not_not _).symm
                                      simp only [Act.put, List.setIfInBounds_toArray, List.set_cons_succ, List.set_cons_zero]
                                    refine Rob.y (v := ?_) rfl rfl (fun w1 hx hH => ?_) ?_; rotate_left
                                    · go_simp; first | done | rfl | exact (Bool.not_not _).symm
                                    simp only [Act.put, List.setIfInBounds_toArray, List.set_cons_succ, List.set_cons_zero]
                    rotate_right
                    focus
                      try contradiction
                      all_goals
                        simp only [Act.put, List.setIfInBounds_toArray, List.set_cons_succ, List.set_cons_zero]
                        iterate 20
                          refine Rob.no rfl rfl ?_
                          simp only [Act.put, List.setIfInBounds_toArray, List.set_cons_succ, List.set_cons_zero]
                        refine Rob.y (v := ?_) rfl rfl (fun w1 hx hH => ?_) ?_; rotate_left
                        · go_simp; first | done | rfl | exact (Bool.not_not _).symm
                        simp only [Act.put, List.setIfInBounds_toArray, List.set_cons_succ, List.set_cons_zero]
                all_goals
                  refine fin_nil (fun w3 hx3 _ => ?_)
                  have X3 := ext_trans X2 hx3
                  go_wp2_with fail
                all_goals try
                  go_ret
                  have hr := HR.out
                  rw [if_pos (by simp [badPair, hik, *])] at hr
                  exact ⟨by rw [← hr]; rfl, X3⟩
              all_goals
                have hr := HR.out
                rw [if_neg (by simp [badPair, hik, *])] at hr
                exact ⟨⟨k + 1, by omega, by go_num, X3, Lib.hid hr⟩, by simp [intOf]; omega⟩
          · obtain rfl : k = f.length := by omega
            rw [List.drop_length, orderIn, Bool.true_and] at HR
            go_wp2
            exact ⟨⟨i + 1, by omega, by go_num, hX, HR⟩, by simp [intOf]; omega⟩
      · obtain rfl : i = f.length := by omega
        rw [List.drop_length, orderOut] at HR
        have hr := HR.out
        subst hr
        go_wp2
        go_ret
        exact ⟨rfl, hX⟩
end Go.Bu
