/- The laws' comparisons of stores and pairs: eqStore, eqPair, lqFlash, lqStore, lqPair. -/
import Derived.Test.YtcainddboblpbaaEq
import Derived.Test.YtcainddboblpbaaKit
set_option linter.unusedVariables false
set_option linter.unusedSimpArgs false
namespace Go.Bu
open Go Go.RowKit Go.Plan Go.Proofs

/-- one of two, block by block and page by page, is of a size that counters bear -/
def Fits (xs ys : List Block) : Prop := (xs.length ≤ 1048576 ∨ ys.length ≤ 1048576) ∧ ∀ (i : Nat) (h : i < xs.length) (h2 : i < ys.length), xs[i].pages.length ≤ 1048576 ∨ ys[i].pages.length ≤ 1048576
def FitsI (xs ys : List Int) : Prop := xs.length ≤ 1048576 ∨ ys.length ≤ 1048576

theorem eqStore_c (f g d e : Value) (s t : Store) (w : World) (hf : Flash (Old w) w f s.flash) (hg : Flash (Old w) w g t.flash) (hd : Ints (Old w) w d s.disk) (he : Ints (Old w) w e t.disk) (hn : Fits s.flash t.flash) (hm : FitsI s.disk t.disk) :
    Calls Try.prog 34 #[.agg #[f, d], .agg #[g, e]] w (Ret w (.bool (storeEq s t))) := by
  have hE : ∀ o1 o2, Ext w ((w.alloc o1).alloc o2) := fun o1 o2 => ext_alloc (ext_alloc (ext_refl _) _) _
  have HE := Lib.hid hE; clear hE
  go_enter Try.func34, Try.ntmps34
  go_wp2_with fail
  refine (eqBlockS_c _ _ s.flash t.flash _ (hf.ext (HE.out _ _)) (hg.ext (HE.out _ _)) hn.1 hn.2).mono ?_
  rintro e1 w1 ⟨rfl, hx⟩
  have hc := (bcell hx).1
  have hX : Ext w w1 := ext_trans (HE.out _ _) hx
  go_wp2_with (go_at_call 12; refine (eqIntS_c _ _ s.disk t.disk _ (hd.ext hX) (he.ext hX) hm).mono ?_; rintro e2 w2 ⟨rfl, hx2⟩)
  · go_ret
    exact ⟨by simp_all [storeEq, flashEq], hX⟩
  all_goals
    go_ret
    exact ⟨by simp_all [storeEq, flashEq, intsEq], ext_trans hX ‹_›⟩

theorem eqPair_c (f g d e f' g' d' e' : Value) (p q : Pair) (w : World) (hf : Flash (Old w) w f p.A.flash) (hg : Flash (Old w) w g q.A.flash) (hd : Ints (Old w) w d p.A.disk) (he : Ints (Old w) w e q.A.disk) (hn : Fits p.A.flash q.A.flash) (hm : FitsI p.A.disk q.A.disk)
    (hf' : Flash (Old w) w f' p.B.flash) (hg' : Flash (Old w) w g' q.B.flash) (hd' : Ints (Old w) w d' p.B.disk) (he' : Ints (Old w) w e' q.B.disk) (hn' : Fits p.B.flash q.B.flash) (hm' : FitsI p.B.disk q.B.disk) :
    Calls Try.prog 13 #[.agg #[f, d, f', d', .int .i64 p.lost], .agg #[g, e, g', e', .int .i64 q.lost]] w (Ret w (.bool (pairEq p q))) := by
  have hE : ∀ o1 o2, Ext w ((w.alloc o1).alloc o2) := fun o1 o2 => ext_alloc (ext_alloc (ext_refl _) _) _
  have HE := Lib.hid hE; clear hE
  go_enter Try.func13, Try.ntmps13
  go_wp2_with fail
  refine (eqStore_c _ _ _ _ p.A q.A _ (hf.ext (HE.out _ _)) (hg.ext (HE.out _ _)) (hd.ext (HE.out _ _)) (he.ext (HE.out _ _)) hn hm).mono ?_
  rintro e1 w1 ⟨rfl, hx⟩
  have hc := (bcell hx).1
  have hX : Ext w w1 := ext_trans (HE.out _ _) hx
  have hz0 : w.heap.size < w1.heap.size := by have := hx.size; simp at this; omega
  have hz1 : w.heap.size + 1 < w1.heap.size := by have := hx.size; simp at this; omega
  go_wp2_with (go_at_call 34; refine (eqStore_c _ _ _ _ p.B q.B _ (hf'.ext hX) (hg'.ext hX) (hd'.ext hX) (he'.ext hX) hn' hm').mono ?_; rintro e2 w2 ⟨rfl, hx2⟩; have hc2 := (bcell hx2).1)
  · go_ret
    exact ⟨by simp_all [pairEq], hX⟩
  all_goals
    go_ret
    exact ⟨by simp_all [pairEq], ext_trans hX ‹_›⟩

set_option maxHeartbeats 1000000 in
theorem lqFlash_c (u v : Value) (xs ys : List Block) (w : World) (hp : Flash (Old w) w u xs) (hq : Flash (Old w) w v ys) (hn : xs.length ≤ 1048576 ∨ ys.length ≤ 1048576) (hnb : ∀ (i : Nat) (h : i < xs.length) (h2 : i < ys.length), xs[i].pages.length ≤ 1048576 ∨ ys[i].pages.length ≤ 1048576) :
    Calls Try.prog 52 #[u, v] w (Ret w (.bool (listEq blockEq xs ys))) := by
  obtain ⟨a, cap, rfl⟩ := hp.form
  obtain ⟨a2, cap2, rfl⟩ := hq.form
  by_cases hlen : xs.length = ys.length
  · have hn1 : xs.length ≤ 1048576 := by omega
    clear hn
    have hne : (((xs.length : Nat) : Int) != ((ys.length : Nat) : Int)) = false := by simp [hlen]
    have HL := Lib.hid hlen; clear hlen; have HB := Lib.hid hnb; clear hnb
    go_enter Try.func52, Try.ntmps52
    go_wp2
    clear hne
    go_loopw [5] (fun i wr => ∃ k : Nat, k ≤ xs.length ∧ i = .int .i64 k ∧ Ext w wr ∧ ∀ (i : Nat) (h1 : i < xs.length) (h2 : i < ys.length), i < k → blockEq xs[i] ys[i] = true) (fun i _ => xs.length - (intOf i).toNat)
    case atStart => exact ⟨0, Nat.zero_le _, rfl, ext_refl _, fun _ _ _ h => absurd h (Nat.not_lt_zero _)⟩
    case round =>
      obtain ⟨k, hk, rfl, hx, heq⟩ := hrel
      have HE := Lib.hid heq; clear heq
      by_cases hlt : k < xs.length
      · have hlt2 : k < ys.length := by have := HL.out; omega
        obtain ⟨b, o, pv, rfl, hb, hpp, h0, h1⟩ := (hp.ext hx).at2 hlt
        obtain ⟨b2, o2, qv, rfl, hb2, hqq, k0, k1⟩ := (hq.ext hx).at2 hlt2
        by_cases hw : xs[k].worn = ys[k].worn
        · have hwb : (xs[k].worn != ys[k].worn) = false := by simp [hw]
          have HW := Lib.hid hw; clear hw
          go_wp2_with fail
          refine wp_region_ext [22] [0, 1, 2, 3, 4, 5, 6, 7, 8, 9, 10, 11, 12, 13, 14, 15, 16, 17, 18, 19, 20, 21, 22, 23, 24] [] [] (by kernel_rfl) (by kernel_rfl) ?late ?_
          case late => exact fun f hf => absurd hf List.not_mem_nil
          iterate 2
            refine Rob.y (v := ?_) rfl rfl (fun w1 hx hH => ?_) ?_; rotate_left
            · go_simp; first | done | rfl | exact (Bool.not_not _).symm
            simp only [Act.put, List.setIfInBounds_toArray, List.set_cons_succ, List.set_cons_zero]
          refine Rob.y (v := ?_) rfl rfl (fun w1 hx hH => ?_) ?_; rotate_left
          · (have c0 := cell_ext hx h0; have d0 := cell_ext hx k0; have c1 := cell_ext hx h1; have d1 := cell_ext hx k1); go_simp; first | done | rfl
          simp only [Act.put, List.setIfInBounds_toArray, List.set_cons_succ, List.set_cons_zero]
          refine Rob.y (v := ?_) rfl rfl (fun w1 hx hH => ?_) ?_; rotate_left
          · go_simp; first | done | rfl | exact (Bool.not_not _).symm
          simp only [Act.put, List.setIfInBounds_toArray, List.set_cons_succ, List.set_cons_zero]
          refine Rob.y (v := ?_) rfl rfl (fun w1 hx hH => ?_) ?_; rotate_left
          · (have c0 := cell_ext hx h0; have d0 := cell_ext hx k0; have c1 := cell_ext hx h1; have d1 := cell_ext hx k1); go_simp; first | done | rfl
          simp only [Act.put, List.setIfInBounds_toArray, List.set_cons_succ, List.set_cons_zero]
          iterate 2
            refine Rob.y (v := ?_) rfl rfl (fun w1 hx hH => ?_) ?_; rotate_left
            · go_simp; first | done | rfl | exact (Bool.not_not _).symm
            simp only [Act.put, List.setIfInBounds_toArray, List.set_cons_succ, List.set_cons_zero]
          refine Rob.y (v := ?_) rfl rfl (fun w1 hx hH => ?_) ?_; rotate_left
          · (have c0 := cell_ext hx h0; have d0 := cell_ext hx k0; have c1 := cell_ext hx h1; have d1 := cell_ext hx k1); go_simp; first | done | rfl
          simp only [Act.put, List.setIfInBounds_toArray, List.set_cons_succ, List.set_cons_zero]
          refine Rob.y (v := ?_) rfl rfl (fun w1 hx hH => ?_) ?_; rotate_left
          · go_simp; first | done | rfl | exact (Bool.not_not _).symm
          simp only [Act.put, List.setIfInBounds_toArray, List.set_cons_succ, List.set_cons_zero]
          refine Rob.y (v := ?_) rfl rfl (fun w1 hx hH => ?_) ?_; rotate_left
          · (have c0 := cell_ext hx h0; have d0 := cell_ext hx k0; have c1 := cell_ext hx h1; have d1 := cell_ext hx k1); go_simp; first | done | rfl
          simp only [Act.put, List.setIfInBounds_toArray, List.set_cons_succ, List.set_cons_zero]
          refine Rob.y (v := ?_) rfl rfl (fun w1 hx hH => ?_) ?_; rotate_left
          · go_simp; first | done | rfl | exact (Bool.not_not _).symm
          simp only [Act.put, List.setIfInBounds_toArray, List.set_cons_succ, List.set_cons_zero]
          refine Rob.yB (b := ?_) rfl rfl (fun w1 hx hH => ?_) (fun hb11 => ?_) (fun hb11 => ?_); rotate_left
          · go_simp; first | done | rfl | exact (Bool.not_not _).symm
          focus
            try contradiction
            all_goals
              simp only [Act.put, List.setIfInBounds_toArray, List.set_cons_succ, List.set_cons_zero]
              iterate 12
                refine Rob.no rfl rfl ?_
                simp only [Act.put, List.setIfInBounds_toArray, List.set_cons_succ, List.set_cons_zero]
              refine Rob.y (v := ?_) rfl rfl (fun w1 hx hH => ?_) ?_; rotate_left
              · go_simp; first | done | rfl | exact (Bool.not_not _).symm
              simp only [Act.put, List.setIfInBounds_toArray, List.set_cons_succ, List.set_cons_zero]
          rotate_right
          focus
            try contradiction
            all_goals
              simp only [Act.put, List.setIfInBounds_toArray, List.set_cons_succ, List.set_cons_zero]
              iterate 2
                refine Rob.yg (v := ?_) rfl rfl (fun w1 hx hH => ?_) ?_; rotate_left
                · go_simp; first | done | rfl | exact (Bool.not_not _).symm
                simp only [Act.put, List.setIfInBounds_toArray, List.set_cons_succ, List.set_cons_zero]
              refine Rob.yg (v := ?_) rfl rfl (fun w1 hx hH => ?_) ?_; rotate_left
              · (have c0 := cell_ext hx h0; have d0 := cell_ext hx k0; have c1 := cell_ext hx h1; have d1 := cell_ext hx k1); go_simp; first | done | rfl
              simp only [Act.put, List.setIfInBounds_toArray, List.set_cons_succ, List.set_cons_zero]
              refine Rob.yg (v := ?_) rfl rfl (fun w1 hx hH => ?_) ?_; rotate_left
              · go_simp; first | done | rfl | exact (Bool.not_not _).symm
              simp only [Act.put, List.setIfInBounds_toArray, List.set_cons_succ, List.set_cons_zero]
              refine Rob.yg (v := ?_) rfl rfl (fun w1 hx hH => ?_) ?_; rotate_left
              · (have c0 := cell_ext hx h0; have d0 := cell_ext hx k0; have c1 := cell_ext hx h1; have d1 := cell_ext hx k1); go_simp; first | done | rfl
              simp only [Act.put, List.setIfInBounds_toArray, List.set_cons_succ, List.set_cons_zero]
              iterate 2
                refine Rob.yg (v := ?_) rfl rfl (fun w1 hx hH => ?_) ?_; rotate_left
                · go_simp; first | done | rfl | exact (Bool.not_not _).symm
                simp only [Act.put, List.setIfInBounds_toArray, List.set_cons_succ, List.set_cons_zero]
              refine Rob.yg (v := ?_) rfl rfl (fun w1 hx hH => ?_) ?_; rotate_left
              · (have c0 := cell_ext hx h0; have d0 := cell_ext hx k0; have c1 := cell_ext hx h1; have d1 := cell_ext hx k1); go_simp; first | done | rfl
              simp only [Act.put, List.setIfInBounds_toArray, List.set_cons_succ, List.set_cons_zero]
              refine Rob.yg (v := ?_) rfl rfl (fun w1 hx hH => ?_) ?_; rotate_left
              · go_simp; first | done | rfl | exact (Bool.not_not _).symm
              simp only [Act.put, List.setIfInBounds_toArray, List.set_cons_succ, List.set_cons_zero]
              refine Rob.yg (v := ?_) rfl rfl (fun w1 hx hH => ?_) ?_; rotate_left
              · (have c0 := cell_ext hx h0; have d0 := cell_ext hx k0; have c1 := cell_ext hx h1; have d1 := cell_ext hx k1); go_simp; first | done | rfl
              simp only [Act.put, List.setIfInBounds_toArray, List.set_cons_succ, List.set_cons_zero]
              refine Rob.cv (.bool (listEq pageEq xs[k].pages ys[k].pages)) rfl rfl rfl (fun _ _ => ext_trans) (fun w1 hx hH => ?_) (fun lo22 hi22 hlo22 hhi22 => ?_)
              · unfold RunTo; go_simp; exact (lqPages_c pv qv xs[k].pages ys[k].pages _ (hpp.ext hx) (hqq.ext hx) (HB.out k hlt hlt2)).mono fun e w' h => h.to
              simp only [Act.put, List.setIfInBounds_toArray, List.set_cons_succ, List.set_cons_zero]
              refine Rob.yg (v := ?_) rfl rfl (fun w1 hx hH => ?_) ?_; rotate_left
              · go_simp; first | done | rfl | exact (Bool.not_not _).symm
              simp only [Act.put, List.setIfInBounds_toArray, List.set_cons_succ, List.set_cons_zero]
              refine Rob.y (v := ?_) rfl rfl (fun w1 hx hH => ?_) ?_; rotate_left
              · go_simp; first | done | rfl | exact (Bool.not_not _).symm
              simp only [Act.put, List.setIfInBounds_toArray, List.set_cons_succ, List.set_cons_zero]
          refine fin_nil (fun w1 hx1 _ => ?_)
          clear h0 h1 k0 k1 hwb
          go_wp2
          · have hf : listEq pageEq xs[k].pages ys[k].pages = false := by simpa using ‹(!listEq pageEq xs[k].pages ys[k].pages) = true›
            go_ret
            exact ⟨by rw [listEq_no hlt hlt2 (by simp [blockEq, hf])]; rfl, ext_trans hx hx1⟩
          · have ht : blockEq xs[k] ys[k] = true := by
              have : listEq pageEq xs[k].pages ys[k].pages = true := by simpa using ‹(!listEq pageEq xs[k].pages ys[k].pages) = false›
              simp [blockEq, this, HW.out]
            go_roundw
            case rel => exact ⟨k + 1, by omega, by go_num, ext_trans hx hx1, fun i h1 h2 hi => by
              rcases Nat.lt_succ_iff_lt_or_eq.1 hi with h | rfl
              · exact HE.out i h1 h2 h
              · exact ht⟩
            case measure => simp [intOf]; omega
        · have hwb : (xs[k].worn != ys[k].worn) = true := by simp [hw]
          have HW := Lib.hid hw; clear hw
          go_wp2_with fail
          refine wp_region_ext [22] [0, 1, 2, 3, 4, 5, 6, 7, 8, 9, 10, 11, 12, 13, 14, 15, 16, 17, 18, 19, 20, 21, 22, 23, 24] [] [] (by kernel_rfl) (by kernel_rfl) ?late ?_
          case late => exact fun f hf => absurd hf List.not_mem_nil
          iterate 2
            refine Rob.y (v := ?_) rfl rfl (fun w1 hx hH => ?_) ?_; rotate_left
            · go_simp; first | done | rfl | exact (Bool.not_not _).symm
            simp only [Act.put, List.setIfInBounds_toArray, List.set_cons_succ, List.set_cons_zero]
          refine Rob.y (v := ?_) rfl rfl (fun w1 hx hH => ?_) ?_; rotate_left
          · (have c0 := cell_ext hx h0; have d0 := cell_ext hx k0; have c1 := cell_ext hx h1; have d1 := cell_ext hx k1); go_simp; first | done | rfl
          simp only [Act.put, List.setIfInBounds_toArray, List.set_cons_succ, List.set_cons_zero]
          refine Rob.y (v := ?_) rfl rfl (fun w1 hx hH => ?_) ?_; rotate_left
          · go_simp; first | done | rfl | exact (Bool.not_not _).symm
          simp only [Act.put, List.setIfInBounds_toArray, List.set_cons_succ, List.set_cons_zero]
          refine Rob.y (v := ?_) rfl rfl (fun w1 hx hH => ?_) ?_; rotate_left
          · (have c0 := cell_ext hx h0; have d0 := cell_ext hx k0; have c1 := cell_ext hx h1; have d1 := cell_ext hx k1); go_simp; first | done | rfl
          simp only [Act.put, List.setIfInBounds_toArray, List.set_cons_succ, List.set_cons_zero]
          iterate 2
            refine Rob.y (v := ?_) rfl rfl (fun w1 hx hH => ?_) ?_; rotate_left
            · go_simp; first | done | rfl | exact (Bool.not_not _).symm
            simp only [Act.put, List.setIfInBounds_toArray, List.set_cons_succ, List.set_cons_zero]
          refine Rob.y (v := ?_) rfl rfl (fun w1 hx hH => ?_) ?_; rotate_left
          · (have c0 := cell_ext hx h0; have d0 := cell_ext hx k0; have c1 := cell_ext hx h1; have d1 := cell_ext hx k1); go_simp; first | done | rfl
          simp only [Act.put, List.setIfInBounds_toArray, List.set_cons_succ, List.set_cons_zero]
          refine Rob.y (v := ?_) rfl rfl (fun w1 hx hH => ?_) ?_; rotate_left
          · go_simp; first | done | rfl | exact (Bool.not_not _).symm
          simp only [Act.put, List.setIfInBounds_toArray, List.set_cons_succ, List.set_cons_zero]
          refine Rob.y (v := ?_) rfl rfl (fun w1 hx hH => ?_) ?_; rotate_left
          · (have c0 := cell_ext hx h0; have d0 := cell_ext hx k0; have c1 := cell_ext hx h1; have d1 := cell_ext hx k1); go_simp; first | done | rfl
          simp only [Act.put, List.setIfInBounds_toArray, List.set_cons_succ, List.set_cons_zero]
          refine Rob.y (v := ?_) rfl rfl (fun w1 hx hH => ?_) ?_; rotate_left
          · go_simp; first | done | rfl | exact (Bool.not_not _).symm
          simp only [Act.put, List.setIfInBounds_toArray, List.set_cons_succ, List.set_cons_zero]
          refine Rob.yB (b := ?_) rfl rfl (fun w1 hx hH => ?_) (fun hb11 => ?_) (fun hb11 => ?_); rotate_left
          · go_simp; first | done | rfl | exact (Bool.not_not _).symm
          focus
            try contradiction
            all_goals
              simp only [Act.put, List.setIfInBounds_toArray, List.set_cons_succ, List.set_cons_zero]
              iterate 12
                refine Rob.no rfl rfl ?_
                simp only [Act.put, List.setIfInBounds_toArray, List.set_cons_succ, List.set_cons_zero]
              refine Rob.y (v := ?_) rfl rfl (fun w1 hx hH => ?_) ?_; rotate_left
              · go_simp; first | done | rfl | exact (Bool.not_not _).symm
              simp only [Act.put, List.setIfInBounds_toArray, List.set_cons_succ, List.set_cons_zero]
          rotate_right
          focus
            try contradiction
            all_goals
              simp only [Act.put, List.setIfInBounds_toArray, List.set_cons_succ, List.set_cons_zero]
              iterate 12
                refine Rob.no rfl rfl ?_
                simp only [Act.put, List.setIfInBounds_toArray, List.set_cons_succ, List.set_cons_zero]
              refine Rob.y (v := ?_) rfl rfl (fun w1 hx hH => ?_) ?_; rotate_left
              · go_simp; first | done | rfl | exact (Bool.not_not _).symm
              simp only [Act.put, List.setIfInBounds_toArray, List.set_cons_succ, List.set_cons_zero]
          refine fin_nil (fun w1 hx1 _ => ?_)
          clear h0 h1 k0 k1 hwb
          go_wp2
          go_ret
          exact ⟨by rw [listEq_no hlt hlt2 (by simp [blockEq, HW.out])]; rfl, ext_trans hx hx1⟩
      · go_wp2
        go_ret
        exact ⟨by rw [listEq_mk HL.out fun i h1 h2 => HE.out i h1 h2 (by omega)]; rfl, hx⟩
  · have hne : (((xs.length : Nat) : Int) != ((ys.length : Nat) : Int)) = true := by simp; omega
    go_enter Try.func52, Try.ntmps52
    go_wp2
    go_ret
    exact ⟨by rw [listEq_ne hlen]; rfl, ext_refl _⟩

theorem lqStore_c (f g d e : Value) (s t : Store) (w : World) (hf : Flash (Old w) w f s.flash) (hg : Flash (Old w) w g t.flash) (hd : Ints (Old w) w d s.disk) (he : Ints (Old w) w e t.disk) (hn : Fits s.flash t.flash) (hm : FitsI s.disk t.disk) :
    Calls Try.prog 28 #[.agg #[f, d], .agg #[g, e]] w (Ret w (.bool (storeEq s t))) := by
  have hE : ∀ o1 o2, Ext w ((w.alloc o1).alloc o2) := fun o1 o2 => ext_alloc (ext_alloc (ext_refl _) _) _
  have HE := Lib.hid hE; clear hE
  go_enter Try.func28, Try.ntmps28
  go_wp2_with fail
  refine (lqFlash_c _ _ s.flash t.flash _ (hf.ext (HE.out _ _)) (hg.ext (HE.out _ _)) hn.1 hn.2).mono ?_
  rintro e1 w1 ⟨rfl, hx⟩
  have hc := (bcell hx).1
  have hX : Ext w w1 := ext_trans (HE.out _ _) hx
  go_wp2_with (go_at_call 21; refine (lqInts_c _ _ s.disk t.disk _ (hd.ext hX) (he.ext hX) hm).mono ?_; rintro e2 w2 ⟨rfl, hx2⟩)
  all_goals
    go_ret
    first
      | exact ⟨by simp_all [storeEq, flashEq, intsEq], ext_trans hX ‹_›⟩
      | exact ⟨by simp_all [storeEq, flashEq, intsEq], hX⟩

theorem lqPair_c (f g d e f' g' d' e' : Value) (p q : Pair) (w : World) (hf : Flash (Old w) w f p.A.flash) (hg : Flash (Old w) w g q.A.flash) (hd : Ints (Old w) w d p.A.disk) (he : Ints (Old w) w e q.A.disk) (hn : Fits p.A.flash q.A.flash) (hm : FitsI p.A.disk q.A.disk)
    (hf' : Flash (Old w) w f' p.B.flash) (hg' : Flash (Old w) w g' q.B.flash) (hd' : Ints (Old w) w d' p.B.disk) (he' : Ints (Old w) w e' q.B.disk) (hn' : Fits p.B.flash q.B.flash) (hm' : FitsI p.B.disk q.B.disk) :
    Calls Try.prog 30 #[.agg #[f, d, f', d', .int .i64 p.lost], .agg #[g, e, g', e', .int .i64 q.lost]] w (Ret w (.bool (pairEq p q))) := by
  have hE : ∀ o1 o2, Ext w ((w.alloc o1).alloc o2) := fun o1 o2 => ext_alloc (ext_alloc (ext_refl _) _) _
  have HE := Lib.hid hE; clear hE
  by_cases hl : p.lost = q.lost
  · have hl' : (p.lost == q.lost) = true := by simp [hl]
    have HL := Lib.hid hl; clear hl
    go_enter Try.func30, Try.ntmps30
    go_wp2_with fail
    refine (lqStore_c _ _ _ _ p.A q.A _ (hf.ext (HE.out _ _)) (hg.ext (HE.out _ _)) (hd.ext (HE.out _ _)) (he.ext (HE.out _ _)) hn hm).mono ?_
    rintro e1 w1 ⟨rfl, hx⟩
    have hc := (bcell hx).1
    have hX : Ext w w1 := ext_trans (HE.out _ _) hx
    go_wp2_with (go_at_call 28; refine (lqStore_c _ _ _ _ p.B q.B _ (hf'.ext hX) (hg'.ext hX) (hd'.ext hX) (he'.ext hX) hn' hm').mono ?_; rintro e2 w2 ⟨rfl, hx2⟩; have hc2 := (bcell hx2).1; have hs := hx.size)
    all_goals
      go_ret
      first
        | exact ⟨by simp_all [pairEq, HL.out], ext_trans hX ‹_›⟩
        | exact ⟨by simp_all [pairEq, HL.out], hX⟩
  · have hl' : (p.lost == q.lost) = false := by simp [hl]
    go_enter Try.func30, Try.ntmps30
    go_wp2_with fail
    go_ret
    exact ⟨by simp [pairEq, hl], HE.out _ _⟩
end Go.Bu
