/- The laws' own comparisons: eqRec, eqPage, eqPageS, eqBlock, eqBlockS, eqIntS, eqStore, eqStep, eqStepS, eqCost, eqEvent, eqEventS, eqPair, lqPages, lqFlash, lqInts, lqStore, lqPair, lqCost. -/
import Derived.Test.YtcainddboblpbaaProg
import Derived.Test.YtcainddboblpbaaMem
import Derived.Lib.Hide
set_option linter.unusedVariables false
set_option linter.unusedSimpArgs false
namespace Go.Bu
open Go Go.RowKit Go.Plan Go.Proofs

theorem eqRec_c (a b : Rec) (w : World) : Calls Try.prog 128 #[recA a, recA b] w (Ret w (.bool (recEq a b))) := by
  go_enter Try.func128, Try.ntmps128
  go_wp2
  all_goals
    go_ret
    refine ⟨?_, ext_alloc (ext_alloc (ext_refl _) _) _⟩
    simp_all [recEq]

theorem eqPage_c (a b : Page) (w : World) : Calls Try.prog 117 #[pageA a, pageA b] w (Ret w (.bool (pageEq a b))) := by
  go_enter Try.func117, Try.ntmps117
  go_wp2_with (go_at_call 128; refine (eqRec_c a.r b.r _).mono ?_; rintro e w' ⟨rfl, hx⟩)
  all_goals
    go_ret
    first
      | refine ⟨?_, ext_alloc (ext_alloc (ext_refl _) _) _⟩
      | refine ⟨?_, ext_trans (ext_alloc (ext_alloc (ext_refl _) _) _) ‹_›⟩
    simp_all [pageEq]

set_option maxHeartbeats 1000000 in
theorem eqPageS_c (u v : Value) (xs ys : List Page) (w : World) (hp : Pages (Old w) w u xs) (hq : Pages (Old w) w v ys) (hn : xs.length ≤ 1048576 ∨ ys.length ≤ 1048576) :
    Calls Try.prog 103 #[u, v] w (Ret w (.bool (listEq pageEq xs ys))) := by
  obtain ⟨a, cap, rfl⟩ := hp.form
  obtain ⟨a2, cap2, rfl⟩ := hq.form
  by_cases hlen : xs.length = ys.length
  · have hn1 : xs.length ≤ 1048576 := by omega
    clear hn
    have hne : (((xs.length : Nat) : Int) != ((ys.length : Nat) : Int)) = false := by simp [hlen]
    have HL := Lib.hid hlen; clear hlen
    go_enter Try.func103, Try.ntmps103
    go_wp2
    clear hne
    go_loopw [5] (fun i wr => ∃ k : Nat, k ≤ xs.length ∧ i = .int .i64 k ∧ Ext w wr ∧ ∀ (i : Nat) (h1 : i < xs.length) (h2 : i < ys.length), i < k → pageEq xs[i] ys[i] = true) (fun i _ => xs.length - (intOf i).toNat)
    case atStart => exact ⟨0, Nat.zero_le _, rfl, ext_refl _, fun _ _ _ h => absurd h (Nat.not_lt_zero _)⟩
    case round =>
      obtain ⟨k, hk, rfl, hx, heq⟩ := hrel
      have HE := Lib.hid heq; clear heq
      by_cases hlt : k < xs.length
      · have hlt2 : k < ys.length := by have := HL.out; omega
        obtain ⟨b, o, rfl, hb, h0, h1, h2, h3, h4⟩ := (hp.ext hx).at5 hlt
        obtain ⟨b2, o2, rfl, hb2, k0, k1, k2, k3, k4⟩ := (hq.ext hx).at5 hlt2
        go_wp2_with fail
        refine wp_region_ext [8] [0, 1, 2, 3, 4, 5, 6, 7, 8, 9] [] [] (by kernel_rfl) (by kernel_rfl) ?late ?_
        case late => exact fun f hf => absurd hf List.not_mem_nil
        iterate 2
          refine Rob.y (v := ?_) rfl rfl (fun w1 hx hH => ?_) ?_; rotate_left
          · go_simp; first | done | rfl | exact (Bool.not_not _).symm
          simp only [Act.put, List.setIfInBounds_toArray, List.set_cons_succ, List.set_cons_zero]
        iterate 2
          refine Rob.y (v := ?_) rfl rfl (fun w1 hx hH => ?_) ?_; rotate_left
          · (have c0 := cell_ext hx h0; have d0 := cell_ext hx k0; have c1 := cell_ext hx h1; have d1 := cell_ext hx k1; have c2 := cell_ext hx h2; have d2 := cell_ext hx k2; have c3 := cell_ext hx h3; have d3 := cell_ext hx k3; have c4 := cell_ext hx h4; have d4 := cell_ext hx k4); go_simp; first | done | rfl
          simp only [Act.put, List.setIfInBounds_toArray, List.set_cons_succ, List.set_cons_zero]
        iterate 2
          refine Rob.y (v := ?_) rfl rfl (fun w1 hx hH => ?_) ?_; rotate_left
          · go_simp; first | done | rfl | exact (Bool.not_not _).symm
          simp only [Act.put, List.setIfInBounds_toArray, List.set_cons_succ, List.set_cons_zero]
        iterate 2
          refine Rob.y (v := ?_) rfl rfl (fun w1 hx hH => ?_) ?_; rotate_left
          · (have c0 := cell_ext hx h0; have d0 := cell_ext hx k0; have c1 := cell_ext hx h1; have d1 := cell_ext hx k1; have c2 := cell_ext hx h2; have d2 := cell_ext hx k2; have c3 := cell_ext hx h3; have d3 := cell_ext hx k3; have c4 := cell_ext hx h4; have d4 := cell_ext hx k4); go_simp; first | done | rfl
          simp only [Act.put, List.setIfInBounds_toArray, List.set_cons_succ, List.set_cons_zero]
        refine Rob.cv (.bool (pageEq xs[k] ys[k])) rfl rfl rfl (fun _ _ => ext_trans) (fun w1 hx hH => ?_) (fun lo8 hi8 hlo8 hhi8 => ?_)
        · unfold RunTo; go_simp; exact (eqPage_c xs[k] ys[k] _).mono fun e w' h => h.to
        simp only [Act.put, List.setIfInBounds_toArray, List.set_cons_succ, List.set_cons_zero]
        refine Rob.y (v := ?_) rfl rfl (fun w1 hx hH => ?_) ?_; rotate_left
        · go_simp; first | done | rfl | exact (Bool.not_not _).symm
        simp only [Act.put, List.setIfInBounds_toArray, List.set_cons_succ, List.set_cons_zero]
        refine fin_nil (fun w1 hx1 _ => ?_)
        clear h0 h1 h2 h3 h4 k0 k1 k2 k3 k4
        go_wp2
        · have hf : pageEq xs[k] ys[k] = false := by simpa using ‹(!pageEq xs[k] ys[k]) = true›
          go_ret
          exact ⟨by rw [listEq_no hlt hlt2 hf]; rfl, ext_trans hx hx1⟩
        · have ht : pageEq xs[k] ys[k] = true := by simpa using ‹(!pageEq xs[k] ys[k]) = false›
          go_roundw
          case rel => exact ⟨k + 1, by omega, by go_num, ext_trans hx hx1, fun i h1 h2 hi => by
            rcases Nat.lt_succ_iff_lt_or_eq.1 hi with h | rfl
            · exact HE.out i h1 h2 h
            · exact ht⟩
          case measure => simp [intOf]; omega
      · go_wp2
        go_ret
        exact ⟨by rw [listEq_mk HL.out fun i h1 h2 => HE.out i h1 h2 (by omega)]; rfl, hx⟩
  · have hne : (((xs.length : Nat) : Int) != ((ys.length : Nat) : Int)) = true := by simp; omega
    go_enter Try.func103, Try.ntmps103
    go_wp2
    go_ret
    exact ⟨by rw [listEq_ne hlen]; rfl, ext_refl _⟩

set_option maxHeartbeats 1000000 in
theorem lqPages_c (u v : Value) (xs ys : List Page) (w : World) (hp : Pages (Old w) w u xs) (hq : Pages (Old w) w v ys) (hn : xs.length ≤ 1048576 ∨ ys.length ≤ 1048576) :
    Calls Try.prog 79 #[u, v] w (Ret w (.bool (listEq pageEq xs ys))) := by
  obtain ⟨a, cap, rfl⟩ := hp.form
  obtain ⟨a2, cap2, rfl⟩ := hq.form
  by_cases hlen : xs.length = ys.length
  · have hn1 : xs.length ≤ 1048576 := by omega
    clear hn
    have hne : (((xs.length : Nat) : Int) != ((ys.length : Nat) : Int)) = false := by simp [hlen]
    have HL := Lib.hid hlen; clear hlen
    go_enter Try.func79, Try.ntmps79
    go_wp2
    clear hne
    go_loopw [5] (fun i wr => ∃ k : Nat, k ≤ xs.length ∧ i = .int .i64 k ∧ Ext w wr ∧ ∀ (i : Nat) (h1 : i < xs.length) (h2 : i < ys.length), i < k → pageEq xs[i] ys[i] = true) (fun i _ => xs.length - (intOf i).toNat)
    case atStart => exact ⟨0, Nat.zero_le _, rfl, ext_refl _, fun _ _ _ h => absurd h (Nat.not_lt_zero _)⟩
    case round =>
      obtain ⟨k, hk, rfl, hx, heq⟩ := hrel
      have HE := Lib.hid heq; clear heq
      by_cases hlt : k < xs.length
      · have hlt2 : k < ys.length := by have := HL.out; omega
        obtain ⟨b, o, rfl, hb, h0, h1, h2, h3, h4⟩ := (hp.ext hx).at5 hlt
        obtain ⟨b2, o2, rfl, hb2, k0, k1, k2, k3, k4⟩ := (hq.ext hx).at5 hlt2
        go_wp2_with fail
        refine wp_region_ext [] [0, 1, 2, 3, 4, 5, 6, 7, 8] [] [] (by kernel_rfl) (by kernel_rfl) ?late ?_
        case late => exact fun f hf => absurd hf List.not_mem_nil
        iterate 2
          refine Rob.y (v := ?_) rfl rfl (fun w1 hx hH => ?_) ?_; rotate_left
          · go_simp; first | done | rfl | exact (Bool.not_not _).symm
          simp only [Act.put, List.setIfInBounds_toArray, List.set_cons_succ, List.set_cons_zero]
        iterate 2
          refine Rob.y (v := ?_) rfl rfl (fun w1 hx hH => ?_) ?_; rotate_left
          · (have c0 := cell_ext hx h0; have d0 := cell_ext hx k0; have c1 := cell_ext hx h1; have d1 := cell_ext hx k1; have c2 := cell_ext hx h2; have d2 := cell_ext hx k2; have c3 := cell_ext hx h3; have d3 := cell_ext hx k3; have c4 := cell_ext hx h4; have d4 := cell_ext hx k4); go_simp; first | done | rfl
          simp only [Act.put, List.setIfInBounds_toArray, List.set_cons_succ, List.set_cons_zero]
        iterate 2
          refine Rob.y (v := ?_) rfl rfl (fun w1 hx hH => ?_) ?_; rotate_left
          · go_simp; first | done | rfl | exact (Bool.not_not _).symm
          simp only [Act.put, List.setIfInBounds_toArray, List.set_cons_succ, List.set_cons_zero]
        iterate 2
          refine Rob.y (v := ?_) rfl rfl (fun w1 hx hH => ?_) ?_; rotate_left
          · (have c0 := cell_ext hx h0; have d0 := cell_ext hx k0; have c1 := cell_ext hx h1; have d1 := cell_ext hx k1; have c2 := cell_ext hx h2; have d2 := cell_ext hx k2; have c3 := cell_ext hx h3; have d3 := cell_ext hx k3; have c4 := cell_ext hx h4; have d4 := cell_ext hx k4); go_simp; first | done | rfl
          simp only [Act.put, List.setIfInBounds_toArray, List.set_cons_succ, List.set_cons_zero]
        refine Rob.y (v := .bool (!pageEq xs[k] ys[k])) rfl rfl (fun w1 hx hH => ?_) ?_
        · go_simp; simp only [pageEq, recEq]; (repeat' split) <;> simp_all
        simp only [Act.put, List.setIfInBounds_toArray, List.set_cons_succ, List.set_cons_zero]
        refine fin_nil (fun w1 hx1 _ => ?_)
        clear h0 h1 h2 h3 h4 k0 k1 k2 k3 k4
        go_wp2
        · have hf : pageEq xs[k] ys[k] = false := by simpa using ‹(!pageEq xs[k] ys[k]) = true›
          go_ret
          exact ⟨by rw [listEq_no hlt hlt2 hf]; rfl, ext_trans hx hx1⟩
        · have ht : pageEq xs[k] ys[k] = true := by simpa using ‹(!pageEq xs[k] ys[k]) = false›
          go_roundw
          case rel => exact ⟨k + 1, by omega, by go_num, ext_trans hx hx1, fun i h1 h2 hi => by
            rcases Nat.lt_succ_iff_lt_or_eq.1 hi with h | rfl
            · exact HE.out i h1 h2 h
            · exact ht⟩
          case measure => simp [intOf]; omega
      · go_wp2
        go_ret
        exact ⟨by rw [listEq_mk HL.out fun i h1 h2 => HE.out i h1 h2 (by omega)]; rfl, hx⟩
  · have hne : (((xs.length : Nat) : Int) != ((ys.length : Nat) : Int)) = true := by simp; omega
    go_enter Try.func79, Try.ntmps79
    go_wp2
    go_ret
    exact ⟨by rw [listEq_ne hlen]; rfl, ext_refl _⟩

theorem eqBlock_c (p q : Value) (a b : Block) (w : World) (hp : Pages (Old w) w p a.pages) (hq : Pages (Old w) w q b.pages) (hn : a.pages.length ≤ 1048576 ∨ b.pages.length ≤ 1048576) :
    Calls Try.prog 82 #[.agg #[p, .int .i64 a.worn], .agg #[q, .int .i64 b.worn]] w (Ret w (.bool (blockEq a b))) := by
  go_enter Try.func82, Try.ntmps82
  go_wp2_with (go_at_call 103; refine (eqPageS_c _ _ a.pages b.pages _ (hp.ext (ext_alloc (ext_alloc (ext_refl _) _) _)) (hq.ext (ext_alloc (ext_alloc (ext_refl _) _) _)) hn).mono ?_; rintro e w' ⟨rfl, hx⟩; have hc := (bcell hx).1)
  all_goals
    go_ret
    refine ⟨?_, ext_trans (ext_alloc (ext_alloc (ext_refl _) _) _) ‹_›⟩
    simp_all [blockEq]

-- (not in this seat: function laws.eqStep)

-- (not in this seat: function laws.eqEvent)

-- (not in this seat: function laws.eqCost)

-- (not in this seat: function laws.lqCost)

set_option maxHeartbeats 1000000 in
theorem eqBlockS_c (u v : Value) (xs ys : List Block) (w : World) (hp : Flash (Old w) w u xs) (hq : Flash (Old w) w v ys) (hn : xs.length ≤ 1048576 ∨ ys.length ≤ 1048576) (hnb : ∀ (i : Nat) (h : i < xs.length) (h2 : i < ys.length), xs[i].pages.length ≤ 1048576 ∨ ys[i].pages.length ≤ 1048576) :
    Calls Try.prog 59 #[u, v] w (Ret w (.bool (listEq blockEq xs ys))) := by
  obtain ⟨a, cap, rfl⟩ := hp.form
  obtain ⟨a2, cap2, rfl⟩ := hq.form
  by_cases hlen : xs.length = ys.length
  · have hn1 : xs.length ≤ 1048576 := by omega
    clear hn
    have hne : (((xs.length : Nat) : Int) != ((ys.length : Nat) : Int)) = false := by simp [hlen]
    have HL := Lib.hid hlen; clear hlen; have HB := Lib.hid hnb; clear hnb
    go_enter Try.func59, Try.ntmps59
    go_wp2
    clear hne
    go_loopw [5] (fun i wr => ∃ k : Nat, k ≤ xs.length ∧ i = .int .i64 k ∧ Ext w wr ∧ ∀ (i : Nat) (h1 : i < xs.length) (h2 : i < ys.length), i < k → blockEq xs[i] ys[i] = true) (fun i _ => xs.length - (intOf i).toNat)
    case atStart => exact ⟨0, Nat.zero_le _, rfl, ext_refl _, fun _ _ _ h => absurd h (Nat.not_lt_zero _)⟩
    case round =>
      obtain ⟨k, hk, rfl, hx, heq⟩ := hrel
      have HE := Lib.hid heq; clear heq
      by_cases hlt : k < xs.length
      · have hlt2 : k < ys.length := by have := HL.out; omega
        obtain ⟨b, o, pv, rfl, hb, hpp, h0, h1⟩ := (hp.ext hx).at2 hlt
        obtain ⟨b2, o2, qv, rfl, hb2, hqq, k0, k1⟩ := (hq.ext hx).at2 hlt2
        go_wp2_with fail
        refine wp_region_ext [8] [0, 1, 2, 3, 4, 5, 6, 7, 8, 9] [] [] (by kernel_rfl) (by kernel_rfl) ?late ?_
        case late => exact fun f hf => absurd hf List.not_mem_nil
        iterate 2
          refine Rob.y (v := ?_) rfl rfl (fun w1 hx hH => ?_) ?_; rotate_left
          · go_simp; first | done | rfl | exact (Bool.not_not _).symm
          simp only [Act.put, List.setIfInBounds_toArray, List.set_cons_succ, List.set_cons_zero]
        iterate 2
          refine Rob.y (v := ?_) rfl rfl (fun w1 hx hH => ?_) ?_; rotate_left
          · (have c0 := cell_ext hx h0; have d0 := cell_ext hx k0; have c1 := cell_ext hx h1; have d1 := cell_ext hx k1); go_simp; first | done | rfl
          simp only [Act.put, List.setIfInBounds_toArray, List.set_cons_succ, List.set_cons_zero]
        iterate 2
          refine Rob.y (v := ?_) rfl rfl (fun w1 hx hH => ?_) ?_; rotate_left
          · go_simp; first | done | rfl | exact (Bool.not_not _).symm
          simp only [Act.put, List.setIfInBounds_toArray, List.set_cons_succ, List.set_cons_zero]
        iterate 2
          refine Rob.y (v := ?_) rfl rfl (fun w1 hx hH => ?_) ?_; rotate_left
          · (have c0 := cell_ext hx h0; have d0 := cell_ext hx k0; have c1 := cell_ext hx h1; have d1 := cell_ext hx k1); go_simp; first | done | rfl
          simp only [Act.put, List.setIfInBounds_toArray, List.set_cons_succ, List.set_cons_zero]
        refine Rob.cv (.bool (blockEq xs[k] ys[k])) rfl rfl rfl (fun _ _ => ext_trans) (fun w1 hx hH => ?_) (fun lo8 hi8 hlo8 hhi8 => ?_)
        · unfold RunTo; go_simp; exact (eqBlock_c pv qv xs[k] ys[k] _ (hpp.ext hx) (hqq.ext hx) (HB.out k hlt hlt2)).mono fun e w' h => h.to
        simp only [Act.put, List.setIfInBounds_toArray, List.set_cons_succ, List.set_cons_zero]
        refine Rob.y (v := ?_) rfl rfl (fun w1 hx hH => ?_) ?_; rotate_left
        · go_simp; first | done | rfl | exact (Bool.not_not _).symm
        simp only [Act.put, List.setIfInBounds_toArray, List.set_cons_succ, List.set_cons_zero]
        refine fin_nil (fun w1 hx1 _ => ?_)
        clear h0 h1 k0 k1
        go_wp2
        · have hf : blockEq xs[k] ys[k] = false := by simpa using ‹(!blockEq xs[k] ys[k]) = true›
          go_ret
          exact ⟨by rw [listEq_no hlt hlt2 hf]; rfl, ext_trans hx hx1⟩
        · have ht : blockEq xs[k] ys[k] = true := by simpa using ‹(!blockEq xs[k] ys[k]) = false›
          go_roundw
          case rel => exact ⟨k + 1, by omega, by go_num, ext_trans hx hx1, fun i h1 h2 hi => by
            rcases Nat.lt_succ_iff_lt_or_eq.1 hi with h | rfl
            · exact HE.out i h1 h2 h
            · exact ht⟩
          case measure => simp [intOf]; omega
      · go_wp2
        go_ret
        exact ⟨by rw [listEq_mk HL.out fun i h1 h2 => HE.out i h1 h2 (by omega)]; rfl, hx⟩
  · have hne : (((xs.length : Nat) : Int) != ((ys.length : Nat) : Int)) = true := by simp; omega
    go_enter Try.func59, Try.ntmps59
    go_wp2
    go_ret
    exact ⟨by rw [listEq_ne hlen]; rfl, ext_refl _⟩

set_option maxHeartbeats 1000000 in
theorem eqIntS_c (u v : Value) (xs ys : List Int) (w : World) (hp : Ints (Old w) w u xs) (hq : Ints (Old w) w v ys) (hn : xs.length ≤ 1048576 ∨ ys.length ≤ 1048576) :
    Calls Try.prog 12 #[u, v] w (Ret w (.bool (listEq intEq xs ys))) := by
  obtain ⟨a, cap, rfl⟩ := hp.form
  obtain ⟨a2, cap2, rfl⟩ := hq.form
  by_cases hlen : xs.length = ys.length
  · have hn1 : xs.length ≤ 1048576 := by omega
    clear hn
    have hne : (((xs.length : Nat) : Int) != ((ys.length : Nat) : Int)) = false := by simp [hlen]
    have HL := Lib.hid hlen; clear hlen
    go_enter Try.func12, Try.ntmps12
    go_wp2
    clear hne
    go_loopw [5] (fun i wr => ∃ k : Nat, k ≤ xs.length ∧ i = .int .i64 k ∧ Ext w wr ∧ ∀ (i : Nat) (h1 : i < xs.length) (h2 : i < ys.length), i < k → intEq xs[i] ys[i] = true) (fun i _ => xs.length - (intOf i).toNat)
    case atStart => exact ⟨0, Nat.zero_le _, rfl, ext_refl _, fun _ _ _ h => absurd h (Nat.not_lt_zero _)⟩
    case round =>
      obtain ⟨k, hk, rfl, hx, heq⟩ := hrel
      have HE := Lib.hid heq; clear heq
      by_cases hlt : k < xs.length
      · have hlt2 : k < ys.length := by have := HL.out; omega
        obtain ⟨b, o, rfl, hb, h0⟩ := (hp.ext hx).at1 hlt
        obtain ⟨b2, o2, rfl, hb2, k0⟩ := (hq.ext hx).at1 hlt2
        go_wp2_with fail
        refine wp_region_ext [] [0, 1, 2, 3, 4, 5, 6, 7, 8] [] [] (by kernel_rfl) (by kernel_rfl) ?late ?_
        case late => exact fun f hf => absurd hf List.not_mem_nil
        iterate 2
          refine Rob.y (v := ?_) rfl rfl (fun w1 hx hH => ?_) ?_; rotate_left
          · go_simp; first | done | rfl | exact (Bool.not_not _).symm
          simp only [Act.put, List.setIfInBounds_toArray, List.set_cons_succ, List.set_cons_zero]
        iterate 2
          refine Rob.y (v := ?_) rfl rfl (fun w1 hx hH => ?_) ?_; rotate_left
          · (have c0 := cell_ext hx h0; have d0 := cell_ext hx k0); go_simp; first | done | rfl
          simp only [Act.put, List.setIfInBounds_toArray, List.set_cons_succ, List.set_cons_zero]
        iterate 2
          refine Rob.y (v := ?_) rfl rfl (fun w1 hx hH => ?_) ?_; rotate_left
          · go_simp; first | done | rfl | exact (Bool.not_not _).symm
          simp only [Act.put, List.setIfInBounds_toArray, List.set_cons_succ, List.set_cons_zero]
        iterate 2
          refine Rob.y (v := ?_) rfl rfl (fun w1 hx hH => ?_) ?_; rotate_left
          · (have c0 := cell_ext hx h0; have d0 := cell_ext hx k0); go_simp; first | done | rfl
          simp only [Act.put, List.setIfInBounds_toArray, List.set_cons_succ, List.set_cons_zero]
        refine Rob.y (v := ?_) rfl rfl (fun w1 hx hH => ?_) ?_; rotate_left
        · go_simp; first | done | rfl | exact (Bool.not_not _).symm
        simp only [Act.put, List.setIfInBounds_toArray, List.set_cons_succ, List.set_cons_zero]
        refine fin_nil (fun w1 hx1 _ => ?_)
        clear h0 k0
        go_wp2
        · have hf : intEq xs[k] ys[k] = false := by simp_all [intEq]
          go_ret
          exact ⟨by rw [listEq_no hlt hlt2 hf]; rfl, ext_trans hx hx1⟩
        · have ht : intEq xs[k] ys[k] = true := by simp_all [intEq]
          go_roundw
          case rel => exact ⟨k + 1, by omega, by go_num, ext_trans hx hx1, fun i h1 h2 hi => by
            rcases Nat.lt_succ_iff_lt_or_eq.1 hi with h | rfl
            · exact HE.out i h1 h2 h
            · exact ht⟩
          case measure => simp [intOf]; omega
      · go_wp2
        go_ret
        exact ⟨by rw [listEq_mk HL.out fun i h1 h2 => HE.out i h1 h2 (by omega)]; rfl, hx⟩
  · have hne : (((xs.length : Nat) : Int) != ((ys.length : Nat) : Int)) = true := by simp; omega
    go_enter Try.func12, Try.ntmps12
    go_wp2
    go_ret
    exact ⟨by rw [listEq_ne hlen]; rfl, ext_refl _⟩

set_option maxHeartbeats 1000000 in
theorem lqInts_c (u v : Value) (xs ys : List Int) (w : World) (hp : Ints (Old w) w u xs) (hq : Ints (Old w) w v ys) (hn : xs.length ≤ 1048576 ∨ ys.length ≤ 1048576) :
    Calls Try.prog 21 #[u, v] w (Ret w (.bool (listEq intEq xs ys))) := by
  obtain ⟨a, cap, rfl⟩ := hp.form
  obtain ⟨a2, cap2, rfl⟩ := hq.form
  by_cases hlen : xs.length = ys.length
  · have hn1 : xs.length ≤ 1048576 := by omega
    clear hn
    have hne : (((xs.length : Nat) : Int) != ((ys.length : Nat) : Int)) = false := by simp [hlen]
    have HL := Lib.hid hlen; clear hlen
    go_enter Try.func21, Try.ntmps21
    go_wp2
    clear hne
    go_loopw [5] (fun i wr => ∃ k : Nat, k ≤ xs.length ∧ i = .int .i64 k ∧ Ext w wr ∧ ∀ (i : Nat) (h1 : i < xs.length) (h2 : i < ys.length), i < k → intEq xs[i] ys[i] = true) (fun i _ => xs.length - (intOf i).toNat)
    case atStart => exact ⟨0, Nat.zero_le _, rfl, ext_refl _, fun _ _ _ h => absurd h (Nat.not_lt_zero _)⟩
    case round =>
      obtain ⟨k, hk, rfl, hx, heq⟩ := hrel
      have HE := Lib.hid heq; clear heq
      by_cases hlt : k < xs.length
      · have hlt2 : k < ys.length := by have := HL.out; omega
        obtain ⟨b, o, rfl, hb, h0⟩ := (hp.ext hx).at1 hlt
        obtain ⟨b2, o2, rfl, hb2, k0⟩ := (hq.ext hx).at1 hlt2
        go_wp2_with fail
        refine wp_region_ext [] [0, 1, 2, 3, 4, 5, 6, 7, 8] [] [] (by kernel_rfl) (by kernel_rfl) ?late ?_
        case late => exact fun f hf => absurd hf List.not_mem_nil
        iterate 2
          refine Rob.y (v := ?_) rfl rfl (fun w1 hx hH => ?_) ?_; rotate_left
          · go_simp; first | done | rfl | exact (Bool.not_not _).symm
          simp only [Act.put, List.setIfInBounds_toArray, List.set_cons_succ, List.set_cons_zero]
        iterate 2
          refine Rob.y (v := ?_) rfl rfl (fun w1 hx hH => ?_) ?_; rotate_left
          · (have c0 := cell_ext hx h0; have d0 := cell_ext hx k0); go_simp; first | done | rfl
          simp only [Act.put, List.setIfInBounds_toArray, List.set_cons_succ, List.set_cons_zero]
        iterate 2
          refine Rob.y (v := ?_) rfl rfl (fun w1 hx hH => ?_) ?_; rotate_left
          · go_simp; first | done | rfl | exact (Bool.not_not _).symm
          simp only [Act.put, List.setIfInBounds_toArray, List.set_cons_succ, List.set_cons_zero]
        iterate 2
          refine Rob.y (v := ?_) rfl rfl (fun w1 hx hH => ?_) ?_; rotate_left
          · (have c0 := cell_ext hx h0; have d0 := cell_ext hx k0); go_simp; first | done | rfl
          simp only [Act.put, List.setIfInBounds_toArray, List.set_cons_succ, List.set_cons_zero]
        refine Rob.y (v := ?_) rfl rfl (fun w1 hx hH => ?_) ?_; rotate_left
        · go_simp; first | done | rfl | exact (Bool.not_not _).symm
        simp only [Act.put, List.setIfInBounds_toArray, List.set_cons_succ, List.set_cons_zero]
        refine fin_nil (fun w1 hx1 _ => ?_)
        clear h0 k0
        go_wp2
        · have hf : intEq xs[k] ys[k] = false := by simp_all [intEq]
          go_ret
          exact ⟨by rw [listEq_no hlt hlt2 hf]; rfl, ext_trans hx hx1⟩
        · have ht : intEq xs[k] ys[k] = true := by simp_all [intEq]
          go_roundw
          case rel => exact ⟨k + 1, by omega, by go_num, ext_trans hx hx1, fun i h1 h2 hi => by
            rcases Nat.lt_succ_iff_lt_or_eq.1 hi with h | rfl
            · exact HE.out i h1 h2 h
            · exact ht⟩
          case measure => simp [intOf]; omega
      · go_wp2
        go_ret
        exact ⟨by rw [listEq_mk HL.out fun i h1 h2 => HE.out i h1 h2 (by omega)]; rfl, hx⟩
  · have hne : (((xs.length : Nat) : Int) != ((ys.length : Nat) : Int)) = true := by simp; omega
    go_enter Try.func21, Try.ntmps21
    go_wp2
    go_ret
    exact ⟨by rw [listEq_ne hlen]; rfl, ext_refl _⟩

-- (not in this seat: function laws.eqStepS)

-- (not in this seat: function laws.eqEventS)