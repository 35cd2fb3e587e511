/- What the reference finds of a block and of a flash: l3Most, l3Least, l2Clean, l3Next, l3Open, l3Old, l3Live. -/
import Derived.Test.YtcainddboblpbaaLast
set_option linter.unusedVariables false
set_option linter.unusedSimpArgs false
namespace Go.Bu
open Go Go.RowKit Go.Plan Go.Proofs

def mostStep (n : Int) (p : Page) : Int := if n < p.r.seq then p.r.seq else n
def most (ps : List Page) : Int := ps.foldl mostStep 0
def leastStep (n : Int) (p : Page) : Int := if 0 < p.r.seq ∧ (n = 0 ∨ p.r.seq < n) then p.r.seq else n
def least (ps : List Page) : Int := ps.foldl leastStep 0
def cleanStep (n : Int) (p : Page) : Int := if p.state = 0 then n + 1 else n
def cleanN (ps : List Page) : Int := ps.foldl cleanStep 0
def nextStep (n : Int) (b : Block) : Int := if n < most b.pages then most b.pages else n
def maxSeq (f : List Block) : Int := f.foldl nextStep 0
def next (f : List Block) : Int := maxSeq f + 1

set_option maxHeartbeats 400000 in
theorem l3Most_c (pv : Value) (ps : List Page) (worn : Int) (w : World) (h : Pages (Old w) w pv ps) (hn : ps.length ≤ 1048576) :
    Calls Try.prog 94 #[.agg #[pv, .int .i64 worn]] w (Ret w (.int .i64 (most ps))) := by
  obtain ⟨a, cap, rfl⟩ := h.form
  obtain ⟨A, hA⟩ : ∃ A, most ps = A := ⟨_, rfl⟩
  rw [hA]
  unfold most at hA
  have HA := Lib.hid hA; clear hA
  go_enter Try.func94, Try.ntmps94
  go_wp2
  go_loop [3, 4] (fun n y => ∃ (k : Nat) (m : Int), k ≤ ps.length ∧ y = .int .i64 k ∧ n = .int .i64 m ∧ Hid ((ps.drop k).foldl mostStep m = A)) (fun _ y => ps.length - (intOf y).toNat)
  case atStart => exact ⟨0, 0, by omega, rfl, rfl, HA⟩
  case round =>
    obtain ⟨k, m, hk, rfl, rfl, HR⟩ := hrel
    by_cases hlt : k < ps.length
    · obtain ⟨b, o, rfl, hb, e0, e1, e2, e3, e4⟩ := h.at5 hlt
      have hb' : b < w.heap.size := hb
      rw [foldl_drop _ _ _ _ hlt] at HR
      go_wp2
      exact ⟨⟨k + 1, _, by omega, by go_num, rfl, HR⟩, by simp [intOf]; omega⟩
    · obtain rfl : k = ps.length := by omega
      rw [foldl_end] at HR
      have hr := HR.out
      subst hr
      go_wp2
      go_ret
      exact ⟨rfl, by go_grown⟩

set_option maxHeartbeats 400000 in
theorem l3Least_c (pv : Value) (ps : List Page) (worn : Int) (w : World) (h : Pages (Old w) w pv ps) (hn : ps.length ≤ 1048576) :
    Calls Try.prog 95 #[.agg #[pv, .int .i64 worn]] w (Ret w (.int .i64 (least ps))) := by
  obtain ⟨a, cap, rfl⟩ := h.form
  obtain ⟨A, hA⟩ : ∃ A, least ps = A := ⟨_, rfl⟩
  rw [hA]
  unfold least at hA
  have HA := Lib.hid hA; clear hA
  go_enter Try.func95, Try.ntmps95
  go_wp2
  go_loop [3, 4] (fun n y => ∃ (k : Nat) (m : Int), k ≤ ps.length ∧ y = .int .i64 k ∧ n = .int .i64 m ∧ Hid ((ps.drop k).foldl leastStep m = A)) (fun _ y => ps.length - (intOf y).toNat)
  case atStart => exact ⟨0, 0, by omega, rfl, rfl, HA⟩
  case round =>
    obtain ⟨k, m, hk, rfl, rfl, HR⟩ := hrel
    by_cases hlt : k < ps.length
    · obtain ⟨b, o, rfl, hb, e0, e1, e2, e3, e4⟩ := h.at5 hlt
      have hb' : b < w.heap.size := hb
      rw [foldl_drop _ _ _ _ hlt] at HR
      go_wp2
      all_goals
        try simp only [beq_iff_eq, Bool.not_eq_true, beq_eq_false_iff_ne, ne_eq, bne_iff_ne, bne_eq_false_iff_eq, decide_eq_true_eq, decide_eq_false_iff_not] at *
        refine ⟨⟨k + 1, leastStep m ps[k], by omega, by go_num, ?_, HR⟩, by simp [intOf]; omega⟩
        first | rw [leastStep, if_pos ⟨by omega, by omega⟩] | rw [leastStep, if_neg (by omega)]
    · obtain rfl : k = ps.length := by omega
      rw [foldl_end] at HR
      have hr := HR.out
      subst hr
      go_wp2
      go_ret
      exact ⟨rfl, by go_grown⟩

set_option maxHeartbeats 400000 in
theorem l2Clean_c (pv : Value) (ps : List Page) (worn : Int) (w : World) (h : Pages (Old w) w pv ps) (hn : ps.length ≤ 1048576) :
    Calls Try.prog 96 #[.agg #[pv, .int .i64 worn]] w (Ret w (.int .i64 (cleanN ps))) := by
  obtain ⟨a, cap, rfl⟩ := h.form
  obtain ⟨A, hA⟩ : ∃ A, cleanN ps = A := ⟨_, rfl⟩
  rw [hA]
  unfold cleanN at hA
  have HA := Lib.hid hA; clear hA
  go_enter Try.func96, Try.ntmps96
  go_wp2
  go_loop [3, 4] (fun n y => ∃ (k : Nat) (m : Int), k ≤ ps.length ∧ y = .int .i64 k ∧ n = .int .i64 m ∧ 0 ≤ m ∧ m ≤ k ∧ Hid ((ps.drop k).foldl cleanStep m = A)) (fun _ y => ps.length - (intOf y).toNat)
  case atStart => exact ⟨0, 0, by omega, rfl, rfl, by omega, by omega, HA⟩
  case round =>
    obtain ⟨k, m, hk, rfl, rfl, hm0, hm1, HR⟩ := hrel
    by_cases hlt : k < ps.length
    · obtain ⟨b, o, rfl, hb, e0, e1, e2, e3, e4⟩ := h.at5 hlt
      have hb' : b < w.heap.size := hb
      rw [foldl_drop _ _ _ _ hlt] at HR
      go_wp2
      all_goals
        try simp only [beq_iff_eq, Bool.not_eq_true, beq_eq_false_iff_ne, ne_eq, bne_iff_ne, bne_eq_false_iff_eq, decide_eq_true_eq, decide_eq_false_iff_not] at *
        refine ⟨⟨k + 1, cleanStep m ps[k], by omega, by go_num, ?_, ?_, ?_, HR⟩, by simp [intOf]; omega⟩
        · first | rw [cleanStep, if_pos (by assumption)] | rw [cleanStep, if_neg (by assumption)]
        · unfold cleanStep; split <;> omega
        · unfold cleanStep; split <;> omega
    · obtain rfl : k = ps.length := by omega
      rw [foldl_end] at HR
      have hr := HR.out
      subst hr
      go_wp2
      go_ret
      exact ⟨rfl, by go_grown⟩

set_option maxHeartbeats 400000 in
theorem l3Next_c (v : Value) (f : List Block) (w : World) (h : Flash (Old w) w v f) (hn : f.length ≤ 1048576) (hp : ∀ b ∈ f, b.pages.length ≤ 1048576) (hs : 0 ≤ maxSeq f ∧ maxSeq f ≤ 1000) :
    Calls Try.prog 106 #[v] w (Ret w (.int .i64 (next f))) := by
  obtain ⟨a, cap, rfl⟩ := h.form
  obtain ⟨A, hA⟩ : ∃ A, maxSeq f = A := ⟨_, rfl⟩
  unfold next
  rw [hA] at hs ⊢
  obtain ⟨hs1, hs2⟩ := hs
  unfold maxSeq at hA
  have HA := Lib.hid hA; clear hA
  have HP := Lib.hid hp; clear hp
  go_enter Try.func106, Try.ntmps106
  go_wp2
  go_loopw [3, 4] (fun n y wr => ∃ (k : Nat) (m : Int), k ≤ f.length ∧ y = .int .i64 k ∧ n = .int .i64 m ∧ Ext w wr ∧ Hid ((f.drop k).foldl nextStep m = A)) (fun _ y _ => f.length - (intOf y).toNat)
  case atStart => exact ⟨0, 0, by omega, rfl, rfl, ext_refl _, HA⟩
  case round =>
    obtain ⟨k, m, hk, rfl, rfl, hX, HR⟩ := hrel
    by_cases hlt : k < f.length
    · obtain ⟨b, o, pv, rfl, hb, hpp, h0, h1⟩ := h.at2 hlt
      obtain ⟨hc, hf⟩ := bcell hX
      have hb' : b < w.heap.size := hb
      rw [foldl_drop _ _ _ _ hlt] at HR
      go_wp2_with fail
      refine (l3Most_c pv f[k].pages _ _ (hpp.ext hX) (HP.out _ (List.getElem_mem _))).mono ?_; rintro e1 w1 ⟨rfl, hx1⟩
      have X1 := ext_trans hX hx1
      go_wp2
      exact ⟨⟨k + 1, _, by omega, by go_num, rfl, X1, HR⟩, by simp [intOf]; omega⟩
    · obtain rfl : k = f.length := by omega
      rw [foldl_end] at HR
      have hr := HR.out
      subst hr
      go_wp2
      go_ret
      exact ⟨rfl, hX⟩

def openStep (f : List Block) (i : Nat) (out : Int) (b : Block) : Int := if 0 < cleanN b.pages ∧ (out < 0 ∨ b.worn < (f[out.toNat]?.map (·.worn)).getD 0) then i else out
/-- the scan of l3Open: from block i on, with the best one so far -/
def openScan (f : List Block) : Nat → Int → List Block → Int × Bool
  | _, out, [] => (if 0 < out then out else 0, decide (0 ≤ out))
  | i, out, b :: rest => if 0 < cleanN b.pages ∧ cleanN b.pages < 4 then ((i : Int), true) else openScan f (i + 1) (openStep f i out b) rest
def openB (f : List Block) : Int × Bool := openScan f 0 (-1) f
theorem openScan_drop (f : List Block) (out : Int) (k : Nat) (h : k < f.length) : openScan f k out (f.drop k) = if 0 < cleanN f[k].pages ∧ cleanN f[k].pages < 4 then ((k : Int), true) else openScan f (k + 1) (openStep f k out f[k]) (f.drop (k + 1)) := by
  rw [List.drop_eq_getElem_cons h]; rfl

set_option maxHeartbeats 1000000 in
theorem l3Open_c (v : Value) (f : List Block) (w : World) (h : Flash (Old w) w v f) (hn : f.length ≤ 1048576) (hp : ∀ b ∈ f, b.pages.length ≤ 1048576) :
    Calls Try.prog 118 #[v] w (Ret w (.tuple #[.int .i64 (openB f).1, .bool (openB f).2])) := by
  obtain ⟨a, cap, rfl⟩ := h.form
  obtain ⟨A, hA⟩ : ∃ A, openB f = A := ⟨_, rfl⟩
  rw [hA]
  unfold openB at hA
  have HA := Lib.hid hA; clear hA
  have HP := Lib.hid hp; clear hp
  go_enter Try.func118, Try.ntmps118
  go_wp2
  go_loopw [4, 5] (fun n y wr => ∃ (k : Nat) (m : Int), k ≤ f.length ∧ y = .int .i64 k ∧ n = .int .i64 m ∧ -1 ≤ m ∧ m < f.length ∧ Ext w wr ∧ Hid (openScan f k m (f.drop k) = A)) (fun _ y _ => f.length - (intOf y).toNat)
  case atStart => exact ⟨0, -1, by omega, rfl, rfl, by omega, by omega, ext_refl _, HA⟩
  case round =>
    obtain ⟨k, m, hk, rfl, rfl, hm0, hm1, hX, HR⟩ := hrel
    by_cases hlt : k < f.length
    · obtain ⟨b, o, pv, rfl, hb, hpp, h0, h1⟩ := h.at2 hlt
      obtain ⟨hc, hf⟩ := bcell hX
      have hb' : b < w.heap.size := hb
      rw [openScan_drop _ _ _ hlt] at HR
      go_wp2_with fail
      refine (l2Clean_c pv f[k].pages _ _ (hpp.ext hX) (HP.out _ (List.getElem_mem _))).mono ?_; rintro e1 w1 ⟨rfl, hx1⟩
      have X1 := ext_trans hX hx1
      obtain ⟨hc1, hf1⟩ := bcell X1
      generalize hcn : cleanN f[k].pages = cn at *
      have HCN := Lib.hid hcn; clear hcn
      by_cases hm : m < 0
      · have hst : openStep f k m f[k] = if 0 < cn then (k : Int) else m := by
          unfold openStep; rw [HCN.out]; by_cases h0 : 0 < cn
          · rw [if_pos ⟨h0, .inl hm⟩, if_pos h0]
          · rw [if_neg (fun h => h0 h.1), if_neg h0]
        have HST := Lib.hid hst; clear hst
        go_wp2
        all_goals try
          go_ret2
          refine ⟨?_, X1⟩
          rw [← HR.out, if_pos ⟨by omega, by omega⟩]
          rfl
        all_goals
          have hr := HR.out
          rw [if_neg (by omega), HST.out] at hr
          have HR2 := Lib.hid hr; clear hr
          refine wp_region_ext [] [0, 1, 2, 3, 4, 5, 6, 7, 8, 9, 10, 11, 12, 13, 14, 15, 16, 17, 18] [] [] (by kernel_rfl) (by kernel_rfl) ?late ?_
          case late => exact fun f hf => absurd hf List.not_mem_nil
          iterate 2
            refine Rob.y (v := ?_) rfl rfl (fun w1 hx hH => ?_) ?_; rotate_left
            · go_simp; first | done | rfl | exact (Bool.not_not _).symm
            simp only [Act.put, List.setIfInBounds_toArray, List.set_cons_succ, List.set_cons_zero]
          refine Rob.yB (b := ?_) rfl rfl (fun w1 hx hH => ?_) (fun hb2 => ?_) (fun hb2 => ?_); rotate_left
          · go_simp; first | done | rfl | exact (Bool.not_not _).symm
          focus
            try contradiction
            all_goals
              simp only [Act.put, List.setIfInBounds_toArray, List.set_cons_succ, List.set_cons_zero]
              iterate 2
                refine Rob.yg (v := ?_) rfl rfl (fun w1 hx hH => ?_) ?_; rotate_left
                · go_simp; first | done | rfl | exact (Bool.not_not _).symm
                simp only [Act.put, List.setIfInBounds_toArray, List.set_cons_succ, List.set_cons_zero]
              refine Rob.yB (b := ?_) rfl rfl (fun w1 hx hH => ?_) (fun hb5 => ?_) (fun hb5 => ?_); rotate_left
              · go_simp; first | done | rfl | exact (Bool.not_not _).symm
              focus
                try contradiction
                all_goals
                  simp only [Act.put, List.setIfInBounds_toArray, List.set_cons_succ, List.set_cons_zero]
                  iterate 11
                    refine Rob.no rfl rfl ?_
                    simp only [Act.put, List.setIfInBounds_toArray, List.set_cons_succ, List.set_cons_zero]
                  refine Rob.yg (v := ?_) rfl rfl (fun w1 hx hH => ?_) ?_; rotate_left
                  · go_simp; first | done | rfl | exact (Bool.not_not _).symm
                  simp only [Act.put, List.setIfInBounds_toArray, List.set_cons_succ, List.set_cons_zero]
                  refine Rob.y (v := ?_) rfl rfl (fun w1 hx hH => ?_) ?_; rotate_left
                  · go_simp; first | done | rfl | exact (Bool.not_not _).symm
                  simp only [Act.put, List.setIfInBounds_toArray, List.set_cons_succ, List.set_cons_zero]
              rotate_right
              focus
                try contradiction
                all_goals
                  simp only [Act.put, List.setIfInBounds_toArray, List.set_cons_succ, List.set_cons_zero]
                  iterate 2
                    refine Rob.yg (v := ?_) rfl rfl (fun w1 hx hH => ?_) ?_; rotate_left
                    · go_simp; first | done | rfl | exact (Bool.not_not _).symm
                    simp only [Act.put, List.setIfInBounds_toArray, List.set_cons_succ, List.set_cons_zero]
                  refine Rob.yg (v := ?_) rfl rfl (fun w1 hx hH => ?_) ?_; rotate_left
                  · (obtain ⟨hcx, hfx⟩ := bcell (ext_trans X1 hx)); go_simp; first | done | rfl
                  simp only [Act.put, List.setIfInBounds_toArray, List.set_cons_succ, List.set_cons_zero]
                  refine Rob.yg (v := ?_) rfl rfl (fun w1 hx hH => ?_) ?_; rotate_left
                  · go_simp; first | done | rfl | exact (Bool.not_not _).symm
                  simp only [Act.put, List.setIfInBounds_toArray, List.set_cons_succ, List.set_cons_zero]
                  refine Rob.yg (v := ?_) rfl rfl (fun w1 hx hH => ?_) ?_; rotate_left
                  · (obtain ⟨hcx, hfx⟩ := bcell (ext_trans X1 hx)); go_simp; first | done | rfl
                  simp only [Act.put, List.setIfInBounds_toArray, List.set_cons_succ, List.set_cons_zero]
                  iterate 2
                    refine Rob.yg (v := ?_) rfl rfl (fun w1 hx hH => ?_) ?_; rotate_left
                    · go_simp; first | done | rfl | exact (Bool.not_not _).symm
                    simp only [Act.put, List.setIfInBounds_toArray, List.set_cons_succ, List.set_cons_zero]
                  refine Rob.yg (v := ?_) rfl rfl (fun w1 hx hH => ?_) ?_; rotate_left
                  · (obtain ⟨hcx, hfx⟩ := bcell (ext_trans X1 hx)); go_simp; first | done | rfl
                  simp only [Act.put, List.setIfInBounds_toArray, List.set_cons_succ, List.set_cons_zero]
                  refine Rob.yg (v := ?_) rfl rfl (fun w1 hx hH => ?_) ?_; rotate_left
                  · go_simp; first | done | rfl | exact (Bool.not_not _).symm
                  simp only [Act.put, List.setIfInBounds_toArray, List.set_cons_succ, List.set_cons_zero]
                  refine Rob.yg (v := ?_) rfl rfl (fun w1 hx hH => ?_) ?_; rotate_left
                  · (obtain ⟨hcx, hfx⟩ := bcell (ext_trans X1 hx)); go_simp; first | done | rfl
                  simp only [Act.put, List.setIfInBounds_toArray, List.set_cons_succ, List.set_cons_zero]
                  iterate 2
                    refine Rob.yg (v := ?_) rfl rfl (fun w1 hx hH => ?_) ?_; rotate_left
                    · go_simp; first | done | rfl | exact (Bool.not_not _).symm
                    simp only [Act.put, List.setIfInBounds_toArray, List.set_cons_succ, List.set_cons_zero]
                  refine Rob.y (v := ?_) rfl rfl (fun w1 hx hH => ?_) ?_; rotate_left
                  · go_simp; first | done | rfl | exact (Bool.not_not _).symm
                  simp only [Act.put, List.setIfInBounds_toArray, List.set_cons_succ, List.set_cons_zero]
          rotate_right
          focus
            try contradiction
            all_goals
              simp only [Act.put, List.setIfInBounds_toArray, List.set_cons_succ, List.set_cons_zero]
              iterate 15
                refine Rob.no rfl rfl ?_
                simp only [Act.put, List.setIfInBounds_toArray, List.set_cons_succ, List.set_cons_zero]
              refine Rob.y (v := ?_) rfl rfl (fun w1 hx hH => ?_) ?_; rotate_left
              · go_simp; first | done | rfl | exact (Bool.not_not _).symm
              simp only [Act.put, List.setIfInBounds_toArray, List.set_cons_succ, List.set_cons_zero]
          all_goals
            refine fin_nil (fun w2 hx2 _ => ?_)
            have X2 := ext_trans X1 hx2
            try simp only [beq_iff_eq, Bool.not_eq_true, beq_eq_false_iff_ne, ne_eq, bne_iff_ne, bne_eq_false_iff_eq, decide_eq_true_eq, decide_eq_false_iff_not] at *
            go_wp2
            all_goals try (exfalso; omega)
            all_goals
              have hr := HR2.out
              first | rw [if_pos (by omega)] at hr | rw [if_neg (by omega)] at hr
              exact ⟨⟨k + 1, _, by omega, by go_num, rfl, by omega, by omega, X2, Lib.hid hr⟩, by simp [intOf]; omega⟩
      · obtain ⟨mm, rfl⟩ : ∃ n : Nat, m = n := ⟨m.toNat, by omega⟩
        obtain ⟨b2, o2, pv2, heq, hb2, hpp2, d0, d1⟩ := h.at2 (k := mm) (by omega)
        simp only [Option.some.injEq, Addr.mk.injEq, and_true] at heq
        obtain ⟨rfl, rfl⟩ := heq
        have hst : openStep f k mm f[k] = if 0 < cn ∧ f[k].worn < f[mm].worn then (k : Int) else mm := by
          unfold openStep; rw [HCN.out, Int.toNat_natCast, List.getElem?_eq_getElem (by omega)]
          simp
          split <;> split <;> first | rfl | (exfalso; omega)
        have HST := Lib.hid hst; clear hst
        go_wp2
        all_goals try
          go_ret2
          refine ⟨?_, X1⟩
          rw [← HR.out, if_pos ⟨by omega, by omega⟩]
          rfl
        all_goals
          have hr := HR.out
          rw [if_neg (by omega), HST.out] at hr
          have HR2 := Lib.hid hr; clear hr
          refine wp_region_ext [] [0, 1, 2, 3, 4, 5, 6, 7, 8, 9, 10, 11, 12, 13, 14, 15, 16, 17, 18] [] [] (by kernel_rfl) (by kernel_rfl) ?late ?_
          case late => exact fun f hf => absurd hf List.not_mem_nil
          iterate 2
            refine Rob.y (v := ?_) rfl rfl (fun w1 hx hH => ?_) ?_; rotate_left
            · go_simp; first | done | rfl | exact (Bool.not_not _).symm
            simp only [Act.put, List.setIfInBounds_toArray, List.set_cons_succ, List.set_cons_zero]
          refine Rob.yB (b := ?_) rfl rfl (fun w1 hx hH => ?_) (fun hb2 => ?_) (fun hb2 => ?_); rotate_left
          · go_simp; first | done | rfl | exact (Bool.not_not _).symm
          focus
            try contradiction
            all_goals
              simp only [Act.put, List.setIfInBounds_toArray, List.set_cons_succ, List.set_cons_zero]
              iterate 2
                refine Rob.yg (v := ?_) rfl rfl (fun w1 hx hH => ?_) ?_; rotate_left
                · go_simp; first | done | rfl | exact (Bool.not_not _).symm
                simp only [Act.put, List.setIfInBounds_toArray, List.set_cons_succ, List.set_cons_zero]
              refine Rob.yB (b := ?_) rfl rfl (fun w1 hx hH => ?_) (fun hb5 => ?_) (fun hb5 => ?_); rotate_left
              · go_simp; first | done | rfl | exact (Bool.not_not _).symm
              focus
                try contradiction
                all_goals
                  simp only [Act.put, List.setIfInBounds_toArray, List.set_cons_succ, List.set_cons_zero]
                  iterate 11
                    refine Rob.no rfl rfl ?_
                    simp only [Act.put, List.setIfInBounds_toArray, List.set_cons_succ, List.set_cons_zero]
                  refine Rob.yg (v := ?_) rfl rfl (fun w1 hx hH => ?_) ?_; rotate_left
                  · go_simp; first | done | rfl | exact (Bool.not_not _).symm
                  simp only [Act.put, List.setIfInBounds_toArray, List.set_cons_succ, List.set_cons_zero]
                  refine Rob.y (v := ?_) rfl rfl (fun w1 hx hH => ?_) ?_; rotate_left
                  · go_simp; first | done | rfl | exact (Bool.not_not _).symm
                  simp only [Act.put, List.setIfInBounds_toArray, List.set_cons_succ, List.set_cons_zero]
              rotate_right
              focus
                try contradiction
                all_goals
                  simp only [Act.put, List.setIfInBounds_toArray, List.set_cons_succ, List.set_cons_zero]
                  iterate 2
                    refine Rob.yg (v := ?_) rfl rfl (fun w1 hx hH => ?_) ?_; rotate_left
                    · go_simp; first | done | rfl | exact (Bool.not_not _).symm
                    simp only [Act.put, List.setIfInBounds_toArray, List.set_cons_succ, List.set_cons_zero]
                  refine Rob.yg (v := ?_) rfl rfl (fun w1 hx hH => ?_) ?_; rotate_left
                  · (obtain ⟨hcx, hfx⟩ := bcell (ext_trans X1 hx)); go_simp; first | done | rfl
                  simp only [Act.put, List.setIfInBounds_toArray, List.set_cons_succ, List.set_cons_zero]
                  refine Rob.yg (v := ?_) rfl rfl (fun w1 hx hH => ?_) ?_; rotate_left
                  · go_simp; first | done | rfl | exact (Bool.not_not _).symm
                  simp only [Act.put, List.setIfInBounds_toArray, List.set_cons_succ, List.set_cons_zero]
                  refine Rob.yg (v := ?_) rfl rfl (fun w1 hx hH => ?_) ?_; rotate_left
                  · (obtain ⟨hcx, hfx⟩ := bcell (ext_trans X1 hx)); go_simp; first | done | rfl
                  simp only [Act.put, List.setIfInBounds_toArray, List.set_cons_succ, List.set_cons_zero]
                  iterate 2
                    refine Rob.yg (v := ?_) rfl rfl (fun w1 hx hH => ?_) ?_; rotate_left
                    · go_simp; first | done | rfl | exact (Bool.not_not _).symm
                    simp only [Act.put, List.setIfInBounds_toArray, List.set_cons_succ, List.set_cons_zero]
                  refine Rob.yg (v := ?_) rfl rfl (fun w1 hx hH => ?_) ?_; rotate_left
                  · (obtain ⟨hcx, hfx⟩ := bcell (ext_trans X1 hx)); go_simp; first | done | rfl
                  simp only [Act.put, List.setIfInBounds_toArray, List.set_cons_succ, List.set_cons_zero]
                  refine Rob.yg (v := ?_) rfl rfl (fun w1 hx hH => ?_) ?_; rotate_left
                  · go_simp; first | done | rfl | exact (Bool.not_not _).symm
                  simp only [Act.put, List.setIfInBounds_toArray, List.set_cons_succ, List.set_cons_zero]
                  refine Rob.yg (v := ?_) rfl rfl (fun w1 hx hH => ?_) ?_; rotate_left
                  · (obtain ⟨hcx, hfx⟩ := bcell (ext_trans X1 hx)); go_simp; first | done | rfl
                  simp only [Act.put, List.setIfInBounds_toArray, List.set_cons_succ, List.set_cons_zero]
                  iterate 2
                    refine Rob.yg (v := ?_) rfl rfl (fun w1 hx hH => ?_) ?_; rotate_left
                    · go_simp; first | done | rfl | exact (Bool.not_not _).symm
                    simp only [Act.put, List.setIfInBounds_toArray, List.set_cons_succ, List.set_cons_zero]
                  refine Rob.y (v := ?_) rfl rfl (fun w1 hx hH => ?_) ?_; rotate_left
                  · go_simp; first | done | rfl | exact (Bool.not_not _).symm
                  simp only [Act.put, List.setIfInBounds_toArray, List.set_cons_succ, List.set_cons_zero]
          rotate_right
          focus
            try contradiction
            all_goals
              simp only [Act.put, List.setIfInBounds_toArray, List.set_cons_succ, List.set_cons_zero]
              iterate 15
                refine Rob.no rfl rfl ?_
                simp only [Act.put, List.setIfInBounds_toArray, List.set_cons_succ, List.set_cons_zero]
              refine Rob.y (v := ?_) rfl rfl (fun w1 hx hH => ?_) ?_; rotate_left
              · go_simp; first | done | rfl | exact (Bool.not_not _).symm
              simp only [Act.put, List.setIfInBounds_toArray, List.set_cons_succ, List.set_cons_zero]
          all_goals
            refine fin_nil (fun w2 hx2 _ => ?_)
            have X2 := ext_trans X1 hx2
            try simp only [beq_iff_eq, Bool.not_eq_true, beq_eq_false_iff_ne, ne_eq, bne_iff_ne, bne_eq_false_iff_eq, decide_eq_true_eq, decide_eq_false_iff_not] at *
            go_wp2
            all_goals try (exfalso; omega)
            all_goals
              have hr := HR2.out
              first | rw [if_pos (by omega)] at hr | rw [if_neg (by omega)] at hr
              exact ⟨⟨k + 1, _, by omega, by go_num, rfl, by omega, by omega, X2, Lib.hid hr⟩, by simp [intOf]; omega⟩
    · obtain rfl : k = f.length := by omega
      rw [List.drop_length, openScan] at HR
      go_wp2
      all_goals
        go_ret2
        refine ⟨?_, hX⟩
        rw [← HR.out]
        simp
        try omega

/-- the scan of l3Old: from block i on, with the eldest one so far -/
def oldScan (f : List Block) : Nat → Nat → List Block → Nat
  | _, out, [] => out
  | i, out, b :: rest => oldScan f (i + 1) (if most b.pages < most ((f[out]?.map (·.pages)).getD []) then i else out) rest
def old (f : List Block) : Nat := oldScan f 1 0 (f.drop 1)
theorem oldScan_drop (f : List Block) (out : Nat) (k : Nat) (h : k < f.length) : oldScan f k out (f.drop k) = oldScan f (k + 1) (if most f[k].pages < most ((f[out]?.map (·.pages)).getD []) then k else out) (f.drop (k + 1)) := by
  rw [List.drop_eq_getElem_cons h]; rfl

set_option maxHeartbeats 1000000 in
theorem l3Old_c (v : Value) (f : List Block) (w : World) (h : Flash (Old w) w v f) (hn : f.length ≤ 1048576) (hp : ∀ b ∈ f, b.pages.length ≤ 1048576) :
    Calls Try.prog 119 #[v] w (Ret w (.int .i64 (old f))) := by
  obtain ⟨a, cap, rfl⟩ := h.form
  obtain ⟨A, hA⟩ : ∃ A, old f = A := ⟨_, rfl⟩
  rw [hA]
  unfold old at hA
  have HA := Lib.hid hA; clear hA
  have HP := Lib.hid hp; clear hp
  go_enter Try.func119, Try.ntmps119
  go_wp2
  go_loopw [3, 4] (fun n y wr => ∃ (k m : Nat), 1 ≤ k ∧ (k ≤ f.length ∨ k = 1) ∧ y = .int .i64 k ∧ n = .int .i64 m ∧ (m < f.length ∨ m = 0) ∧ Ext w wr ∧ Hid (oldScan f k m (f.drop k) = A)) (fun _ y _ => f.length - (intOf y).toNat)
  case atStart => exact ⟨1, 0, by omega, .inr rfl, rfl, rfl, .inr rfl, ext_refl _, HA⟩
  case round =>
    obtain ⟨k, m, hk1, hk, rfl, rfl, hm, hX, HR⟩ := hrel
    by_cases hlt : k < f.length
    · obtain ⟨b, o, pv, rfl, hb, hpp, h0, h1⟩ := h.at2 hlt
      have hm' : m < f.length := by omega
      obtain ⟨b2, o2, pv2, heq, hb2, hpp2, d0, d1⟩ := h.at2 hm'
      simp only [Option.some.injEq, Addr.mk.injEq, and_true] at heq
      obtain ⟨rfl, rfl⟩ := heq
      have hb' : b < w.heap.size := hb
      rw [oldScan_drop _ _ _ hlt, List.getElem?_eq_getElem hm'] at HR
      clear hm hk
      go_wp2_with fail
      refine wp_region_ext [4, 9] [0, 1, 2, 3, 5, 6, 7, 8, 4, 9, 10] [] [] (by kernel_rfl) (by kernel_rfl) ?late ?_
      case late => exact fun f hf => absurd hf List.not_mem_nil
      iterate 2
        refine Rob.y (v := ?_) rfl rfl (fun w1 hx hH => ?_) ?_; rotate_left
        · go_simp; first | done | rfl | exact (Bool.not_not _).symm
        simp only [Act.put, List.setIfInBounds_toArray, List.set_cons_succ, List.set_cons_zero]
      iterate 2
        refine Rob.y (v := ?_) rfl rfl (fun w1 hx hH => ?_) ?_; rotate_left
        · (obtain ⟨hcx, hfx⟩ := bcell (ext_trans hX hx)); go_simp; first | done | rfl
        simp only [Act.put, List.setIfInBounds_toArray, List.set_cons_succ, List.set_cons_zero]
      iterate 2
        refine Rob.y (v := ?_) rfl rfl (fun w1 hx hH => ?_) ?_; rotate_left
        · go_simp; first | done | rfl | exact (Bool.not_not _).symm
        simp only [Act.put, List.setIfInBounds_toArray, List.set_cons_succ, List.set_cons_zero]
      iterate 2
        refine Rob.y (v := ?_) rfl rfl (fun w1 hx hH => ?_) ?_; rotate_left
        · (obtain ⟨hcx, hfx⟩ := bcell (ext_trans hX hx)); go_simp; first | done | rfl
        simp only [Act.put, List.setIfInBounds_toArray, List.set_cons_succ, List.set_cons_zero]
      refine Rob.cv (.int .i64 (most f[k].pages)) rfl rfl rfl (fun _ _ => ext_trans) (fun w1 hx hH => ?_) (fun lo4 hi4 hlo4 hhi4 => ?_)
      · unfold RunTo; go_simp; exact (l3Most_c pv f[k].pages _ _ (hpp.ext (ext_trans hX hx)) (HP.out _ (List.getElem_mem _))).mono fun e w' h => h.to
      simp only [Act.put, List.setIfInBounds_toArray, List.set_cons_succ, List.set_cons_zero]
      refine Rob.cv (.int .i64 (most f[m].pages)) rfl rfl rfl (fun _ _ => ext_trans) (fun w1 hx hH => ?_) (fun lo9 hi9 hlo9 hhi9 => ?_)
      · unfold RunTo; go_simp; exact (l3Most_c pv2 f[m].pages _ _ (hpp2.ext (ext_trans hX hx)) (HP.out _ (List.getElem_mem _))).mono fun e w' h => h.to
      simp only [Act.put, List.setIfInBounds_toArray, List.set_cons_succ, List.set_cons_zero]
      refine Rob.y (v := ?_) rfl rfl (fun w1 hx hH => ?_) ?_; rotate_left
      · go_simp; first | done | rfl | exact (Bool.not_not _).symm
      simp only [Act.put, List.setIfInBounds_toArray, List.set_cons_succ, List.set_cons_zero]
      refine fin_nil (fun w2 hx2 _ => ?_)
      have X2 := ext_trans hX hx2
      go_wp2
      all_goals
        have hr := HR.out
        simp only [Option.map_some, Option.getD_some] at hr
        first | rw [if_pos (by omega)] at hr | rw [if_neg (by omega)] at hr
        exact ⟨⟨k + 1, _, by omega, .inl (by omega), by go_num, rfl, .inl (by omega), X2, Lib.hid hr⟩, by simp [intOf]; omega⟩
    · rw [List.drop_eq_nil_of_le (by omega), oldScan] at HR
      have hr := HR.out
      subst hr
      go_wp2
      go_ret
      exact ⟨rfl, hX⟩

def liveP (f : List Block) (p : Page) : Bool := p.state == 1 && recEq (last f p.r.addr) p.r

set_option maxHeartbeats 1000000 in
theorem l3Live_c (v : Value) (f : List Block) (p : Page) (w : World) (h : Flash (Old w) w v f) (hn : f.length ≤ 1048576) (hp : ∀ b ∈ f, b.pages.length ≤ 1048576) :
    Calls Try.prog 120 #[v, pageA p] w (Ret w (.bool (liveP f p))) := by
  have hq : liveP f p = (p.state == 1 && recEq (last f p.r.addr) p.r) := rfl
  have HQ := Lib.hid hq; clear hq
  have HP := Lib.hid hp; clear hp
  go_enter Try.func120, Try.ntmps120
  go_wp2_with (go_at_call 74; (with_reducible refine (l3Last_c v f p.r.addr _ (h.ext (ext_alloc (ext_refl _) _)) hn HP.out).mono ?_); rintro e1 w1 ⟨rfl, hx⟩; obtain ⟨hc, hf, hz, hX⟩ := after1 hx)
  all_goals
    go_ret
    try simp only [beq_iff_eq, Bool.not_eq_true, beq_eq_false_iff_ne, ne_eq, bne_iff_ne, bne_eq_false_iff_eq, decide_eq_true_eq, decide_eq_false_iff_not] at *
    refine ⟨by rw [HQ.out]; simp [recEq, *], by go_grown⟩
end Go.Bu
