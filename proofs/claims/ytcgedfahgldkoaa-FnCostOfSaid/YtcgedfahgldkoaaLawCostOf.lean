/- The law FnCostOf holds of every input. -/
import Derived.Test.YtcgedfahgldkoaaDraw9
import Derived.Test.YtcgedfahgldkoaaCostLaw
set_option linter.unusedVariables false
set_option linter.unusedSimpArgs false
namespace Go.Bu
open Go Go.RowKit Go.Plan Go.Proofs

theorem Sl.drop {α : Type} {n : Nat} {E : Enc α} {D : Nat → Prop} {w : World} {a : Option Addr} {len cap : Nat} {xs : List α} (h : Sl n E D w (.slice a len cap) xs) (k : Nat) (hk : k ≤ xs.length) (hc : xs.length ≤ cap) : Sl n E D w (.slice (if cap = k then a else a.map (·.add (k * n))) (xs.length - k) (cap - k)) (xs.drop k) := by
  obtain ⟨a', cap', hv, hx⟩ := h
  injection hv with h1 h2 h3
  subst h1 h3
  refine ⟨_, _, by rw [List.length_drop], fun i x hi => ?_⟩
  rw [List.getElem?_drop] at hi
  have hil := (List.getElem?_eq_some_iff.1 hi).1
  obtain ⟨b, o, cs, ha, hb, he, hcl⟩ := hx _ _ hi
  refine ⟨b, o + k * n, cs, ?_, hb, he, fun j u hj => ?_⟩
  · rw [if_neg (by omega), ha]; simp [Addr.add]
  · have := hcl j u hj
    rw [show o + (k + i) * n + j = o + k * n + i * n + j by rw [Nat.add_mul]; omega] at this
    exact this
theorem Sl.none' {α : Type} {n : Nat} {E : Enc α} {D : Nat → Prop} (w : World) : Sl n E D w (.slice none 0 0) ([] : List α) := ⟨_, _, rfl, fun i x hi => by cases hi⟩
def toP (a : Option Addr) (cap k n : Nat) : Option Addr := if cap = k then a else a.map (·.add (k * n))

set_option maxRecDepth 20000 in
set_option maxHeartbeats 4000000 in
theorem lawCostOf (v : Value) (xs : List Nat) (u : Value) (ys : List Nat) (w : World) (h : Bytes (Old w) w v xs) (hs : ∀ x ∈ xs, x < 256) (hcap : ∀ a n c, v = .slice a n c → n ≤ c) (h2 : Bytes (Old w) w u ys) (_ : ∀ x ∈ ys, x < 256) (_ : ∀ a n c, u = .slice a n c → n ≤ c) :
    Calls Try.prog 7 #[v, u] w (Ret w (.bool true)) := by
  obtain ⟨a, cap, rfl⟩ := h.form
  obtain ⟨a2, cap2, rfl⟩ := h2.form
  by_cases hl : xs.length ≤ 1048576
  · by_cases hl2 : ys.length ≤ 1048576
    · go_enter Try.func7, Try.ntmps7
      go_wp2_with fail
      refine (drawCostOf_c _ xs _ h hs hl hcap).mono ?_; rintro e1 w1 ⟨v1, zs, rfl, hx1, hO, hz⟩
      obtain ⟨oa, ocap, rfl, hoc⟩ := hO.cap
      have hP := hO.steps
      go_wp2_with fail
      refine (implCostOf_c _ zs w1 hP (by omega)).mono ?_; rintro e2 w2 ⟨rfl, hx2⟩
      have X2 : Ext w w2 := ext_trans hx1 hx2
      have HP2 := Lib.hid (hP.ext hx2)
      have G6 : ∀ T, (w2.alloc (.cells #[.int .i64 (costOf zs).writes, .int .i64 (costOf zs).wipes, .int .i64 (costOf zs).disks] T)).heap[w2.heap.size]? = some (.cells #[.int .i64 (costOf zs).writes, .int .i64 (costOf zs).wipes, .int .i64 (costOf zs).disks] T) := fun T => alloc_get_new rfl
      have HB := Lib.hid (costOf_bound zs)
      have hE : ∀ c, costEq c c = true := fun c => by simp [costEq]
      have HE := Lib.hid hE; clear hE
      clear hx1 hx2 hP hO
      go_wp2_with fail
      refine wp_region_ext [2, 3] [0, 1, 2, 3, 4] [] [] (by kernel_rfl) (by kernel_rfl) ?late ?_
      case late => exact fun f hf => absurd hf List.not_mem_nil
      refine Rob.y (v := ?_) rfl rfl (fun w1 hx hH => ?_) ?_; rotate_left
      · (obtain ⟨p0, p1, p2, pf⟩ := cellsC (keep_ext hx (G6 _))); go_simp; first | done | rfl
      simp only [Act.put, List.setIfInBounds_toArray, List.set_cons_succ, List.set_cons_zero]
      refine Rob.y (v := ?_) rfl rfl (fun w1 hx hH => ?_) ?_; rotate_left
      · go_simp; first | done | rfl | exact (Bool.not_not _).symm
      simp only [Act.put, List.setIfInBounds_toArray, List.set_cons_succ, List.set_cons_zero]
      refine Rob.cv (costA (costOf zs)) rfl rfl rfl (fun _ _ => ext_trans) (fun w1 hx hH => ?_) (fun lo2 hi2 hlo2 hhi2 => ?_)
      · unfold RunTo; go_simp; exact (specCostOf_c _ zs _ (HP2.out.ext (ext_trans (ext_alloc (ext_refl _) _) hx)) (by omega)).mono fun e w' h => h.to
      simp only [Act.put, List.setIfInBounds_toArray, List.set_cons_succ, List.set_cons_zero]
      refine Rob.cv (.bool true) rfl rfl rfl (fun _ _ => ext_trans) (fun w1 hx hH => ?_) (fun lo3 hi3 hlo3 hhi3 => ?_)
      · unfold RunTo; go_simp; exact (HE.out (costOf zs) ▸ lqCost_c (costOf zs) (costOf zs) _).mono fun e w' h => h.to
      simp only [Act.put, List.setIfInBounds_toArray, List.set_cons_succ, List.set_cons_zero]
      refine Rob.y (v := ?_) rfl rfl (fun w1 hx hH => ?_) ?_; rotate_left
      · go_simp; first | done | rfl | exact (Bool.not_not _).symm
      simp only [Act.put, List.setIfInBounds_toArray, List.set_cons_succ, List.set_cons_zero]
      refine fin_nil (fun w3 hx3 _ => ?_)
      replace G6 := keep_ext hx3 (G6 _)
      have HP3 := Lib.hid (HP2.out.ext (ext_trans (ext_alloc (ext_refl _) _) hx3))
      have X3 : Ext w w3 := ext_trans (ext_alloc X2 _) hx3
      have l6 := heap_lt G6
      clear hx3 HP2 X2
      go_wp2_with fail
      go_loop [7, 8] (fun ny iy => ∃ (k : Nat) (c : Cost), k ≤ zs.length ∧ iy = .int .i64 k ∧ ny = .int .i64 (costN c) ∧ Hid (c = costOf (zs.take k)) ∧ 0 ≤ costN c ∧ costN c ≤ k) (fun _ iy => zs.length - (intOf iy).toNat)
      case atStart => exact ⟨0, cost0, by omega, rfl, rfl, Lib.hid rfl, by decide, by decide⟩
      case round =>
        obtain ⟨k, c, hk, rfl, rfl, HC, c0, c1⟩ := hrel
        by_cases hlt : k < zs.length
        · obtain ⟨b, o, rfl, hb, e0, e1, e2, e3, e4, e5, e6, e7⟩ := HP3.out.at8 hlt
          have HT := Lib.hid (costOf_take zs k hlt)
          have HN := Lib.hid (costN_step c zs[k])
          clear e1 e2 e3 e4 e5 e6 e7
          go_wp2_with fail
          all_goals
            try simp only [beq_iff_eq, Bool.not_eq_true, beq_eq_false_iff_ne, ne_eq, bne_iff_ne, bne_eq_false_iff_eq, decide_eq_true_eq, decide_eq_false_iff_not] at *
            have hn := HN.out
            first
            | (rw [if_pos (by omega)] at hn; refine ⟨⟨k + 1, costStep c zs[k], by omega, by go_num, by rw [hn], Lib.hid (by rw [HT.out, ← HC.out]), by omega, by omega⟩, by simp [intOf]; omega⟩)
            | (rw [if_neg (by omega)] at hn; refine ⟨⟨k + 1, costStep c zs[k], by omega, by go_num, by rw [hn, Int.add_zero], Lib.hid (by rw [HT.out, ← HC.out]), by omega, by omega⟩, by simp [intOf]; omega⟩)
        · obtain rfl : k = zs.length := by omega
          have HC0 : c = costOf zs := by have h := HC.out; rwa [List.take_length] at h
          subst HC0
          obtain ⟨m, hm, hmz⟩ : ∃ m : Nat, ((ys.length : Int) % ((zs.length : Int) + 1)) = m ∧ m ≤ zs.length := ⟨ys.length % (zs.length + 1), by push_cast; rfl, by have := Nat.mod_lt ys.length (show 0 < zs.length + 1 by omega); omega⟩
          have HM := Lib.hid hm
          have HCUT := Lib.hid (costOf_cut zs m (by omega))
          have hT := HP3.out.take m hmz
          have hD := Sl.drop HP3.out m hmz hoc
          have HT := Lib.hid hT
          have HD : Hid (Steps' (Old w3) w3 (.slice (toP oa ocap m 8) (zs.length - m) (ocap - m)) (zs.drop m)) := Lib.hid hD
          have hc1 : ∀ w' : World, (Instr.slice 36 (.slice oa zs.length ocap) none (some (.int .i64 m)) none).run Try.prog w' = .ok (.slice oa m ocap) w' := fun w' => by
            rw [run_slice_h w' 36 oa zs.length ocap (by kernel_rfl) .i64 m (by omega) (by omega)]
            rw [show (sizeOf (Try.prog.elem 36)).run Try.prog w' = .ok 8 w' by kernel_rfl]
            simp only [Result.andThen, sliced, toP, Int.toNat_natCast, Nat.sub_zero]
            first | done | (split <;> simp [Addr.add])
          have hc2 : ∀ w' : World, (Instr.slice 36 (.slice oa zs.length ocap) (some (.int .i64 m)) none none).run Try.prog w' = .ok (.slice (toP oa ocap m 8) (zs.length - m) (ocap - m)) w' := fun w' => by
            rw [run_slice_l w' 36 oa zs.length ocap (by kernel_rfl) .i64 m (by omega) (by omega)]
            rw [show (sizeOf (Try.prog.elem 36)).run Try.prog w' = .ok 8 w' by kernel_rfl]
            simp only [Result.andThen, sliced, toP, Int.toNat_natCast, Nat.sub_zero]
            first | done | (split <;> simp [Addr.add])
          have hsum : (costOf zs).writes + (costOf zs).wipes + (costOf zs).disks = costN (costOf zs) := rfl
          have HS := Lib.hid hsum
          obtain ⟨b0, b1, b2, b3, b4, b5⟩ := HB.out
          have HW1 := Lib.hid (IntWalk.i64_in ((costOf zs).writes + (costOf zs).wipes) (by omega))
          have HW2 := Lib.hid (IntWalk.i64_in ((costOf zs).writes + (costOf zs).wipes + (costOf zs).disks) (by omega))
          clear hm hT hD hsum HB HC
          generalize costOf zs = cz at *
          obtain ⟨z0, z1, z2⟩ := cz
          dsimp only at b0 b1 b2 b3 b4 b5 c0 c1 G6 HS HW1 HW2
          generalize costN ⟨z0, z1, z2⟩ = nz at *
          obtain rfl := HS.out
          go_wp2_with fail
          rw [HM.out]
          refine wp_region_ext [14, 18, 19, 21, 24, 26] [0, 1, 2, 3, 4, 5, 6, 7, 8, 9, 10, 11, 12, 13, 15, 16, 17, 20, 14, 18, 19, 21, 22, 23, 25, 24, 26, 27, 28] [] [] (by kernel_rfl) (by kernel_rfl) ?late ?_
          case late => exact fun f hf => absurd hf List.not_mem_nil
          refine Rob.y (v := ?_) rfl rfl (fun w1 hx hH => ?_) ?_; rotate_left
          · go_simp; first | done | rfl | exact (Bool.not_not _).symm
          simp only [Act.put, List.setIfInBounds_toArray, List.set_cons_succ, List.set_cons_zero]
          refine Rob.y (v := ?_) rfl rfl (fun w1 hx hH => ?_) ?_; rotate_left
          · (obtain ⟨p0, p1, p2, pf⟩ := cellsC (keep_ext hx G6)); go_simp; first | done | rfl
          simp only [Act.put, List.setIfInBounds_toArray, List.set_cons_succ, List.set_cons_zero]
          refine Rob.y (v := ?_) rfl rfl (fun w1 hx hH => ?_) ?_; rotate_left
          · go_simp; first | done | rfl | exact (Bool.not_not _).symm
          simp only [Act.put, List.setIfInBounds_toArray, List.set_cons_succ, List.set_cons_zero]
          refine Rob.y (v := ?_) rfl rfl (fun w1 hx hH => ?_) ?_; rotate_left
          · (obtain ⟨p0, p1, p2, pf⟩ := cellsC (keep_ext hx G6)); go_simp; first | done | rfl
          simp only [Act.put, List.setIfInBounds_toArray, List.set_cons_succ, List.set_cons_zero]
          iterate 2
            refine Rob.y (v := ?_) rfl rfl (fun w1 hx hH => ?_) ?_; rotate_left
            · go_simp; first | done | rfl | exact (Bool.not_not _).symm
            simp only [Act.put, List.setIfInBounds_toArray, List.set_cons_succ, List.set_cons_zero]
          refine Rob.y (v := ?_) rfl rfl (fun w1 hx hH => ?_) ?_; rotate_left
          · (obtain ⟨p0, p1, p2, pf⟩ := cellsC (keep_ext hx G6)); go_simp; first | done | rfl
          simp only [Act.put, List.setIfInBounds_toArray, List.set_cons_succ, List.set_cons_zero]
          iterate 2
            refine Rob.y (v := ?_) rfl rfl (fun w1 hx hH => ?_) ?_; rotate_left
            · go_simp; first | done | rfl | exact (Bool.not_not _).symm
            simp only [Act.put, List.setIfInBounds_toArray, List.set_cons_succ, List.set_cons_zero]
          refine Rob.y (v := .bool true) rfl rfl (fun w1 hx hH => ?_) ?_
          · go_simp; rw [HW1.out, HW2.out]
          simp only [Act.put, List.setIfInBounds_toArray, List.set_cons_succ, List.set_cons_zero]
          refine Rob.y (v := ?_) rfl rfl (fun w1 hx hH => ?_) ?_; rotate_left
          · go_simp; first | done | rfl | exact (Bool.not_not _).symm
          simp only [Act.put, List.setIfInBounds_toArray, List.set_cons_succ, List.set_cons_zero]
          iterate 2
            refine Rob.yg (v := ?_) rfl rfl (fun w1 hx hH => ?_) ?_; rotate_left
            · go_simp; first | done | rfl | exact (Bool.not_not _).symm
            simp only [Act.put, List.setIfInBounds_toArray, List.set_cons_succ, List.set_cons_zero]
          refine Rob.yg (v := ?_) rfl rfl (fun w1 hx hH => ?_) ?_; rotate_left
          · (obtain ⟨p0, p1, p2, pf⟩ := cellsC (keep_ext hx G6)); go_simp; first | done | rfl
          simp only [Act.put, List.setIfInBounds_toArray, List.set_cons_succ, List.set_cons_zero]
          iterate 2
            refine Rob.yg (v := ?_) rfl rfl (fun w1 hx hH => ?_) ?_; rotate_left
            · go_simp; first | done | rfl | exact (Bool.not_not _).symm
            simp only [Act.put, List.setIfInBounds_toArray, List.set_cons_succ, List.set_cons_zero]
          iterate 2
            refine Rob.yg (v := ?_) rfl rfl (fun w1 hx hH => ?_) ?_; rotate_left
            · (obtain ⟨p0, p1, p2, pf⟩ := cellsC (keep_ext hx G6)); go_simp; first | done | rfl
            simp only [Act.put, List.setIfInBounds_toArray, List.set_cons_succ, List.set_cons_zero]
          refine Rob.cv (costA (costOf (zs.take m))) rfl rfl rfl (fun _ _ => ext_trans) (fun w1 hx hH => ?_) (fun lo14 hi14 hlo14 hhi14 => ?_)
          · unfold RunTo; go_simp; exact (implCostOf_c _ _ _ (Steps'.ext HT.out hx) (by simp; omega)).mono fun e w' h => h.to
          simp only [Act.put, List.setIfInBounds_toArray, List.set_cons_succ, List.set_cons_zero]
          refine Rob.cv (costA (costOf (zs.drop m))) rfl rfl rfl (fun _ _ => ext_trans) (fun w1 hx hH => ?_) (fun lo18 hi18 hlo18 hhi18 => ?_)
          · unfold RunTo; go_simp; exact (implCostOf_c _ _ _ (Steps'.ext HD.out hx) (by simp; omega)).mono fun e w' h => h.to
          simp only [Act.put, List.setIfInBounds_toArray, List.set_cons_succ, List.set_cons_zero]
          refine Rob.cv (costA ⟨z0, z1, z2⟩) rfl rfl rfl (fun _ _ => ext_trans) (fun w1 hx hH => ?_) (fun lo19 hi19 hlo19 hhi19 => ?_)
          · unfold RunTo; go_simp; exact (HCUT.out ▸ implCostAdd_c _ _ _).mono fun e w' h => h.to
          simp only [Act.put, List.setIfInBounds_toArray, List.set_cons_succ, List.set_cons_zero]
          refine Rob.cv (.bool true) rfl rfl rfl (fun _ _ => ext_trans) (fun w1 hx hH => ?_) (fun lo21 hi21 hlo21 hhi21 => ?_)
          · unfold RunTo; go_simp; exact (HE.out ⟨z0, z1, z2⟩ ▸ lqCost_c ⟨z0, z1, z2⟩ ⟨z0, z1, z2⟩ _).mono fun e w' h => h.to
          simp only [Act.put, List.setIfInBounds_toArray, List.set_cons_succ, List.set_cons_zero]
          refine Rob.y (v := .bool true) rfl rfl (fun w1 hx hH => ?_) ?_
          · go_simp
          simp only [Act.put, List.setIfInBounds_toArray, List.set_cons_succ, List.set_cons_zero]
          refine Rob.y (v := ?_) rfl rfl (fun w1 hx hH => ?_) ?_; rotate_left
          · go_simp; first | done | rfl | exact (Bool.not_not _).symm
          simp only [Act.put, List.setIfInBounds_toArray, List.set_cons_succ, List.set_cons_zero]
          refine Rob.yg (v := ?_) rfl rfl (fun w1 hx hH => ?_) ?_; rotate_left
          · go_simp; first | done | rfl | exact (Bool.not_not _).symm
          simp only [Act.put, List.setIfInBounds_toArray, List.set_cons_succ, List.set_cons_zero]
          refine Rob.cv (costA cost0) rfl rfl rfl (fun _ _ => ext_trans) (fun w1 hx hH => ?_) (fun lo24 hi24 hlo24 hhi24 => ?_)
          · unfold RunTo; go_simp; exact (implCostOf_c _ [] _ (Sl.none' _) (by simp)).mono fun e w' h => h.to
          simp only [Act.put, List.setIfInBounds_toArray, List.set_cons_succ, List.set_cons_zero]
          refine Rob.cv (.bool true) rfl rfl rfl (fun _ _ => ext_trans) (fun w1 hx hH => ?_) (fun lo26 hi26 hlo26 hhi26 => ?_)
          · unfold RunTo; go_simp; exact (HE.out cost0 ▸ lqCost_c cost0 cost0 _).mono fun e w' h => h.to
          simp only [Act.put, List.setIfInBounds_toArray, List.set_cons_succ, List.set_cons_zero]
          refine Rob.y (v := .bool true) rfl rfl (fun w1 hx hH => ?_) ?_
          · go_simp
          simp only [Act.put, List.setIfInBounds_toArray, List.set_cons_succ, List.set_cons_zero]
          refine Rob.y (v := ?_) rfl rfl (fun w1 hx hH => ?_) ?_; rotate_left
          · go_simp; first | done | rfl | exact (Bool.not_not _).symm
          simp only [Act.put, List.setIfInBounds_toArray, List.set_cons_succ, List.set_cons_zero]
          refine fin_nil (fun w4 hx4 _ => ?_)
          go_wp2_with fail
          go_ret
          exact ⟨rfl, ext_trans X3 hx4⟩
    · go_enter Try.func7, Try.ntmps7
      go_wp2_with fail
      go_ret
      exact ⟨rfl, ext_refl _⟩
  · go_enter Try.func7, Try.ntmps7
    go_wp2_with fail
    all_goals
      go_ret
      exact ⟨rfl, ext_refl _⟩
end Go.Bu
