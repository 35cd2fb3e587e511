/- The law FnCostCut holds of every input. -/
import Derived.Test.YtggcomepaloneaaZ8
import Derived.Test.YtggcomepaloneaaZ7
set_option linter.unusedVariables false
set_option linter.unusedSimpArgs false
namespace Go.Bu
open Go Go.RowKit Go.Plan Go.Proofs

theorem cut_le (zs : List Step) (m : Nat) : (costOf (zs.take m)).writes ≤ (costOf zs).writes ∧ (costOf (zs.take m)).wipes ≤ (costOf zs).wipes ∧ (costOf (zs.take m)).disks ≤ (costOf zs).disks := by
  have h := costOf_app (zs.take m) (zs.drop m)
  rw [List.take_append_drop] at h
  obtain ⟨h1, _, h3, _, h5, _⟩ := costOf_bound (zs.drop m)
  rw [h]
  unfold costSum
  dsimp only
  omega
theorem one_torn (a : Int) (h1 : 1 ≤ a) (h6 : a ≤ 6) : runCost [⟨1, a, 1, 0, true⟩] = ⟨1, 0, 0⟩ ∧ runCost [⟨1, a, 1, 0, false⟩] = cost0 := by
  have he : ∀ x y : Cost, costEq x y = true → x = y := fun x y h => by
    simp only [costEq, Bool.and_eq_true, beq_iff_eq] at h
    obtain ⟨⟨h1, h2⟩, h3⟩ := h
    obtain ⟨a, b, c⟩ := x
    obtain ⟨d, e, f⟩ := y
    dsimp only at h1 h2 h3
    subst h1 h2 h3; rfl
  rcases (show a = 1 ∨ a = 2 ∨ a = 3 ∨ a = 4 ∨ a = 5 ∨ a = 6 by omega) with rfl | rfl | rfl | rfl | rfl | rfl <;> exact ⟨he _ _ (by decide +kernel), he _ _ (by decide +kernel)⟩
theorem events_one {w : World} {B : Nat} {e : Event} {T : TypeId} (h : w.heap[B]? = some (.cells #[.int .i64 e.kind, .int .i64 e.a, .int .i64 e.b, .int .i64 e.c, .bool e.torn] T (0, 0))) : Events (Old w) w (.slice (some ⟨B, 0, none⟩) 1 1) [e] := by
  refine ⟨_, _, rfl, fun i x hi => ?_⟩
  have : i = 0 := by have := (List.getElem?_eq_some_iff.1 hi).1; simp at this; omega
  subst this
  obtain rfl : e = x := by simpa using hi
  refine ⟨B, 0, eventC e, rfl, heap_lt h, rfl, fun j u hu => ?_⟩
  rw [cell_block h]
  simpa using hu

set_option maxRecDepth 20000 in
set_option maxHeartbeats 1000000 in
theorem lawCostCut (v : Value) (xs : List Nat) (u : Value) (ys : List Nat) (w : World) (h : Bytes (Old w) w v xs) (hs : ∀ x ∈ xs, x < 256) (hcap : ∀ a n c, v = .slice a n c → n ≤ c) (h2 : Bytes (Old w) w u ys) (_ : ∀ x ∈ ys, x < 256) (_ : ∀ a n c, u = .slice a n c → n ≤ c) :
    Calls Try.prog 8 #[v, u] w (Ret w (.bool true)) := by
  obtain ⟨a, cap, rfl⟩ := h.form
  obtain ⟨a2, cap2, rfl⟩ := h2.form
  by_cases hl : xs.length ≤ 1048576
  · by_cases hl2 : ys.length ≤ 1048576
    · go_enter Try.func8, Try.ntmps8
      go_wp2_with fail
      refine (drawCostOf_c _ xs _ h hs hl hcap).mono ?_; rintro e1 w1 ⟨v1, zs, rfl, hx1, hO, hz⟩
      obtain ⟨oa, ocap, rfl, hoc⟩ := hO.cap
      have hP := hO.steps
      go_wp2_with fail
      refine (implCostOf_c _ zs w1 hP (by omega)).mono ?_; rintro e2 w2 ⟨rfl, hx2⟩
      have X2 : Ext w w2 := ext_trans hx1 hx2
      have HP2 := Lib.hid (hP.ext hx2)
      have HE := Lib.hid (show ∀ c, costEq c c = true from fun c => by simp [costEq])
      clear hx1 hx2 hP hO
      go_wp2_with fail
      have G6 := hg_new (w := w2) (x := .cells #[.int .i64 (costOf zs).writes, .int .i64 (costOf zs).wipes, .int .i64 (costOf zs).disks] 26) (b := w2.heap.size) rfl
      have Y : Ext w2 (w2.alloc (.cells #[.int .i64 (costOf zs).writes, .int .i64 (costOf zs).wipes, .int .i64 (costOf zs).disks] 26)) := ext_alloc (ext_refl _) _
      replace X2 := ext_trans X2 Y
      replace HP2 := Lib.hid (Steps'.ext HP2.out Y)
      clear Y
      generalize w2.alloc (.cells #[.int .i64 (costOf zs).writes, .int .i64 (costOf zs).wipes, .int .i64 (costOf zs).disks] 26) = w3 at *
      refine wp_region_ext [2, 3] [0, 1, 2, 3, 4] [] [] (by kernel_rfl) (by kernel_rfl) ?late ?_
      case late => exact fun f hf => absurd hf List.not_mem_nil
      refine Rob.y (v := ?_) rfl rfl (fun w1 hx hH => ?_) ?_; rotate_left
      · (obtain ⟨p0, pf⟩ := cellsK (keep_ext hx G6)); go_simp; first | done | rfl
      simp only [Act.put, List.setIfInBounds_toArray, List.set_cons_succ, List.set_cons_zero]
      refine Rob.y (v := ?_) rfl rfl (fun w1 hx hH => ?_) ?_; rotate_left
      · go_simp; first | done | rfl | exact (Bool.not_not _).symm
      simp only [Act.put, List.setIfInBounds_toArray, List.set_cons_succ, List.set_cons_zero]
      refine Rob.cv (costA (costOf zs)) rfl rfl rfl (fun _ _ => ext_trans) (fun w1 hx hH => ?_) (fun lo2 hi2 hlo2 hhi2 => ?_)
      · unfold RunTo; go_simp; exact (specCostOf_c _ zs _ (Steps'.ext HP2.out hx) (by omega)).mono fun e w' h => h.to
      simp only [Act.put, List.setIfInBounds_toArray, List.set_cons_succ, List.set_cons_zero]
      refine Rob.cv (.bool true) rfl rfl rfl (fun _ _ => ext_trans) (fun w1 hx hH => ?_) (fun lo3 hi3 hlo3 hhi3 => ?_)
      · unfold RunTo; go_simp; exact (HE.out (costOf zs) ▸ lqCost_c (costOf zs) (costOf zs) _).mono fun e w' h => h.to
      simp only [Act.put, List.setIfInBounds_toArray, List.set_cons_succ, List.set_cons_zero]
      refine Rob.y (v := ?_) rfl rfl (fun w1 hx hH => ?_) ?_; rotate_left
      · go_simp; first | done | rfl | exact (Bool.not_not _).symm
      simp only [Act.put, List.setIfInBounds_toArray, List.set_cons_succ, List.set_cons_zero]
      refine fin_nil (fun w4 hx4 _ => ?_)
      replace G6 := keep_ext hx4 G6
      replace HP2 := Lib.hid (Steps'.ext HP2.out hx4)
      have X4 : Ext w w4 := ext_trans X2 hx4
      obtain ⟨m, hm, hmz⟩ : ∃ m : Nat, ((ys.length : Int) % ((zs.length : Int) + 1)) = m ∧ m ≤ zs.length := ⟨ys.length % (zs.length + 1), by push_cast; rfl, by have := Nat.mod_lt ys.length (show 0 < zs.length + 1 by omega); omega⟩
      have HT := Lib.hid (HP2.out.take m hmz)
      have hc1 : ∀ w' : World, (Instr.slice 45 (.slice oa zs.length ocap) none (some (.int .i64 m)) none).run Try.prog w' = .ok (.slice oa m ocap) w' := fun w' => by
        rw [run_slice_h w' 45 oa zs.length ocap (by kernel_rfl) .i64 m (by omega) (by omega)]
        rw [show (sizeOf (Try.prog.elem 45)).run Try.prog w' = .ok 8 w' by kernel_rfl]
        simp only [Result.andThen, sliced, Int.toNat_natCast, Nat.sub_zero]
        first | done | (split <;> simp [Addr.add])
      have HLE := Lib.hid (cut_le zs m)
      have HLC := Lib.hid (show (zs.take m).length ≤ 1048576 by rw [List.length_take]; omega)
      have l6 := heap_lt G6
      clear hx4 X2 HP2
      go_wp2_with fail
      refine (implCostOf_c _ (zs.take m) w4 HT.out HLC.out).mono ?_; rintro e5 w5 ⟨rfl, hx5⟩
      replace G6 := keep_ext hx5 G6
      replace X4 := ext_trans X4 hx5
      have hm0 : (0 : Int) ≤ (ys.length : Int) % 6 := by omega
      have hm1 : (ys.length : Int) % 6 < 6 := by omega
      have hrun := fun (t : Bool) (w' : World) (B : Nat) (hb : w'.heap[B]? = some (.cells #[.int .i64 1, .int .i64 (1 + (ys.length : Int) % 6), .int .i64 1, .int .i64 0, .bool t] 31 (0, 0))) =>
        implCostRun_c (.slice (some ⟨B, 0, none⟩) 1 1) [⟨1, 1 + (ys.length : Int) % 6, 1, 0, t⟩] w' (events_one (e := ⟨1, 1 + (ys.length : Int) % 6, 1, 0, t⟩) hb) (fun e he => by obtain rfl := List.mem_singleton.1 he; dsimp only; omega) (by simp)
      have hr1 := hrun true
      have hr2 := hrun false
      obtain ⟨o1, o2⟩ := one_torn (1 + (ys.length : Int) % 6) (by omega) (by omega)
      simp only [List.length_cons, List.length_nil, Nat.zero_add, show (1 : Nat) ≤ 60 from by omega, if_true, decide_true, o1, o2] at hr1 hr2
      have HR1 := Lib.hid hr1
      have HR2 := Lib.hid hr2
      have HN : Hid (∀ w', Calls Try.prog 12 #[costA ⟨1, 0, 0⟩, costA ⟨1, 0, 0⟩] w' (Ret w' (.bool true)) ∧ Calls Try.prog 12 #[costA cost0, costA cost0] w' (Ret w' (.bool true))) := Lib.hid fun w' => ⟨HE.out ⟨1, 0, 0⟩ ▸ lqCost_c ⟨1, 0, 0⟩ ⟨1, 0, 0⟩ w', HE.out cost0 ▸ lqCost_c cost0 cost0 w'⟩
      clear hrun hr1 hr2 o1 o2 hc1 hm HT HE HLC l6
      generalize costOf (zs.take m) = D at *
      generalize costOf zs = C at *
      obtain ⟨d1, d2, d3⟩ := D
      obtain ⟨c1, c2, c3⟩ := C
      obtain ⟨le1, le2, le3⟩ := HLE.out
      dsimp only at le1 le2 le3 G6
      clear HLE
      obtain ⟨g6, gf6⟩ := cellsK G6
      have l6 := heap_lt G6
      go_wp2_with fail
      refine Calls.mono (HR1.out _ _ ?_) ?_
      · exact hg_new (by simp)
      rintro e6 w6 ⟨rfl, hx6⟩
      have Y6 : Ext w5 w6 := ext_trans (ext_alloc (ext_alloc (ext_refl w5) _) _) hx6
      have G7 := keep_ext hx6 (hg_alloc (hg_new (w := w5) (x := .cells #[.int .i64 d1, .int .i64 d2, .int .i64 d3] 26) (b := w5.heap.size) rfl))
      replace G6 := keep_ext Y6 G6
      replace X4 := ext_trans X4 Y6
      clear hx6 Y6 g6 gf6 l6
      obtain ⟨g6, gf6⟩ := cellsK G6
      have l6 := heap_lt G6
      have l7 := heap_lt G7
      go_wp2_with fail
      refine Calls.mono (HR2.out _ _ ?_) ?_
      · exact hg_new (by simp)
      rintro e7 w7 ⟨rfl, hx7⟩
      have Y7 : Ext w6 w7 := ext_trans (ext_alloc (ext_alloc (ext_refl w6) _) _) hx7
      have G8 := keep_ext hx7 (hg_alloc (hg_new (w := w6) (x := .cells #[.int .i64 1, .int .i64 0, .int .i64 0] 26) (b := w6.heap.size) rfl))
      replace G6 := keep_ext Y7 G6
      replace G7 := keep_ext Y7 G7
      replace X4 := ext_trans X4 Y7
      clear hx7 Y7 g6 gf6 l6 l7 HR1 HR2
      obtain ⟨g6, gf6⟩ := cellsK G6
      obtain ⟨g7, gf7⟩ := cellsK G7
      obtain ⟨g8, gf8⟩ := cellsK G8
      have l6 := heap_lt G6
      have l7 := heap_lt G7
      have l8 := heap_lt G8
      go_wp2_with fail
      refine (HN.out _).1.mono ?_; rintro e8 w8 ⟨rfl, hx8⟩
      have Y8 : Ext w7 w8 := ext_trans (ext_alloc (ext_refl w7) _) hx8
      have G10 := keep_ext hx8 (hg_new (w := w7) (x := .cells #[.int .i64 cost0.writes, .int .i64 cost0.wipes, .int .i64 cost0.disks] 26) (b := w7.heap.size) rfl)
      replace X4 := ext_trans X4 Y8
      clear hx8 g6 gf6 g7 gf7 g8 gf8
      obtain ⟨g10, gf10⟩ := cellsK G10
      obtain ⟨g6, gf6⟩ := cellsK (keep_ext Y8 G6)
      obtain ⟨g7, gf7⟩ := cellsK (keep_ext Y8 G7)
      go_wp2_with fail
      refine (HN.out _).2.mono ?_; rintro e9 w9 ⟨rfl, hx9⟩
      go_wp2_with fail
      go_ret
      exact ⟨rfl, ext_trans X4 hx9⟩
    · go_enter Try.func8, Try.ntmps8
      go_wp2_with fail
      go_ret
      exact ⟨rfl, ext_refl _⟩
  · go_enter Try.func8, Try.ntmps8
    go_wp2_with fail
    all_goals
      go_ret
      exact ⟨rfl, ext_refl _⟩
end Go.Bu
