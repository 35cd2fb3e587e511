/- The laws' copies of arguments into the program's types: toRec, toPage, .. -/
import Derived.Test.YtcgedfahgldkoaaOwn
import Derived.Test.YtcgedfahgldkoaaProg
import Derived.ProofKit
import Derived.KernelRfl
import Derived.Lib.Hide
import Derived.Deep.MidRow
import Derived.Laws.MakeOwn
set_option linter.unusedVariables false
set_option linter.unusedSimpArgs false
namespace Go.Bu
open Go Go.RowKit Go.Plan Go.Proofs

theorem toRec_c (r : Rec) (w : World) : Calls Try.prog 51 #[recA r] w (Ret w (recA r)) := by
  go_enter Try.func51, Try.ntmps51
  go_wp2
  refine bodyPost_ret (v := recA r) (by simp [results, Try.results51, go_sem]) rfl ⟨rfl, ?_⟩
  exact ext_alloc (ext_alloc (ext_alloc (ext_refl _) _) _) _

theorem toPage_c (p : Page) (w : World) : Calls Try.prog 117 #[pageA p] w (Ret w (pageA p)) := by
  go_enter Try.func117, Try.ntmps117
  go_wp2_with fail
  refine (toRec_c p.r _).mono ?_; rintro e1 w1 ⟨rfl, hx⟩
  obtain ⟨hc, hf, hz0, hz1, hz2, hX⟩ := after3 hx
  go_wp2
  refine bodyPost_ret (v := pageA p) (by simp [results, Try.results117, go_sem, hc, hf, hz0, hz1, hz2]) rfl ⟨rfl, ?_⟩
  ((repeat (first | with_reducible (refine ext_set2 ?_ ?_); focus (first | exact Nat.le_refl _ | (dsimp only; omega) | (simp; omega)) | with_reducible refine ext_alloc2 ?_)); with_reducible exact hX)

theorem toStep_c (s : Step) (w : World) : Calls Try.prog 35 #[stepA s] w (Ret w (stepA s)) := by
  go_enter Try.func35, Try.ntmps35
  go_wp2_with fail
  refine (toRec_c s.r _).mono ?_; rintro e1 w1 ⟨rfl, hx⟩
  obtain ⟨hc, hf, hz0, hz1, hz2, hX⟩ := after3 hx
  go_wp2
  refine bodyPost_ret (v := stepA s) (by simp [results, Try.results35, go_sem, hc, hf, hz0, hz1, hz2]) rfl ⟨rfl, ?_⟩
  ((repeat (first | with_reducible (refine ext_set2 ?_ ?_); focus (first | exact Nat.le_refl _ | (dsimp only; omega) | (simp; omega)) | with_reducible refine ext_alloc2 ?_)); with_reducible exact hX)

-- (not in this seat: function laws.toEvent)

theorem toStepS_c (v : Value) (xs : List Step) (w : World) (hp : Steps' (Old w) w v xs) (hn : xs.length ≤ 1048576) :
    Calls Try.prog 17 #[v] w (fun e w' => ∃ v', e = .returned v' ∧ Ext w w' ∧ OwnSl 8 stepC w' v' xs w.heap.size) := by
  obtain ⟨a, cap, rfl⟩ := hp.form
  have hmk := make_n (P := Try.prog) 36 54 (stepC ⟨0, 0, 0, 0, ⟨0, 0, 0, 0⟩⟩).toArray 8 64 Try.underlying36 (by kernel_rfl) xs.length (by omega) (by omega)
  go_enter Try.func17, Try.ntmps17
  go_wp2
  go_loopw [4] (fun i wr => ∃ k : Nat, k ≤ xs.length ∧ i = .int .i64 k ∧ Ext w wr ∧ Filled 8 stepC wr w.heap.size 54 (xs.length * 8) (xs.take k)) (fun i _ => xs.length - (intOf i).toNat)
  case atStart => exact ⟨0, Nat.zero_le _, rfl, ext_alloc (ext_refl _) _, Filled.made _ _ _ _⟩
  case round =>
    obtain ⟨k, hk, rfl, hx, hfl⟩ := hrel
    by_cases hlt : k < xs.length
    · obtain ⟨b, o, rfl, hb, h0, h1, h2, h3, h4, h5, h6, h7⟩ := (hp.ext hx).at8 hlt
      go_wp2_with fail
      refine (toStep_c xs[k] _).mono ?_; rintro e1 w1 ⟨rfl, hx1⟩
      have hfl1 := hfl.ext hx1
      have hl : (xs.take k).length = k := by simp; omega
      have hth := hfl1.there (o := k * 8) (m := 8) (by omega)
      have hF := Filled.snoc (n := 8) (enc := stepC) (fun _ => rfl) xs[k] hfl1 (by rw [hl]; omega)
      rw [hl, take_snoc xs k hlt] at hF
      have hX := ext_setAll (ext_trans hx hx1) (Nat.le_refl _) (k * 8) (stepC xs[k])
      have HF := Lib.hid hF; have HX := Lib.hid hX
      clear hF hX hfl1 hfl h0 h1 h2 h3 h4 h5 h6 h7
      go_wp2_with (refine wpList_store_mid rfl 54 _ _ rfl w.heap.size (k * 8) (stepC xs[k]).toArray rfl rfl hth (by kernel_rfl) (by simp [Value.oneCell']) ?_; change wpList _ _ _ _ _ (setAll w1 w.heap.size (k * 8) (stepC xs[k])); generalize setAll w1 w.heap.size (k * 8) (stepC xs[k]) = w2 at *)
      go_roundw
      case rel => exact ⟨k + 1, by omega, by go_num, HX.out, HF.out⟩
      case measure => simp [intOf]; omega
    · obtain rfl : k = xs.length := by omega
      go_wp2
      refine bodyPost_ret (v := .slice (some ⟨w.heap.size, 0, none⟩) xs.length xs.length) (by simp [results, Try.results17, go_sem]) rfl ⟨_, rfl, hx, ?_⟩
      rw [List.take_length] at hfl
      exact hfl.own rfl

-- (not in this seat: function laws.toEventS)