/- The readers of bytes that the laws' inputs are drawn by: l6Open, pick; a world in which some blocks have turned. -/
import Derived.Test.YtcainddboblpbaaOwn
import Derived.Test.YtcainddboblpbaaProg
import Derived.ProofKit
import Derived.KernelRfl
import Derived.Lib.Hide
set_option linter.unusedVariables false
set_option linter.unusedSimpArgs false
namespace Go.Bu
open Go Go.RowKit Go.Plan Go.Proofs

/-- only the blocks of L, and new ones, have turned -/
structure Chg (L : List Nat) (w w' : World) : Prop where
  os : w'.os = w.os
  tape : w'.tape = w.tape
  output : w'.output = w.output
  size : w.heap.size ≤ w'.heap.size
  block : ∀ k, k < w.heap.size → k ∉ L → w'.heap[k]? = w.heap[k]?

theorem Chg.refl (L : List Nat) (w : World) : Chg L w w := ⟨rfl, rfl, rfl, Nat.le_refl _, fun _ _ _ => rfl⟩
theorem Chg.trans {L : List Nat} {a b c : World} (h : Chg L a b) (k : Chg L b c) : Chg L a c :=
  ⟨k.os.trans h.os, k.tape.trans h.tape, k.output.trans h.output, Nat.le_trans h.size k.size, fun i hi hn => (k.block i (Nat.lt_of_lt_of_le hi h.size) hn).trans (h.block i hi hn)⟩
theorem Chg.of_ext {L : List Nat} {a b : World} (h : Ext a b) : Chg L a b := ⟨h.os, h.tape, h.output, h.size, fun i hi _ => h.block i hi⟩
theorem Chg.mono {L L' : List Nat} {a b : World} (h : Chg L a b) (hL : ∀ x ∈ L, x ∈ L') : Chg L' a b := ⟨h.os, h.tape, h.output, h.size, fun i hi hn => h.block i hi fun hm => hn (hL i hm)⟩
theorem Chg.set {L : List Nat} {a b : World} (h : Chg L a b) {p : Addr} (hp : p.block ∈ L ∨ a.heap.size ≤ p.block) (u : Value) : Chg L a (b.setCell p u) := by
  refine ⟨h.os, h.tape, h.output, by rw [setCell_size]; exact h.size, fun k hk hn => ?_⟩
  have hkp : k ≠ p.block := by
    rintro rfl
    rcases hp with hp | hp
    · exact hn hp
    · omega
  rw [Below.heap_setCell _ _ _ _ hkp]; exact h.block k hk hn
theorem Chg.alloc {L : List Nat} {a b : World} (h : Chg L a b) (o : Obj) : Chg L a (b.alloc o) := h.trans (Chg.of_ext (ext_alloc (ext_refl _) _))
theorem Chg.ext {L : List Nat} {w0 a b : World} (h0 : Ext w0 a) (h : Chg L a b) (hL : ∀ x ∈ L, w0.heap.size ≤ x) : Ext w0 b :=
  h0.trans ⟨h.os, h.tape, h.output, h.size, fun k hk => h.block k (Nat.lt_of_lt_of_le hk h0.size) fun hm => by have := hL k hm; omega⟩


/-- a reader: its block, its bytes, how far it is -/
structure Rd (w : World) (R : Nat) (bv : Value) (xs : List Nat) (p : Nat) : Prop where
  cells : w.heap[R]? = some (.cells #[bv, .int .i64 p] 91 (0, 0))
  bytes : Sl 1 (plain fun n : Nat => [.int .u8 n]) (fun b => b < R) w bv xs
  small : ∀ x ∈ xs, x < 256
  len : xs.length ≤ 2000

theorem Rd.next {w w' : World} {R : Nat} {bv : Value} {xs : List Nat} {p : Nat} (h : Rd w R bv xs p) (hx : Ext (w.setCell ⟨R, 1, none⟩ (.int .i64 ((p : Int) + 1))) w') : Chg [R] w w' ∧ Rd w' R bv xs (p + 1) := by
  have hlt : R < w.heap.size := heap_lt h.cells
  have hc : Chg [R] w w' := ((Chg.refl [R] w).set (p := ⟨R, 1, none⟩) (.inl (by simp)) _).trans (Chg.of_ext hx)
  refine ⟨hc, ?_, ?_, h.small, h.len⟩
  · rw [hx.block R (by rw [setCell_size]; exact hlt), setCell_block h.cells]
    rfl
  · exact Sl.same (plain_kept _) h.bytes (fun b hb => hc.block b (Nat.lt_trans hb hlt) (by simpa using Nat.ne_of_lt hb)) (fun b hb => hb)

theorem xor_i64_nat (a b : Nat) (ha : a < 4611686018427387904) (hb : b < 4611686018427387904) : bits .xor .i64 (a : Int) (b : Int) = ((a ^^^ b : Nat) : Int) := by
  have h := Nat.xor_lt_two_pow (n := 62) ha hb
  simp only [bits, BitVec.ofInt_natCast, BitVec.toNat_xor, BitVec.toNat_ofNat]
  rw [Nat.mod_eq_of_lt (show a < 2 ^ IntKind.i64.bits by simp [IntKind.bits]; omega), Nat.mod_eq_of_lt (show b < 2 ^ IntKind.i64.bits by simp [IntKind.bits]; omega), IntKind.wrap_i64]
  omega

set_option maxHeartbeats 1000000 in
theorem pick_c (R : Nat) (bv : Value) (xs : List Nat) (p : Nat) (m : Int) (w : World) (h : Rd w R bv xs p) (hp : p ≤ 1000000) (hm : m ≤ 1000000) :
    Calls Try.prog 53 #[.pointer (some ⟨R, 0, none⟩), .int .i64 m] w (fun e w' => ∃ r : Int, e = .returned (.int .i64 r) ∧ 0 ≤ r ∧ (0 < m → r < m) ∧ Chg [R] w w' ∧ Rd w' R bv xs (p + 1)) := by
  have hRd : ∀ w', Ext (w.setCell ⟨R, 1, none⟩ (.int .i64 ((p : Int) + 1))) w' → Chg [R] w w' ∧ Rd w' R bv xs (p + 1) := fun w' hx => h.next hx
  have HRD := Lib.hid hRd; clear hRd
  obtain ⟨hR, hB, hS, hL⟩ := h
  obtain ⟨a, cap, rfl⟩ := hB.form
  have c0 : w.cell? ⟨R, 0, none⟩ = some (.slice a xs.length cap) := by rw [cell_block hR]; rfl
  have c1 : w.cell? ⟨R, 1, none⟩ = some (.int .i64 p) := by rw [cell_block hR]; rfl
  have f1 := frozen_block hR 1
  by_cases hm1 : m < 1
  · go_enter Try.func53, Try.ntmps53
    set_option maxRecDepth 20000 in
    go_wp2_with fail
    go_ret
    exact ⟨0, rfl, by omega, by omega, HRD.out _ (ext_refl _)⟩
  by_cases hl : xs.length = 0
  · have hlb : (((xs.length : Nat) : Int) == 0) = true := by simp [hl]
    clear hl
    go_enter Try.func53, Try.ntmps53
    set_option maxRecDepth 20000 in
    go_wp2_with fail
    go_ret
    exact ⟨0, rfl, by omega, fun h => h, HRD.out _ (ext_refl _)⟩
  have hlb : (((xs.length : Nat) : Int) == 0) = false := by simp only [beq_eq_false_iff_ne]; omega
  have hby0 : ∃ b o, a = some ⟨b, o, none⟩ ∧ b ≠ R ∧ ∀ (k : Nat) (hk : k < xs.length), w.cell? ⟨b, o + k, none⟩ = some (.int .u8 xs[k]) := by
    obtain ⟨b, o, ha, hb, _⟩ := Sl.at hB (k := 0) (by omega)
    refine ⟨b, o, ha, Nat.ne_of_lt hb, fun k hk => ?_⟩
    obtain ⟨b', o', ha', hb', hc'⟩ := Sl.at hB hk
    rw [ha] at ha'
    simp only [Option.some.injEq, Addr.mk.injEq] at ha'
    obtain ⟨rfl, rfl, -⟩ := ha'
    have := hc' 0 _ rfl
    simpa using this
  obtain ⟨b, o, rfl, hbR, hby⟩ := hby0
  have HB := Lib.hid hby; clear hby hB
  by_cases hpl : p < xs.length
  · have hx := HB.out p hpl
    have hxs := hS _ (List.getElem_mem hpl)
    have HS := Lib.hid hS; clear hS
    go_enter Try.func53, Try.ntmps53
    set_option maxRecDepth 20000 in
    go_wp2_with fail
    go_ret
    exact ⟨_, rfl, Int.emod_nonneg _ (by omega), fun h => Int.emod_lt_of_pos _ h, HRD.out _ (ext_refl _)⟩
  · obtain ⟨n, hn⟩ : ∃ n, n = xs.length := ⟨_, rfl⟩
    obtain ⟨i1, hi1⟩ : ∃ i, i = p % xs.length := ⟨_, rfl⟩
    obtain ⟨i2, hi2⟩ : ∃ i, i = (p * 7 + 3) % xs.length := ⟨_, rfl⟩
    obtain ⟨q, hq⟩ : ∃ i, i = p / xs.length := ⟨_, rfl⟩
    have hl1 : i1 < xs.length := by rw [hi1]; exact Nat.mod_lt _ (by omega)
    have hl2 : i2 < xs.length := by rw [hi2]; exact Nat.mod_lt _ (by omega)
    have hqp : q ≤ p := by rw [hq]; exact Nat.div_le_self _ _
    have hx1 := HB.out i1 hl1
    have hx2 := HB.out i2 hl2
    have hs1 := hS _ (List.getElem_mem hl1)
    have hs2 := hS _ (List.getElem_mem hl2)
    have HS := Lib.hid hS; clear hS
    have H1 := Lib.hid hi1; have H2 := Lib.hid hi2; have HQ := Lib.hid hq
    clear hi1 hi2 hq
    have E1 : Hid ((p : Int).tmod (xs.length : Int) = (i1 : Int)) := Lib.hid (by rw [H1.out]; simp [Int.tmod_eq_emod_of_nonneg])
    have E2 : Hid (((p : Int) * 7 + 3).tmod (xs.length : Int) = (i2 : Int)) := Lib.hid (by rw [H2.out, Int.tmod_eq_emod_of_nonneg (by omega)]; simp)
    have E3 : Hid ((p : Int) / (xs.length : Int) = (q : Int)) := Lib.hid (by rw [HQ.out]; simp)
    have C0 : (w.setCell ⟨R, 1, none⟩ (.int .i64 ((p : Int) + 1))).cell? ⟨R, 0, none⟩ = some (.slice (some ⟨b, o, none⟩) xs.length cap) := by rw [cell_block (setCell_block hR)]; rfl
    have C1 : (w.setCell ⟨R, 1, none⟩ (.int .i64 ((p : Int) + 1))).cell? ⟨b, o + i1, none⟩ = some (.int .u8 xs[i1]) := by rw [← hx1]; unfold World.cell?; rw [setCell_other hbR]
    have C2 : (w.setCell ⟨R, 1, none⟩ (.int .i64 ((p : Int) + 1))).cell? ⟨b, o + i2, none⟩ = some (.int .u8 xs[i2]) := by rw [← hx2]; unfold World.cell?; rw [setCell_other hbR]
    go_enter Try.func53, Try.ntmps53
    set_option maxRecDepth 20000 in
    go_wp2_with fail
    refine wp_region_ext [] [0, 1, 2, 3, 4, 5, 6, 7, 8, 9, 10, 11, 12, 13, 14, 15, 16, 17, 18, 19, 20, 21, 22, 23, 24, 25, 26, 27, 28, 29, 30, 31, 32, 33, 34, 35, 36, 37, 38, 39, 40, 41, 42, 43, 44, 45] [] [] (by kernel_rfl) (by kernel_rfl) ?late ?_
    case late => exact fun f hf => absurd hf List.not_mem_nil
    refine Rob.y (v := ?_) rfl rfl (fun w1 hx hH => ?_) ?_; rotate_left
    · go_simp; first | done | rfl | exact (Bool.not_not _).symm
    simp only [Act.put, List.setIfInBounds_toArray, List.set_cons_succ, List.set_cons_zero]
    refine Rob.y (v := ?_) rfl rfl (fun w1 hx hH => ?_) ?_; rotate_left
    · (have d0 := cell_ext hx C0; have d1 := cell_ext hx C1; have d2 := cell_ext hx C2); go_simp; first | done | rfl
    simp only [Act.put, List.setIfInBounds_toArray, List.set_cons_succ, List.set_cons_zero]
    refine Rob.y (v := ?_) rfl rfl (fun w1 hx hH => ?_) ?_; rotate_left
    · go_simp; first | done | rfl | exact (Bool.not_not _).symm
    simp only [Act.put, List.setIfInBounds_toArray, List.set_cons_succ, List.set_cons_zero]
    refine Rob.y (v := ?_) rfl rfl (fun w1 hx hH => ?_) ?_; rotate_left
    · (have d0 := cell_ext hx C0; have d1 := cell_ext hx C1; have d2 := cell_ext hx C2); go_simp; first | done | rfl
    simp only [Act.put, List.setIfInBounds_toArray, List.set_cons_succ, List.set_cons_zero]
    iterate 2
      refine Rob.y (v := ?_) rfl rfl (fun w1 hx hH => ?_) ?_; rotate_left
      · go_simp; first | done | rfl | exact (Bool.not_not _).symm
      simp only [Act.put, List.setIfInBounds_toArray, List.set_cons_succ, List.set_cons_zero]
    refine Rob.y (v := ?_) rfl rfl (fun w1 hx hH => ?_) ?_; rotate_left
    · (have d0 := cell_ext hx C0; have d1 := cell_ext hx C1; have d2 := cell_ext hx C2); go_simp; first | done | rfl
    simp only [Act.put, List.setIfInBounds_toArray, List.set_cons_succ, List.set_cons_zero]
    refine Rob.y (v := ?_) rfl rfl (fun w1 hx hH => ?_) ?_; rotate_left
    · go_simp; first | done | rfl | exact (Bool.not_not _).symm
    simp only [Act.put, List.setIfInBounds_toArray, List.set_cons_succ, List.set_cons_zero]
    refine Rob.y (v := ?_) rfl rfl (fun w1 hx hH => ?_) ?_; rotate_left
    · (have d0 := cell_ext hx C0; have d1 := cell_ext hx C1; have d2 := cell_ext hx C2); go_simp; first | done | rfl
    simp only [Act.put, List.setIfInBounds_toArray, List.set_cons_succ, List.set_cons_zero]
    refine Rob.y (v := ?_) rfl rfl (fun w1 hx hH => ?_) ?_; rotate_left
    · go_simp; first | done | rfl | exact (Bool.not_not _).symm
    simp only [Act.put, List.setIfInBounds_toArray, List.set_cons_succ, List.set_cons_zero]
    refine Rob.y (v := .int .i64 (i1 : Int)) rfl rfl (fun w1 hx hH => ?_) ?_
    · (go_simp; rw [E1.out])
    simp only [Act.put, List.setIfInBounds_toArray, List.set_cons_succ, List.set_cons_zero]
    iterate 2
      refine Rob.y (v := ?_) rfl rfl (fun w1 hx hH => ?_) ?_; rotate_left
      · (have d0 := cell_ext hx C0; have d1 := cell_ext hx C1; have d2 := cell_ext hx C2); go_simp; first | done | rfl
      simp only [Act.put, List.setIfInBounds_toArray, List.set_cons_succ, List.set_cons_zero]
    refine Rob.y (v := .int .i64 (xs[i1] : Int)) rfl rfl (fun w1 hx hH => ?_) ?_
    · (go_simp; rw [IntKind.wrap_i64]; omega)
    simp only [Act.put, List.setIfInBounds_toArray, List.set_cons_succ, List.set_cons_zero]
    refine Rob.y (v := .int .i64 ((xs[i1] * 131 : Nat) : Int)) rfl rfl (fun w1 hx hH => ?_) ?_
    · (go_simp; rw [IntKind.wrap_i64]; omega)
    simp only [Act.put, List.setIfInBounds_toArray, List.set_cons_succ, List.set_cons_zero]
    refine Rob.y (v := ?_) rfl rfl (fun w1 hx hH => ?_) ?_; rotate_left
    · go_simp; first | done | rfl | exact (Bool.not_not _).symm
    simp only [Act.put, List.setIfInBounds_toArray, List.set_cons_succ, List.set_cons_zero]
    refine Rob.y (v := ?_) rfl rfl (fun w1 hx hH => ?_) ?_; rotate_left
    · (have d0 := cell_ext hx C0; have d1 := cell_ext hx C1; have d2 := cell_ext hx C2); go_simp; first | done | rfl
    simp only [Act.put, List.setIfInBounds_toArray, List.set_cons_succ, List.set_cons_zero]
    refine Rob.y (v := ?_) rfl rfl (fun w1 hx hH => ?_) ?_; rotate_left
    · go_simp; first | done | rfl | exact (Bool.not_not _).symm
    simp only [Act.put, List.setIfInBounds_toArray, List.set_cons_succ, List.set_cons_zero]
    refine Rob.y (v := ?_) rfl rfl (fun w1 hx hH => ?_) ?_; rotate_left
    · (have d0 := cell_ext hx C0; have d1 := cell_ext hx C1; have d2 := cell_ext hx C2); go_simp; first | done | rfl
    simp only [Act.put, List.setIfInBounds_toArray, List.set_cons_succ, List.set_cons_zero]
    refine Rob.y (v := ?_) rfl rfl (fun w1 hx hH => ?_) ?_; rotate_left
    · go_simp; first | done | rfl | exact (Bool.not_not _).symm
    simp only [Act.put, List.setIfInBounds_toArray, List.set_cons_succ, List.set_cons_zero]
    refine Rob.y (v := .int .i64 ((p * 7 : Nat) : Int)) rfl rfl (fun w1 hx hH => ?_) ?_
    · (go_simp; rw [IntKind.wrap_i64]; omega)
    simp only [Act.put, List.setIfInBounds_toArray, List.set_cons_succ, List.set_cons_zero]
    refine Rob.y (v := .int .i64 ((p * 7 + 3 : Nat) : Int)) rfl rfl (fun w1 hx hH => ?_) ?_
    · (go_simp; rw [IntKind.wrap_i64]; omega)
    simp only [Act.put, List.setIfInBounds_toArray, List.set_cons_succ, List.set_cons_zero]
    refine Rob.y (v := ?_) rfl rfl (fun w1 hx hH => ?_) ?_; rotate_left
    · go_simp; first | done | rfl | exact (Bool.not_not _).symm
    simp only [Act.put, List.setIfInBounds_toArray, List.set_cons_succ, List.set_cons_zero]
    refine Rob.y (v := ?_) rfl rfl (fun w1 hx hH => ?_) ?_; rotate_left
    · (have d0 := cell_ext hx C0; have d1 := cell_ext hx C1; have d2 := cell_ext hx C2); go_simp; first | done | rfl
    simp only [Act.put, List.setIfInBounds_toArray, List.set_cons_succ, List.set_cons_zero]
    refine Rob.y (v := ?_) rfl rfl (fun w1 hx hH => ?_) ?_; rotate_left
    · go_simp; first | done | rfl | exact (Bool.not_not _).symm
    simp only [Act.put, List.setIfInBounds_toArray, List.set_cons_succ, List.set_cons_zero]
    refine Rob.y (v := ?_) rfl rfl (fun w1 hx hH => ?_) ?_; rotate_left
    · (have d0 := cell_ext hx C0; have d1 := cell_ext hx C1; have d2 := cell_ext hx C2); go_simp; first | done | rfl
    simp only [Act.put, List.setIfInBounds_toArray, List.set_cons_succ, List.set_cons_zero]
    refine Rob.y (v := ?_) rfl rfl (fun w1 hx hH => ?_) ?_; rotate_left
    · go_simp; first | done | rfl | exact (Bool.not_not _).symm
    simp only [Act.put, List.setIfInBounds_toArray, List.set_cons_succ, List.set_cons_zero]
    refine Rob.y (v := .int .i64 (i2 : Int)) rfl rfl (fun w1 hx hH => ?_) ?_
    · (go_simp; rw [E2.out])
    simp only [Act.put, List.setIfInBounds_toArray, List.set_cons_succ, List.set_cons_zero]
    iterate 2
      refine Rob.y (v := ?_) rfl rfl (fun w1 hx hH => ?_) ?_; rotate_left
      · (have d0 := cell_ext hx C0; have d1 := cell_ext hx C1; have d2 := cell_ext hx C2); go_simp; first | done | rfl
      simp only [Act.put, List.setIfInBounds_toArray, List.set_cons_succ, List.set_cons_zero]
    refine Rob.y (v := .int .i64 (xs[i2] : Int)) rfl rfl (fun w1 hx hH => ?_) ?_
    · (go_simp; rw [IntKind.wrap_i64]; omega)
    simp only [Act.put, List.setIfInBounds_toArray, List.set_cons_succ, List.set_cons_zero]
    refine Rob.y (v := .int .i64 ((xs[i2] * 1117 : Nat) : Int)) rfl rfl (fun w1 hx hH => ?_) ?_
    · (go_simp; rw [IntKind.wrap_i64]; omega)
    simp only [Act.put, List.setIfInBounds_toArray, List.set_cons_succ, List.set_cons_zero]
    refine Rob.y (v := .int .i64 ((xs[i1] * 131 + xs[i2] * 1117 : Nat) : Int)) rfl rfl (fun w1 hx hH => ?_) ?_
    · (go_simp; rw [IntKind.wrap_i64]; omega)
    simp only [Act.put, List.setIfInBounds_toArray, List.set_cons_succ, List.set_cons_zero]
    refine Rob.y (v := ?_) rfl rfl (fun w1 hx hH => ?_) ?_; rotate_left
    · go_simp; first | done | rfl | exact (Bool.not_not _).symm
    simp only [Act.put, List.setIfInBounds_toArray, List.set_cons_succ, List.set_cons_zero]
    refine Rob.y (v := .int .i64 ((p * 29 : Nat) : Int)) rfl rfl (fun w1 hx hH => ?_) ?_
    · (go_simp; rw [IntKind.wrap_i64]; omega)
    simp only [Act.put, List.setIfInBounds_toArray, List.set_cons_succ, List.set_cons_zero]
    refine Rob.y (v := .int .i64 ((xs[i1] * 131 + xs[i2] * 1117 + p * 29 : Nat) : Int)) rfl rfl (fun w1 hx hH => ?_) ?_
    · (go_simp; rw [IntKind.wrap_i64]; omega)
    simp only [Act.put, List.setIfInBounds_toArray, List.set_cons_succ, List.set_cons_zero]
    iterate 2
      refine Rob.y (v := ?_) rfl rfl (fun w1 hx hH => ?_) ?_; rotate_left
      · go_simp; first | done | rfl | exact (Bool.not_not _).symm
      simp only [Act.put, List.setIfInBounds_toArray, List.set_cons_succ, List.set_cons_zero]
    refine Rob.y (v := ?_) rfl rfl (fun w1 hx hH => ?_) ?_; rotate_left
    · (have d0 := cell_ext hx C0; have d1 := cell_ext hx C1; have d2 := cell_ext hx C2); go_simp; first | done | rfl
    simp only [Act.put, List.setIfInBounds_toArray, List.set_cons_succ, List.set_cons_zero]
    refine Rob.y (v := ?_) rfl rfl (fun w1 hx hH => ?_) ?_; rotate_left
    · go_simp; first | done | rfl | exact (Bool.not_not _).symm
    simp only [Act.put, List.setIfInBounds_toArray, List.set_cons_succ, List.set_cons_zero]
    refine Rob.y (v := ?_) rfl rfl (fun w1 hx hH => ?_) ?_; rotate_left
    · (have d0 := cell_ext hx C0; have d1 := cell_ext hx C1; have d2 := cell_ext hx C2); go_simp; first | done | rfl
    simp only [Act.put, List.setIfInBounds_toArray, List.set_cons_succ, List.set_cons_zero]
    refine Rob.y (v := ?_) rfl rfl (fun w1 hx hH => ?_) ?_; rotate_left
    · go_simp; first | done | rfl | exact (Bool.not_not _).symm
    simp only [Act.put, List.setIfInBounds_toArray, List.set_cons_succ, List.set_cons_zero]
    refine Rob.y (v := .int .i64 (q : Int)) rfl rfl (fun w1 hx hH => ?_) ?_
    · (go_simp; rw [E3.out, IntKind.wrap_i64]; omega)
    simp only [Act.put, List.setIfInBounds_toArray, List.set_cons_succ, List.set_cons_zero]
    refine Rob.y (v := .int .i64 ((q * 53 : Nat) : Int)) rfl rfl (fun w1 hx hH => ?_) ?_
    · (go_simp; rw [IntKind.wrap_i64]; omega)
    simp only [Act.put, List.setIfInBounds_toArray, List.set_cons_succ, List.set_cons_zero]
    refine Rob.y (v := .int .i64 ((xs[i1] * 131 + xs[i2] * 1117 + p * 29 + q * 53 : Nat) : Int)) rfl rfl (fun w1 hx hH => ?_) ?_
    · (go_simp; rw [IntKind.wrap_i64]; omega)
    simp only [Act.put, List.setIfInBounds_toArray, List.set_cons_succ, List.set_cons_zero]
    refine Rob.y (v := ?_) rfl rfl (fun w1 hx hH => ?_) ?_; rotate_left
    · go_simp; first | done | rfl | exact (Bool.not_not _).symm
    simp only [Act.put, List.setIfInBounds_toArray, List.set_cons_succ, List.set_cons_zero]
    refine fin_nil (fun w1 hx1 _ => ?_)
    obtain ⟨t, ht⟩ : ∃ t, t = xs[i1] * 131 + xs[i2] * 1117 + p * 29 + q * 53 := ⟨_, rfl⟩
    have ht1 : t < 4611686018427387904 := by omega
    have htz : ((xs[i1] : Int) * 131 + (xs[i2] : Int) * 1117 + (p : Int) * 29 + (q : Int) * 53) = (t : Int) := by omega
    have hxr : bits .xor .i64 ((xs[i1] : Int) * 131 + (xs[i2] : Int) * 1117 + (p : Int) * 29 + (q : Int) * 53) (((xs[i1] : Int) * 131 + (xs[i2] : Int) * 1117 + (p : Int) * 29 + (q : Int) * 53) / 64) = ((t ^^^ (t / 64) : Nat) : Int) := by
      rw [htz, show ((t : Int) / 64) = ((t / 64 : Nat) : Int) by omega, xor_i64_nat _ _ ht1 (by omega)]
    clear htz
    have HT := Lib.hid ht; clear ht
    go_wp2
    go_ret
    refine ⟨_, rfl, ?_, fun h => ?_, HRD.out _ hx1⟩
    · exact Int.emod_nonneg _ (by omega)
    · exact Int.emod_lt_of_pos _ h

abbrev Bytes (D : Nat → Prop) (w : World) (v : Value) (xs : List Nat) : Prop := Sl 1 (plain fun n : Nat => [.int .u8 n]) D w v xs

theorem Sl.take {α : Type} {n : Nat} {E : Enc α} {D : Nat → Prop} {w : World} {a : Option Addr} {len cap : Nat} {xs : List α} (h : Sl n E D w (.slice a len cap) xs) (k : Nat) (hk : k ≤ xs.length) : Sl n E D w (.slice a k cap) (xs.take k) := by
  obtain ⟨a', cap', hv, hx⟩ := h
  injection hv with h1 h2 h3
  subst h1 h3
  refine ⟨a, cap, by rw [List.length_take, Nat.min_eq_left hk], fun i x hi => hx i x ?_⟩
  have hik : i < k := by
    have := (List.getElem?_eq_some_iff.1 hi).1
    simp at this; omega
  rwa [List.getElem?_take_of_lt hik] at hi

theorem Rd.made {w : World} {bv : Value} {ys : List Nat} (h : Bytes (Old w) w bv ys) (hs : ∀ x ∈ ys, x < 256) (hl : ys.length ≤ 2000) : Rd (w.alloc (.cells #[bv, .int .i64 0] 91)) w.heap.size bv ys 0 := by
  refine ⟨alloc_get_new rfl, ?_, hs, hl⟩
  exact Sl.same (plain_kept _) h (fun b hb => alloc_get_old hb) (fun b hb => hb)

theorem l6Open_c (v : Value) (xs : List Nat) (w : World) (h : Bytes (Old w) w v xs) (hs : ∀ x ∈ xs, x < 256) (hn : xs.length ≤ 1048576) (hcap : ∀ a n c, v = .slice a n c → n ≤ c) :
    Calls Try.prog 46 #[v] w (fun e w' => ∃ R bv ys, e = .returned (.pointer (some ⟨R, 0, none⟩)) ∧ w.heap.size ≤ R ∧ Ext w w' ∧ Rd w' R bv ys 0) := by
  obtain ⟨a, cap, rfl⟩ := h.form
  have hc := hcap _ _ _ rfl
  clear hcap
  by_cases hl : xs.length ≤ 2000
  · go_enter Try.func46, Try.ntmps46
    go_wp2_with fail
    refine bodyPost_ret (v := .pointer (some ⟨w.heap.size, 0, none⟩)) (by simp [results, Try.results46, go_sem]) rfl ⟨_, _, xs, rfl, Nat.le_refl _, ext_alloc (ext_refl _) _, Rd.made h hs hl⟩
  · have H := Lib.hid (h.take 2000 (by omega))
    go_enter Try.func46, Try.ntmps46
    go_wp2_with fail
    refine bodyPost_ret (v := .pointer (some ⟨w.heap.size, 0, none⟩)) (by simp [results, Try.results46, go_sem]) rfl ⟨_, _, xs.take 2000, rfl, Nat.le_refl _, ext_alloc (ext_refl _) _, Rd.made ?_ (fun x hx => hs x (List.mem_of_mem_take hx)) (by simp; omega)⟩
    exact H.out
end Go.Bu
