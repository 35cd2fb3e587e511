/- All values of a store, and of a pair: the program's StoreAll, PairAll. -/
import Derived.Test.YtcainddboblpbaaStoreI
import Derived.Test.YtcainddboblpbaaPairS
import Derived.Test.YtcainddboblpbaaNew3
set_option linter.unusedVariables false
set_option linter.unusedSimpArgs false
namespace Go.Bu
open Go Go.RowKit Go.Plan Go.Proofs

def allS (s : Store) : List Int := (List.range 6).map (readN s)
theorem allS_len (s : Store) : (allS s).length = 6 := by simp [allS]
/-- memory of the call's own, or none -/
def IntsOut (base : Nat) (w : World) (v : Value) (xs : List Int) : Prop := (v = .slice none 0 0 ∧ xs = []) ∨ ∃ B, base ≤ B ∧ OwnInts w v xs B
theorem IntsOut.ext {base : Nat} {w w' : World} {v : Value} {xs : List Int} (h : IntsOut base w v xs) (hx : Ext w w') : IntsOut base w' v xs := h.imp id fun ⟨B, h1, h2⟩ => ⟨B, h1, h2.ext hx⟩
theorem IntsOut.ints {base : Nat} {w : World} {v : Value} {xs : List Int} (h : IntsOut base w v xs) : Ints (Old w) w v xs := by
  rcases h with ⟨rfl, rfl⟩ | ⟨B, _, h⟩
  · exact ⟨_, _, rfl, fun i x hi => by cases hi⟩
  · exact h.old
theorem IntsOut.weak {b b' : Nat} {w : World} {v : Value} {xs : List Int} (h : IntsOut b w v xs) (hb : b' ≤ b) : IntsOut b' w v xs := h.imp id fun ⟨B, h1, h2⟩ => ⟨B, Nat.le_trans hb h1, h2⟩
def IntsΦ (w : World) (xs : List Int) (e : Ending) (w' : World) : Prop := ∃ v, e = .returned v ∧ Ext w w' ∧ IntsOut w.heap.size w' v xs
def allV (s : Store) : List Int := if storeOkB s = true then allS s else []

set_option maxRecDepth 20000 in
set_option maxHeartbeats 2000000 in
theorem implStoreAll_c (fv dv : Value) (s : Store) (w : World) (h : StoreV w fv dv s) (hp : ∀ b ∈ s.flash, b.pages.length ≤ 1048576) (hd : s.disk.length ≤ 1048576) :
    Calls Try.prog 23 #[.agg #[fv, dv]] w (IntsΦ w (allV s)) := by
  have hSO := fun (w' : World) (hx : Ext w w') => implStoreOk_c fv dv s w' (h.ext hx) hp hd
  unfold allV
  by_cases hok : storeOkB s = true
  · have hF := flashOk_iff.1 (storeOk_flash hok)
    have h6 := storeOk_disk hok
    have hLR := fun (w' : World) (hx : Ext w w') => lastRecords_c fv s.flash w' (h.1.ext hx) hF.len hp (fun b hb => hF.pg hb)
    have hD := h.2
    rw [hok] at hSO
    rw [if_pos hok]
    obtain ⟨fa, fcap, hfv⟩ := h.1.form
    obtain ⟨da, dcap, hdv⟩ := h.2.form
    rw [h6] at hdv
    subst hfv
    subst hdv
    have H6 := Lib.hid h6
    have hlz := fun n : Nat => lastL_zero (spF s.flash s.flash.length) ((n : Int) + 1)
    simp only [lastL_all] at hlz
    have HLZ := Lib.hid hlz
    have hmk : ∀ w : World, (Instr.makeSlice 23 (.int .i64 6) (.int .i64 6)).run Try.prog w = .ok (.slice (some ⟨w.heap.size, 0, none⟩) 6 6) (w.alloc (.cells #[.int .i64 0, .int .i64 0, .int .i64 0, .int .i64 0, .int .i64 0, .int .i64 0] 3)) := fun w => by kernel_rfl
    have h60 : ∀ w : World, OwnAt 1 intC 3 (w.alloc (.cells #[.int .i64 0, .int .i64 0, .int .i64 0, .int .i64 0, .int .i64 0, .int .i64 0] 3)) w.heap.size 0 [0, 0, 0, 0, 0, 0] := by
      intro w
      refine ⟨_, alloc_get_new rfl, fun i x hx j u hu => ?_⟩
      have hi : i < 6 := (List.getElem?_eq_some_iff.1 hx).1
      have hj : j < 1 := by have := (List.getElem?_eq_some_iff.1 hu).1; simpa using this
      obtain rfl : j = 0 := by omega
      rcases (show i = 0 ∨ i = 1 ∨ i = 2 ∨ i = 3 ∨ i = 4 ∨ i = 5 by omega) with rfl | rfl | rfl | rfl | rfl | rfl <;> (simp at hx; subst hx; simp at hu; subst hu; rfl)
    have H60 := Lib.hid h60
    clear hok hF h6 hp hd hlz h60
    go_enter Try.func23, Try.ntmps23
    go_wp2_with fail
    refine (hSO _ (ext_alloc (ext_refl _) _)).mono ?_; rintro e1 w1 ⟨rfl, hx1⟩
    have X1 := ext_trans (ext_alloc (ext_refl w) _) hx1
    have G1 := keep_ext hx1 (hg_new (b := w.heap.size) rfl)
    obtain ⟨g1, gf1⟩ := cellsK G1
    have l1 := heap_lt G1
    clear hSO hx1
    go_wp2_with fail
    refine (hLR _ X1).mono ?_; rintro e2 w2 ⟨BM, n, rfl, hx2, hB, hM⟩
    have X2 := ext_trans X1 hx2
    have hs2 := X2.size
    replace G1 := keep_ext hx2 G1
    clear g1 gf1 l1
    obtain ⟨g1, gf1⟩ := cellsK G1
    have l1 := heap_lt G1
    have HM := Lib.hid hM
    clear hLR hx2 hM hB X1
    go_wp2_with fail
    clear hmk
    have XA : Ext w2 (w2.alloc (.cells #[.int .i64 0, .int .i64 0, .int .i64 0, .int .i64 0, .int .i64 0, .int .i64 0] 3)) := ext_alloc (ext_refl _) _
    have hO := H60.out w2
    have HV0 : Hid (∀ j, j < 0 → ([0, 0, 0, 0, 0, 0] : List Int)[j]? = some (readN s j)) := Lib.hid (fun j hj => absurd hj (Nat.not_lt_zero _))
    clear H60
    go_loopw [19] (fun y wr => ∃ (i : Nat) (vs : List Int), i ≤ 6 ∧ y = .int .i64 i ∧ Ext w2 wr ∧ OwnAt 1 intC 3 wr w2.heap.size 0 vs ∧ vs.length = 6 ∧ Hid (∀ j, j < i → vs[j]? = some (readN s j))) (fun y _ => 6 - (intOf y).toNat)
    case atStart => exact ⟨0, _, by omega, rfl, XA, hO, rfl, HV0⟩
    case round =>
      clear HV0 G1 g1 gf1 l1 XA hO
      obtain ⟨i, vs, hi, rfl, hX, hO, hl, HV⟩ := hrel
      by_cases hlt : i < 6
      · have hil : i < s.disk.length := by have := H6.out; omega
        have hiv : i < vs.length := by omega
        obtain ⟨b, o, rfl, hb, c0⟩ := hD.at1 hil
        have hb' : b < w.heap.size := hb
        obtain ⟨hc, hf⟩ := bcell (ext_trans X2 hX)
        have hrd : readN s i = if 0 < (last s.flash ((i : Int) + 1)).seq then (last s.flash ((i : Int) + 1)).val else s.disk[i] := by
          unfold readN; rw [List.getD_eq_getElem?_getD, List.getElem?_eq_getElem hil]; rfl
        have HRD := Lib.hid hrd
        have q0 : wr.cell? ⟨w2.heap.size, i, none⟩ = some (.int .i64 vs[i]) := by simpa using hO.cell (List.getElem?_eq_getElem hiv) (j := 0) rfl
        have qf := hO.frozen
        have lO := hO.lt
        generalize s.disk[i] = d at *
        have hS1 := OwnAt.set1 (n := 1) (enc := intC) (fun _ => rfl) hO (k := i) hiv (j := 0) (by omega) (.int .i64 d) d rfl
        simp only [Nat.zero_add, Nat.mul_one, Nat.add_zero] at hS1
        have X3 : Ext w2 (wr.setCell ⟨w2.heap.size, i, none⟩ (.int .i64 d)) := ext_set hX (Nat.le_refl _) _
        have hM3 := HM.out.ext X3
        have hlk := hM3.lookup (t := 69) Try.underlying3 Try.underlying69 (z := recA rec0) (by rfl) (i64_wf (x := (i : Int) + 1) (by omega) (by omega)) true
        simp only [if_true] at hlk
        unfold lastG at hlk
        have hlo := HLZ.out i
        generalize last s.flash ((i : Int) + 1) = r at *
        have HS1 := Lib.hid hS1
        clear hM3 hS1 hO HLZ
        by_cases h0 : 0 < r.seq
        · rw [if_pos h0] at hlk
          simp only [Option.getD_some, Option.isSome_some] at hlk
          dsimp only [recA] at hlk
          have hS2 := OwnAt.set1 (n := 1) (enc := intC) (fun _ => rfl) HS1.out (k := i) (by simpa using hiv) (j := 0) (by omega) (.int .i64 r.val) r.val rfl
          simp only [Nat.zero_add, Nat.mul_one, Nat.add_zero, List.set_set] at hS2
          have HS2 := Lib.hid hS2
          have HV2 : Hid (∀ j, j < i + 1 → (vs.set i r.val)[j]? = some (readN s j)) := Lib.hid (fun j hj => by
            by_cases e : j = i
            · subst e; rw [List.getElem?_set_self hiv, HRD.out, if_pos h0]
            · rw [List.getElem?_set_ne (Ne.symm e)]; exact HV.out j (by omega))
          clear hS2 HV HRD hlo
          go_wp2_with fail
          go_roundw
          case rel => exact ⟨i + 1, _, by omega, by go_num, ext_alloc (ext_set X3 (Nat.le_refl _) _) _, HS2.out.ext (ext_alloc (ext_refl _) _), by simpa using hl, HV2⟩
          case measure => simp [intOf]; omega
        · rw [if_neg h0] at hlk
          simp only [Option.getD_none, Option.isSome_none] at hlk
          dsimp only [recA, rec0] at hlk
          have HV2 : Hid (∀ j, j < i + 1 → (vs.set i d)[j]? = some (readN s j)) := Lib.hid (fun j hj => by
            by_cases e : j = i
            · subst e; rw [List.getElem?_set_self hiv, HRD.out, if_neg h0]
            · rw [List.getElem?_set_ne (Ne.symm e)]; exact HV.out j (by omega))
          clear HV HRD hlo h0
          go_wp2_with fail
          go_roundw
          case rel => exact ⟨i + 1, _, by omega, by go_num, ext_alloc X3 _, HS1.out.ext (ext_alloc (ext_refl _) _), by simpa using hl, HV2⟩
          case measure => simp [intOf]; omega
      · obtain rfl : i = 6 := by omega
        go_wp2_with fail
        refine bodyPost_ret (v := .slice (some ⟨w2.heap.size, 0, none⟩) 6 6) (by simp [results, Try.results23, go_sem]) rfl ⟨_, rfl, ext_trans X2 hX, .inr ⟨w2.heap.size, hs2, 3, 0, 0, by rw [allS_len], ?_⟩⟩
        have : vs = allS s := by
          apply List.ext_getElem?
          intro j
          by_cases hj : j < 6
          · rw [HV.out j hj]; unfold allS; simp [hj]
          · rw [List.getElem?_eq_none (by omega), List.getElem?_eq_none (by rw [allS_len]; omega)]
        rw [← this]; exact hO
  · rw [Bool.not_eq_true] at hok
    rw [hok] at hSO
    rw [if_neg (by rw [hok]; simp)]
    obtain ⟨fa, fcap, rfl⟩ := h.1.form
    obtain ⟨da, dcap, rfl⟩ := h.2.form
    go_enter Try.func23, Try.ntmps23
    go_wp2_with fail
    refine (hSO _ (ext_alloc (ext_refl _) _)).mono ?_; rintro e1 w1 ⟨rfl, hx1⟩
    go_wp2_with fail
    go_ret
    exact ⟨_, rfl, ext_trans (ext_alloc (ext_refl w) _) hx1, .inl ⟨rfl, rfl⟩⟩

def pairAllV (p : Pair) : List Int := if pairOkB p = true then (if p.lost = 1 then allS p.B else allS p.A) else []
theorem pairOk_iff {p : Pair} : pairOkB p = true ↔ (0 ≤ p.lost ∧ p.lost ≤ 2) ∧ storeOkB p.A = true ∧ storeOkB p.B = true := by
  unfold pairOkB; simp only [Bool.and_eq_true, inB_iff]
theorem allV_ok {s : Store} (h : storeOkB s = true) : allV s = allS s := by unfold allV; rw [if_pos h]

set_option maxRecDepth 20000 in
set_option maxHeartbeats 1000000 in
theorem implPairAll_c (f d g e : Value) (p : Pair) (w : World) (hA : StoreV w f d p.A) (hB : StoreV w g e p.B) (hsA : Small p.A) (hsB : Small p.B) :
    Calls Try.prog 11 #[.agg #[f, d, g, e, .int .i64 p.lost]] w (IntsΦ w (pairAllV p)) := by
  have hPO := fun (w' : World) (hx : Ext w w') => implPairOk_c f d g e p w' (hA.ext hx) (hB.ext hx) hsA.2.1 hsB.2.1 hsA.2.2 hsB.2.2
  have hSA := fun (w' : World) (hx : Ext w w') => implStoreAll_c f d p.A w' (hA.ext hx) hsA.2.1 hsA.2.2
  have hSB := fun (w' : World) (hx : Ext w w') => implStoreAll_c g e p.B w' (hB.ext hx) hsB.2.1 hsB.2.2
  rw [show (inB p.lost 0 2 && (storeOkB p.A && storeOkB p.B)) = pairOkB p from rfl] at hPO
  unfold pairAllV
  obtain ⟨a1, c1, rfl⟩ := hA.1.form
  obtain ⟨a2, c2, rfl⟩ := hA.2.form
  obtain ⟨a3, c3, rfl⟩ := hB.1.form
  obtain ⟨a4, c4, rfl⟩ := hB.2.form
  by_cases hok : pairOkB p = true
  · obtain ⟨_, hokA, hokB⟩ := pairOk_iff.1 hok
    rw [hok] at hPO
    rw [if_pos hok]
    rw [allV_ok hokA] at hSA
    rw [allV_ok hokB] at hSB
    clear hok hokA hokB
    by_cases hl : p.lost = 1
    · rw [if_pos hl, hl]
      rw [hl] at hPO
      clear hl
      go_enter Try.func11, Try.ntmps11
      go_wp2_with fail
      refine (hPO _ (ext_alloc (ext_refl _) _)).mono ?_; rintro e1 w1 ⟨rfl, hx1⟩
      have X1 := ext_trans (ext_alloc (ext_refl w) _) hx1
      have hs1 := X1.size
      have G1 := keep_ext hx1 (hg_new (b := w.heap.size) rfl)
      obtain ⟨g1, gf1⟩ := cellsK G1
      have l1 := heap_lt G1
      clear hPO hx1
      go_wp2_with fail
      refine (hSB _ X1).mono ?_; rintro e2 w2 ⟨v2, rfl, hx2, hI⟩
      obtain ⟨a5, n5, rfl⟩ := hI.ints.form
      go_wp2_with fail
      go_ret
      exact ⟨_, rfl, ext_trans X1 hx2, hI.weak hs1⟩
    · rw [if_neg hl]
      go_enter Try.func11, Try.ntmps11
      go_wp2_with fail
      refine (hPO _ (ext_alloc (ext_refl _) _)).mono ?_; rintro e1 w1 ⟨rfl, hx1⟩
      have X1 := ext_trans (ext_alloc (ext_refl w) _) hx1
      have hs1 := X1.size
      have G1 := keep_ext hx1 (hg_new (b := w.heap.size) rfl)
      obtain ⟨g1, gf1⟩ := cellsK G1
      have l1 := heap_lt G1
      clear hPO hx1
      go_wp2_with fail
      refine (hSA _ X1).mono ?_; rintro e2 w2 ⟨v2, rfl, hx2, hI⟩
      obtain ⟨a5, n5, rfl⟩ := hI.ints.form
      go_wp2_with fail
      go_ret
      exact ⟨_, rfl, ext_trans X1 hx2, hI.weak hs1⟩
  · rw [Bool.not_eq_true] at hok
    rw [hok] at hPO
    rw [if_neg (by rw [hok]; simp)]
    clear hok
    go_enter Try.func11, Try.ntmps11
    go_wp2_with fail
    refine (hPO _ (ext_alloc (ext_refl _) _)).mono ?_; rintro e1 w1 ⟨rfl, hx1⟩
    go_wp2_with fail
    go_ret
    exact ⟨_, rfl, ext_trans (ext_alloc (ext_refl w) _) hx1, .inl ⟨rfl, rfl⟩⟩
end Go.Bu
