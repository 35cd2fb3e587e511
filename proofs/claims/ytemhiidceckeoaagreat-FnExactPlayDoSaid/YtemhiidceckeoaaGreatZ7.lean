/- The program's StoreRead and copyValues. PairMend and PairBack of the program. A region that draws its order, one operation of which may come ahead of a store or behind it: the rule of Plan for that. The program's PairPut. PairPut of the reference. The program's StepsFlush, StepsFill and PlaySteps. The program's PlaySteps, playAll, playBegun and PlayDo. append of rows of steps that may be empty. -/
import Derived.Test.YtemhiidceckeoaaGreatZ6
import Derived.Test.YtemhiidceckeoaaGreatZ4
import Derived.Test.YtemhiidceckeoaaGreatZ1
import Derived.Test.YtemhiidceckeoaaGreatZ5
import Derived.Test.YtemhiidceckeoaaGreatZ3
set_option maxHeartbeats 2000000
set_option linter.unusedVariables false
set_option linter.unusedSimpArgs false
namespace Go.Bu
open Go Go.RowKit Go.Plan Go.Proofs

set_option maxRecDepth 20000 in
set_option maxHeartbeats 4000000 in
theorem implStoreRead_c (fv dv : Value) (s : Store) (n : Nat) (w : World) (h : StoreV w fv dv s) (hok : storeOkB s = true) (hn : n < 6) :
    Calls Tryz.prog 66 #[.agg #[fv, dv], .int .i64 ((n : Int) + 1)] w (Ret w (.int .i64 (readN s n))) := by
  have hp := pages_short (storeOk_flash hok)
  have hSO := fun (w' : World) (hx : Ext w w') => implStoreOk_c fv dv s w' (h.ext hx) hp (by have := storeOk_disk hok; omega)
  rw [hok] at hSO
  have hF := flashOk_iff.1 (storeOk_flash hok)
  have h6 := storeOk_disk hok
  have hLR := fun (w' : World) (hx : Ext w w') => lastRecords_c fv s.flash w' (h.1.ext hx) hF.len hp (fun b hb => hF.pg hb)
  have hD := h.2
  obtain ⟨fa, fcap, rfl⟩ := h.1.form
  obtain ⟨da, dcap, rfl⟩ := h.2.form
  have hnl : n < s.disk.length := by omega
  obtain ⟨b, o, rfl, hb, c0⟩ := hD.at1 hnl
  have hb' : b < w.heap.size := hb
  have hR : readN s n = if 0 < (last s.flash ((n : Int) + 1)).seq then (last s.flash ((n : Int) + 1)).val else s.disk[n] := by
    unfold readN; rw [List.getD_eq_getElem?_getD, List.getElem?_eq_getElem hnl]; rfl
  have HRD := Lib.hid hR
  have hin : inB ((n : Int) + 1) 1 6 = true := inB_iff.2 (by omega)
  have hn6 : (n : Int) < 6 := by omega
  have hn0 : ¬ (n : Int) < 0 := by omega
  have hwr : IntKind.i64.wrap (n : Int) = (n : Int) := IntWalk.i64_in _ (by omega)
  rw [h6]
  rw [h6] at hSO
  obtain ⟨dv, hdv⟩ : ∃ dv : Int, s.disk[n] = dv := ⟨_, rfl⟩
  rw [hdv] at c0 HRD
  clear hR hF hp hD h hdv h6
  go_enter Tryz.func66, Tryz.ntmps66
  go_wp2_with fail
  refine (hSO _ (ext_alloc (ext_refl _) _)).mono ?_; rintro e1 w1 ⟨rfl, hx1⟩
  have X1 := ext_trans (ext_alloc (ext_refl w) _) hx1
  have G0 := keep_ext hx1 (hg_new (b := w.heap.size) rfl)
  obtain ⟨g0, gf0⟩ := cellsK G0
  have l0 := heap_lt G0
  clear hSO hx1
  go_wp2_with (go_at_call 94; refine (addrOk_c _ _).mono ?_; rw [hin]; rintro e w' ⟨rfl, rfl⟩)
  refine (hLR _ X1).mono ?_; rintro e2 w2 ⟨B, m, rfl, hx2, hB, hM⟩
  have X2 := ext_trans X1 hx2
  replace G0 := keep_ext hx2 G0
  clear g0 gf0 l0 hLR hx2 X1
  obtain ⟨g0, gf0⟩ := cellsK G0
  have l0 := heap_lt G0
  have hlk := hM.lookup (t := 111) Tryz.underlying3 Tryz.underlying111 (z := recA rec0) (by rfl) (i64_wf (x := (n : Int) + 1) (by omega) (by omega)) true
  simp only [if_true] at hlk
  unfold lastG at hlk
  generalize last s.flash ((n : Int) + 1) = r at *
  obtain ⟨hc, hf⟩ := bcell X2
  have hb2 : b < w2.heap.size := Nat.lt_of_lt_of_le hb' X2.size
  clear hM
  by_cases h0 : 0 < r.seq
  · rw [if_pos h0] at hlk
    simp only [Option.getD_some, Option.isSome_some] at hlk
    dsimp only [recA] at hlk
    have HR2 : Hid (readN s n = r.val) := Lib.hid (by rw [HRD.out, if_pos h0])
    clear h0 HRD
    go_wp2_with fail
    go_ret
    exact ⟨by rw [HR2.out]; rfl, ext_alloc X2 _⟩
  · rw [if_neg h0] at hlk
    simp only [Option.getD_none, Option.isSome_none] at hlk
    dsimp only [recA, rec0] at hlk
    have HR2 : Hid (readN s n = dv) := Lib.hid (by rw [HRD.out, if_neg h0])
    clear h0 HRD
    go_wp2_with fail
    go_ret
    exact ⟨by rw [HR2.out]; rfl, ext_alloc X2 _⟩

theorem storeOk_set {s : Store} (h : storeOkB s = true) (a v : Int) : storeOkB (setV s a v) = true := storeOk_iff.2 (safe_put (storeOk_iff.1 h) a v).all
theorem storeOk_sameStep {fr t : Store} (h : storeOkB t = true) (n : Nat) : storeOkB (sameStep fr t n) = true := by
  unfold sameStep; split
  · exact h
  · exact storeOk_set h _ _
theorem storeOk_same {fr t : Store} (h : storeOkB t = true) : storeOkB (sameV fr t) = true := foldl_inv (sameStep fr) (fun s => storeOkB s = true) addrs6 t h fun s n _ hs => storeOk_sameStep hs n
theorem OwnStore.v {w : World} {f d : Value} {s : Store} {L : List Nat} (h : OwnStore w f d s L) : StoreV w f d s := ⟨h.flash, h.disk⟩

set_option maxRecDepth 20000 in
set_option maxHeartbeats 4000000 in
theorem copyValues_c (f d g e : Value) (fr s : Store) (w : World) (hA : StoreV w f d fr) (hB : StoreV w g e s) (hokA : storeOkB fr = true) (hokB : storeOkB s = true) :
    Calls Tryz.prog 37 #[.agg #[f, d], .agg #[g, e]] w (StoreCp w (sameV fr s)) := by
  have hSA := fun (w' : World) (hx : Ext w w') => implStoreAll_c f d fr w' (hA.ext hx) (pages_short (storeOk_flash hokA)) (by have := storeOk_disk hokA; omega)
  have hsh := storeOk_shape hokB
  have hSC := fun (w' : World) (hx : Ext w w') => storeCopy_c g e s w' (hB.ext hx) hsh.flash hsh.pages hsh.disk
  rw [allV_ok hokA] at hSA
  have HOKB := Lib.hid hokB
  have HALL : Hid (∀ k (hk : k < (allS fr).length), (allS fr)[k] = readN fr k) := Lib.hid fun k hk => by simp [allS]
  have HLN := Lib.hid (allS_len fr)
  obtain ⟨a1, n1, rfl⟩ := hA.1.form
  obtain ⟨a2, n2, rfl⟩ := hA.2.form
  obtain ⟨a3, n3, rfl⟩ := hB.1.form
  obtain ⟨a4, n4, rfl⟩ := hB.2.form
  generalize allS fr = xs at *
  clear hA hB hsh
  go_enter Tryz.func37, Tryz.ntmps37
  go_wp2_with fail
  refine (hSC _ (ext_alloc (ext_alloc (ext_alloc (ext_refl _) _) _) _)).mono ?_; rintro e1 w1 ⟨f1, d1, L1, rfl, hx1, hO1, hn1, hb1⟩
  have X1 := ext_trans (ext_alloc (ext_alloc (ext_alloc (ext_refl w) _) _) _) hx1
  have G2 := keep_ext hx1 (hg_alloc (hg_alloc (hg_new (b := w.heap.size) rfl)))
  have G4 := keep_ext hx1 (hg_new (b := w.heap.size + 1 + 1) (by simp))
  have s1 := hx1.size
  simp at s1
  have hb1' : Hid (∀ b ∈ L1, w.heap.size + 3 ≤ b) := Lib.hid fun b hb => by have := hb1 b hb; simp at this; omega
  obtain ⟨q1, m1, c1, q2, m2, c2, rfl, rfl⟩ := hO1.forms
  have hlL := hO1.lt
  obtain ⟨g2, gf2⟩ := cellsK G2
  have l2 := heap_lt G2
  have hne2 : ¬ (w.heap.size = w1.heap.size) := by omega
  clear hSC hx1 hb1
  go_wp2_with fail
  have XA : Ext w1 (w1.alloc (.cells #[.slice q1 m1 c1, .slice q2 m2 c2] 31)) := ext_alloc (ext_refl _) _
  refine (hSA _ (ext_trans X1 XA)).mono ?_; rintro e2 w2 ⟨lv, rfl, hx2, hI⟩
  have H12 := ext_trans XA hx2
  have X2 := ext_trans X1 H12
  have GP := keep_ext hx2 (hg_new (b := w1.heap.size) rfl)
  replace G4 := keep_ext H12 G4
  have HO := Lib.hid (hO1.ext H12)
  have HN := Lib.hid hn1
  obtain ⟨lB, hlB, hIL⟩ : ∃ lB, w1.heap.size < lB ∧ OwnInts w2 lv xs lB := by
    rcases hI with ⟨_, h0⟩ | ⟨lB, h1, h2⟩
    · have := HLN.out; rw [h0] at this; cases this
    · exact ⟨lB, by simp at h1; omega, h2⟩
  obtain ⟨la, lc, rfl⟩ := hIL.old.form
  have HLL : Hid (∀ b ∈ L1, b ≠ w1.heap.size) := Lib.hid fun b hb e => by have := hlL b hb; omega
  rw [HLN.out] at hIL
  have HIL := Lib.hid hIL
  clear hIL
  clear g2 gf2 l2 hSA XA hx2 H12 hO1 hn1 hlL hI G2
  obtain ⟨P, hP⟩ : ∃ P, w1.heap.size = P := ⟨_, rfl⟩
  rw [hP] at GP hne2 HLL s1 hlB ⊢
  have hPw : w.heap.size + 3 ≤ P := s1
  clear hP s1 hne2
  rw [HLN.out]
  go_wp2_with fail
  have HST0 : Hid (storeOkB s = true) := HOKB
  have HR0 : Hid ((addrs6.drop 0).foldl (sameStep fr) s = sameV fr s) := Lib.hid rfl
  go_loopw [16] (fun y wr => ∃ (k : Nat) (t : Store) (f d : Value) (L : List Nat), k ≤ 6 ∧ y = .int .i64 k ∧ Ext w wr ∧ Hid (OwnInts wr (.slice la 6 lc) xs lB) ∧ wr.heap[P]? = some (.cells #[f, d] 31 (0, 0)) ∧ Hid (OwnStore wr f d t L) ∧ Hid L.Nodup ∧ Hid (∀ b ∈ L, w.heap.size + 3 ≤ b ∧ b ≠ P) ∧ Hid (storeOkB t = true) ∧ Hid ((addrs6.drop k).foldl (sameStep fr) t = sameV fr s) ∧
    wr.heap[w.heap.size + 1 + 1]? = some (.cells #[.slice none 0 0, .slice none 0 0] 31 (0, 0))) (fun y _ => 6 - (intOf y).toNat)
  case atStart => exact ⟨0, s, _, _, L1, by omega, rfl, X2, HIL, GP, HO, HN, Lib.hid fun b hb => ⟨hb1'.out b hb, HLL.out b hb⟩, HST0, HR0, G4⟩
  case round =>
    clear HO HN HST0 HR0 G4 GP HIL X2 HOKB
    obtain ⟨k, t, f, d, L, hk, rfl, hX, HIL, GP, HO, HN, HB, HST, HR, G4⟩ := hrel
    obtain ⟨b1, k1, j1, b2, k2, j2, rfl, rfl⟩ := HO.out.forms
    obtain ⟨gp, gpf⟩ := cellsK GP
    have lP := heap_lt GP
    by_cases hlt : k < 6
    · have hkl : k < xs.length := by rw [HLN.out]; exact hlt
      obtain ⟨lb, lo, rfl, hlb, c0⟩ := (show Ints _ _ _ _ from HIL.out.old).at1 hkl
      rw [HALL.out k hkl] at c0
      have hlb' : lb < wr.heap.size := hlb
      rw [foldl_drop _ _ _ _ (show k < addrs6.length from hlt), addrs6_get] at HR
      have hrd := fun (w' : World) (hx : Ext wr w') => implStoreRead_c _ _ t k w' (HO.out.ext hx).v HST.out hlt
      have hst : sameStep fr t k = if readN t k = readN fr k then t else setV t ((k : Int) + 1) (readN fr k) := rfl
      have hsm : Small t := ⟨by have := (storeOk_shape HST.out).flash; omega, pages_short (storeOk_flash HST.out), by have := storeOk_disk HST.out; omega⟩
      have hps := fun (w' : World) (hx : Ext wr w') => implStepsPut_c _ _ t ((k : Int) + 1) (readN fr k) w' (HO.out.ext hx).v hsm
      rw [show putSteps2 t ((k : Int) + 1) (readN fr k) = writeSteps t.flash 1 ((k : Int) + 1) (readN fr k) by unfold putSteps2; rw [if_pos HST.out]] at hps
      have hto := fun (sv : Value) (w' : World) (hx : Ext wr w') (hS : Steps' (Old w') w' sv (writeSteps t.flash 1 ((k : Int) + 1) (readN fr k))) (hl : (writeSteps t.flash 1 ((k : Int) + 1) (readN fr k)).length ≤ 7) => implStepsTo_c _ _ t sv _ ((writeSteps t.flash 1 ((k : Int) + 1) (readN fr k)).length : Nat) false w' (HO.out.ext hx).v HST.out hS (write_V (flashOk_iff.1 (storeOk_flash HST.out)) _ _ _) (by omega) ⟨by omega, by omega⟩
      have hsv : toSteps t (writeSteps t.flash 1 ((k : Int) + 1) (readN fr k)) ((writeSteps t.flash 1 ((k : Int) + 1) (readN fr k)).length : Nat) false = setV t ((k : Int) + 1) (readN fr k) := toSteps_all _ _
      rw [hsv] at hto
      have HST2 := Lib.hid (storeOk_sameStep (fr := fr) HST.out k)
      have HSTP := Lib.hid hst
      clear hst hsm hsv
      generalize sameStep fr t k = t2 at *
      generalize setV t ((k : Int) + 1) (readN fr k) = tv at *
      generalize writeSteps t.flash 1 ((k : Int) + 1) (readN fr k) = ws at *
      generalize readN t k = x at *
      generalize readN fr k = y at *
      have hk1 : IntKind.i64.wrap ((k : Int) + 1) = (k : Int) + 1 := IntWalk.i64_in _ (by omega)
      go_wp2_with fail
      refine (hrd _ (ext_refl _)).mono ?_; rintro e3 w3 ⟨rfl, hx3⟩
      clear hrd
      by_cases hxy : x = y
      · subst hxy
        have HS2 := HSTP.out
        rw [if_pos rfl] at HS2
        subst HS2
        clear HSTP hps hto gp gpf c0
        go_wp2_with fail
        go_roundw
        case rel => exact ⟨k + 1, t2, _, _, L, by omega, by go_num, ext_trans hX hx3, Lib.hid (HIL.out.ext hx3), keep_ext hx3 GP, Lib.hid (HO.out.ext hx3), HN, HB, HST, HR, keep_ext hx3 G4⟩
        case measure => simp [intOf]; omega
      · have HS2 := HSTP.out
        rw [if_neg hxy] at HS2
        subst HS2
        replace GP := keep_ext hx3 GP
        clear HSTP gp gpf c0
        obtain ⟨gp, gpf⟩ := cellsK GP
        have lP := heap_lt GP
        have hxy' : (x == y) = false := by simpa using hxy
        go_wp2_with fail
        refine (hps _ hx3).mono ?_; rintro e4 w4 ⟨sv, rfl, hx4, hS, hwl⟩
        have X4 := ext_trans hx3 hx4
        obtain ⟨sa, sc, rfl⟩ := hS.form
        replace GP := keep_ext hx4 GP
        have HSS := Lib.hid hS.steps
        clear gp gpf hps hS hx4 hx3
        obtain ⟨gp, gpf⟩ := cellsK GP
        have lP := heap_lt GP
        go_wp2_with fail
        refine (hto _ _ X4 HSS.out hwl).mono ?_; rintro e5 w5 ⟨f5, d5, M, rfl, hx5, hOM, hnM, hbM⟩
        have X5 := ext_trans X4 hx5
        obtain ⟨q3, m3, c3, q4, m4, c4, rfl, rfl⟩ := hOM.forms
        replace GP := keep_ext hx5 GP
        have G4' := keep_ext X5 G4
        have HIL5 := Lib.hid (HIL.out.ext X5)
        have lP5 := heap_lt GP
        have hX5 := ext_trans hX X5
        have HOM := Lib.hid hOM
        have HNM := Lib.hid hnM
        have s4 := X4.size
        have hlM := hOM.lt
        have HBM : Hid (∀ b ∈ M, w.heap.size + 3 ≤ b ∧ b ≠ P) := Lib.hid fun b hb => by have := hbM b hb; omega
        have hneP : ¬ (w5.heap.size = P) := by omega
        clear gp gpf hto HSS hx5 hOM hnM hbM hlM X4 HIL HO
        obtain ⟨gp, gpf⟩ := cellsK GP
        go_wp2_with fail
        have hC : Chg [P] w5 (((w5.setCell ⟨P, 0, none⟩ (.slice q3 m3 c3)).setCell ⟨P, 1, none⟩ (.slice q4 m4 c4)).alloc (.cells #[.slice q3 m3 c3, .slice q4 m4 c4] 31)) :=
          (((Chg.refl _ _).set (p := ⟨P, 0, none⟩) (.inl (by simp)) _).set (p := ⟨P, 1, none⟩) (.inl (by simp)) _).alloc' _
        refine ⟨⟨k + 1, t2, _, _, M, by omega, by go_num, hC.ext hX5 (by simp; omega), Lib.hid (HIL5.out.chg hC (by simp; omega)), hg_alloc (hgo (hg_here (hg_here GP)) rfl), Lib.hid (HOM.out.chg hC fun b hb hm => by have := HBM.out b hb; simp at hm; omega), HNM, HBM, HST2, HR, hC.keep G4' (by simp; omega)⟩, by simp [intOf]; omega⟩
    · obtain rfl : k = 6 := by omega
      have hr := HR.out
      rw [List.drop_eq_nil_of_le (by simp [addrs6])] at hr
      have hr : t = sameV fr s := hr
      obtain ⟨g4, gf4⟩ := cellsK G4
      have l4 := heap_lt G4
      go_wp2_with fail
      refine bodyPost_ret (v := .agg #[.slice b1 k1 j1, .slice b2 k2 j2]) (by simp [results, Tryz.results37, go_sem, g4, gf4]) rfl ⟨_, _, L, rfl, ?_, ?_, HN.out, fun b hb => by have := HB.out b hb; omega⟩
      · ((repeat (first | with_reducible (refine ext_set2 ?_ ?_); focus (first | exact Nat.le_refl _ | (dsimp only; omega) | (simp; omega)) | with_reducible refine ext_alloc2 ?_)); with_reducible exact hX)
      · rw [← hr]
        refine HO.out.keep fun b hb => ?_
        have := HB.out b hb
        iterate 2 rw [setCell_other (by omega)]
end Go.Bu

set_option linter.unusedVariables false
set_option linter.unusedSimpArgs false
namespace Go.Bu
open Go Go.RowKit Go.Plan Go.Proofs

set_option maxRecDepth 20000 in
set_option maxHeartbeats 4000000 in
theorem implPairMend_c (f d g e : Value) (p : Pair) (w : World) (hA : StoreV w f d p.A) (hB : StoreV w g e p.B) (hsA : Small p.A) (hsB : Small p.B) :
    Calls Tryz.prog 15 #[.agg #[f, d, g, e, .int .i64 p.lost]] w (PairΦ w (mendV p)) := by
  have hPO := fun (w' : World) (hx : Ext w w') => implPairOk_c f d g e p w' (hA.ext hx) (hB.ext hx) hsA.2.1 hsB.2.1 hsA.2.2 hsB.2.2
  have hTW := fun (w' : World) (hx : Ext w w') (h1 : Shape4 p.A) (h2 : Shape4 p.B) => twinsOf_c f d g e p w' (hA.ext hx) (hB.ext hx) h1 h2
  rw [show (inB p.lost 0 2 && (storeOkB p.A && storeOkB p.B)) = pairOkB p from rfl] at hPO
  unfold mendV
  obtain ⟨a1, n1, rfl⟩ := hA.1.form
  obtain ⟨a2, n2, rfl⟩ := hA.2.form
  obtain ⟨a3, n3, rfl⟩ := hB.1.form
  obtain ⟨a4, n4, rfl⟩ := hB.2.form
  clear hA hB hsA hsB
  by_cases hok : pairOkB p = true
  · obtain ⟨hl, hokA, hokB⟩ := pairOk_iff.1 hok
    have hTw := fun (w' : World) (hx : Ext w w') => hTW w' hx (storeOk_shape hokA) (storeOk_shape hokB)
    rw [hok] at hPO
    simp only [hok, if_true]
    have HPA := Lib.hid (storeOk_P hokA)
    have HPB := Lib.hid (storeOk_P hokB)
    have HOKA := Lib.hid hokA
    have HOKB := Lib.hid hokB
    clear hTW hok hokA hokB
    by_cases h0 : p.lost = 0
    · rw [if_pos h0]
      rw [h0] at hTw hPO ⊢
      go_enter Tryz.func15, Tryz.ntmps15
      go_wp2_with fail
      refine (hPO _ (ext_alloc (ext_alloc (ext_refl _) _) _)).mono ?_; rintro e1 w1 ⟨rfl, hx1⟩
      have X1 := ext_trans (ext_alloc (ext_alloc (ext_refl w) _) _) hx1
      have G0 := keep_ext hx1 (hg_alloc (hg_new (b := w.heap.size) rfl))
      have G1 := keep_ext hx1 (hg_new (b := w.heap.size + 1) (by simp))
      obtain ⟨g0, gf0⟩ := cellsK G0
      obtain ⟨g1, gf1⟩ := cellsK G1
      have lw2 := heap_lt G1
      clear hPO hx1
      go_wp2_with fail
      refine (hTw _ X1).mono ?_; rintro e2 w2 ⟨tv, rfl, hx2, b1, b2, f1, d1, g2, e2, L, K, T1, T2, rfl, H1, H2, hO1, hO2, hn, hb⟩
      have X20 := ext_trans X1 hx2
      have s1 := X1.size
      have sw2 := hx2.size
      have l1 := heap_lt H1
      have l2 := heap_lt H2
      have sb1 := hb b1 (by simp)
      have sb2 := hb b2 (by simp)
      have hlL := hO1.lt
      have hlK := hO2.lt
      obtain ⟨q1, m1, c1, q2, m2, c2, rfl, rfl⟩ := hO1.forms
      obtain ⟨q3, m3, c3, q4, m4, c4, rfl, rfl⟩ := hO2.forms
      have XA : Ext w2 (w2.alloc (.cells #[.pointer (some ⟨b1, 0, none⟩), .pointer (some ⟨b2, 0, none⟩), .int .i64 0] 55)) := ext_alloc (ext_refl _) _
      have G11 : (w2.alloc (.cells #[.pointer (some ⟨b1, 0, none⟩), .pointer (some ⟨b2, 0, none⟩), .int .i64 0] 55)).heap[w2.heap.size]? = some (.cells #[.pointer (some ⟨b1, 0, none⟩), .pointer (some ⟨b2, 0, none⟩), .int .i64 0] 55 (0, 0)) := hg_new rfl
      replace G1 := keep_ext (ext_trans hx2 XA) G1
      replace H1 := keep_ext XA H1
      replace H2 := keep_ext XA H2
      have HO1 := Lib.hid (hO1.ext XA)
      have HO2 := Lib.hid (hO2.ext XA)
      have HN := Lib.hid hn
      have HBb := Lib.hid hb
      have HlL := Lib.hid hlL
      have HlK := Lib.hid hlK
      have X2 := ext_trans X20 XA
      have hne12 : b1 ≠ b2 := fun e => (List.nodup_cons.1 hn).1 (by rw [e]; simp)
      have HSZ : Hid ((w2.alloc (.cells #[.pointer (some ⟨b1, 0, none⟩), .pointer (some ⟨b2, 0, none⟩), .int .i64 0] 55)).heap.size = w2.heap.size + 1) := Lib.hid (by simp)
      clear g0 gf0 g1 gf1 G0 hx2 hO1 hO2 hn hb hlL hlK XA hTw
      obtain ⟨g11, gf11⟩ := cellsK G11
      go_wp2_with fail
      refine wp_region_ext [2, 4, 5] [0, 1, 3, 2, 4, 5] [] [6] (by kernel_rfl) (by kernel_rfl) ?late ?_
      case late => exact fun f hf => absurd hf List.not_mem_nil
      iterate 3
        refine Rob.y (v := ?_) rfl rfl (fun w1 hx hH => ?_) ?_; rotate_left
        · (have hE : Ext _ w1 := (by first | exact hx | exact hx.1); obtain ⟨z11, zf11⟩ := cellsK (keep_ext hE G11)); go_simp; first | done | rfl
        simp only [Act.put, List.setIfInBounds_toArray, List.set_cons_succ, List.set_cons_zero]
      refine Rob.cv (.agg #[.slice q1 m1 c1, .slice q2 m2 c2]) rfl rfl rfl (fun _ _ => ext_trans) (fun w1 hx hH => ?_) (fun lo2 hi2 hlo2 hhi2 => ?_)
      · unfold RunTo; go_simp; exact (first_c b1 b2 0 _ _ T1 _ ⟨_, _, _, rfl⟩ ⟨_, _, _, rfl⟩ (keep_ext hx H1)).mono fun e w' h => h.to
      simp only [Act.put, List.setIfInBounds_toArray, List.set_cons_succ, List.set_cons_zero]
      refine Rob.cv (.agg #[.slice q3 m3 c3, .slice q4 m4 c4]) rfl rfl rfl (fun _ _ => ext_trans) (fun w1 hx hH => ?_) (fun lo4 hi4 hlo4 hhi4 => ?_)
      · unfold RunTo; go_simp; exact (other_c b1 b2 0 _ _ T2 _ ⟨_, _, _, rfl⟩ ⟨_, _, _, rfl⟩ (keep_ext hx H2)).mono fun e w' h => h.to
      simp only [Act.put, List.setIfInBounds_toArray, List.set_cons_succ, List.set_cons_zero]
      refine Rob.c (StoreM (sameV p.A p.B)) rfl rfl rfl (fun _ _ => ext_trans) (fun _ _ _ _ _ => fun h hx => h.ext hx) (fun w1 hx hH => ?_) (fun lo5 hi5 v5 hlo5 hhi5 hv5 => ?_)
      · unfold RunTo; go_simp; exact (copyValues_c _ _ _ _ p.A p.B _ (HO1.out.ext hx).v (HO2.out.ext hx).v HOKA.out HOKB.out).mono fun e w' h => h.to
      simp only [Act.put, List.setIfInBounds_toArray, List.set_cons_succ, List.set_cons_zero]
      obtain ⟨_, hv5⟩ := hv5
      obtain ⟨r1, k1, j1, r2, k2, j2, rfl⟩ := hv5.forms
      refine fin_tail (fun w3 hx3 _ => ?_)
      simp only [dstOf, List.getElem?_cons_succ, List.getElem?_cons_zero, Option.bind_some, Act.put, List.setIfInBounds_toArray, List.set_cons_succ, List.set_cons_zero, List.filterMap_cons, List.filterMap_nil]
      obtain ⟨hx3, hM⟩ := hx3
      obtain ⟨M, hOM, hnM, hbM⟩ := hM.own
      have hsz := HSZ.out
      have HBM : Hid (∀ b ∈ M, w2.heap.size < b) := Lib.hid (fun b hb => by have := hbM b hb; omega)
      have HOM := Lib.hid hOM
      have HNM := Lib.hid hnM
      have X3 := ext_trans X2 hx3
      replace G1 := keep_ext hx3 G1
      replace G11 := keep_ext hx3 G11
      replace H1 := keep_ext hx3 H1
      replace H2 := keep_ext hx3 H2
      replace HO1 := Lib.hid (HO1.out.ext hx3)
      replace HO2 := Lib.hid (HO2.out.ext hx3)
      have l11 := heap_lt G11
      clear g11 gf11 hM hOM hnM hbM hx3 hv5
      obtain ⟨g11, gf11⟩ := cellsK G11
      go_wp2_with fail
      refine (setOther_c b1 b2 0 _ _ _ _ T2 _ ⟨_, _, _, rfl⟩ ⟨_, _, _, rfl⟩ H2).mono ?_; rintro e4 w4 ⟨rfl, hC4, H4⟩
      have X4 : Ext w w4 := hC4.ext X3 (by simp; omega)
      replace G1 := hC4.keep G1 (by simp; omega)
      replace G11 := hC4.keep G11 (by simp; omega)
      replace H1 := hC4.keep H1 (by simpa using hne12)
      replace H2 := H4
      have HOM2 := Lib.hid (HOM.out.chg hC4 (fun b hb hm => by have := HBM.out b hb; simp at hm; omega))
      have HOO := Lib.hid (HO1.out.chg hC4 (fun b hb hm => by
        simp at hm
        subst hm
        exact (List.nodup_cons.1 (List.nodup_cons.1 HN.out).2).1 (by simp [hb])))
      clear HOM HO1 HO2 hC4 H4 g11 gf11
      obtain ⟨g11, gf11⟩ := cellsK G11
      have l4 := heap_lt G11
      have l1x := heap_lt H1
      have l2x := heap_lt H2
      go_wp2_with fail
      have HBB : Hid (∀ b ∈ L ++ M, w.heap.size + 2 ≤ b) := Lib.hid (fun b hb => by
        rcases List.mem_append.1 hb with hb | hb
        · have := HBb.out b (by simp [hb]); omega
        · have := HBM.out b hb; omega)
      have HNN : Hid ((L ++ M).Nodup) := Lib.hid (by
        have hnd := (List.nodup_cons.1 (List.nodup_cons.1 HN.out).2).2
        rw [List.nodup_append] at hnd ⊢
        exact ⟨hnd.1, HNM.out, fun x hx y hy e => by have := HBM.out y hy; have := HlL.out x hx; omega⟩)
      have HOA := HOO
      have HOB := HOM2
      refine (twPair_c b1 b2 0 _ _ _ _ T1 T2 _ ⟨_, _, _, rfl⟩ ⟨_, _, _, rfl⟩ ⟨_, _, _, rfl⟩ ⟨_, _, _, rfl⟩ H1 H2).mono ?_; rintro e6 w6 ⟨rfl, hx6⟩
      have X6 := ext_trans X4 hx6
      replace G1 := keep_ext hx6 G1
      have HA6 := Lib.hid (HOA.out.ext hx6)
      have HB6 := Lib.hid (HOB.out.ext hx6)
      clear HOA HOB g11 gf11
      obtain ⟨g1, gf1⟩ := cellsK G1
      go_wp2_with fail
      refine bodyPost_ret (v := .agg #[.slice q1 m1 c1, .slice q2 m2 c2, .slice r1 k1 j1, .slice r2 k2 j2, .int .i64 0]) (by simp [results, Tryz.results15, go_sem, g1, gf1]) rfl ⟨_, rfl, ?_, .inr ⟨_, _, _, _, L, M, rfl, ?_, ?_, ?_, ?_, HPA.out.shape4, HPB.out.same.shape4⟩⟩
      · ((repeat (first | with_reducible (refine ext_set2 ?_ ?_); focus (first | exact Nat.le_refl _ | (dsimp only; omega) | (simp; omega)) | with_reducible refine ext_alloc2 ?_)); with_reducible exact X6)
      · refine HA6.out.keep fun b hb => ?_
        have := HBB.out b (by simp [hb])
        (repeat rw [setCell_other (by omega)])
      · refine HB6.out.keep fun b hb => ?_
        have := HBB.out b (by simp [hb])
        (repeat rw [setCell_other (by omega)])
      · exact HNN.out
      · exact fun b hb => by have := HBB.out b hb; omega
    · rw [if_neg h0]
      have h0b : (p.lost == 0) = false := by simpa using h0
      go_enter Tryz.func15, Tryz.ntmps15
      go_wp2_with fail
      refine (hPO _ (ext_alloc (ext_alloc (ext_refl _) _) _)).mono ?_; rintro e1 w1 ⟨rfl, hx1⟩
      have X1 := ext_trans (ext_alloc (ext_alloc (ext_refl w) _) _) hx1
      have G0 := keep_ext hx1 (hg_alloc (hg_new (b := w.heap.size) rfl))
      have G1 := keep_ext hx1 (hg_new (b := w.heap.size + 1) (by simp))
      obtain ⟨g0, gf0⟩ := cellsK G0
      obtain ⟨g1, gf1⟩ := cellsK G1
      have lw2 := heap_lt G1
      clear hPO hx1
      go_wp2_with fail
      refine (hTw _ X1).mono ?_; rintro e2 w2 ⟨tv, rfl, hx2, b1, b2, f1, d1, g2, e2, L, K, T1, T2, rfl, H1, H2, hO1, hO2, hn, hb⟩
      have X20 := ext_trans X1 hx2
      have s1 := X1.size
      have sw2 := hx2.size
      have l1 := heap_lt H1
      have l2 := heap_lt H2
      have sb1 := hb b1 (by simp)
      have sb2 := hb b2 (by simp)
      have hlL := hO1.lt
      have hlK := hO2.lt
      obtain ⟨q1, m1, c1, q2, m2, c2, rfl, rfl⟩ := hO1.forms
      obtain ⟨q3, m3, c3, q4, m4, c4, rfl, rfl⟩ := hO2.forms
      have XA : Ext w2 (w2.alloc (.cells #[.pointer (some ⟨b1, 0, none⟩), .pointer (some ⟨b2, 0, none⟩), .int .i64 p.lost] 55)) := ext_alloc (ext_refl _) _
      have G11 : (w2.alloc (.cells #[.pointer (some ⟨b1, 0, none⟩), .pointer (some ⟨b2, 0, none⟩), .int .i64 p.lost] 55)).heap[w2.heap.size]? = some (.cells #[.pointer (some ⟨b1, 0, none⟩), .pointer (some ⟨b2, 0, none⟩), .int .i64 p.lost] 55 (0, 0)) := hg_new rfl
      replace G1 := keep_ext (ext_trans hx2 XA) G1
      replace H1 := keep_ext XA H1
      replace H2 := keep_ext XA H2
      have HO1 := Lib.hid (hO1.ext XA)
      have HO2 := Lib.hid (hO2.ext XA)
      have HN := Lib.hid hn
      have HBb := Lib.hid hb
      have HlL := Lib.hid hlL
      have HlK := Lib.hid hlK
      have X2 := ext_trans X20 XA
      have hne12 : b1 ≠ b2 := fun e => (List.nodup_cons.1 hn).1 (by rw [e]; simp)
      have HSZ : Hid ((w2.alloc (.cells #[.pointer (some ⟨b1, 0, none⟩), .pointer (some ⟨b2, 0, none⟩), .int .i64 p.lost] 55)).heap.size = w2.heap.size + 1) := Lib.hid (by simp)
      clear g0 gf0 g1 gf1 G0 hx2 hO1 hO2 hn hb hlL hlK XA hTw
      obtain ⟨g11, gf11⟩ := cellsK G11
      go_wp2_with fail
      have HOA := HO1
      have HOB := HO2
      have HBB : Hid (∀ b ∈ L ++ K, w.heap.size + 2 ≤ b) := Lib.hid (fun b hb => by
        rcases List.mem_append.1 hb with hb | hb
        · have := HBb.out b (by simp [hb]); omega
        · have := HBb.out b (by simp [hb]); omega)
      have HNN : Hid ((L ++ K).Nodup) := Lib.hid (by
        have hnd := (List.nodup_cons.1 (List.nodup_cons.1 HN.out).2).2
        rw [List.nodup_append] at hnd ⊢
        exact hnd)
      refine (twPair_c b1 b2 p.lost _ _ _ _ T1 T2 _ ⟨_, _, _, rfl⟩ ⟨_, _, _, rfl⟩ ⟨_, _, _, rfl⟩ ⟨_, _, _, rfl⟩ H1 H2).mono ?_; rintro e6 w6 ⟨rfl, hx6⟩
      have X6 := ext_trans X2 hx6
      replace G1 := keep_ext hx6 G1
      have HA6 := Lib.hid (HOA.out.ext hx6)
      have HB6 := Lib.hid (HOB.out.ext hx6)
      clear HOA HOB g11 gf11
      obtain ⟨g1, gf1⟩ := cellsK G1
      go_wp2_with fail
      refine bodyPost_ret (v := .agg #[.slice q1 m1 c1, .slice q2 m2 c2, .slice q3 m3 c3, .slice q4 m4 c4, .int .i64 p.lost]) (by simp [results, Tryz.results15, go_sem, g1, gf1]) rfl ⟨_, rfl, ?_, .inr ⟨_, _, _, _, L, K, rfl, ?_, ?_, ?_, ?_, HPA.out.shape4, HPB.out.shape4⟩⟩
      · ((repeat (first | with_reducible (refine ext_set2 ?_ ?_); focus (first | exact Nat.le_refl _ | (dsimp only; omega) | (simp; omega)) | with_reducible refine ext_alloc2 ?_)); with_reducible exact X6)
      · refine HA6.out.keep fun b hb => ?_
        have := HBB.out b (by simp [hb])
        (repeat rw [setCell_other (by omega)])
      · refine HB6.out.keep fun b hb => ?_
        have := HBB.out b (by simp [hb])
        (repeat rw [setCell_other (by omega)])
      · exact HNN.out
      · exact fun b hb => by have := HBB.out b hb; omega
  · rw [Bool.not_eq_true] at hok
    rw [hok] at hPO
    rw [if_neg (by rw [hok]; simp)]
    go_enter Tryz.func15, Tryz.ntmps15
    go_wp2_with fail
    refine (hPO _ (ext_alloc (ext_alloc (ext_refl _) _) _)).mono ?_; rintro e1 w1 ⟨rfl, hx1⟩
    have X1 := ext_trans (ext_alloc (ext_alloc (ext_refl w) _) _) hx1
    have G0 := keep_ext hx1 (hg_alloc (hg_new (b := w.heap.size) rfl))
    have G1 := keep_ext hx1 (hg_new (b := w.heap.size + 1) (by simp))
    obtain ⟨g0, gf0⟩ := cellsK G0
    obtain ⟨g1, gf1⟩ := cellsK G1
    have lw2 := heap_lt G1
    clear hPO hx1
    go_wp2_with fail
    refine bodyPost_ret (v := nilPair) (by simp [results, Tryz.results15, go_sem, g1, gf1, nilPair]) rfl ⟨_, rfl, ?_, .inl ⟨rfl, rfl⟩⟩
    ((repeat (first | with_reducible (refine ext_set2 ?_ ?_); focus (first | exact Nat.le_refl _ | (dsimp only; omega) | (simp; omega)) | with_reducible refine ext_alloc2 ?_)); with_reducible exact X1)

set_option maxRecDepth 20000 in
set_option maxHeartbeats 4000000 in
theorem implPairBack_c (f d g e : Value) (p : Pair) (w : World) (hA : StoreV w f d p.A) (hB : StoreV w g e p.B) (hsA : Small p.A) (hsB : Small p.B) :
    Calls Tryz.prog 25 #[.agg #[f, d, g, e, .int .i64 p.lost]] w (PairΦ w (backV p)) := by
  have hPO := fun (w' : World) (hx : Ext w w') => implPairOk_c f d g e p w' (hA.ext hx) (hB.ext hx) hsA.2.1 hsB.2.1 hsA.2.2 hsB.2.2
  have hTW := fun (w' : World) (hx : Ext w w') (h1 : Shape4 p.A) (h2 : Shape4 p.B) => twinsOf_c f d g e p w' (hA.ext hx) (hB.ext hx) h1 h2
  rw [show (inB p.lost 0 2 && (storeOkB p.A && storeOkB p.B)) = pairOkB p from rfl] at hPO
  unfold backV
  obtain ⟨a1, n1, rfl⟩ := hA.1.form
  obtain ⟨a2, n2, rfl⟩ := hA.2.form
  obtain ⟨a3, n3, rfl⟩ := hB.1.form
  obtain ⟨a4, n4, rfl⟩ := hB.2.form
  clear hA hB hsA hsB
  by_cases hok : pairOkB p = true
  · obtain ⟨hl, hokA, hokB⟩ := pairOk_iff.1 hok
    have hTw := fun (w' : World) (hx : Ext w w') => hTW w' hx (storeOk_shape hokA) (storeOk_shape hokB)
    rw [hok] at hPO
    simp only [hok, if_true]
    have HPA := Lib.hid (storeOk_P hokA)
    have HPB := Lib.hid (storeOk_P hokB)
    have HOKA := Lib.hid hokA
    have HOKB := Lib.hid hokB
    clear hTW hok hokA hokB
    by_cases h1 : p.lost = 1
    · rw [if_pos h1]
      rw [h1] at hTw hPO ⊢
      go_enter Tryz.func25, Tryz.ntmps25
      go_wp2_with fail
      refine (hPO _ (ext_alloc (ext_alloc (ext_refl _) _) _)).mono ?_; rintro e1 w1 ⟨rfl, hx1⟩
      have X1 := ext_trans (ext_alloc (ext_alloc (ext_refl w) _) _) hx1
      have G0 := keep_ext hx1 (hg_alloc (hg_new (b := w.heap.size) rfl))
      have G1 := keep_ext hx1 (hg_new (b := w.heap.size + 1) (by simp))
      obtain ⟨g0, gf0⟩ := cellsK G0
      obtain ⟨g1, gf1⟩ := cellsK G1
      have lw2 := heap_lt G1
      clear hPO hx1
      go_wp2_with fail
      refine (hTw _ X1).mono ?_; rintro e2 w2 ⟨tv, rfl, hx2, b1, b2, f1, d1, g2, e2, L, K, T1, T2, rfl, H1, H2, hO1, hO2, hn, hb⟩
      have X20 := ext_trans X1 hx2
      have s1 := X1.size
      have sw2 := hx2.size
      have l1 := heap_lt H1
      have l2 := heap_lt H2
      have sb1 := hb b1 (by simp)
      have sb2 := hb b2 (by simp)
      have hlL := hO1.lt
      have hlK := hO2.lt
      obtain ⟨q1, m1, c1, q2, m2, c2, rfl, rfl⟩ := hO1.forms
      obtain ⟨q3, m3, c3, q4, m4, c4, rfl, rfl⟩ := hO2.forms
      have XA : Ext w2 (w2.alloc (.cells #[.pointer (some ⟨b1, 0, none⟩), .pointer (some ⟨b2, 0, none⟩), .int .i64 1] 55)) := ext_alloc (ext_refl _) _
      have G11 : (w2.alloc (.cells #[.pointer (some ⟨b1, 0, none⟩), .pointer (some ⟨b2, 0, none⟩), .int .i64 1] 55)).heap[w2.heap.size]? = some (.cells #[.pointer (some ⟨b1, 0, none⟩), .pointer (some ⟨b2, 0, none⟩), .int .i64 1] 55 (0, 0)) := hg_new rfl
      replace G1 := keep_ext (ext_trans hx2 XA) G1
      replace H1 := keep_ext XA H1
      replace H2 := keep_ext XA H2
      have HO1 := Lib.hid (hO1.ext XA)
      have HO2 := Lib.hid (hO2.ext XA)
      have HN := Lib.hid hn
      have HBb := Lib.hid hb
      have HlL := Lib.hid hlL
      have HlK := Lib.hid hlK
      have X2 := ext_trans X20 XA
      have hne12 : b1 ≠ b2 := fun e => (List.nodup_cons.1 hn).1 (by rw [e]; simp)
      have HSZ : Hid ((w2.alloc (.cells #[.pointer (some ⟨b1, 0, none⟩), .pointer (some ⟨b2, 0, none⟩), .int .i64 1] 55)).heap.size = w2.heap.size + 1) := Lib.hid (by simp)
      clear g0 gf0 g1 gf1 G0 hx2 hO1 hO2 hn hb hlL hlK XA hTw
      obtain ⟨g11, gf11⟩ := cellsK G11
      go_wp2_with fail
      refine wp_region_ext [2, 4, 5] [0, 1, 3, 2, 4, 5] [] [6] (by kernel_rfl) (by kernel_rfl) ?late ?_
      case late => exact fun f hf => absurd hf List.not_mem_nil
      iterate 3
        refine Rob.y (v := ?_) rfl rfl (fun w1 hx hH => ?_) ?_; rotate_left
        · (have hE : Ext _ w1 := (by first | exact hx | exact hx.1); obtain ⟨z11, zf11⟩ := cellsK (keep_ext hE G11)); go_simp; first | done | rfl
        simp only [Act.put, List.setIfInBounds_toArray, List.set_cons_succ, List.set_cons_zero]
      refine Rob.cv (.agg #[.slice q3 m3 c3, .slice q4 m4 c4]) rfl rfl rfl (fun _ _ => ext_trans) (fun w1 hx hH => ?_) (fun lo2 hi2 hlo2 hhi2 => ?_)
      · unfold RunTo; go_simp; exact (other_c b1 b2 1 _ _ T2 _ ⟨_, _, _, rfl⟩ ⟨_, _, _, rfl⟩ (keep_ext hx H2)).mono fun e w' h => h.to
      simp only [Act.put, List.setIfInBounds_toArray, List.set_cons_succ, List.set_cons_zero]
      refine Rob.cv (.agg #[.slice q1 m1 c1, .slice q2 m2 c2]) rfl rfl rfl (fun _ _ => ext_trans) (fun w1 hx hH => ?_) (fun lo4 hi4 hlo4 hhi4 => ?_)
      · unfold RunTo; go_simp; exact (first_c b1 b2 1 _ _ T1 _ ⟨_, _, _, rfl⟩ ⟨_, _, _, rfl⟩ (keep_ext hx H1)).mono fun e w' h => h.to
      simp only [Act.put, List.setIfInBounds_toArray, List.set_cons_succ, List.set_cons_zero]
      refine Rob.c (StoreM (sameV p.B p.A)) rfl rfl rfl (fun _ _ => ext_trans) (fun _ _ _ _ _ => fun h hx => h.ext hx) (fun w1 hx hH => ?_) (fun lo5 hi5 v5 hlo5 hhi5 hv5 => ?_)
      · unfold RunTo; go_simp; exact (copyValues_c _ _ _ _ p.B p.A _ (HO2.out.ext hx).v (HO1.out.ext hx).v HOKB.out HOKA.out).mono fun e w' h => h.to
      simp only [Act.put, List.setIfInBounds_toArray, List.set_cons_succ, List.set_cons_zero]
      obtain ⟨_, hv5⟩ := hv5
      obtain ⟨r1, k1, j1, r2, k2, j2, rfl⟩ := hv5.forms
      refine fin_tail (fun w3 hx3 _ => ?_)
      simp only [dstOf, List.getElem?_cons_succ, List.getElem?_cons_zero, Option.bind_some, Act.put, List.setIfInBounds_toArray, List.set_cons_succ, List.set_cons_zero, List.filterMap_cons, List.filterMap_nil]
      obtain ⟨hx3, hM⟩ := hx3
      obtain ⟨M, hOM, hnM, hbM⟩ := hM.own
      have hsz := HSZ.out
      have HBM : Hid (∀ b ∈ M, w2.heap.size < b) := Lib.hid (fun b hb => by have := hbM b hb; omega)
      have HOM := Lib.hid hOM
      have HNM := Lib.hid hnM
      have X3 := ext_trans X2 hx3
      replace G1 := keep_ext hx3 G1
      replace G11 := keep_ext hx3 G11
      replace H1 := keep_ext hx3 H1
      replace H2 := keep_ext hx3 H2
      replace HO1 := Lib.hid (HO1.out.ext hx3)
      replace HO2 := Lib.hid (HO2.out.ext hx3)
      have l11 := heap_lt G11
      clear g11 gf11 hM hOM hnM hbM hx3 hv5
      obtain ⟨g11, gf11⟩ := cellsK G11
      go_wp2_with fail
      refine (setFirst_c b1 b2 1 _ _ _ _ T1 _ ⟨_, _, _, rfl⟩ ⟨_, _, _, rfl⟩ H1).mono ?_; rintro e4 w4 ⟨rfl, hC4, H4⟩
      have X4 : Ext w w4 := hC4.ext X3 (by simp; omega)
      replace G1 := hC4.keep G1 (by simp; omega)
      replace G11 := hC4.keep G11 (by simp; omega)
      replace H2 := hC4.keep H2 (by simpa using (Ne.symm hne12))
      replace H1 := H4
      have HOM2 := Lib.hid (HOM.out.chg hC4 (fun b hb hm => by have := HBM.out b hb; simp at hm; omega))
      have HOO := Lib.hid (HO2.out.chg hC4 (fun b hb hm => by
        simp at hm
        subst hm
        exact (List.nodup_cons.1 HN.out).1 (by simp [hb])))
      clear HOM HO1 HO2 hC4 H4 g11 gf11
      obtain ⟨g11, gf11⟩ := cellsK G11
      have l4 := heap_lt G11
      have l1x := heap_lt H1
      have l2x := heap_lt H2
      go_wp2_with fail
      have HBB : Hid (∀ b ∈ M ++ K, w.heap.size + 2 ≤ b) := Lib.hid (fun b hb => by
        rcases List.mem_append.1 hb with hb | hb
        · have := HBM.out b hb; omega
        · have := HBb.out b (by simp [hb]); omega)
      have HNN : Hid ((M ++ K).Nodup) := Lib.hid (by
        have hnd := (List.nodup_cons.1 (List.nodup_cons.1 HN.out).2).2
        rw [List.nodup_append] at hnd ⊢
        exact ⟨HNM.out, hnd.2.1, fun x hx y hy e => by have := HBM.out x hx; have := HlK.out y hy; omega⟩)
      have hC5 : Chg [w2.heap.size] w4 (w4.setCell ⟨w2.heap.size, 2, none⟩ (.int .i64 0)) := (Chg.refl _ _).set (p := ⟨w2.heap.size, 2, none⟩) (.inl (by simp)) _
      replace G1 := hC5.keep G1 (by simp; omega)
      replace H1 := hC5.keep H1 (by simp; omega)
      replace H2 := hC5.keep H2 (by simp; omega)
      replace HOM2 := Lib.hid (HOM2.out.chg hC5 (fun b hb hm => by have := HBM.out b hb; simp at hm; omega))
      replace HOO := Lib.hid (HOO.out.chg hC5 (fun b hb hm => by have := HlK.out b hb; simp at hm; omega))
      have X5 : Ext w (w4.setCell ⟨w2.heap.size, 2, none⟩ (.int .i64 0)) := hC5.ext X4 (by simp; omega)
      clear hC5
      generalize w4.setCell ⟨w2.heap.size, 2, none⟩ (.int .i64 0) = w5 at *
      have HOA := HOM2
      have HOB := HOO
      refine (twPair_c b1 b2 0 _ _ _ _ T1 T2 _ ⟨_, _, _, rfl⟩ ⟨_, _, _, rfl⟩ ⟨_, _, _, rfl⟩ ⟨_, _, _, rfl⟩ H1 H2).mono ?_; rintro e6 w6 ⟨rfl, hx6⟩
      have X6 := ext_trans X5 hx6
      replace G1 := keep_ext hx6 G1
      have HA6 := Lib.hid (HOA.out.ext hx6)
      have HB6 := Lib.hid (HOB.out.ext hx6)
      clear HOA HOB g11 gf11
      obtain ⟨g1, gf1⟩ := cellsK G1
      go_wp2_with fail
      refine bodyPost_ret (v := .agg #[.slice r1 k1 j1, .slice r2 k2 j2, .slice q3 m3 c3, .slice q4 m4 c4, .int .i64 0]) (by simp [results, Tryz.results25, go_sem, g1, gf1]) rfl ⟨_, rfl, ?_, .inr ⟨_, _, _, _, M, K, rfl, ?_, ?_, ?_, ?_, HPA.out.same.shape4, HPB.out.shape4⟩⟩
      · ((repeat (first | with_reducible (refine ext_set2 ?_ ?_); focus (first | exact Nat.le_refl _ | (dsimp only; omega) | (simp; omega)) | with_reducible refine ext_alloc2 ?_)); with_reducible exact X6)
      · refine HA6.out.keep fun b hb => ?_
        have := HBB.out b (by simp [hb])
        (repeat rw [setCell_other (by omega)])
      · refine HB6.out.keep fun b hb => ?_
        have := HBB.out b (by simp [hb])
        (repeat rw [setCell_other (by omega)])
      · exact HNN.out
      · exact fun b hb => by have := HBB.out b hb; omega
    · rw [if_neg h1]
      by_cases h2 : p.lost = 2
      · rw [if_pos h2]
        rw [h2] at hTw hPO ⊢
        go_enter Tryz.func25, Tryz.ntmps25
        go_wp2_with fail
        refine (hPO _ (ext_alloc (ext_alloc (ext_refl _) _) _)).mono ?_; rintro e1 w1 ⟨rfl, hx1⟩
        have X1 := ext_trans (ext_alloc (ext_alloc (ext_refl w) _) _) hx1
        have G0 := keep_ext hx1 (hg_alloc (hg_new (b := w.heap.size) rfl))
        have G1 := keep_ext hx1 (hg_new (b := w.heap.size + 1) (by simp))
        obtain ⟨g0, gf0⟩ := cellsK G0
        obtain ⟨g1, gf1⟩ := cellsK G1
        have lw2 := heap_lt G1
        clear hPO hx1
        go_wp2_with fail
        refine (hTw _ X1).mono ?_; rintro e2 w2 ⟨tv, rfl, hx2, b1, b2, f1, d1, g2, e2, L, K, T1, T2, rfl, H1, H2, hO1, hO2, hn, hb⟩
        have X20 := ext_trans X1 hx2
        have s1 := X1.size
        have sw2 := hx2.size
        have l1 := heap_lt H1
        have l2 := heap_lt H2
        have sb1 := hb b1 (by simp)
        have sb2 := hb b2 (by simp)
        have hlL := hO1.lt
        have hlK := hO2.lt
        obtain ⟨q1, m1, c1, q2, m2, c2, rfl, rfl⟩ := hO1.forms
        obtain ⟨q3, m3, c3, q4, m4, c4, rfl, rfl⟩ := hO2.forms
        have XA : Ext w2 (w2.alloc (.cells #[.pointer (some ⟨b1, 0, none⟩), .pointer (some ⟨b2, 0, none⟩), .int .i64 2] 55)) := ext_alloc (ext_refl _) _
        have G11 : (w2.alloc (.cells #[.pointer (some ⟨b1, 0, none⟩), .pointer (some ⟨b2, 0, none⟩), .int .i64 2] 55)).heap[w2.heap.size]? = some (.cells #[.pointer (some ⟨b1, 0, none⟩), .pointer (some ⟨b2, 0, none⟩), .int .i64 2] 55 (0, 0)) := hg_new rfl
        replace G1 := keep_ext (ext_trans hx2 XA) G1
        replace H1 := keep_ext XA H1
        replace H2 := keep_ext XA H2
        have HO1 := Lib.hid (hO1.ext XA)
        have HO2 := Lib.hid (hO2.ext XA)
        have HN := Lib.hid hn
        have HBb := Lib.hid hb
        have HlL := Lib.hid hlL
        have HlK := Lib.hid hlK
        have X2 := ext_trans X20 XA
        have hne12 : b1 ≠ b2 := fun e => (List.nodup_cons.1 hn).1 (by rw [e]; simp)
        have HSZ : Hid ((w2.alloc (.cells #[.pointer (some ⟨b1, 0, none⟩), .pointer (some ⟨b2, 0, none⟩), .int .i64 2] 55)).heap.size = w2.heap.size + 1) := Lib.hid (by simp)
        clear g0 gf0 g1 gf1 G0 hx2 hO1 hO2 hn hb hlL hlK XA hTw
        obtain ⟨g11, gf11⟩ := cellsK G11
        go_wp2_with fail
        refine wp_region_ext [2, 4, 5] [0, 1, 3, 2, 4, 5] [] [6] (by kernel_rfl) (by kernel_rfl) ?late ?_
        case late => exact fun f hf => absurd hf List.not_mem_nil
        iterate 3
          refine Rob.y (v := ?_) rfl rfl (fun w1 hx hH => ?_) ?_; rotate_left
          · (have hE : Ext _ w1 := (by first | exact hx | exact hx.1); obtain ⟨z11, zf11⟩ := cellsK (keep_ext hE G11)); go_simp; first | done | rfl
          simp only [Act.put, List.setIfInBounds_toArray, List.set_cons_succ, List.set_cons_zero]
        refine Rob.cv (.agg #[.slice q1 m1 c1, .slice q2 m2 c2]) rfl rfl rfl (fun _ _ => ext_trans) (fun w1 hx hH => ?_) (fun lo2 hi2 hlo2 hhi2 => ?_)
        · unfold RunTo; go_simp; exact (first_c b1 b2 2 _ _ T1 _ ⟨_, _, _, rfl⟩ ⟨_, _, _, rfl⟩ (keep_ext hx H1)).mono fun e w' h => h.to
        simp only [Act.put, List.setIfInBounds_toArray, List.set_cons_succ, List.set_cons_zero]
        refine Rob.cv (.agg #[.slice q3 m3 c3, .slice q4 m4 c4]) rfl rfl rfl (fun _ _ => ext_trans) (fun w1 hx hH => ?_) (fun lo4 hi4 hlo4 hhi4 => ?_)
        · unfold RunTo; go_simp; exact (other_c b1 b2 2 _ _ T2 _ ⟨_, _, _, rfl⟩ ⟨_, _, _, rfl⟩ (keep_ext hx H2)).mono fun e w' h => h.to
        simp only [Act.put, List.setIfInBounds_toArray, List.set_cons_succ, List.set_cons_zero]
        refine Rob.c (StoreM (sameV p.A p.B)) rfl rfl rfl (fun _ _ => ext_trans) (fun _ _ _ _ _ => fun h hx => h.ext hx) (fun w1 hx hH => ?_) (fun lo5 hi5 v5 hlo5 hhi5 hv5 => ?_)
        · unfold RunTo; go_simp; exact (copyValues_c _ _ _ _ p.A p.B _ (HO1.out.ext hx).v (HO2.out.ext hx).v HOKA.out HOKB.out).mono fun e w' h => h.to
        simp only [Act.put, List.setIfInBounds_toArray, List.set_cons_succ, List.set_cons_zero]
        obtain ⟨_, hv5⟩ := hv5
        obtain ⟨r1, k1, j1, r2, k2, j2, rfl⟩ := hv5.forms
        refine fin_tail (fun w3 hx3 _ => ?_)
        simp only [dstOf, List.getElem?_cons_succ, List.getElem?_cons_zero, Option.bind_some, Act.put, List.setIfInBounds_toArray, List.set_cons_succ, List.set_cons_zero, List.filterMap_cons, List.filterMap_nil]
        obtain ⟨hx3, hM⟩ := hx3
        obtain ⟨M, hOM, hnM, hbM⟩ := hM.own
        have hsz := HSZ.out
        have HBM : Hid (∀ b ∈ M, w2.heap.size < b) := Lib.hid (fun b hb => by have := hbM b hb; omega)
        have HOM := Lib.hid hOM
        have HNM := Lib.hid hnM
        have X3 := ext_trans X2 hx3
        replace G1 := keep_ext hx3 G1
        replace G11 := keep_ext hx3 G11
        replace H1 := keep_ext hx3 H1
        replace H2 := keep_ext hx3 H2
        replace HO1 := Lib.hid (HO1.out.ext hx3)
        replace HO2 := Lib.hid (HO2.out.ext hx3)
        have l11 := heap_lt G11
        clear g11 gf11 hM hOM hnM hbM hx3 hv5
        obtain ⟨g11, gf11⟩ := cellsK G11
        go_wp2_with fail
        refine (setOther_c b1 b2 2 _ _ _ _ T2 _ ⟨_, _, _, rfl⟩ ⟨_, _, _, rfl⟩ H2).mono ?_; rintro e4 w4 ⟨rfl, hC4, H4⟩
        have X4 : Ext w w4 := hC4.ext X3 (by simp; omega)
        replace G1 := hC4.keep G1 (by simp; omega)
        replace G11 := hC4.keep G11 (by simp; omega)
        replace H1 := hC4.keep H1 (by simpa using hne12)
        replace H2 := H4
        have HOM2 := Lib.hid (HOM.out.chg hC4 (fun b hb hm => by have := HBM.out b hb; simp at hm; omega))
        have HOO := Lib.hid (HO1.out.chg hC4 (fun b hb hm => by
          simp at hm
          subst hm
          exact (List.nodup_cons.1 (List.nodup_cons.1 HN.out).2).1 (by simp [hb])))
        clear HOM HO1 HO2 hC4 H4 g11 gf11
        obtain ⟨g11, gf11⟩ := cellsK G11
        have l4 := heap_lt G11
        have l1x := heap_lt H1
        have l2x := heap_lt H2
        go_wp2_with fail
        have HBB : Hid (∀ b ∈ L ++ M, w.heap.size + 2 ≤ b) := Lib.hid (fun b hb => by
          rcases List.mem_append.1 hb with hb | hb
          · have := HBb.out b (by simp [hb]); omega
          · have := HBM.out b hb; omega)
        have HNN : Hid ((L ++ M).Nodup) := Lib.hid (by
          have hnd := (List.nodup_cons.1 (List.nodup_cons.1 HN.out).2).2
          rw [List.nodup_append] at hnd ⊢
          exact ⟨hnd.1, HNM.out, fun x hx y hy e => by have := HBM.out y hy; have := HlL.out x hx; omega⟩)
        have hC5 : Chg [w2.heap.size] w4 (w4.setCell ⟨w2.heap.size, 2, none⟩ (.int .i64 0)) := (Chg.refl _ _).set (p := ⟨w2.heap.size, 2, none⟩) (.inl (by simp)) _
        replace G1 := hC5.keep G1 (by simp; omega)
        replace H1 := hC5.keep H1 (by simp; omega)
        replace H2 := hC5.keep H2 (by simp; omega)
        replace HOM2 := Lib.hid (HOM2.out.chg hC5 (fun b hb hm => by have := HBM.out b hb; simp at hm; omega))
        replace HOO := Lib.hid (HOO.out.chg hC5 (fun b hb hm => by have := HlL.out b hb; simp at hm; omega))
        have X5 : Ext w (w4.setCell ⟨w2.heap.size, 2, none⟩ (.int .i64 0)) := hC5.ext X4 (by simp; omega)
        clear hC5
        generalize w4.setCell ⟨w2.heap.size, 2, none⟩ (.int .i64 0) = w5 at *
        have HOA := HOO
        have HOB := HOM2
        refine (twPair_c b1 b2 0 _ _ _ _ T1 T2 _ ⟨_, _, _, rfl⟩ ⟨_, _, _, rfl⟩ ⟨_, _, _, rfl⟩ ⟨_, _, _, rfl⟩ H1 H2).mono ?_; rintro e6 w6 ⟨rfl, hx6⟩
        have X6 := ext_trans X5 hx6
        replace G1 := keep_ext hx6 G1
        have HA6 := Lib.hid (HOA.out.ext hx6)
        have HB6 := Lib.hid (HOB.out.ext hx6)
        clear HOA HOB g11 gf11
        obtain ⟨g1, gf1⟩ := cellsK G1
        go_wp2_with fail
        refine bodyPost_ret (v := .agg #[.slice q1 m1 c1, .slice q2 m2 c2, .slice r1 k1 j1, .slice r2 k2 j2, .int .i64 0]) (by simp [results, Tryz.results25, go_sem, g1, gf1]) rfl ⟨_, rfl, ?_, .inr ⟨_, _, _, _, L, M, rfl, ?_, ?_, ?_, ?_, HPA.out.shape4, HPB.out.same.shape4⟩⟩
        · ((repeat (first | with_reducible (refine ext_set2 ?_ ?_); focus (first | exact Nat.le_refl _ | (dsimp only; omega) | (simp; omega)) | with_reducible refine ext_alloc2 ?_)); with_reducible exact X6)
        · refine HA6.out.keep fun b hb => ?_
          have := HBB.out b (by simp [hb])
          (repeat rw [setCell_other (by omega)])
        · refine HB6.out.keep fun b hb => ?_
          have := HBB.out b (by simp [hb])
          (repeat rw [setCell_other (by omega)])
        · exact HNN.out
        · exact fun b hb => by have := HBB.out b hb; omega
      · rw [if_neg h2]
        have h0 : p.lost = 0 := by omega
        rw [h0] at hTw hPO ⊢
        clear h1 h2
        go_enter Tryz.func25, Tryz.ntmps25
        go_wp2_with fail
        refine (hPO _ (ext_alloc (ext_alloc (ext_refl _) _) _)).mono ?_; rintro e1 w1 ⟨rfl, hx1⟩
        have X1 := ext_trans (ext_alloc (ext_alloc (ext_refl w) _) _) hx1
        have G0 := keep_ext hx1 (hg_alloc (hg_new (b := w.heap.size) rfl))
        have G1 := keep_ext hx1 (hg_new (b := w.heap.size + 1) (by simp))
        obtain ⟨g0, gf0⟩ := cellsK G0
        obtain ⟨g1, gf1⟩ := cellsK G1
        have lw2 := heap_lt G1
        clear hPO hx1
        go_wp2_with fail
        refine (hTw _ X1).mono ?_; rintro e2 w2 ⟨tv, rfl, hx2, b1, b2, f1, d1, g2, e2, L, K, T1, T2, rfl, H1, H2, hO1, hO2, hn, hb⟩
        have X20 := ext_trans X1 hx2
        have s1 := X1.size
        have sw2 := hx2.size
        have l1 := heap_lt H1
        have l2 := heap_lt H2
        have sb1 := hb b1 (by simp)
        have sb2 := hb b2 (by simp)
        have hlL := hO1.lt
        have hlK := hO2.lt
        obtain ⟨q1, m1, c1, q2, m2, c2, rfl, rfl⟩ := hO1.forms
        obtain ⟨q3, m3, c3, q4, m4, c4, rfl, rfl⟩ := hO2.forms
        have XA : Ext w2 (w2.alloc (.cells #[.pointer (some ⟨b1, 0, none⟩), .pointer (some ⟨b2, 0, none⟩), .int .i64 0] 55)) := ext_alloc (ext_refl _) _
        have G11 : (w2.alloc (.cells #[.pointer (some ⟨b1, 0, none⟩), .pointer (some ⟨b2, 0, none⟩), .int .i64 0] 55)).heap[w2.heap.size]? = some (.cells #[.pointer (some ⟨b1, 0, none⟩), .pointer (some ⟨b2, 0, none⟩), .int .i64 0] 55 (0, 0)) := hg_new rfl
        replace G1 := keep_ext (ext_trans hx2 XA) G1
        replace H1 := keep_ext XA H1
        replace H2 := keep_ext XA H2
        have HO1 := Lib.hid (hO1.ext XA)
        have HO2 := Lib.hid (hO2.ext XA)
        have HN := Lib.hid hn
        have HBb := Lib.hid hb
        have HlL := Lib.hid hlL
        have HlK := Lib.hid hlK
        have X2 := ext_trans X20 XA
        have hne12 : b1 ≠ b2 := fun e => (List.nodup_cons.1 hn).1 (by rw [e]; simp)
        have HSZ : Hid ((w2.alloc (.cells #[.pointer (some ⟨b1, 0, none⟩), .pointer (some ⟨b2, 0, none⟩), .int .i64 0] 55)).heap.size = w2.heap.size + 1) := Lib.hid (by simp)
        clear g0 gf0 g1 gf1 G0 hx2 hO1 hO2 hn hb hlL hlK XA hTw
        obtain ⟨g11, gf11⟩ := cellsK G11
        go_wp2_with fail
        have HOA := HO1
        have HOB := HO2
        have HBB : Hid (∀ b ∈ L ++ K, w.heap.size + 2 ≤ b) := Lib.hid (fun b hb => by
          rcases List.mem_append.1 hb with hb | hb
          · have := HBb.out b (by simp [hb]); omega
          · have := HBb.out b (by simp [hb]); omega)
        have HNN : Hid ((L ++ K).Nodup) := Lib.hid (by
          have hnd := (List.nodup_cons.1 (List.nodup_cons.1 HN.out).2).2
          rw [List.nodup_append] at hnd ⊢
          exact hnd)
        refine (twPair_c b1 b2 0 _ _ _ _ T1 T2 _ ⟨_, _, _, rfl⟩ ⟨_, _, _, rfl⟩ ⟨_, _, _, rfl⟩ ⟨_, _, _, rfl⟩ H1 H2).mono ?_; rintro e6 w6 ⟨rfl, hx6⟩
        have X6 := ext_trans X2 hx6
        replace G1 := keep_ext hx6 G1
        have HA6 := Lib.hid (HOA.out.ext hx6)
        have HB6 := Lib.hid (HOB.out.ext hx6)
        clear HOA HOB g11 gf11
        obtain ⟨g1, gf1⟩ := cellsK G1
        go_wp2_with fail
        refine bodyPost_ret (v := .agg #[.slice q1 m1 c1, .slice q2 m2 c2, .slice q3 m3 c3, .slice q4 m4 c4, .int .i64 0]) (by simp [results, Tryz.results25, go_sem, g1, gf1]) rfl ⟨_, rfl, ?_, .inr ⟨_, _, _, _, L, K, rfl, ?_, ?_, ?_, ?_, HPA.out.shape4, HPB.out.shape4⟩⟩
        · ((repeat (first | with_reducible (refine ext_set2 ?_ ?_); focus (first | exact Nat.le_refl _ | (dsimp only; omega) | (simp; omega)) | with_reducible refine ext_alloc2 ?_)); with_reducible exact X6)
        · refine HA6.out.keep fun b hb => ?_
          have := HBB.out b (by simp [hb])
          (repeat rw [setCell_other (by omega)])
        · refine HB6.out.keep fun b hb => ?_
          have := HBB.out b (by simp [hb])
          (repeat rw [setCell_other (by omega)])
        · exact HNN.out
        · exact fun b hb => by have := HBB.out b hb; omega
  · rw [Bool.not_eq_true] at hok
    rw [hok] at hPO
    rw [if_neg (by rw [hok]; simp)]
    go_enter Tryz.func25, Tryz.ntmps25
    go_wp2_with fail
    refine (hPO _ (ext_alloc (ext_alloc (ext_refl _) _) _)).mono ?_; rintro e1 w1 ⟨rfl, hx1⟩
    have X1 := ext_trans (ext_alloc (ext_alloc (ext_refl w) _) _) hx1
    have G0 := keep_ext hx1 (hg_alloc (hg_new (b := w.heap.size) rfl))
    have G1 := keep_ext hx1 (hg_new (b := w.heap.size + 1) (by simp))
    obtain ⟨g0, gf0⟩ := cellsK G0
    obtain ⟨g1, gf1⟩ := cellsK G1
    have lw2 := heap_lt G1
    clear hPO hx1
    go_wp2_with fail
    refine bodyPost_ret (v := nilPair) (by simp [results, Tryz.results25, go_sem, g1, gf1, nilPair]) rfl ⟨_, rfl, ?_, .inl ⟨rfl, rfl⟩⟩
    ((repeat (first | with_reducible (refine ext_set2 ?_ ?_); focus (first | exact Nat.le_refl _ | (dsimp only; omega) | (simp; omega)) | with_reducible refine ext_alloc2 ?_)); with_reducible exact X1)
end Go.Bu

set_option linter.unusedVariables false
set_option linter.unusedSimpArgs false
namespace Go.Plan
open Go Go.RowKit

section main
variable {P : Program} {l : List Oper} {Q : Exit → Act → World → Prop} {ch heads tail : List Nat} {lates : Lates} {B0 : Nat}

theorem pend_of {fin : (World → Prop) → List (Nat × Nat) → Nat → Act → Prop} (st : Static l ch heads lates tail) {listed : Array Bool} {a' : Act} {w' : World} {pre : List Nat} {S C : World → Prop} {iv : List (Nat × Nat)} {H : Nat} {a : Act} {bl : Nat → Nat}
    (h : Inv P l ch heads lates tail B0 fin listed a' w' pre [] S C iv H a bl) (hl : ∀ f ∈ lates, On listed f.1) : Pend P l tail w' listed a' (putLates l bl lates a) := by
  have hpre : heads = pre := by rw [h.split, List.append_nil]
  have hnd1 := (List.nodup_append.1 st.nd)
  have hnd : (lates.map (·.1)).Nodup := (List.nodup_append.1 hnd1.1).2.1
  have hmem : ∀ f ∈ lates, f.1 ∈ lates.map (·.1) := fun f hf => List.mem_map.2 ⟨f, hf, rfl⟩
  have hclH : Closed l (· ∈ heads) := st.closedP (pre := heads) (rest := []) (by simp)
  have hpg := fun t => putLates_get (l := l) bl st.okN lates a t (fun f hf => st.lt _ (.inr (.inl (hmem f hf)))) hnd
  refine ⟨h.siz, h.cl, ?_, h.tailUn, by rw [putLates_defers]; exact h.dfr, by rw [putLates_size]; exact h.tsz, ?_⟩
  · intro i o ho hit hun
    have hil := (List.getElem?_eq_some_iff.1 ho).1
    have hih : i ∈ heads := by
      rcases st.all i hil with h1 | h1 | h1
      · exact h1
      · obtain ⟨f, hf, rfl⟩ := List.mem_map.1 h1; exact absurd (hl f hf) hun
      · exact absurd h1 hit
    obtain ⟨o', v, ho', hy, hv⟩ := h.yld i (hpre ▸ hih) hun
    rw [ho] at ho'; obtain rfl := Option.some.inj ho'
    have hy' : YieldsIf P l.toArray (· = w') o v a := hy.imp (fun ⟨h1, h2⟩ => ⟨h1, fun w hw => h2 w (hw ▸ ⟨h.hS, h.hH⟩)⟩) id
    obtain ⟨hex, hwt⟩ := same_on (l := l) (fun cs b => st.sel i o cs b ho) (a := a) (a' := putLates l bl lates a) (fun t ht => (hpg t).1 fun f hf hd => by
      have := masks_spec hclH ho (hclH i o ho hih) ((st.okK hil (st.lt _ (.inr (.inl (hmem f hf)))) hd (by unfold looks; rw [ho]; exact ht)).resolve_right (st.late_tail (hmem f hf)))
      exact st.head_late this (hmem f hf))
    refine ⟨v, hy'.of_same hex hwt, fun d hd hlt => ?_⟩
    rw [putLates_size] at hlt
    rw [(hpg d).1 fun f hf hdf => ?_]
    · exact hv d hd hlt
    · exact st.okN (st.lt _ (.inr (.inl (hmem f hf)))) hil (fun e => st.head_late hih (e ▸ hmem f hf)) (by unfold dstOf; rw [ho]; exact hd) hdf
  · intro t ht
    by_cases hx : ∃ f ∈ lates, dstOf l f.1 = some t
    · obtain ⟨f, hf, hd⟩ := hx
      rw [(hpg t).2 f hf hd]
      by_cases hlt : t < a.tmps.size
      · rw [if_pos hlt]; exact (h.late f hf (hl f hf)).2 t hd (by rw [h.tsz]; exact hlt)
      · rw [if_neg hlt]; exact Array.getElem?_eq_none (by rw [h.tsz]; exact Nat.not_lt.1 hlt)
    · rw [(hpg t).1 (fun f hf hd => hx ⟨f, hf, hd⟩)]
      refine h.agree t fun j hj hd => ?_
      rcases st.all j hj with h1 | h1 | h1
      · exact (ht j hj hd).imp (fun h2 => ⟨h2, h1⟩) id
      · obtain ⟨f, hf, rfl⟩ := List.mem_map.1 h1; exact absurd ⟨f, hf, hd⟩ hx
      · exact .inr h1

theorem rob_soundG {fin : (World → Prop) → List (Nat × Nat) → Nat → Act → Prop} (st : Static l ch heads lates tail) (hlate : ∀ f ∈ lates, ∃ o, l[f.1]? = some o ∧ ∀ (a : Act) (w : World), (execOp a.eval o).run P w = .ok (.value (f.2.2 w.heap.size)) (w.alloc f.2.1))
    (hdone : ∀ {fuel : Nat} {listed : Array Bool} {a' : Act} {w' : World} {pre : List Nat} {S C : World → Prop} {iv : List (Nat × Nat)} {H : Nat} {a : Act} {bl : Nat → Nat}, unl l listed ≤ fuel → Inv P l ch heads lates tail B0 fin listed a' w' pre [] S C iv H a bl → (∀ f ∈ lates, On listed f.1) → wpAny P .any l.toArray Q fuel listed a' w') :
    ∀ (fuel : Nat) (listed : Array Bool) (a' : Act) (w' : World) (pre rest : List Nat) (S C : World → Prop) (iv : List (Nat × Nat)) (H : Nat) (a : Act) (bl : Nat → Nat),
      unl l listed ≤ fuel → Inv P l ch heads lates tail B0 fin listed a' w' pre rest S C iv H a bl → wpAny P .any l.toArray Q fuel listed a' w' := by
  intro fuel
  induction fuel with
  | zero =>
    intro listed a' w' pre rest S C iv H a bl hu h
    have hall : ∀ i, i < l.length → On listed i := fun i hi => unl_zero (by omega) hi
    cases rest with
    | nil => exact hdone hu h (fun f hf => hall _ (st.lt _ (.inr (.inl (List.mem_map.2 ⟨f, hf, rfl⟩)))))
    | cons c L => exact absurd (hall c (st.lt c (.inl (by rw [h.split]; simp)))) (h.restUn c (by simp))
  | succ fuel ih =>
    intro listed a' w' pre0 rest0 S C iv H a0 bl hu h0
    obtain ⟨pre, rest, a, h, hch⟩ := Inv.advance st rest0 pre0 S C iv H a0 h0
    clear h0 a0 pre0 rest0
    by_cases hdone : rest = [] ∧ ∀ f ∈ lates, On listed f.1
    · obtain ⟨hre, hlo⟩ := hdone
      subst hre
      exact hdone hu h hlo
    -- something is ready
    have hready : Region.ready .any l.toArray listed ≠ [] := by
      have hex : ∃ i, ¬ On listed i ∧ ∃ o, l[i]? = some o ∧ ∀ j ∈ deps o, On listed j := by
        by_cases hh : ∀ i ∈ heads, On listed i
        · have : ∃ f ∈ lates, ¬ On listed f.1 := by
            by_cases hx : ∃ f ∈ lates, ¬ On listed f.1
            · exact hx
            · exact absurd ⟨by
                cases hrs : rest with
                | nil => rfl
                | cons c L => exact absurd (hh c (by rw [h.split, hrs]; simp)) (h.restUn c (by rw [hrs]; simp)), fun f hf => Classical.byContradiction fun hc => hx ⟨f, hf, hc⟩⟩ hdone
          obtain ⟨f, hf, hn⟩ := this
          obtain ⟨o, ho, hd, _⟩ := okLates_mem st.okL f.1 (List.mem_map.2 ⟨f, hf, rfl⟩)
          exact ⟨f.1, hn, o, ho, fun j hj => hh j (hd j hj)⟩
        · have : ∃ i ∈ heads, ¬ On listed i := by
            refine Classical.byContradiction fun hc => hh fun i hi => Classical.byContradiction fun hn => hc ⟨i, hi, hn⟩
          obtain ⟨i, _, h1, h2⟩ := exists_ready heads [] (fun L1 i L2 e => by
            obtain ⟨o, ho, hd, _⟩ := okHeads_split st.okH L1 i L2 e
            exact ⟨o, ho, hd⟩) (fun i hi => by cases hi) this
          exact ⟨i, h1, h2⟩
      obtain ⟨i, h1, h2⟩ := hex
      intro he
      have := (ready_iff h.siz).2 ⟨h1, h2⟩
      rw [he] at this
      cases this
    refine ⟨fun h0 => absurd h0 hready, fun i hi => ?_⟩
    obtain ⟨hun, o, ho, hdeps⟩ := (ready_iff h.siz).1 hi
    have hil := (List.getElem?_eq_some_iff.1 ho).1
    have hdst : ∀ d, o.dst = some d → dstOf l i = some d := fun d hd => by unfold dstOf; rw [ho]; exact hd
    have hsz : i < listed.size := by rw [h.siz]; exact hil
    have hu' : unl l (listed.setIfInBounds i true) ≤ fuel := by have := unl_set (l := l) h.siz hil hun; omega
    have hcl' := closed_set h.siz h.cl ho hdeps
    rcases st.all i hil with hih | hil' | hit
    · -- a head operation
      have hlook : ∀ t ∈ o.looksAt l.toArray, a'.tmps[t]? = a.tmps[t]? := by
        intro t ht
        obtain ⟨L1, L2, hsp⟩ := List.append_of_mem hih
        refine h.agree t fun j hj hd => ?_
        by_cases hjt : j ∈ tail
        · exact .inr hjt
        have hjp := st.looks_pre hsp ho ht hj hd hjt
        have hm := (st.okK hil hj hd (by unfold looks; rw [ho]; exact ht)).resolve_right hjt
        exact .inl ⟨masks_spec h.cl ho hdeps hm, by rw [hsp]; simp [hjp]⟩
      obtain ⟨hex, hwt⟩ := same_on (fun cs b => st.sel i o cs b ho) hlook
      rw [h.split] at hih
      rcases List.mem_append.1 hih with hp | hr
      · -- one that yields
        obtain ⟨o', v, ho', hy, hv⟩ := h.yld i hp hun
        rw [ho] at ho'; obtain rfl := Option.some.inj ho'
        have hy' := hy.of_same (a' := a') hex hwt
        refine YieldsIf.wpOp (P := P) (ops := l.toArray) (S := fun w => S w ∧ H ≤ w.heap.size) (by simpa using ho) hy' ⟨h.hS, h.hH⟩ ?_
        refine ih _ _ w' pre rest S C iv H a bl hu' { h with siz := by simpa using h.siz, cl := hcl', yld := ?_, restUn := ?_, tailUn := ?_, dfr := by rw [put_defers']; exact h.dfr, tsz := by rw [put_size]; exact h.tsz, agree := ?_, late := ?_, lateNe := ?_ }
        · intro k hk hn
          exact h.yld k hk (fun hon => hn ((on_set hsz).2 (.inr hon)))
        · intro k hk hon
          rcases (on_set hsz).1 hon with rfl | hon
          · have hnd : heads.Nodup := (List.nodup_append.1 (List.nodup_append.1 st.nd).1).1
            rw [h.split] at hnd
            exact (List.nodup_append.1 hnd).2.2 k hp k hk rfl
          · exact h.restUn k hk hon
        · intro k hk hon
          rcases (on_set hsz).1 hon with rfl | hon
          · exact st.head_tail (by rw [h.split]; simp [hp]) hk
          · exact h.tailUn k hk hon
        · intro t ht
          cases hod : o.dst with
          | none =>
            refine h.agree t fun j hj hd => ?_
            rcases ht j hj hd with ⟨h1, h2⟩ | h1
            · rcases (on_set hsz).1 h1 with rfl | h1
              · have : dstOf l j = none := by unfold dstOf; rw [ho]; exact hod
                rw [this] at hd; cases hd
              · exact .inl ⟨h1, h2⟩
            · exact .inr h1
          | some d =>
            rw [put_get]
            by_cases htd : t = d
            · subst htd
              rw [if_pos rfl]
              by_cases hlt : t < a'.tmps.size
              · rw [if_pos hlt, hv t hod (by rw [← h.tsz]; exact hlt)]
              · have hge : a.tmps.size ≤ t := by rw [← h.tsz]; exact Nat.not_lt.1 hlt
                rw [if_neg hlt, Array.getElem?_eq_none hge]
            · rw [if_neg htd]
              refine h.agree t fun j hj hd => ?_
              rcases ht j hj hd with ⟨h1, h2⟩ | h1
              · rcases (on_set hsz).1 h1 with rfl | h1
                · rw [hdst d hod] at hd; exact absurd (Option.some.inj hd).symm htd
                · exact .inl ⟨h1, h2⟩
              · exact .inr h1
        · intro f hf hon
          have hfi : f.1 ≠ i := fun e => st.head_late (by rw [h.split]; simp [hp]) (List.mem_map.2 ⟨f, hf, e⟩)
          have hon' : On listed f.1 := by rcases (on_set hsz).1 hon with e | e; exact absurd e hfi; exact e
          refine ⟨(h.late f hf hon').1, fun d hd hlt => ?_⟩
          rw [put_size] at hlt
          cases hod : o.dst with
          | none => exact (h.late f hf hon').2 d hd hlt
          | some e =>
            rw [put_get, if_neg]
            · exact (h.late f hf hon').2 d hd hlt
            · rintro rfl
              exact st.okN (st.lt _ (.inr (.inl (List.mem_map.2 ⟨f, hf, rfl⟩)))) hil hfi (hdst _ hod) hd
        · intro f hf g hg hf1 hg1 hne
          have hfi : ∀ f ∈ lates, f.1 ≠ i := fun f hf e => st.head_late (by rw [h.split]; simp [hp]) (List.mem_map.2 ⟨f, hf, e⟩)
          have hon' : ∀ f ∈ lates, On (listed.setIfInBounds i true) f.1 → On listed f.1 := fun f hf hon => by rcases (on_set hsz).1 hon with e | e; exact absurd e (hfi f hf); exact e
          exact h.lateNe f hf g hg (hon' f hf hf1) (hon' g hg hg1) hne
      · -- the next one that may turn the world
        cases rest with
        | nil => cases hr
        | cons c L =>
          obtain ⟨oc, hoc, hcc, hcw, Ψ, C', ⟨hst, hstC⟩, hrun, hnext⟩ := hch
          by_cases hic : i = c
          · subst hic
            rw [ho] at hoc; obtain rfl := Option.some.inj hoc
            have hnm := st.not_mem h.split
            have hrt := (hrun w' h.hS h.hC h.hH).congr hex.symm
            unfold wpOp
            simp only [List.getElem?_toArray, ho]
            rw [if_pos (hwt.trans hcw)]
            refine .inl (hrt.wp fun v w'' hv => ?_)
            obtain ⟨hsp, hS', hΨ, hC'⟩ := hv
            have hfi : ∀ f ∈ lates, f.1 ≠ i := fun f hf e => st.head_late (by rw [h.split]; simp) (List.mem_map.2 ⟨f, hf, e⟩)
            have hon' : ∀ f ∈ lates, On (listed.setIfInBounds i true) f.1 → On listed f.1 := fun f hf hon => by rcases (on_set hsz).1 hon with e | e; exact absurd e (hfi f hf); exact e
            have hself : ∀ t, o.dst = some t → t ∉ o.looksAt l.toArray := fun t hd ht => hnm.1 (st.looks_pre h.split ho ht hil (hdst t hd) (st.head_tail (by rw [h.split]; simp)))
            refine ih _ _ w'' (pre ++ [i]) L _ _ _ w''.heap.size (a.put o.dst v) bl hu' { split := by rw [h.split]; simp, rob := hnext w'.heap.size w''.heap.size v h.hH hsp.size ⟨w'', hΨ, hC'⟩, stabC := fun w1 w2 hc he => hstC _ _ _ w1 w2 hc he, hC := hC', siz := by simpa using h.siz, cl := hcl', yld := ?_, restUn := ?_, tailUn := ?_, stab := ?_, hS := ⟨hS', hΨ⟩, hH := Nat.le_refl _, hB := ?_, hiv := ?_, dfr := by rw [put_defers', put_defers']; exact h.dfr, tsz := by rw [put_size, put_size]; exact h.tsz, agree := ?_, late := ?_, lateNe := ?_ }
            · intro k hk hn
              rcases List.mem_append.1 hk with hk | hk
              · obtain ⟨ok, vk, hok, hyk, hvk⟩ := h.yld k hk (fun hon => hn ((on_set hsz).2 (.inr hon)))
                have hkl := (List.getElem?_eq_some_iff.1 hok).1
                have hki : k ≠ i := fun e => hnm.1 (e ▸ hk)
                refine ⟨ok, vk, hok, ?_, ?_⟩
                · have hyk' : YieldsIf P l.toArray (fun w => (S w ∧ Ψ w'.heap.size w''.heap.size v w) ∧ w''.heap.size ≤ w.heap.size) ok vk a :=
                    hyk.imp (fun ⟨h1, h2⟩ => ⟨h1, fun w hw => h2 w ⟨hw.1.1, Nat.le_trans h.hH (Nat.le_trans hsp.size hw.2)⟩⟩) id
                  refine YieldsIf.put (fun cs b => st.sel k ok cs b hok) hyk' ?_
                  intro t hd ht
                  obtain ⟨L1, L2, hsp'⟩ := List.append_of_mem hk
                  have := st.looks_pre (pre := L1) (rest := L2 ++ i :: L) (by rw [h.split, hsp']; simp) hok ht hil (hdst t hd) (st.head_tail (by rw [h.split]; simp))
                  exact hnm.1 (by rw [hsp']; simp [this])
                · intro d hd hlt
                  rw [put_size] at hlt
                  cases hod : o.dst with
                  | none => exact hvk d hd hlt
                  | some e =>
                    rw [put_get, if_neg]
                    · exact hvk d hd hlt
                    · rintro rfl
                      exact st.okN hkl hil hki (hdst _ hod) (by unfold dstOf; rw [hok]; exact hd)
              · obtain rfl : k = i := by simpa using hk
                exact absurd ((on_set hsz).2 (.inl rfl)) hn
            · intro k hk hon
              rcases (on_set hsz).1 hon with rfl | hon
              · exact hnm.2 hk
              · exact h.restUn k (by simp [hk]) hon
            · intro k hk hon
              rcases (on_set hsz).1 hon with rfl | hon
              · exact st.head_tail (by rw [h.split]; simp) hk
              · exact h.tailUn k hk hon
            · exact fun w1 w2 hs he => ⟨h.stab w1 w2 hs.1 he, hst _ _ _ w1 w2 hs.2 he⟩
            · exact Nat.le_trans h.hB (Nat.le_trans h.hH hsp.size)
            · intro p hp
              rcases List.mem_append.1 hp with hp | hp
              · exact Nat.le_trans (h.hiv p hp) (Nat.le_trans h.hH hsp.size)
              · obtain rfl : p = (w'.heap.size, w''.heap.size) := by simpa using hp
                exact Nat.le_refl _
            · intro t ht
              cases hod : o.dst with
              | none =>
                refine h.agree t fun j hj hd => ?_
                rcases ht j hj hd with ⟨h1, h2⟩ | h1
                · rcases (on_set hsz).1 h1 with rfl | h1
                  · have : dstOf l j = none := by unfold dstOf; rw [ho]; exact hod
                    rw [this] at hd; cases hd
                  · exact .inl ⟨h1, h2⟩
                · exact .inr h1
              | some d =>
                rw [put_get, put_get, h.tsz]
                by_cases htd : t = d
                · rw [if_pos htd, if_pos htd]
                · rw [if_neg htd, if_neg htd]
                  refine h.agree t fun j hj hd => ?_
                  rcases ht j hj hd with ⟨h1, h2⟩ | h1
                  · rcases (on_set hsz).1 h1 with rfl | h1
                    · rw [hdst d hod] at hd; exact absurd (Option.some.inj hd).symm htd
                    · exact .inl ⟨h1, h2⟩
                  · exact .inr h1
            · intro f hf hon
              obtain ⟨hla, hlv⟩ := h.late f hf (hon' f hf hon)
              refine ⟨⟨hla.ge, Nat.lt_of_lt_of_le hla.lt hsp.size, ?_, ?_⟩, fun d hd hlt => ?_⟩
              · rw [hsp.same _ hla.ge hla.lt hla.out]; exact hla.obj
              · intro p hp
                rcases List.mem_append.1 hp with hp | hp
                · exact hla.out p hp
                · obtain rfl : p = (w'.heap.size, w''.heap.size) := by simpa using hp
                  exact .inl hla.lt
              · rw [put_size] at hlt
                cases hod : o.dst with
                | none => exact hlv d hd hlt
                | some e =>
                  rw [put_get, if_neg]
                  · exact hlv d hd hlt
                  · rintro rfl
                    exact st.okN (st.lt _ (.inr (.inl (List.mem_map.2 ⟨f, hf, rfl⟩)))) hil (hfi f hf) (hdst _ hod) hd
            · exact fun f hf g hg hf1 hg1 hne => h.lateNe f hf g hg (hon' f hf hf1) (hon' g hg hg1) hne
          · -- a later head operation waits for it
            have hr' : i ∈ L := by
              rcases List.mem_cons.1 hr with e | e
              · exact absurd e hic
              · exact e
            obtain ⟨L1, L2, rfl⟩ := List.append_of_mem hr'
            obtain ⟨o', ho', _, hm⟩ := okHeads_split st.okH (pre ++ c :: L1) i L2 (by rw [h.split]; simp)
            rw [ho] at ho'; obtain rfl := Option.some.inj ho'
            exact absurd (masks_spec h.cl ho hdeps (hm c (by simp) hcc)) (h.restUn c (by simp))
    · -- a late operation
      obtain ⟨f, hf, rfl⟩ := List.mem_map.1 hil'
      obtain ⟨o', ho', hop⟩ := hlate f hf
      rw [ho] at ho'; obtain rfl := Option.some.inj ho'
      obtain ⟨o', ho', _, hg, _⟩ := okLates_mem st.okL f.1 hil'
      rw [ho] at ho'; obtain rfl := Option.some.inj ho'
      have hpre : ∀ k ∈ heads, k ≠ f.1 := fun k hk e => st.head_late (e ▸ hk) hil'
      unfold wpOp
      simp only [List.getElem?_toArray, ho]
      rw [if_pos (by simp [Region.wanted, hg])]
      refine .inl ?_
      unfold Oper.wp
      rw [hop]
      simp only [Oper.upon]
      have hext : Ext w' (w'.alloc f.2.1) := (Below.refl _ _).alloc (Nat.le_refl _) _
      have hszA : (w'.alloc f.2.1).heap.size = w'.heap.size + 1 := by simp
      have hnd : (lates.map (·.1)).Nodup := (List.nodup_append.1 (List.nodup_append.1 st.nd).1).2.1
      have huniq : ∀ g ∈ lates, g.1 = f.1 → g = f := fun g hg e => by
        obtain ⟨n, hn, rfl⟩ := List.mem_iff_getElem.1 hg
        obtain ⟨m, hm, rfl⟩ := List.mem_iff_getElem.1 hf
        have : n = m := (List.getElem_inj (i := n) (j := m) (h₀ := by simpa using hn) (h₁ := by simpa using hm) hnd).1 (by simpa using e)
        subst this; rfl
      refine ih _ _ _ pre rest S C iv H a (fun k => if k = f.1 then w'.heap.size else bl k) hu' { h with siz := by simpa using h.siz, cl := hcl', yld := ?_, restUn := ?_, tailUn := ?_, hS := h.stab _ _ h.hS hext, hC := h.stabC _ _ h.hC hext, hH := by rw [hszA]; exact Nat.le_succ_of_le h.hH, dfr := by rw [put_defers']; exact h.dfr, tsz := by rw [put_size]; exact h.tsz, agree := ?_, late := ?_, lateNe := ?_ }
      · intro k hk hn
        exact h.yld k hk (fun hon => hn ((on_set hsz).2 (.inr hon)))
      · intro k hk hon
        rcases (on_set hsz).1 hon with e | hon
        · exact hpre k (by rw [h.split]; simp [hk]) e
        · exact h.restUn k hk hon
      · intro k hk hon
        rcases (on_set hsz).1 hon with rfl | hon
        · exact st.late_tail hil' hk
        · exact h.tailUn k hk hon
      · intro t ht
        have hno : dstOf l f.1 ≠ some t := fun hd => by
          rcases ht f.1 hil hd with ⟨_, h2⟩ | h2
          · exact st.head_late h2 hil'
          · exact st.late_tail hil' h2
        have hag : a'.tmps[t]? = a.tmps[t]? := h.agree t fun j hj hd => by
          rcases ht j hj hd with ⟨h1, h2⟩ | h1
          · rcases (on_set hsz).1 h1 with e | h1
            · exact absurd e (hpre j h2)
            · exact .inl ⟨h1, h2⟩
          · exact .inr h1
        cases hod : o.dst with
        | none => exact hag
        | some d => rw [put_get, if_neg (fun (e : t = d) => hno (by rw [hdst d hod, e]))]; exact hag
      · intro g hg' hon
        by_cases hgf : g.1 = f.1
        · obtain rfl := huniq g hg' hgf
          refine ⟨⟨?_, ?_, ?_, ?_⟩, fun d hd hlt => ?_⟩
          · simp only [if_pos]; exact Nat.le_trans h.hB h.hH
          · simp only [if_pos, hszA]; omega
          · simp only [if_pos]; show (w'.heap.push g.2.1)[w'.heap.size]? = _; simp
          · intro p hp; simp only [if_pos]; exact .inr (Nat.le_trans (h.hiv p hp) h.hH)
          · rw [put_size] at hlt
            have hod : o.dst = some d := by unfold dstOf at hd; rw [ho] at hd; exact hd
            rw [hod, put_get, if_pos rfl, if_pos hlt]
            simp
        · have hon' : On listed g.1 := by rcases (on_set hsz).1 hon with e | e; exact absurd e hgf; exact e
          obtain ⟨hla, hlv⟩ := h.late g hg' hon'
          refine ⟨⟨?_, ?_, ?_, ?_⟩, fun d hd hlt => ?_⟩
          · simp only [if_neg hgf]; exact hla.ge
          · simp only [if_neg hgf, hszA]; exact Nat.lt_succ_of_lt hla.lt
          · simp only [if_neg hgf]; rw [hext.block _ hla.lt]; exact hla.obj
          · simp only [if_neg hgf]; exact hla.out
          · rw [put_size] at hlt
            simp only [if_neg hgf]
            cases hod : o.dst with
            | none => exact hlv d hd hlt
            | some e =>
              rw [put_get, if_neg]
              · exact hlv d hd hlt
              · rintro rfl
                exact st.okN (st.lt _ (.inr (.inl (List.mem_map.2 ⟨g, hg', rfl⟩)))) hil hgf (hdst _ hod) hd
      · intro g1 hg1 g2 hg2 hn1 hn2 hne
        have hon' : ∀ g ∈ lates, g.1 ≠ f.1 → On (listed.setIfInBounds f.1 true) g.1 → On listed g.1 := fun g _ hgf hon => by rcases (on_set hsz).1 hon with e | e; exact absurd e hgf; exact e
        by_cases h1 : g1.1 = f.1
        · by_cases h2 : g2.1 = f.1
          · exact absurd (h1.trans h2.symm) hne
          · simp only [if_pos h1, if_neg h2]
            have := (h.late g2 hg2 (hon' g2 hg2 h2 hn2)).1.lt
            omega
        · by_cases h2 : g2.1 = f.1
          · simp only [if_neg h1, if_pos h2]
            have := (h.late g1 hg1 (hon' g1 hg1 h1 hn1)).1.lt
            omega
          · simp only [if_neg h1, if_neg h2]
            exact h.lateNe g1 hg1 g2 hg2 (hon' g1 hg1 h1 hn1) (hon' g2 hg2 h2 hn2) hne
    · -- none of what comes behind is ready yet
      have hm : ∀ c, c ∈ heads.filter ch.contains ++ lates.map (·.1) → ((masks l).getD i 0).testBit c = true := fun c hc => List.all_eq_true.1 (List.all_eq_true.1 st.okM i hit) c hc
      refine absurd ⟨?_, fun f hf => masks_spec h.cl ho hdeps (hm f.1 (List.mem_append_right _ (List.mem_map.2 ⟨f, hf, rfl⟩)))⟩ hdone
      cases rest with
      | nil => rfl
      | cons c L =>
        obtain ⟨oc, hoc, hcc, _⟩ := hch
        exact absurd (masks_spec h.cl ho hdeps (hm c (List.mem_append_left _ (List.mem_filter.2 ⟨by rw [h.split]; simp, hcc⟩)))) (h.restUn c (by simp))
end main

section float
variable {P : Program} {l : List Oper} {Q : Exit → Act → World → Prop} {ch heads : List Nat} {lates : Lates} {B0 : Nat}

/-- it reads nothing but what it is handed -/
def isExtract (o : Oper) : Bool := match o.op with | .extract _ _ => true | _ => false
theorem pure_extract {e : Operand → Value} {o : Oper} (ho : isExtract o = true) {w w' : World} {v : Value} (h : (execOp e o).run P w = .ok (.value v) w) : (execOp e o).run P w' = .ok (.value v) w' := by
  unfold isExtract at ho
  split at ho
  · rename_i x n hop
    unfold execOp at h ⊢
    simp only [hop] at h ⊢
    generalize e x = u at *
    cases u with
    | tuple vs => cases hv : vs[n]? <;> simp_all [Instr.extract, Sem.run_bind, Result.andThen]
    | _ => simp_all [Instr.extract, Sem.run_bind, Result.andThen]
  · cases ho

/-- operation x may float past t, the tail's first one, a plain store -/
def okFloat (l : List Oper) (pre : List Nat) (x t : Nat) (rest : List Nat) : Bool :=
  (match l[t]? with | some o => (deps o).all pre.contains && o.guard.isNone && o.dst.isNone | none => false) && pre.all (fun c => c == x || ((masks l).getD t 0).testBit c) &&
    (match l[x]? with | some o => isExtract o | none => false) && okTail l (pre ++ [t]) rest

def okPlanF (l : List Oper) (ch heads lates : List Nat) (x t : Nat) (rest : List Nat) : Bool :=
  let all := heads ++ lates ++ (t :: rest)
  (List.range l.length).all all.contains && all.all (· < l.length) && decide all.Nodup && okHeads l ch [] heads && okLates l heads lates && okMid l ch heads lates (t :: rest) &&
    okSlots l (t :: rest) && Region.noSelect l.toArray && okFloat l (heads ++ lates) x t rest && okDeps l

theorem pend_runF {x t : Nat} {rest pre : List Nat} {ot : Oper} (hS : okSlots l (t :: rest) = true) (hD : okDeps l = true) (hsel : ∀ (j : Nat) (o : Oper) cs b, l[j]? = some o → o.op ≠ .select cs b) (hF : okFloat l pre x t rest = true) (hot : l[t]? = some ot)
    (hall : ∀ i, i < l.length → i ∈ pre ∨ i ∈ t :: rest) (hlt : ∀ i ∈ pre, i < l.length) (hnd : (t :: rest).Nodup) (hSr : okSlots l rest = true) :
    ∀ (fuel : Nat) (listed : Array Bool) (a' A : Act) (w w2 : World), unl l listed ≤ fuel → Pend P l (t :: rest) w listed a' A → (execOp A.eval ot).run P w = .ok .skip w2 → wpList P l.toArray Q (rest.filterMap (l[·]?)) A w2 → wpAny P .any l.toArray Q fuel listed a' w := by
  unfold okFloat at hF
  rw [hot] at hF
  simp only [Bool.and_eq_true, List.all_eq_true, List.contains_eq_mem, decide_eq_true_eq, Option.isNone_iff_eq_none, Bool.or_eq_true, beq_iff_eq] at hF
  obtain ⟨⟨⟨⟨⟨hdt, hgt⟩, hdstt⟩, hmt⟩, hx⟩, hT⟩ := hF
  have htl : t < l.length := (List.getElem?_eq_some_iff.1 hot).1
  intro fuel
  induction fuel with
  | zero =>
    intro listed a' A w w2 hu h hr hw
    exact absurd (unl_zero (by omega) htl) (h.tailUn t (by simp))
  | succ fuel ih =>
    intro listed a' A w w2 hu h hr hw
    have hnt := h.tailUn t (by simp)
    have hready : Region.ready .any l.toArray listed ≠ [] := some_ready hD h.siz t htl hnt
    refine ⟨fun h0 => absurd h0 hready, fun i hi => ?_⟩
    obtain ⟨hun, o, ho, hdeps⟩ := (ready_iff h.siz).1 hi
    have hil := (List.getElem?_eq_some_iff.1 ho).1
    have hsz : i < listed.size := by rw [h.siz]; exact hil
    have hdst : ∀ d, o.dst = some d → dstOf l i = some d := fun d hd => by unfold dstOf; rw [ho]; exact hd
    have hlook : ∀ t ∈ o.looksAt l.toArray, a'.tmps[t]? = A.tmps[t]? := fun t' ht => h.agree t' fun j hj hdj =>
      (okSlots_looks hS hil hj hdj (by unfold looks; rw [ho]; exact ht)).imp (masks_spec h.cl ho hdeps) id
    obtain ⟨hex, hwt⟩ := same_on (fun cs b => hsel i o cs b ho) hlook
    by_cases hit : i = t
    · subst hit
      rw [hot] at ho; obtain rfl := Option.some.inj ho
      unfold wpOp
      simp only [List.getElem?_toArray, hot]
      rw [if_pos (by simp [Region.wanted, hgt])]
      left
      unfold Oper.wp
      rw [hex, hr]
      show wpAny P .any l.toArray Q fuel (listed.setIfInBounds i true) (a'.put ot.dst undef) w2
      rw [hdstt]
      have hu' : unl l (listed.setIfInBounds i true) ≤ fuel := by have := unl_set (l := l) h.siz hil hun; omega
      refine pend_run (pre := pre ++ [i]) hSr hD hsel hT (fun k hk => ?_) (fun k hk => ?_) (List.nodup_cons.1 hnd).2 fuel _ a' A w2 hu' ⟨by simpa using h.siz, closed_set h.siz h.cl hot hdeps, fun k ok hok hk hn => ?_, fun k hk hon => ?_, h.dfr, h.tsz, fun d hd => ?_⟩ hw
      · rcases hall k hk with h1 | h1
        · exact .inl (by simp [h1])
        · rcases List.mem_cons.1 h1 with rfl | h1
          · exact .inl (by simp)
          · exact .inr h1
      · rcases List.mem_append.1 hk with hk | hk
        · exact hlt k hk
        · rw [List.mem_singleton.1 hk]; exact htl
      · have hki : k ≠ i := fun e => hn ((on_set hsz).2 (.inl e))
        have hkn : ¬ On listed k := fun hon => hn ((on_set hsz).2 (.inr hon))
        have hkp : k ∈ pre := by
          rcases hall k (List.getElem?_eq_some_iff.1 hok).1 with h1 | h1
          · exact h1
          · rcases List.mem_cons.1 h1 with h1 | h1
            · exact absurd h1 hki
            · exact absurd h1 hk
        have hkx : k = x := (hmt k hkp).resolve_right fun hm => hkn (masks_spec h.cl hot hdeps hm)
        subst hkx
        rw [hok] at hx
        obtain ⟨v, hy, hv⟩ := h.yld k ok hok (fun h1 => (List.mem_cons.1 h1).elim hki hk) hkn
        exact ⟨v, hy.imp (fun ⟨h1, h2⟩ => ⟨h1, fun w' hw' => pure_extract hx (h2 w rfl)⟩) id, hv⟩
      · rcases (on_set hsz).1 hon with rfl | hon
        · exact (List.nodup_cons.1 hnd).1 hk
        · exact h.tailUn k (by simp [hk]) hon
      · refine h.agree d fun j hj hdj => ?_
        rcases hd j hj hdj with h1 | h1
        · rcases (on_set hsz).1 h1 with rfl | h1
          · have : dstOf l j = none := by unfold dstOf; rw [hot]; exact hdstt
            rw [this] at hdj; cases hdj
          · exact .inl h1
        · exact .inr (by simp [h1])
    · by_cases hir : i ∈ rest
      · obtain ⟨L1, L2, hsp⟩ := List.append_of_mem hir
        obtain ⟨o', ho', _, hm⟩ := okTail_split hT L1 i L2 hsp
        rw [ho] at ho'; obtain rfl := Option.some.inj ho'
        exact absurd (masks_spec h.cl ho hdeps (hm t (by simp))) hnt
      · have hitl : i ∉ t :: rest := fun h1 => (List.mem_cons.1 h1).elim hit hir
        obtain ⟨v, hy, hv⟩ := h.yld i o ho hitl hun
        refine YieldsIf.wpOp (P := P) (ops := l.toArray) (S := (· = w)) (by simpa using ho) (hy.of_same hex hwt) rfl ?_
        have hu' : unl l (listed.setIfInBounds i true) ≤ fuel := by have := unl_set (l := l) h.siz hil hun; omega
        refine ih _ _ A w w2 hu' ⟨by simpa using h.siz, closed_set h.siz h.cl ho hdeps, fun k ok hok hk hn => h.yld k ok hok hk fun hon => hn ((on_set hsz).2 (.inr hon)), ?_, by rw [put_defers']; exact h.dfr, by rw [put_size]; exact h.tsz, ?_⟩ hr hw
        · intro k hk hon
          rcases (on_set hsz).1 hon with rfl | hon
          · exact hitl hk
          · exact h.tailUn k hk hon
        · intro t' ht
          cases hod : o.dst with
          | none =>
            refine h.agree t' fun j hj hd => ?_
            rcases ht j hj hd with h1 | h1
            · rcases (on_set hsz).1 h1 with rfl | h1
              · have : dstOf l j = none := by unfold dstOf; rw [ho]; exact hod
                rw [this] at hd; cases hd
              · exact .inl h1
            · exact .inr h1
          | some d =>
            rw [put_get]
            by_cases htd : t' = d
            · subst htd
              rw [if_pos rfl]
              by_cases hlt : t' < a'.tmps.size
              · rw [if_pos hlt, hv t' hod (by rw [← h.tsz]; exact hlt)]
              · have hge : A.tmps.size ≤ t' := by rw [← h.tsz]; exact Nat.not_lt.1 hlt
                rw [if_neg hlt, Array.getElem?_eq_none hge]
            · rw [if_neg htd]
              refine h.agree t' fun j hj hd => ?_
              rcases ht j hj hd with h1 | h1
              · rcases (on_set hsz).1 h1 with rfl | h1
                · rw [hdst d hod] at hd; exact absurd (Option.some.inj hd).symm htd
                · exact .inl h1
              · exact .inr h1

def FinF (P : Program) (l : List Oper) (Q : Exit → Act → World → Prop) (B0 : Nat) (lates : Lates) (t : Nat) (rest : List Nat) (S : World → Prop) (iv : List (Nat × Nat)) (H : Nat) (a : Act) : Prop :=
  ∀ w, S w → H ≤ w.heap.size → ∀ bl : Nat → Nat, (∀ f ∈ lates, LateAt B0 iv bl w f) → (∀ f ∈ lates, ∀ g ∈ lates, f.1 ≠ g.1 → bl f.1 ≠ bl g.1) →
    ∃ ot w2, l[t]? = some ot ∧ (execOp (putLates l bl lates a).eval ot).run P w = .ok .skip w2 ∧ wpList P l.toArray Q (rest.filterMap (l[·]?)) (putLates l bl lates a) w2

theorem wp_region_float (x t : Nat) (ch heads : List Nat) (lates : Lates) (rest : List Nat) {id : Nat} {a : Act} {w : World} (hm : P.follows .mixedOrders = true)
    (hok : okPlanF l ch heads (lates.map (·.1)) x t rest = true)
    (hlate : ∀ f ∈ lates, ∃ o, l[f.1]? = some o ∧ ∀ (a : Act) (w : World), (execOp a.eval o).run P w = .ok (.value (f.2.2 w.heap.size)) (w.alloc f.2.1))
    (h : Rob P l ch w.heap.size (FinF P l Q w.heap.size lates t rest) heads (fun w' => Ext w w') (fun _ => True) [] w.heap.size a) : (Code.region id l.toArray true).wp P Q a w := by
  have hok' := hok
  simp only [okPlanF, Bool.and_eq_true, List.all_eq_true, List.contains_eq_mem, decide_eq_true_eq, List.mem_range] at hok
  obtain ⟨⟨⟨⟨⟨⟨⟨⟨⟨h1, h2⟩, h3⟩, h4⟩, h5⟩, h6⟩, h7⟩, h8⟩, h9⟩, h11⟩ := hok
  have st : Static l ch heads lates (t :: rest) := ⟨fun i hi => or_assoc.1 ((List.mem_append.1 (h1 i hi)).imp List.mem_append.1 (fun h => h)), fun i hi => h2 i (List.mem_append.2 ((or_assoc.2 hi).imp List.mem_append.2 (fun h => h))), h3, h4, h5, h6, fun hi hj hij _ hd => okSlots_ne h7 hi hj hij hd, fun hi hj _ hd hl => okSlots_looks h7 hi hj hd hl,
    fun j o cs b hj => Region.noSelect_spec h8 j o cs b (by simpa using hj)⟩
  have h7r : okSlots l rest = true := by
    unfold okSlots at h7 ⊢
    rw [List.all_eq_true] at h7 ⊢
    intro i hi
    have h7i := h7 i hi
    rw [List.all_eq_true] at h7i ⊢
    intro j hj
    have h7j := h7i j hj
    cases hd : dstOf l j with
    | none => rfl
    | some d =>
      rw [hd] at h7j
      simp only [Bool.and_eq_true, Bool.or_eq_true, Bool.not_eq_true'] at h7j ⊢
      refine ⟨h7j.1, h7j.2.imp (fun h => h) fun hc => ?_⟩
      rcases List.mem_cons.1 (by simpa using hc) with rfl | hc
      · have hb := h9
        unfold okFloat at hb
        simp only [Bool.and_eq_true] at hb
        have hb1 := hb.1.1.1
        unfold dstOf at hd
        cases ho : l[j]? with
        | none => rw [ho] at hb1; cases hb1
        | some o =>
          rw [ho] at hb1 hd
          simp only [Bool.and_eq_true, Option.isNone_iff_eq_none] at hb1
          have : o.dst = some d := hd
          rw [hb1.2] at this; cases this
      · simpa using hc
  have hnd1 := (List.nodup_append.1 st.nd)
  refine wp_region_any hm ?_
  have hun : ∀ i, ¬ On (Array.replicate l.toArray.size false) i := fun i => by
    unfold On; simp [Array.getD_eq_getD_getElem?, Array.getElem?_replicate]; split <;> simp
  refine rob_soundG st hlate (fun {fuel listed a' w' pre S C iv H a bl} hu hI hl => ?_) _ _ a w.drew [] heads (fun w' => Ext w w') (fun _ => True) [] w.heap.size a (fun _ => 0) ?_ ⟨rfl, h, by simp, fun i o _ hi => absurd hi (hun i), fun i hi => (by cases hi), fun i _ => hun i, fun i _ => hun i, fun _ _ h1 h2 => Go.RowKit.Below.trans h1 (h2.mono h1.size), (Below.refl _ _).drew, fun _ _ _ _ => trivial, trivial, Nat.le_refl _, Nat.le_refl _, fun p hp => (by cases hp), rfl, rfl, fun t _ => rfl, fun f _ hf => absurd hf (hun _), fun f _ g _ hf => absurd hf (hun _)⟩
  · have hp := pend_of st hI hl
    have hfin : FinF P l Q _ lates t rest (fun w => S w ∧ C w) iv H a := hI.rob
    obtain ⟨ot, w2, hot, hr, hw⟩ := hfin w' ⟨hI.hS, hI.hC⟩ hI.hH bl (fun f hf => (hI.late f hf (hl f hf)).1) (fun f hf g hg hne => hI.lateNe f hf g hg (hl f hf) (hl g hg) hne)
    refine pend_runF h7 h11 st.sel h9 hot (fun i hi => ?_) (fun i hi => ?_) hnd1.2.1 h7r fuel listed a' _ w' w2 hu hp hr hw
    · exact (or_assoc.2 (st.all i hi)).imp List.mem_append.2 (fun h => h)
    · exact st.lt i (or_assoc.1 (.inl (List.mem_append.1 hi)))
  · unfold unl
    exact Nat.le_trans (List.length_filter_le _ _) (by simp)

theorem fin_float {S C : World → Prop} {iv : List (Nat × Nat)} {H : Nat} {a : Act} {t : Nat} {rest : List Nat} {f : Nat × Obj × (Nat → Value)} (ot : Oper) (hot : l[t]? = some ot)
    (h : ∀ w1 (b : Nat), S w1 → H ≤ w1.heap.size → B0 ≤ b → b < w1.heap.size → w1.heap[b]? = some f.2.1 → (∀ p ∈ iv, b < p.1 ∨ p.2 ≤ b) →
      ∃ w2, (execOp (a.put (dstOf l f.1) (f.2.2 b)).eval ot).run P w1 = .ok .skip w2 ∧ wpList P l.toArray Q (rest.filterMap (l[·]?)) (a.put (dstOf l f.1) (f.2.2 b)) w2) : FinF P l Q B0 [f] t rest (fun w => S w ∧ C w) iv H a :=
  fun w1 hs hh bl hl _ => by
    obtain ⟨w2, h1, h2⟩ := h w1 (bl f.1) hs.1 hh (hl f (by simp)).ge (hl f (by simp)).lt (hl f (by simp)).obj (hl f (by simp)).out
    exact ⟨ot, w2, hot, h1, h2⟩
end float
end Go.Plan

set_option linter.unusedVariables false
set_option linter.unusedSimpArgs false
namespace Go.Bu
open Go Go.RowKit Go.Plan Go.Proofs

def pairPutV (p : Pair) (addr val cut : Int) (torn : Bool) : Pair := if pairOkB p = true ∧ 0 ≤ cut then putV p addr val cut torn else pair0

/-- a store that a call has made between lo and hi, and that it was made -/
def StToN (s : Store) (lo hi : Nat) (v : Value) (w : World) : Prop := ∃ f d L, v = .tuple #[.agg #[f, d], .bool true] ∧ OwnStore w f d s L ∧ L.Nodup ∧ ∀ b ∈ L, lo ≤ b ∧ b < hi
theorem StToN.ext {s : Store} {lo hi : Nat} {v : Value} {w w' : World} (h : StToN s lo hi v w) (hx : Ext w w') : StToN s lo hi v w' := by
  obtain ⟨f, d, L, he, ho, hn, hb⟩ := h; exact ⟨f, d, L, he, ho.ext hx, hn, hb⟩
theorem StToN.forms {s : Store} {lo hi : Nat} {v : Value} {w : World} (h : StToN s lo hi v w) : ∃ a n c b m k, v = .tuple #[.agg #[.slice a n c, .slice b m k], .bool true] := by
  obtain ⟨f, d, L, rfl, ho, _⟩ := h
  obtain ⟨a, n, c, b, m, k, rfl, rfl⟩ := ho.forms
  exact ⟨a, n, c, b, m, k, rfl⟩
theorem StToN.own {s : Store} {lo hi : Nat} {f d : Value} {w : World} (h : StToN s lo hi (.tuple #[.agg #[f, d], .bool true]) w) : ∃ L, OwnStore w f d s L ∧ L.Nodup ∧ ∀ b ∈ L, lo ≤ b ∧ b < hi := by
  obtain ⟨f', d', L, he, ho, hn, hb⟩ := h
  simp at he
  obtain ⟨rfl, rfl⟩ := he
  exact ⟨L, ho, hn, hb⟩
theorem StToΦ.to {w w' : World} {s : Store} {e : Ending} (h : StToΦ w s e w') : ∃ v, e = .returned v ∧ RetC w (StToN s) v w' := by
  obtain ⟨f, d, L, he, hx, ho, hn, hb⟩ := h
  exact ⟨_, he, hx, f, d, L, rfl, ho, hn, fun b hm => ⟨hb b hm, ho.lt b hm⟩⟩
theorem RetS.to {w w' : World} {xs : List Step} {e : Ending} (h : RetS w xs e w') : ∃ v, e = .returned v ∧ RetC w (fun lo hi v w' => SRow lo w' v xs ∧ xs.length ≤ 7) v w' := by
  obtain ⟨v, he, hx, hS, hl⟩ := h; exact ⟨v, he, hx, hS, hl⟩

theorem toSteps_nil (s : Store) (cut : Int) (t : Bool) : toSteps s [] cut t = s := by
  unfold toSteps
  rw [if_neg (by simp)]
  simp [doAll]
theorem SRow.old {base : Nat} {w : World} {v : Value} {xs : List Step} (h : SRow base w v xs) : Steps' (Old w) w v xs := h.steps

set_option maxRecDepth 20000 in
set_option maxHeartbeats 8000000 in
theorem implPairPut_c (f d g e : Value) (p : Pair) (addr val cut : Int) (torn : Bool) (w : World) (hA : StoreV w f d p.A) (hB : StoreV w g e p.B) (hsA : Small p.A) (hsB : Small p.B) (hcut : -9223372036854775808 ≤ cut ∧ cut ≤ 9223372036854775807) :
    Calls Tryz.prog 10 #[.agg #[f, d, g, e, .int .i64 p.lost], .int .i64 addr, .int .i64 val, .int .i64 cut, .bool torn] w (PairΦ w (pairPutV p addr val cut torn)) := by
  have hPO := fun (w' : World) (hx : Ext w w') => implPairOk_c f d g e p w' (hA.ext hx) (hB.ext hx) hsA.2.1 hsB.2.1 hsA.2.2 hsB.2.2
  rw [show (inB p.lost 0 2 && (storeOkB p.A && storeOkB p.B)) = pairOkB p from rfl] at hPO
  have hTW := fun (w' : World) (hx : Ext w w') (h1 : Shape4 p.A) (h2 : Shape4 p.B) => twinsOf_c f d g e p w' (hA.ext hx) (hB.ext hx) h1 h2
  have hPA := fun (w' : World) (hx : Ext w w') => implStepsPut_c f d p.A addr val w' (hA.ext hx) hsA
  have hPB := fun (w' : World) (hx : Ext w w') => implStepsPut_c g e p.B addr val w' (hB.ext hx) hsB
  have hTA := fun (sv : Value) (xs : List Step) (cut : Int) (w' : World) (hx : Ext w w') (hok : storeOkB p.A = true) (hs : SRow w.heap.size w' sv xs) (hV : ∀ x ∈ xs, StepV x) (hl : xs.length ≤ 7) (hc : 0 ≤ cut ∧ cut ≤ 9223372036854775807) => implStepsTo_c f d p.A sv xs cut torn w' (hA.ext hx) hok hs.steps hV (by omega) hc
  have hTB := fun (sv : Value) (xs : List Step) (cut : Int) (w' : World) (hx : Ext w w') (hok : storeOkB p.B = true) (hs : SRow w.heap.size w' sv xs) (hV : ∀ x ∈ xs, StepV x) (hl : xs.length ≤ 7) (hc : 0 ≤ cut ∧ cut ≤ 9223372036854775807) => implStepsTo_c g e p.B sv xs cut torn w' (hB.ext hx) hok hs.steps hV (by omega) hc
  obtain ⟨a1, n1, rfl⟩ := hA.1.form
  obtain ⟨a2, n2, rfl⟩ := hA.2.form
  obtain ⟨a3, n3, rfl⟩ := hB.1.form
  obtain ⟨a4, n4, rfl⟩ := hB.2.form
  clear hA hB hsA hsB
  by_cases hc : 0 ≤ cut
  · have hcn : ¬ cut < 0 := by omega
    by_cases hok : pairOkB p = true
    · obtain ⟨hl, hokA, hokB⟩ := pairOk_iff.1 hok
      unfold pairPutV
      rw [if_pos ⟨hok, hc⟩]
      have hSA := storeOk_shape hokA
      have hSB := storeOk_shape hokB
      have hTw := fun (w' : World) (hx : Ext w w') => hTW w' hx hSA hSB
      have hpA := storeOk_P hokA
      have HOKA := Lib.hid hokA
      have HOKB := Lib.hid hokB
      have HSA := Lib.hid hSA
      have HSB := Lib.hid hSB
      have hpB := storeOk_P hokB
      have HVA := Lib.hid (write_V (flashOk_iff.1 hpA.flash) 1 addr val)
      have HVB := Lib.hid (write_V (flashOk_iff.1 hpB.flash) 1 addr val)
      rw [hok] at hPO
      have eA : putSteps2 p.A addr val = writeSteps p.A.flash 1 addr val := by unfold putSteps2; rw [if_pos hokA]
      have eB : putSteps2 p.B addr val = writeSteps p.B.flash 1 addr val := by unfold putSteps2; rw [if_pos hokB]
      rw [eA] at hPA
      rw [eB] at hPB
      obtain ⟨PV, hpv⟩ : ∃ PV, putV p addr val cut torn = PV := ⟨_, rfl⟩
      rw [hpv]
      unfold putV listA listB at hpv
      generalize writeSteps p.A.flash 1 addr val = WA at *
      generalize writeSteps p.B.flash 1 addr val = WB at *
      clear hok hokA hokB hSA hSB hpA hpB eA eB hTW
      have hTA2 := fun (sv : Value) (cut : Int) (w' : World) (hx : Ext w w') (hs : SRow w.heap.size w' sv WA) (hl : WA.length ≤ 7) (hc : 0 ≤ cut ∧ cut ≤ 9223372036854775807) => hTA sv WA cut w' hx HOKA.out hs HVA.out hl hc
      have hTB2 := fun (sv : Value) (cut : Int) (w' : World) (hx : Ext w w') (hs : SRow w.heap.size w' sv WB) (hl : WB.length ≤ 7) (hc : 0 ≤ cut ∧ cut ≤ 9223372036854775807) => hTB sv WB cut w' hx HOKB.out hs HVB.out hl hc
      have HTA := Lib.hid hTA2
      have HTB := Lib.hid hTB2
      clear hTA hTB hTA2 hTB2
      by_cases h1 : p.lost = 1
      · have hpv1 : (⟨p.A, toSteps p.B WB cut torn, 1⟩ : Pair) = PV := by
          rw [← hpv, if_pos h1, if_neg (by omega : ¬ p.lost = 2), toSteps_nil, if_pos (by simpa using hc)]
          simp [h1]
        have HPV := Lib.hid hpv1
        have HSHA := HSA
        clear hpv hpv1
        rw [h1] at hTw hPO ⊢
        go_enter Tryz.func10, Tryz.ntmps10
        go_wp2_with fail
        refine (hPO _ (ext_alloc (ext_alloc (ext_refl _) _) _)).mono ?_; rintro e1 w1 ⟨rfl, hx1⟩
        have X1 := ext_trans (ext_alloc (ext_alloc (ext_refl w) _) _) hx1
        have G0 := keep_ext hx1 (hg_alloc (hg_new (b := w.heap.size) rfl))
        have G1 := keep_ext hx1 (hg_new (b := w.heap.size + 1) (by simp))
        obtain ⟨g0, gf0⟩ := cellsK G0
        obtain ⟨g1, gf1⟩ := cellsK G1
        have lw2 := heap_lt G1
        clear hPO hx1
        go_wp2_with fail
        refine (hTw _ X1).mono ?_; rintro e2 w2 ⟨tv, rfl, hx2, b1, b2, f1, d1, g2, e2, L, K, T1, T2, rfl, H1, H2, hO1, hO2, hn, hb⟩
        have X2 := ext_trans X1 hx2
        have s1 := X1.size
        have sb1 := hb b1 (by simp)
        have sb2 := hb b2 (by simp)
        have l1 := heap_lt H1
        have l2 := heap_lt H2
        have hlL := hO1.lt
        have hlK := hO2.lt
        obtain ⟨q1, m1, c1, q2, m2, c2, rfl, rfl⟩ := hO1.forms
        obtain ⟨q3, m3, c3, q4, m4, c4, rfl, rfl⟩ := hO2.forms
        replace G0 := keep_ext hx2 G0
        replace G1 := keep_ext hx2 G1
        have HO1 := Lib.hid hO1
        have HO2 := Lib.hid hO2
        have HN := Lib.hid hn
        have HBb := Lib.hid hb
        have HlL := Lib.hid hlL
        have HlK := Lib.hid hlK
        clear g0 gf0 g1 gf1 hTw hx2 hO1 hO2 hn hb hlL hlK
        have G11 : (w2.alloc (.cells #[.pointer (some ⟨b1, 0, none⟩), .pointer (some ⟨b2, 0, none⟩), .int .i64 1] 55)).heap[w2.heap.size]? = some (.cells #[.pointer (some ⟨b1, 0, none⟩), .pointer (some ⟨b2, 0, none⟩), .int .i64 1] 55 (0, 0)) := hg_new rfl
        replace X2 := ext_alloc X2 (.cells #[.pointer (some ⟨b1, 0, none⟩), .pointer (some ⟨b2, 0, none⟩), .int .i64 1] 55)
        obtain ⟨g0, gf0⟩ := cellsK G0
        have lg0 := heap_lt G0
        have lg1 := heap_lt G1
        go_wp2_with fail
        obtain ⟨w5, hw5⟩ : ∃ w5, w2.alloc (.cells #[.pointer (some ⟨b1, 0, none⟩), .pointer (some ⟨b2, 0, none⟩), .int .i64 1] 55) = w5 := ⟨_, rfl⟩
        have hxa : Ext w2 w5 := by rw [← hw5]; exact ext_alloc (ext_refl _) _
        rw [hw5] at X2 G11 ⊢
        have X5 := X2
        replace G0 := keep_ext hxa G0
        replace G1 := keep_ext hxa G1
        have H15 := keep_ext hxa H1
        replace H2 := keep_ext hxa H2
        have HOA := Lib.hid (HO1.out.ext hxa)
        have HOB := Lib.hid (HO2.out.ext hxa)
        have HN5 := HN
        have lg0 := heap_lt G0
        have HB5 : Hid (∀ b ∈ b1 :: b2 :: (L ++ K), w.heap.size + 2 ≤ b ∧ b ≠ w2.heap.size) := Lib.hid (fun b hb => by
          have hb1 := HBb.out b hb
          rcases List.mem_cons.1 hb with rfl | hb
          · omega
          · rcases List.mem_cons.1 hb with rfl | hb
            · omega
            · rcases List.mem_append.1 hb with hb | hb
              · have := HlL.out b hb; omega
              · have := HlK.out b hb; omega)
        clear hw5 hxa H1 HO1 HO2 HN HBb X2 g0 gf0
        obtain ⟨g0, gf0⟩ := cellsK G0
        obtain ⟨g11, gf11⟩ := cellsK G11
        refine wp_region_float 12 14 [6, 9] [0, 1, 2, 3, 4, 5, 7, 8, 6, 9, 10, 11, 12] [(13, .cells #[.slice none 0 0, .slice none 0 0] 31, fun b => .pointer (some ⟨b, 0, none⟩))] [15] (by kernel_rfl) (by kernel_rfl) ?late ?_
        case late =>
          intro f hf
          obtain rfl := List.mem_singleton.1 hf
          refine ⟨_, rfl, fun a w => ?_⟩
          go_simp
        refine Rob.y (v := ?_) rfl rfl (fun w1 hx hH => ?_) ?_; rotate_left
        · go_simp; first | done | rfl | exact (Bool.not_not _).symm
        simp only [Act.put, List.setIfInBounds_toArray, List.set_cons_succ, List.set_cons_zero]
        refine Rob.y (v := ?_) rfl rfl (fun w1 hx hH => ?_) ?_; rotate_left
        · (have hE : Ext _ w1 := (by first | exact hx | exact hx.1 | exact hx.1.1); obtain ⟨z0, zf0⟩ := cellsK (keep_ext hE G0)); go_simp; first | done | rfl
        simp only [Act.put, List.setIfInBounds_toArray, List.set_cons_succ, List.set_cons_zero]
        refine Rob.y (v := ?_) rfl rfl (fun w1 hx hH => ?_) ?_; rotate_left
        · go_simp; first | done | rfl | exact (Bool.not_not _).symm
        simp only [Act.put, List.setIfInBounds_toArray, List.set_cons_succ, List.set_cons_zero]
        refine Rob.y (v := ?_) rfl rfl (fun w1 hx hH => ?_) ?_; rotate_left
        · (have hE : Ext _ w1 := (by first | exact hx | exact hx.1 | exact hx.1.1); obtain ⟨z0, zf0⟩ := cellsK (keep_ext hE G0)); go_simp; first | done | rfl
        simp only [Act.put, List.setIfInBounds_toArray, List.set_cons_succ, List.set_cons_zero]
        iterate 4
          refine Rob.y (v := ?_) rfl rfl (fun w1 hx hH => ?_) ?_; rotate_left
          · go_simp; first | done | rfl | exact (Bool.not_not _).symm
          simp only [Act.put, List.setIfInBounds_toArray, List.set_cons_succ, List.set_cons_zero]
        refine Rob.c ((fun lo hi v w' => SRow lo w' v WB ∧ WB.length ≤ 7)) rfl rfl rfl (fun _ _ => (by (first | exact ext_trans | exact fun h k => ⟨ext_trans h.1 k, h.2.1.ext k, h.2.2⟩))) (fun _ _ _ _ _ => (by (first | exact fun h hx => h.ext hx | exact fun h hx => ⟨h.1.ext hx, h.2⟩))) (fun w1 hx hH => ?_) (fun lo6 hi6 v6 hlo6 hhi6 hv6 => ?_)
        · unfold RunTo; go_simp; exact ((hPB _ (ext_trans X5 hx))).mono fun e w' h => h.to
        simp only [Act.put, List.setIfInBounds_toArray, List.set_cons_succ, List.set_cons_zero]
        obtain ⟨_, hv6⟩ := hv6
        obtain ⟨a6, c6, rfl⟩ := hv6.1.form
        refine Rob.c (StToN (toSteps p.B WB (cut) torn)) rfl rfl rfl (fun _ _ => (by (first | exact ext_trans | exact fun h k => ⟨ext_trans h.1 k, h.2.1.ext k, h.2.2⟩))) (fun _ _ _ _ _ => (by (first | exact fun h hx => h.ext hx | exact fun h hx => ⟨h.1.ext hx, h.2⟩))) (fun w1 hx hH => ?_) (fun lo9 hi9 v9 hlo9 hhi9 hv9 => ?_)
        · unfold RunTo; go_simp; exact ((HTB.out _ _ _ (ext_trans X5 hx.1) (hx.2.1.base (by have := X5.size; omega)) hx.2.2 ⟨by omega, by omega⟩)).mono fun e w' h => h.to
        simp only [Act.put, List.setIfInBounds_toArray, List.set_cons_succ, List.set_cons_zero]
        obtain ⟨_, hv9⟩ := hv9
        obtain ⟨r3, k3, j3, r4, k4, j4, rfl⟩ := hv9.forms
        refine Rob.y (v := ?_) rfl rfl (fun w1 hx hH => ?_) ?_; rotate_left
        · go_simp; first | done | rfl | exact (Bool.not_not _).symm
        simp only [Act.put, List.setIfInBounds_toArray, List.set_cons_succ, List.set_cons_zero]
        iterate 2
          refine Rob.y (v := ?_) rfl rfl (fun w1 hx hH => ?_) ?_; rotate_left
          · go_simp; first | done | rfl | exact (Bool.not_not _).symm
          simp only [Act.put, List.setIfInBounds_toArray, List.set_cons_succ, List.set_cons_zero]
        refine fin_float _ rfl (fun w7 bb hx7 _ hbb hblt hob hout => ?_)
        simp only [dstOf, List.getElem?_cons_succ, List.getElem?_cons_zero, Option.bind_some, Act.put, List.setIfInBounds_toArray, List.set_cons_succ, List.set_cons_zero, List.filterMap_cons, List.filterMap_nil]
        obtain ⟨⟨hx7, -⟩, hM7⟩ := hx7
        obtain ⟨K7, hOK7, hnK7, hbK7⟩ := hM7.own
        have X7 := ext_trans X5 hx7
        have hbne : Hid (∀ b ∈ K7, b ≠ bb ∧ w5.heap.size ≤ b) := Lib.hid (fun b hb => by
          have h1 := hbK7 b hb
          have h2 := hout (lo9, hi9) (by simp)
          dsimp only at h2
          omega)
        have l5g := heap_lt G11
        have l5h := heap_lt G1
        replace G0 := keep_ext hx7 G0
        replace G1 := keep_ext hx7 G1
        replace G11 := keep_ext hx7 G11
        have L5 : Hid (b1 < w5.heap.size ∧ b2 < w5.heap.size) := Lib.hid ⟨heap_lt H15, heap_lt H2⟩
        replace H15 := keep_ext hx7 H15
        replace H2 := keep_ext hx7 H2
        have l5a := HOA.out.lt
        have l5b := heap_lt (keep_ext (ext_refl _) G1)
        have HLA := Lib.hid l5a
        replace HOA := Lib.hid (HOA.out.ext hx7)
        have HOK := Lib.hid hOK7
        have HNK := Lib.hid hnK7
        have s57 := hx7.size
        have hobk := hob
        obtain ⟨zb, zfb⟩ := cellsK hob
        have l57 := heap_lt H15
        have l58 := heap_lt H2
        have lg7 := heap_lt G11
        refine ⟨?_, ?_, ?_⟩; rotate_left
        · go_simp; rfl
        refine wpList_plain rfl (fun K hK => ?_)
        go_simp
        refine hK _ _ ?_
        clear hK K
        refine wpList_nil ?_
        have hC8 : Chg [bb] w7 ((w7.setCell ⟨bb, 0, none⟩ (.slice r3 k3 j3)).setCell ⟨bb, 1, none⟩ (.slice r4 k4 j4)) := ((Chg.refl _ _).set (p := ⟨bb, 0, none⟩) (.inl (by simp)) _).set (p := ⟨bb, 1, none⟩) (.inl (by simp)) _
        have Gbb : ((w7.setCell ⟨bb, 0, none⟩ (.slice r3 k3 j3)).setCell ⟨bb, 1, none⟩ (.slice r4 k4 j4)).heap[bb]? = some (.cells #[.slice r3 k3 j3, .slice r4 k4 j4] 31 (0, 0)) := hgo (hg_here (hg_here hobk)) rfl
        generalize ((w7.setCell ⟨bb, 0, none⟩ (.slice r3 k3 j3)).setCell ⟨bb, 1, none⟩ (.slice r4 k4 j4)) = w8 at *
        have l515 := (HB5.out b1 (by simp)).1
        have lO : Hid (b1 < w5.heap.size ∧ b2 < w5.heap.size) := L5
        have X8 : Ext w w8 := hC8.ext X7 (by simp; have := X5.size; omega)
        replace G1 := hC8.keep G1 (by simp; omega)
        replace G11 := hC8.keep G11 (by simp; omega)
        replace H15 := hC8.keep H15 (by have := lO.out; simp; omega)
        replace H2 := hC8.keep H2 (by have := lO.out; simp; omega)
        replace HOA := Lib.hid (HOA.out.chg hC8 (fun b hb hm => by have := HLA.out b hb; simp at hm; omega))
        replace HOK := Lib.hid (HOK.out.chg hC8 (fun b hb hm => by have := hbne.out b hb; simp at hm; omega))
        clear zb zfb hob hobk hC8 hM7 hOK7 hnK7 g0 gf0 g11 gf11
        obtain ⟨zb, zfb⟩ := cellsK Gbb
        obtain ⟨g11, gf11⟩ := cellsK G11
        have lbb := heap_lt Gbb
        have l8 := heap_lt G11
        go_wp2_with fail
        refine (setOther_c b1 b2 1 _ _ _ _ T2 _ ⟨_, _, _, rfl⟩ ⟨_, _, _, rfl⟩ H2).mono ?_; rintro e9 w9 ⟨rfl, hC9, H29⟩
        have sb2 := (HB5.out b2 (by simp)).1
        have X9 : Ext w w9 := hC9.ext X8 (by simp; omega)
        have hne12 : b1 ≠ b2 := fun e => (List.nodup_cons.1 HN5.out).1 (by rw [e]; simp)
        have H19 := hC9.keep H15 (by simpa using hne12)
        replace G1 := hC9.keep G1 (by simp; omega)
        replace G11 := hC9.keep G11 (by simp; have := (HB5.out b2 (by simp)).2; omega)
        replace HOA := Lib.hid (HOA.out.chg hC9 (fun b hb hm => by
          simp at hm
          subst hm
          have hnd := (List.nodup_cons.1 (List.nodup_cons.1 HN5.out).2).1
          exact hnd (by simp [hb])))
        have HOB := Lib.hid (HOK.out.chg hC9 (fun b hb hm => by have := hbne.out b hb; have := lO.out; simp at hm; omega))
        have HN9 : Hid ((b1 :: b2 :: (L ++ K7)).Nodup) := Lib.hid (by
          obtain ⟨n1, n2⟩ := List.nodup_cons.1 HN5.out
          obtain ⟨n3, n4⟩ := List.nodup_cons.1 n2
          have n5 := (List.nodup_append.1 n4).1
          refine List.nodup_cons.2 ⟨fun hm => ?_, List.nodup_cons.2 ⟨fun hm => ?_, List.nodup_append.2 ⟨n5, HNK.out, fun x hx y hy e => ?_⟩⟩⟩
          · rcases List.mem_cons.1 hm with h | h
            · exact hne12 h
            · rcases List.mem_append.1 h with h | h
              · exact n1 (by simp [h])
              · have := hbne.out _ h; have := lO.out; omega
          · rcases List.mem_append.1 hm with h | h
            · exact n3 (by simp [h])
            · have := hbne.out _ h; have := lO.out; omega
          · have := HLA.out x hx; have := hbne.out y hy; omega)
        have HB9 : Hid (∀ b ∈ b1 :: b2 :: (L ++ K7), w.heap.size + 2 ≤ b ∧ b ≠ w2.heap.size) := Lib.hid (fun b hb => by
          rcases List.mem_cons.1 hb with rfl | hb
          · exact HB5.out _ (by simp)
          · rcases List.mem_cons.1 hb with rfl | hb
            · exact HB5.out _ (by simp)
            · rcases List.mem_append.1 hb with hb | hb
              · exact HB5.out b (by simp [hb])
              · have := hbne.out b hb; omega)
        have HSHB : Hid (Shape4 (toSteps p.B WB (cut) torn)) := Lib.hid ((storeOk_P HOKB.out).to (fun x hx => (HVB.out x hx).ok) _ torn).shape4
        clear HOK hC9 zb zfb HN5 HB5 g11 gf11
        obtain ⟨g11, gf11⟩ := cellsK G11
        have l9 := heap_lt G11
        go_wp2_with fail
        refine (twPair_c b1 b2 1 _ _ _ _ T1 T2 _ ⟨_, _, _, rfl⟩ ⟨_, _, _, rfl⟩ ⟨_, _, _, rfl⟩ ⟨_, _, _, rfl⟩ H19 H29).mono ?_; rintro e6 w6 ⟨rfl, hx6⟩
        have X6 := ext_trans X9 hx6
        replace G1 := keep_ext hx6 G1
        have HA6 := Lib.hid (HOA.out.ext hx6)
        have HB6 := Lib.hid (HOB.out.ext hx6)
        clear HOA HOB g11 gf11
        obtain ⟨g1, gf1⟩ := cellsK G1
        go_wp2_with fail
        have hpv := HPV.out
        subst hpv
        refine bodyPost_ret (v := .agg #[.slice q1 m1 c1, .slice q2 m2 c2, .slice r3 k3 j3, .slice r4 k4 j4, .int .i64 1]) (by simp [results, Tryz.results10, go_sem, g1, gf1]) rfl ⟨_, rfl, ?_, .inr ⟨_, _, _, _, L, K7, rfl, ?_, ?_, ?_, ?_, HSHA.out, HSHB.out⟩⟩
        · ((repeat (first | with_reducible (refine ext_set2 ?_ ?_); focus (first | exact Nat.le_refl _ | (dsimp only; omega) | (simp; omega)) | with_reducible refine ext_alloc2 ?_)); with_reducible exact X6)
        · refine HA6.out.keep fun b hb => ?_
          have := HB9.out b (by simp [hb])
          iterate 5 rw [setCell_other (by omega)]
        · refine HB6.out.keep fun b hb => ?_
          have := HB9.out b (by simp [hb])
          iterate 5 rw [setCell_other (by omega)]
        · exact (List.nodup_cons.1 (List.nodup_cons.1 HN9.out).2).2
        · exact fun b hb => by have := HB9.out b (List.mem_cons_of_mem _ (List.mem_cons_of_mem _ hb)); omega
      · have h1b : (p.lost != 1) = true := by simpa using h1
        rw [if_neg h1] at hpv
        have HSHA : Hid (Shape4 (toSteps p.A WA cut torn)) := Lib.hid ((storeOk_P HOKA.out).to (fun x hx => (HVA.out x hx).ok) cut torn).shape4
        by_cases h2 : p.lost = 2
        · have hpv2 : (⟨toSteps p.A WA cut torn, p.B, 2⟩ : Pair) = PV := by
            rw [← hpv, if_pos h2]
            simp only [toSteps_nil, ite_self, h2]
          have HSHB := HSB
          have HPV := Lib.hid hpv2
          clear hpv hpv2
          rw [h2] at hTw hPO ⊢
          go_enter Tryz.func10, Tryz.ntmps10
          go_wp2_with fail
          refine (hPO _ (ext_alloc (ext_alloc (ext_refl _) _) _)).mono ?_; rintro e1 w1 ⟨rfl, hx1⟩
          have X1 := ext_trans (ext_alloc (ext_alloc (ext_refl w) _) _) hx1
          have G0 := keep_ext hx1 (hg_alloc (hg_new (b := w.heap.size) rfl))
          have G1 := keep_ext hx1 (hg_new (b := w.heap.size + 1) (by simp))
          obtain ⟨g0, gf0⟩ := cellsK G0
          obtain ⟨g1, gf1⟩ := cellsK G1
          have lw2 := heap_lt G1
          clear hPO hx1
          go_wp2_with fail
          refine (hTw _ X1).mono ?_; rintro e2 w2 ⟨tv, rfl, hx2, b1, b2, f1, d1, g2, e2, L, K, T1, T2, rfl, H1, H2, hO1, hO2, hn, hb⟩
          have X2 := ext_trans X1 hx2
          have s1 := X1.size
          have sb1 := hb b1 (by simp)
          have sb2 := hb b2 (by simp)
          have l1 := heap_lt H1
          have l2 := heap_lt H2
          have hlL := hO1.lt
          have hlK := hO2.lt
          obtain ⟨q1, m1, c1, q2, m2, c2, rfl, rfl⟩ := hO1.forms
          obtain ⟨q3, m3, c3, q4, m4, c4, rfl, rfl⟩ := hO2.forms
          replace G0 := keep_ext hx2 G0
          replace G1 := keep_ext hx2 G1
          have HO1 := Lib.hid hO1
          have HO2 := Lib.hid hO2
          have HN := Lib.hid hn
          have HBb := Lib.hid hb
          have HlL := Lib.hid hlL
          have HlK := Lib.hid hlK
          clear g0 gf0 g1 gf1 hTw hx2 hO1 hO2 hn hb hlL hlK
          have G11 : (w2.alloc (.cells #[.pointer (some ⟨b1, 0, none⟩), .pointer (some ⟨b2, 0, none⟩), .int .i64 2] 55)).heap[w2.heap.size]? = some (.cells #[.pointer (some ⟨b1, 0, none⟩), .pointer (some ⟨b2, 0, none⟩), .int .i64 2] 55 (0, 0)) := hg_new rfl
          replace X2 := ext_alloc X2 (.cells #[.pointer (some ⟨b1, 0, none⟩), .pointer (some ⟨b2, 0, none⟩), .int .i64 2] 55)
          obtain ⟨g0, gf0⟩ := cellsK G0
          have lg0 := heap_lt G0
          have lg1 := heap_lt G1
          go_wp2_with fail
          refine (hPA _ X2).mono ?_; rintro e3 w3 ⟨sv, rfl, hx3, hS, hlw⟩
          have X3 := ext_trans X2 hx3
          have sz2 := X2.size
          have H23 : Ext w2 w3 := ext_trans (ext_alloc (ext_refl _) _) hx3
          replace G0 := keep_ext H23 G0
          replace G1 := keep_ext H23 G1
          replace G11 := keep_ext hx3 G11
          replace H1 := keep_ext H23 H1
          replace H2 := keep_ext H23 H2
          replace HO2 := Lib.hid (HO2.out.ext H23)
          have s23 := H23.size
          have l311 := heap_lt G11
          obtain ⟨sa, sc, rfl⟩ := hS.form
          have HS := Lib.hid (hS.base (b' := w.heap.size) sz2)
          clear g0 gf0 HO1 hS hx3 hPA H23
          obtain ⟨g0, gf0⟩ := cellsK G0
          go_wp2_with fail
          refine (HTA.out _ cut _ X3 HS.out hlw ⟨hc, hcut.2⟩).mono ?_; rintro e4 w4 ⟨f5, d5, M, rfl, hx4, hOM, hnM, hbM⟩
          obtain ⟨r1, k1, j1, r2, k2, j2, rfl, rfl⟩ := hOM.forms
          have X4 := ext_trans X3 hx4
          replace G0 := keep_ext hx4 G0
          replace G1 := keep_ext hx4 G1
          replace G11 := keep_ext hx4 G11
          replace H1 := keep_ext hx4 H1
          replace H2 := keep_ext hx4 H2
          replace HO2 := Lib.hid (HO2.out.ext hx4)
          have s34 := hx4.size
          have HOM := Lib.hid hOM
          have HNM := Lib.hid hnM
          have HBM : Hid (∀ b ∈ M, w2.heap.size < b) := Lib.hid (fun b hb => by have := hbM b hb; omega)
          clear g0 gf0 hOM hnM hbM hx4 HS
          obtain ⟨g0, gf0⟩ := cellsK G0
          obtain ⟨g11, gf11⟩ := cellsK G11
          have l11 := heap_lt G11
          go_wp2_with fail
          have hXa : Ext w4 (w4.alloc (.cells #[.slice r1 k1 j1, .slice r2 k2 j2] 31)) := ext_alloc (ext_refl _) _
          replace X4 := ext_trans X4 hXa
          replace G0 := keep_ext hXa G0
          replace G1 := keep_ext hXa G1
          replace G11 := keep_ext hXa G11
          replace H1 := keep_ext hXa H1
          replace H2 := keep_ext hXa H2
          replace HO2 := Lib.hid (HO2.out.ext hXa)
          replace HOM := Lib.hid (HOM.out.ext hXa)
          clear hXa
          refine (setFirst_c b1 b2 2 _ _ _ _ T1 _ ⟨_, _, _, rfl⟩ ⟨_, _, _, rfl⟩ H1).mono ?_; rintro e5 w5 ⟨rfl, hC5, H15⟩
          have X5 : Ext w w5 := hC5.ext X4 (by simp; omega)
          have hlt2 := heap_lt G11
          have sw2 := X2.size
          replace G0 := hC5.keep G0 (by simp; omega)
          replace G1 := hC5.keep G1 (by simp; omega)
          replace G11 := hC5.keep G11 (by simp; omega)
          have hne12 : b1 ≠ b2 := fun e => (List.nodup_cons.1 HN.out).1 (by rw [e]; simp)
          replace H2 := hC5.keep H2 (by simp; omega)
          have hOA := HOM.out.chg hC5 (fun b hb hm => by have := HBM.out b hb; simp at hm; omega)
          have hOB := HO2.out.chg hC5 (fun b hb hm => by
            simp at hm
            subst hm
            have hnd := HN.out
            simp [hb] at hnd)
          have HOA := Lib.hid hOA
          have HOB := Lib.hid hOB
          have HN5 : Hid ((b1 :: b2 :: (M ++ K)).Nodup) := Lib.hid (by
            have hnd := HN.out
            obtain ⟨n1, n2⟩ := List.nodup_cons.1 hnd
            obtain ⟨n3, n4⟩ := List.nodup_cons.1 n2
            have n5 := (List.nodup_append.1 n4).2.1
            refine List.nodup_cons.2 ⟨fun hm => ?_, List.nodup_cons.2 ⟨fun hm => ?_, List.nodup_append.2 ⟨HNM.out, n5, fun x hx y hy e => ?_⟩⟩⟩
            · rcases List.mem_cons.1 hm with h | h
              · exact hne12 h
              · rcases List.mem_append.1 h with h | h
                · have := HBM.out _ h; omega
                · exact n1 (by simp [h])
            · rcases List.mem_append.1 hm with h | h
              · have := HBM.out _ h; omega
              · exact n3 (by simp [h])
            · have := HBM.out x hx; have := HlK.out y hy; omega)
          have HB5 : Hid (∀ b ∈ b1 :: b2 :: (M ++ K), w.heap.size + 2 ≤ b ∧ b ≠ w2.heap.size) := Lib.hid (fun b hb => by
            rcases List.mem_cons.1 hb with rfl | hb
            · omega
            · rcases List.mem_cons.1 hb with rfl | hb
              · omega
              · rcases List.mem_append.1 hb with hb | hb
                · have := HBM.out b hb; omega
                · have := HBb.out b (by simp [hb]); have := HlK.out b hb; omega)
          clear g0 gf0 g11 gf11 hOA hOB HOM HO2 hC5 H1 HN HBb HNM HBM
          obtain ⟨g0, gf0⟩ := cellsK G0
          obtain ⟨g11, gf11⟩ := cellsK G11
          have lg0 := heap_lt G0
          have lg11 := heap_lt G11
          have hwl : (WA.length : Int) ≤ 7 := by omega
          go_wp2_with fail
          refine (twPair_c b1 b2 2 _ _ _ _ T1 T2 _ ⟨_, _, _, rfl⟩ ⟨_, _, _, rfl⟩ ⟨_, _, _, rfl⟩ ⟨_, _, _, rfl⟩ H15 H2).mono ?_; rintro e6 w6 ⟨rfl, hx6⟩
          have X6 := ext_trans X5 hx6
          replace G1 := keep_ext hx6 G1
          have HA6 := Lib.hid (HOA.out.ext hx6)
          have HB6 := Lib.hid (HOB.out.ext hx6)
          clear HOA HOB g0 gf0 g11 gf11
          obtain ⟨g1, gf1⟩ := cellsK G1
          go_wp2_with fail
          have hpv := HPV.out
          subst hpv
          refine bodyPost_ret (v := .agg #[.slice r1 k1 j1, .slice r2 k2 j2, .slice q3 m3 c3, .slice q4 m4 c4, .int .i64 2]) (by simp [results, Tryz.results10, go_sem, g1, gf1]) rfl ⟨_, rfl, ?_, .inr ⟨_, _, _, _, M, K, rfl, ?_, ?_, ?_, ?_, HSHA.out, HSHB.out⟩⟩
          · ((repeat (first | with_reducible (refine ext_set2 ?_ ?_); focus (first | exact Nat.le_refl _ | (dsimp only; omega) | (simp; omega)) | with_reducible refine ext_alloc2 ?_)); with_reducible exact X6)
          · refine HA6.out.keep fun b hb => ?_
            have := HB5.out b (by simp [hb])
            iterate 5 rw [setCell_other (by omega)]
          · refine HB6.out.keep fun b hb => ?_
            have := HB5.out b (by simp [hb])
            iterate 5 rw [setCell_other (by omega)]
          · exact (List.nodup_cons.1 (List.nodup_cons.1 HN5.out).2).2
          · exact fun b hb => by have := HB5.out b (List.mem_cons_of_mem _ (List.mem_cons_of_mem _ hb)); omega
        · have h2b : (p.lost != 2) = true := by simpa using h2
          rw [if_neg h2] at hpv
          have h0 : p.lost = 0 := by omega
          rw [h0] at hpv hTw hPO ⊢
          clear h1 h2 h1b h2b
          by_cases hr : (WA.length : Int) ≤ cut
          · rw [if_pos hr] at hpv
            have HPV := Lib.hid hpv
            clear hpv
            go_enter Tryz.func10, Tryz.ntmps10
            go_wp2_with fail
            refine (hPO _ (ext_alloc (ext_alloc (ext_refl _) _) _)).mono ?_; rintro e1 w1 ⟨rfl, hx1⟩
            have X1 := ext_trans (ext_alloc (ext_alloc (ext_refl w) _) _) hx1
            have G0 := keep_ext hx1 (hg_alloc (hg_new (b := w.heap.size) rfl))
            have G1 := keep_ext hx1 (hg_new (b := w.heap.size + 1) (by simp))
            obtain ⟨g0, gf0⟩ := cellsK G0
            obtain ⟨g1, gf1⟩ := cellsK G1
            have lw2 := heap_lt G1
            clear hPO hx1
            go_wp2_with fail
            refine (hTw _ X1).mono ?_; rintro e2 w2 ⟨tv, rfl, hx2, b1, b2, f1, d1, g2, e2, L, K, T1, T2, rfl, H1, H2, hO1, hO2, hn, hb⟩
            have X2 := ext_trans X1 hx2
            have s1 := X1.size
            have sb1 := hb b1 (by simp)
            have sb2 := hb b2 (by simp)
            have l1 := heap_lt H1
            have l2 := heap_lt H2
            have hlL := hO1.lt
            have hlK := hO2.lt
            obtain ⟨q1, m1, c1, q2, m2, c2, rfl, rfl⟩ := hO1.forms
            obtain ⟨q3, m3, c3, q4, m4, c4, rfl, rfl⟩ := hO2.forms
            replace G0 := keep_ext hx2 G0
            replace G1 := keep_ext hx2 G1
            have HO1 := Lib.hid hO1
            have HO2 := Lib.hid hO2
            have HN := Lib.hid hn
            have HBb := Lib.hid hb
            have HlL := Lib.hid hlL
            have HlK := Lib.hid hlK
            clear g0 gf0 g1 gf1 hTw hx2 hO1 hO2 hn hb hlL hlK
            have G11 : (w2.alloc (.cells #[.pointer (some ⟨b1, 0, none⟩), .pointer (some ⟨b2, 0, none⟩), .int .i64 0] 55)).heap[w2.heap.size]? = some (.cells #[.pointer (some ⟨b1, 0, none⟩), .pointer (some ⟨b2, 0, none⟩), .int .i64 0] 55 (0, 0)) := hg_new rfl
            replace X2 := ext_alloc X2 (.cells #[.pointer (some ⟨b1, 0, none⟩), .pointer (some ⟨b2, 0, none⟩), .int .i64 0] 55)
            obtain ⟨g0, gf0⟩ := cellsK G0
            have lg0 := heap_lt G0
            have lg1 := heap_lt G1
            go_wp2_with fail
            refine (hPA _ X2).mono ?_; rintro e3 w3 ⟨sv, rfl, hx3, hS, hlw⟩
            have X3 := ext_trans X2 hx3
            have sz2 := X2.size
            have H23 : Ext w2 w3 := ext_trans (ext_alloc (ext_refl _) _) hx3
            replace G0 := keep_ext H23 G0
            replace G1 := keep_ext H23 G1
            replace G11 := keep_ext hx3 G11
            replace H1 := keep_ext H23 H1
            replace H2 := keep_ext H23 H2
            replace HO2 := Lib.hid (HO2.out.ext H23)
            have s23 := H23.size
            have l311 := heap_lt G11
            obtain ⟨sa, sc, rfl⟩ := hS.form
            have HS := Lib.hid (hS.base (b' := w.heap.size) sz2)
            clear g0 gf0 HO1 hS hx3 hPA H23
            obtain ⟨g0, gf0⟩ := cellsK G0
            go_wp2_with fail
            refine (HTA.out _ cut _ X3 HS.out hlw ⟨hc, hcut.2⟩).mono ?_; rintro e4 w4 ⟨f5, d5, M, rfl, hx4, hOM, hnM, hbM⟩
            obtain ⟨r1, k1, j1, r2, k2, j2, rfl, rfl⟩ := hOM.forms
            have X4 := ext_trans X3 hx4
            replace G0 := keep_ext hx4 G0
            replace G1 := keep_ext hx4 G1
            replace G11 := keep_ext hx4 G11
            replace H1 := keep_ext hx4 H1
            replace H2 := keep_ext hx4 H2
            replace HO2 := Lib.hid (HO2.out.ext hx4)
            have s34 := hx4.size
            have HOM := Lib.hid hOM
            have HNM := Lib.hid hnM
            have HBM : Hid (∀ b ∈ M, w2.heap.size < b) := Lib.hid (fun b hb => by have := hbM b hb; omega)
            clear g0 gf0 hOM hnM hbM hx4 HS
            obtain ⟨g0, gf0⟩ := cellsK G0
            obtain ⟨g11, gf11⟩ := cellsK G11
            have l11 := heap_lt G11
            go_wp2_with fail
            have hXa : Ext w4 (w4.alloc (.cells #[.slice r1 k1 j1, .slice r2 k2 j2] 31)) := ext_alloc (ext_refl _) _
            replace X4 := ext_trans X4 hXa
            replace G0 := keep_ext hXa G0
            replace G1 := keep_ext hXa G1
            replace G11 := keep_ext hXa G11
            replace H1 := keep_ext hXa H1
            replace H2 := keep_ext hXa H2
            replace HO2 := Lib.hid (HO2.out.ext hXa)
            replace HOM := Lib.hid (HOM.out.ext hXa)
            clear hXa
            refine (setFirst_c b1 b2 0 _ _ _ _ T1 _ ⟨_, _, _, rfl⟩ ⟨_, _, _, rfl⟩ H1).mono ?_; rintro e5 w5 ⟨rfl, hC5, H15⟩
            have X5 : Ext w w5 := hC5.ext X4 (by simp; omega)
            have hlt2 := heap_lt G11
            have sw2 := X2.size
            replace G0 := hC5.keep G0 (by simp; omega)
            replace G1 := hC5.keep G1 (by simp; omega)
            replace G11 := hC5.keep G11 (by simp; omega)
            have hne12 : b1 ≠ b2 := fun e => (List.nodup_cons.1 HN.out).1 (by rw [e]; simp)
            replace H2 := hC5.keep H2 (by simp; omega)
            have hOA := HOM.out.chg hC5 (fun b hb hm => by have := HBM.out b hb; simp at hm; omega)
            have hOB := HO2.out.chg hC5 (fun b hb hm => by
              simp at hm
              subst hm
              have hnd := HN.out
              simp [hb] at hnd)
            have HOA := Lib.hid hOA
            have HOB := Lib.hid hOB
            have HN5 : Hid ((b1 :: b2 :: (M ++ K)).Nodup) := Lib.hid (by
              have hnd := HN.out
              obtain ⟨n1, n2⟩ := List.nodup_cons.1 hnd
              obtain ⟨n3, n4⟩ := List.nodup_cons.1 n2
              have n5 := (List.nodup_append.1 n4).2.1
              refine List.nodup_cons.2 ⟨fun hm => ?_, List.nodup_cons.2 ⟨fun hm => ?_, List.nodup_append.2 ⟨HNM.out, n5, fun x hx y hy e => ?_⟩⟩⟩
              · rcases List.mem_cons.1 hm with h | h
                · exact hne12 h
                · rcases List.mem_append.1 h with h | h
                  · have := HBM.out _ h; omega
                  · exact n1 (by simp [h])
              · rcases List.mem_append.1 hm with h | h
                · have := HBM.out _ h; omega
                · exact n3 (by simp [h])
              · have := HBM.out x hx; have := HlK.out y hy; omega)
            have HB5 : Hid (∀ b ∈ b1 :: b2 :: (M ++ K), w.heap.size + 2 ≤ b ∧ b ≠ w2.heap.size) := Lib.hid (fun b hb => by
              rcases List.mem_cons.1 hb with rfl | hb
              · omega
              · rcases List.mem_cons.1 hb with rfl | hb
                · omega
                · rcases List.mem_append.1 hb with hb | hb
                  · have := HBM.out b hb; omega
                  · have := HBb.out b (by simp [hb]); have := HlK.out b hb; omega)
            clear g0 gf0 g11 gf11 hOA hOB HOM HO2 hC5 H1 HN HBb HNM HBM
            obtain ⟨g0, gf0⟩ := cellsK G0
            obtain ⟨g11, gf11⟩ := cellsK G11
            have lg0 := heap_lt G0
            have lg11 := heap_lt G11
            have hwl : (WA.length : Int) ≤ 7 := by omega
            go_wp2_with fail
            refine wp_region_float 12 14 [6, 9] [0, 1, 2, 3, 4, 5, 7, 8, 6, 9, 10, 11, 12] [(13, .cells #[.slice none 0 0, .slice none 0 0] 31, fun b => .pointer (some ⟨b, 0, none⟩))] [15] (by kernel_rfl) (by kernel_rfl) ?late ?_
            case late =>
              intro f hf
              obtain rfl := List.mem_singleton.1 hf
              refine ⟨_, rfl, fun a w => ?_⟩
              go_simp
            refine Rob.y (v := ?_) rfl rfl (fun w1 hx hH => ?_) ?_; rotate_left
            · go_simp; first | done | rfl | exact (Bool.not_not _).symm
            simp only [Act.put, List.setIfInBounds_toArray, List.set_cons_succ, List.set_cons_zero]
            refine Rob.y (v := ?_) rfl rfl (fun w1 hx hH => ?_) ?_; rotate_left
            · (have hE : Ext _ w1 := (by first | exact hx | exact hx.1 | exact hx.1.1); obtain ⟨z0, zf0⟩ := cellsK (keep_ext hE G0)); go_simp; first | done | rfl
            simp only [Act.put, List.setIfInBounds_toArray, List.set_cons_succ, List.set_cons_zero]
            refine Rob.y (v := ?_) rfl rfl (fun w1 hx hH => ?_) ?_; rotate_left
            · go_simp; first | done | rfl | exact (Bool.not_not _).symm
            simp only [Act.put, List.setIfInBounds_toArray, List.set_cons_succ, List.set_cons_zero]
            refine Rob.y (v := ?_) rfl rfl (fun w1 hx hH => ?_) ?_; rotate_left
            · (have hE : Ext _ w1 := (by first | exact hx | exact hx.1 | exact hx.1.1); obtain ⟨z0, zf0⟩ := cellsK (keep_ext hE G0)); go_simp; first | done | rfl
            simp only [Act.put, List.setIfInBounds_toArray, List.set_cons_succ, List.set_cons_zero]
            iterate 4
              refine Rob.y (v := ?_) rfl rfl (fun w1 hx hH => ?_) ?_; rotate_left
              · go_simp; first | done | rfl | exact (Bool.not_not _).symm
              simp only [Act.put, List.setIfInBounds_toArray, List.set_cons_succ, List.set_cons_zero]
            refine Rob.c ((fun lo hi v w' => SRow lo w' v WB ∧ WB.length ≤ 7)) rfl rfl rfl (fun _ _ => (by (first | exact ext_trans | exact fun h k => ⟨ext_trans h.1 k, h.2.1.ext k, h.2.2⟩))) (fun _ _ _ _ _ => (by (first | exact fun h hx => h.ext hx | exact fun h hx => ⟨h.1.ext hx, h.2⟩))) (fun w1 hx hH => ?_) (fun lo6 hi6 v6 hlo6 hhi6 hv6 => ?_)
            · unfold RunTo; go_simp; exact ((hPB _ (ext_trans X5 hx))).mono fun e w' h => h.to
            simp only [Act.put, List.setIfInBounds_toArray, List.set_cons_succ, List.set_cons_zero]
            obtain ⟨_, hv6⟩ := hv6
            obtain ⟨a6, c6, rfl⟩ := hv6.1.form
            refine Rob.c (StToN (toSteps p.B WB (cut - (WA.length : Int)) torn)) rfl rfl rfl (fun _ _ => (by (first | exact ext_trans | exact fun h k => ⟨ext_trans h.1 k, h.2.1.ext k, h.2.2⟩))) (fun _ _ _ _ _ => (by (first | exact fun h hx => h.ext hx | exact fun h hx => ⟨h.1.ext hx, h.2⟩))) (fun w1 hx hH => ?_) (fun lo9 hi9 v9 hlo9 hhi9 hv9 => ?_)
            · unfold RunTo; go_simp; exact ((HTB.out _ _ _ (ext_trans X5 hx.1) (hx.2.1.base (by have := X5.size; omega)) hx.2.2 ⟨by omega, by omega⟩)).mono fun e w' h => h.to
            simp only [Act.put, List.setIfInBounds_toArray, List.set_cons_succ, List.set_cons_zero]
            obtain ⟨_, hv9⟩ := hv9
            obtain ⟨r3, k3, j3, r4, k4, j4, rfl⟩ := hv9.forms
            refine Rob.y (v := ?_) rfl rfl (fun w1 hx hH => ?_) ?_; rotate_left
            · go_simp; first | done | rfl | exact (Bool.not_not _).symm
            simp only [Act.put, List.setIfInBounds_toArray, List.set_cons_succ, List.set_cons_zero]
            iterate 2
              refine Rob.y (v := ?_) rfl rfl (fun w1 hx hH => ?_) ?_; rotate_left
              · go_simp; first | done | rfl | exact (Bool.not_not _).symm
              simp only [Act.put, List.setIfInBounds_toArray, List.set_cons_succ, List.set_cons_zero]
            refine fin_float _ rfl (fun w7 bb hx7 _ hbb hblt hob hout => ?_)
            simp only [dstOf, List.getElem?_cons_succ, List.getElem?_cons_zero, Option.bind_some, Act.put, List.setIfInBounds_toArray, List.set_cons_succ, List.set_cons_zero, List.filterMap_cons, List.filterMap_nil]
            obtain ⟨⟨hx7, -⟩, hM7⟩ := hx7
            obtain ⟨K7, hOK7, hnK7, hbK7⟩ := hM7.own
            have X7 := ext_trans X5 hx7
            have hbne : Hid (∀ b ∈ K7, b ≠ bb ∧ w5.heap.size ≤ b) := Lib.hid (fun b hb => by
              have h1 := hbK7 b hb
              have h2 := hout (lo9, hi9) (by simp)
              dsimp only at h2
              omega)
            have l5g := heap_lt G11
            have l5h := heap_lt G1
            replace G0 := keep_ext hx7 G0
            replace G1 := keep_ext hx7 G1
            replace G11 := keep_ext hx7 G11
            have L5 : Hid (b1 < w5.heap.size ∧ b2 < w5.heap.size) := Lib.hid ⟨heap_lt H15, heap_lt H2⟩
            replace H15 := keep_ext hx7 H15
            replace H2 := keep_ext hx7 H2
            have l5a := HOA.out.lt
            have l5b := heap_lt (keep_ext (ext_refl _) G1)
            have HLA := Lib.hid l5a
            replace HOA := Lib.hid (HOA.out.ext hx7)
            have HOK := Lib.hid hOK7
            have HNK := Lib.hid hnK7
            have s57 := hx7.size
            have hobk := hob
            obtain ⟨zb, zfb⟩ := cellsK hob
            have l57 := heap_lt H15
            have l58 := heap_lt H2
            have lg7 := heap_lt G11
            refine ⟨?_, ?_, ?_⟩; rotate_left
            · go_simp; rfl
            refine wpList_plain rfl (fun K hK => ?_)
            go_simp
            refine hK _ _ ?_
            clear hK K
            refine wpList_nil ?_
            have hC8 : Chg [bb] w7 ((w7.setCell ⟨bb, 0, none⟩ (.slice r3 k3 j3)).setCell ⟨bb, 1, none⟩ (.slice r4 k4 j4)) := ((Chg.refl _ _).set (p := ⟨bb, 0, none⟩) (.inl (by simp)) _).set (p := ⟨bb, 1, none⟩) (.inl (by simp)) _
            have Gbb : ((w7.setCell ⟨bb, 0, none⟩ (.slice r3 k3 j3)).setCell ⟨bb, 1, none⟩ (.slice r4 k4 j4)).heap[bb]? = some (.cells #[.slice r3 k3 j3, .slice r4 k4 j4] 31 (0, 0)) := hgo (hg_here (hg_here hobk)) rfl
            generalize ((w7.setCell ⟨bb, 0, none⟩ (.slice r3 k3 j3)).setCell ⟨bb, 1, none⟩ (.slice r4 k4 j4)) = w8 at *
            have l515 := (HB5.out b1 (by simp)).1
            have lO : Hid (b1 < w5.heap.size ∧ b2 < w5.heap.size) := L5
            have X8 : Ext w w8 := hC8.ext X7 (by simp; have := X5.size; omega)
            replace G1 := hC8.keep G1 (by simp; omega)
            replace G11 := hC8.keep G11 (by simp; omega)
            replace H15 := hC8.keep H15 (by have := lO.out; simp; omega)
            replace H2 := hC8.keep H2 (by have := lO.out; simp; omega)
            replace HOA := Lib.hid (HOA.out.chg hC8 (fun b hb hm => by have := HLA.out b hb; simp at hm; omega))
            replace HOK := Lib.hid (HOK.out.chg hC8 (fun b hb hm => by have := hbne.out b hb; simp at hm; omega))
            clear zb zfb hob hobk hC8 hM7 hOK7 hnK7 g0 gf0 g11 gf11
            obtain ⟨zb, zfb⟩ := cellsK Gbb
            obtain ⟨g11, gf11⟩ := cellsK G11
            have lbb := heap_lt Gbb
            have l8 := heap_lt G11
            go_wp2_with fail
            refine (setOther_c b1 b2 0 _ _ _ _ T2 _ ⟨_, _, _, rfl⟩ ⟨_, _, _, rfl⟩ H2).mono ?_; rintro e9 w9 ⟨rfl, hC9, H29⟩
            have sb2 := (HB5.out b2 (by simp)).1
            have X9 : Ext w w9 := hC9.ext X8 (by simp; omega)
            have hne12 : b1 ≠ b2 := fun e => (List.nodup_cons.1 HN5.out).1 (by rw [e]; simp)
            have H19 := hC9.keep H15 (by simpa using hne12)
            replace G1 := hC9.keep G1 (by simp; omega)
            replace G11 := hC9.keep G11 (by simp; have := (HB5.out b2 (by simp)).2; omega)
            replace HOA := Lib.hid (HOA.out.chg hC9 (fun b hb hm => by
              simp at hm
              subst hm
              have hnd := (List.nodup_cons.1 (List.nodup_cons.1 HN5.out).2).1
              exact hnd (by simp [hb])))
            have HOB := Lib.hid (HOK.out.chg hC9 (fun b hb hm => by have := hbne.out b hb; have := lO.out; simp at hm; omega))
            have HN9 : Hid ((b1 :: b2 :: (M ++ K7)).Nodup) := Lib.hid (by
              obtain ⟨n1, n2⟩ := List.nodup_cons.1 HN5.out
              obtain ⟨n3, n4⟩ := List.nodup_cons.1 n2
              have n5 := (List.nodup_append.1 n4).1
              refine List.nodup_cons.2 ⟨fun hm => ?_, List.nodup_cons.2 ⟨fun hm => ?_, List.nodup_append.2 ⟨n5, HNK.out, fun x hx y hy e => ?_⟩⟩⟩
              · rcases List.mem_cons.1 hm with h | h
                · exact hne12 h
                · rcases List.mem_append.1 h with h | h
                  · exact n1 (by simp [h])
                  · have := hbne.out _ h; have := lO.out; omega
              · rcases List.mem_append.1 hm with h | h
                · exact n3 (by simp [h])
                · have := hbne.out _ h; have := lO.out; omega
              · have := HLA.out x hx; have := hbne.out y hy; omega)
            have HB9 : Hid (∀ b ∈ b1 :: b2 :: (M ++ K7), w.heap.size + 2 ≤ b ∧ b ≠ w2.heap.size) := Lib.hid (fun b hb => by
              rcases List.mem_cons.1 hb with rfl | hb
              · exact HB5.out _ (by simp)
              · rcases List.mem_cons.1 hb with rfl | hb
                · exact HB5.out _ (by simp)
                · rcases List.mem_append.1 hb with hb | hb
                  · exact HB5.out b (by simp [hb])
                  · have := hbne.out b hb; omega)
            have HSHB : Hid (Shape4 (toSteps p.B WB (cut - (WA.length : Int)) torn)) := Lib.hid ((storeOk_P HOKB.out).to (fun x hx => (HVB.out x hx).ok) _ torn).shape4
            clear HOK hC9 zb zfb HN5 HB5 g11 gf11
            obtain ⟨g11, gf11⟩ := cellsK G11
            have l9 := heap_lt G11
            go_wp2_with fail
            refine (twPair_c b1 b2 0 _ _ _ _ T1 T2 _ ⟨_, _, _, rfl⟩ ⟨_, _, _, rfl⟩ ⟨_, _, _, rfl⟩ ⟨_, _, _, rfl⟩ H19 H29).mono ?_; rintro e6 w6 ⟨rfl, hx6⟩
            have X6 := ext_trans X9 hx6
            replace G1 := keep_ext hx6 G1
            have HA6 := Lib.hid (HOA.out.ext hx6)
            have HB6 := Lib.hid (HOB.out.ext hx6)
            clear HOA HOB g11 gf11
            obtain ⟨g1, gf1⟩ := cellsK G1
            go_wp2_with fail
            have hpv := HPV.out
            subst hpv
            refine bodyPost_ret (v := .agg #[.slice r1 k1 j1, .slice r2 k2 j2, .slice r3 k3 j3, .slice r4 k4 j4, .int .i64 0]) (by simp [results, Tryz.results10, go_sem, g1, gf1]) rfl ⟨_, rfl, ?_, .inr ⟨_, _, _, _, M, K7, rfl, ?_, ?_, ?_, ?_, HSHA.out, HSHB.out⟩⟩
            · ((repeat (first | with_reducible (refine ext_set2 ?_ ?_); focus (first | exact Nat.le_refl _ | (dsimp only; omega) | (simp; omega)) | with_reducible refine ext_alloc2 ?_)); with_reducible exact X6)
            · refine HA6.out.keep fun b hb => ?_
              have := HB9.out b (by simp [hb])
              iterate 5 rw [setCell_other (by omega)]
            · refine HB6.out.keep fun b hb => ?_
              have := HB9.out b (by simp [hb])
              iterate 5 rw [setCell_other (by omega)]
            · exact (List.nodup_cons.1 (List.nodup_cons.1 HN9.out).2).2
            · exact fun b hb => by have := HB9.out b (List.mem_cons_of_mem _ (List.mem_cons_of_mem _ hb)); omega
          · rw [if_neg hr] at hpv
            have HSHB := HSB
            have HPV := Lib.hid hpv
            clear hpv
            go_enter Tryz.func10, Tryz.ntmps10
            go_wp2_with fail
            refine (hPO _ (ext_alloc (ext_alloc (ext_refl _) _) _)).mono ?_; rintro e1 w1 ⟨rfl, hx1⟩
            have X1 := ext_trans (ext_alloc (ext_alloc (ext_refl w) _) _) hx1
            have G0 := keep_ext hx1 (hg_alloc (hg_new (b := w.heap.size) rfl))
            have G1 := keep_ext hx1 (hg_new (b := w.heap.size + 1) (by simp))
            obtain ⟨g0, gf0⟩ := cellsK G0
            obtain ⟨g1, gf1⟩ := cellsK G1
            have lw2 := heap_lt G1
            clear hPO hx1
            go_wp2_with fail
            refine (hTw _ X1).mono ?_; rintro e2 w2 ⟨tv, rfl, hx2, b1, b2, f1, d1, g2, e2, L, K, T1, T2, rfl, H1, H2, hO1, hO2, hn, hb⟩
            have X2 := ext_trans X1 hx2
            have s1 := X1.size
            have sb1 := hb b1 (by simp)
            have sb2 := hb b2 (by simp)
            have l1 := heap_lt H1
            have l2 := heap_lt H2
            have hlL := hO1.lt
            have hlK := hO2.lt
            obtain ⟨q1, m1, c1, q2, m2, c2, rfl, rfl⟩ := hO1.forms
            obtain ⟨q3, m3, c3, q4, m4, c4, rfl, rfl⟩ := hO2.forms
            replace G0 := keep_ext hx2 G0
            replace G1 := keep_ext hx2 G1
            have HO1 := Lib.hid hO1
            have HO2 := Lib.hid hO2
            have HN := Lib.hid hn
            have HBb := Lib.hid hb
            have HlL := Lib.hid hlL
            have HlK := Lib.hid hlK
            clear g0 gf0 g1 gf1 hTw hx2 hO1 hO2 hn hb hlL hlK
            have G11 : (w2.alloc (.cells #[.pointer (some ⟨b1, 0, none⟩), .pointer (some ⟨b2, 0, none⟩), .int .i64 0] 55)).heap[w2.heap.size]? = some (.cells #[.pointer (some ⟨b1, 0, none⟩), .pointer (some ⟨b2, 0, none⟩), .int .i64 0] 55 (0, 0)) := hg_new rfl
            replace X2 := ext_alloc X2 (.cells #[.pointer (some ⟨b1, 0, none⟩), .pointer (some ⟨b2, 0, none⟩), .int .i64 0] 55)
            obtain ⟨g0, gf0⟩ := cellsK G0
            have lg0 := heap_lt G0
            have lg1 := heap_lt G1
            go_wp2_with fail
            refine (hPA _ X2).mono ?_; rintro e3 w3 ⟨sv, rfl, hx3, hS, hlw⟩
            have X3 := ext_trans X2 hx3
            have sz2 := X2.size
            have H23 : Ext w2 w3 := ext_trans (ext_alloc (ext_refl _) _) hx3
            replace G0 := keep_ext H23 G0
            replace G1 := keep_ext H23 G1
            replace G11 := keep_ext hx3 G11
            replace H1 := keep_ext H23 H1
            replace H2 := keep_ext H23 H2
            replace HO2 := Lib.hid (HO2.out.ext H23)
            have s23 := H23.size
            have l311 := heap_lt G11
            obtain ⟨sa, sc, rfl⟩ := hS.form
            have HS := Lib.hid (hS.base (b' := w.heap.size) sz2)
            clear g0 gf0 HO1 hS hx3 hPA H23
            obtain ⟨g0, gf0⟩ := cellsK G0
            go_wp2_with fail
            refine (HTA.out _ cut _ X3 HS.out hlw ⟨hc, hcut.2⟩).mono ?_; rintro e4 w4 ⟨f5, d5, M, rfl, hx4, hOM, hnM, hbM⟩
            obtain ⟨r1, k1, j1, r2, k2, j2, rfl, rfl⟩ := hOM.forms
            have X4 := ext_trans X3 hx4
            replace G0 := keep_ext hx4 G0
            replace G1 := keep_ext hx4 G1
            replace G11 := keep_ext hx4 G11
            replace H1 := keep_ext hx4 H1
            replace H2 := keep_ext hx4 H2
            replace HO2 := Lib.hid (HO2.out.ext hx4)
            have s34 := hx4.size
            have HOM := Lib.hid hOM
            have HNM := Lib.hid hnM
            have HBM : Hid (∀ b ∈ M, w2.heap.size < b) := Lib.hid (fun b hb => by have := hbM b hb; omega)
            clear g0 gf0 hOM hnM hbM hx4 HS
            obtain ⟨g0, gf0⟩ := cellsK G0
            obtain ⟨g11, gf11⟩ := cellsK G11
            have l11 := heap_lt G11
            go_wp2_with fail
            have hXa : Ext w4 (w4.alloc (.cells #[.slice r1 k1 j1, .slice r2 k2 j2] 31)) := ext_alloc (ext_refl _) _
            replace X4 := ext_trans X4 hXa
            replace G0 := keep_ext hXa G0
            replace G1 := keep_ext hXa G1
            replace G11 := keep_ext hXa G11
            replace H1 := keep_ext hXa H1
            replace H2 := keep_ext hXa H2
            replace HO2 := Lib.hid (HO2.out.ext hXa)
            replace HOM := Lib.hid (HOM.out.ext hXa)
            clear hXa
            refine (setFirst_c b1 b2 0 _ _ _ _ T1 _ ⟨_, _, _, rfl⟩ ⟨_, _, _, rfl⟩ H1).mono ?_; rintro e5 w5 ⟨rfl, hC5, H15⟩
            have X5 : Ext w w5 := hC5.ext X4 (by simp; omega)
            have hlt2 := heap_lt G11
            have sw2 := X2.size
            replace G0 := hC5.keep G0 (by simp; omega)
            replace G1 := hC5.keep G1 (by simp; omega)
            replace G11 := hC5.keep G11 (by simp; omega)
            have hne12 : b1 ≠ b2 := fun e => (List.nodup_cons.1 HN.out).1 (by rw [e]; simp)
            replace H2 := hC5.keep H2 (by simp; omega)
            have hOA := HOM.out.chg hC5 (fun b hb hm => by have := HBM.out b hb; simp at hm; omega)
            have hOB := HO2.out.chg hC5 (fun b hb hm => by
              simp at hm
              subst hm
              have hnd := HN.out
              simp [hb] at hnd)
            have HOA := Lib.hid hOA
            have HOB := Lib.hid hOB
            have HN5 : Hid ((b1 :: b2 :: (M ++ K)).Nodup) := Lib.hid (by
              have hnd := HN.out
              obtain ⟨n1, n2⟩ := List.nodup_cons.1 hnd
              obtain ⟨n3, n4⟩ := List.nodup_cons.1 n2
              have n5 := (List.nodup_append.1 n4).2.1
              refine List.nodup_cons.2 ⟨fun hm => ?_, List.nodup_cons.2 ⟨fun hm => ?_, List.nodup_append.2 ⟨HNM.out, n5, fun x hx y hy e => ?_⟩⟩⟩
              · rcases List.mem_cons.1 hm with h | h
                · exact hne12 h
                · rcases List.mem_append.1 h with h | h
                  · have := HBM.out _ h; omega
                  · exact n1 (by simp [h])
              · rcases List.mem_append.1 hm with h | h
                · have := HBM.out _ h; omega
                · exact n3 (by simp [h])
              · have := HBM.out x hx; have := HlK.out y hy; omega)
            have HB5 : Hid (∀ b ∈ b1 :: b2 :: (M ++ K), w.heap.size + 2 ≤ b ∧ b ≠ w2.heap.size) := Lib.hid (fun b hb => by
              rcases List.mem_cons.1 hb with rfl | hb
              · omega
              · rcases List.mem_cons.1 hb with rfl | hb
                · omega
                · rcases List.mem_append.1 hb with hb | hb
                  · have := HBM.out b hb; omega
                  · have := HBb.out b (by simp [hb]); have := HlK.out b hb; omega)
            clear g0 gf0 g11 gf11 hOA hOB HOM HO2 hC5 H1 HN HBb HNM HBM
            obtain ⟨g0, gf0⟩ := cellsK G0
            obtain ⟨g11, gf11⟩ := cellsK G11
            have lg0 := heap_lt G0
            have lg11 := heap_lt G11
            have hwl : (WA.length : Int) ≤ 7 := by omega
            go_wp2_with fail
            refine (twPair_c b1 b2 0 _ _ _ _ T1 T2 _ ⟨_, _, _, rfl⟩ ⟨_, _, _, rfl⟩ ⟨_, _, _, rfl⟩ ⟨_, _, _, rfl⟩ H15 H2).mono ?_; rintro e6 w6 ⟨rfl, hx6⟩
            have X6 := ext_trans X5 hx6
            replace G1 := keep_ext hx6 G1
            have HA6 := Lib.hid (HOA.out.ext hx6)
            have HB6 := Lib.hid (HOB.out.ext hx6)
            clear HOA HOB g0 gf0 g11 gf11
            obtain ⟨g1, gf1⟩ := cellsK G1
            go_wp2_with fail
            have hpv := HPV.out
            subst hpv
            refine bodyPost_ret (v := .agg #[.slice r1 k1 j1, .slice r2 k2 j2, .slice q3 m3 c3, .slice q4 m4 c4, .int .i64 0]) (by simp [results, Tryz.results10, go_sem, g1, gf1]) rfl ⟨_, rfl, ?_, .inr ⟨_, _, _, _, M, K, rfl, ?_, ?_, ?_, ?_, HSHA.out, HSHB.out⟩⟩
            · ((repeat (first | with_reducible (refine ext_set2 ?_ ?_); focus (first | exact Nat.le_refl _ | (dsimp only; omega) | (simp; omega)) | with_reducible refine ext_alloc2 ?_)); with_reducible exact X6)
            · refine HA6.out.keep fun b hb => ?_
              have := HB5.out b (by simp [hb])
              iterate 5 rw [setCell_other (by omega)]
            · refine HB6.out.keep fun b hb => ?_
              have := HB5.out b (by simp [hb])
              iterate 5 rw [setCell_other (by omega)]
            · exact (List.nodup_cons.1 (List.nodup_cons.1 HN5.out).2).2
            · exact fun b hb => by have := HB5.out b (List.mem_cons_of_mem _ (List.mem_cons_of_mem _ hb)); omega
    · rw [Bool.not_eq_true] at hok
      rw [hok] at hPO
      unfold pairPutV
      rw [if_neg (by rw [hok]; simp)]
      go_enter Tryz.func10, Tryz.ntmps10
      go_wp2_with fail
      refine (hPO _ (ext_alloc (ext_alloc (ext_refl _) _) _)).mono ?_; rintro e1 w1 ⟨rfl, hx1⟩
      have X1 := ext_trans (ext_alloc (ext_alloc (ext_refl w) _) _) hx1
      have G0 := keep_ext hx1 (hg_alloc (hg_new (b := w.heap.size) rfl))
      have G1 := keep_ext hx1 (hg_new (b := w.heap.size + 1) (by simp))
      obtain ⟨g0, gf0⟩ := cellsK G0
      obtain ⟨g1, gf1⟩ := cellsK G1
      have lw2 := heap_lt G1
      clear hPO hx1
      go_wp2_with fail
      refine bodyPost_ret (v := nilPair) (by simp [results, Tryz.results10, go_sem, g1, gf1, nilPair]) rfl ⟨_, rfl, ?_, .inl ⟨rfl, rfl⟩⟩
      ((repeat (first | with_reducible (refine ext_set2 ?_ ?_); focus (first | exact Nat.le_refl _ | (dsimp only; omega) | (simp; omega)) | with_reducible refine ext_alloc2 ?_)); with_reducible exact X1)
  · unfold pairPutV
    rw [if_neg (fun h => hc h.2)]
    have hcn : cut < 0 := by omega
    go_enter Tryz.func10, Tryz.ntmps10
    go_wp2_with fail
    have X1 := ext_refl w
    have G1 := hg_new (w := w.alloc (.cells #[.slice a1 p.A.flash.length n1, .slice a2 p.A.disk.length n2, .slice a3 p.B.flash.length n3, .slice a4 p.B.disk.length n4, .int .i64 p.lost] 33)) (b := w.heap.size + 1) (x := .cells #[.slice none 0 0, .slice none 0 0, .slice none 0 0, .slice none 0 0, .int .i64 0] 33) (by simp)
    obtain ⟨g1, gf1⟩ := cellsK G1
    refine bodyPost_ret (v := nilPair) (by simp [results, Tryz.results10, go_sem, g1, gf1, nilPair]) rfl ⟨_, rfl, ?_, .inl ⟨rfl, rfl⟩⟩
    ((repeat (first | with_reducible (refine ext_set2 ?_ ?_); focus (first | exact Nat.le_refl _ | (dsimp only; omega) | (simp; omega)) | with_reducible refine ext_alloc2 ?_)); with_reducible exact X1)
end Go.Bu

set_option linter.unusedVariables false
set_option linter.unusedSimpArgs false
namespace Go.Bu
open Go Go.RowKit Go.Plan Go.Proofs

theorem wf_i64 {x : Int} (h : (Lit.int .i64 x).wf = true) : -9223372036854775808 ≤ x ∧ x ≤ 9223372036854775807 := by
  have h2 : IntKind.i64.min = -9223372036854775808 := by decide
  simp [Lit.wf, h2] at h; omega

set_option maxRecDepth 20000 in
set_option maxHeartbeats 4000000 in
theorem specPairPut_c (f d g e : Value) (p : Pair) (addr val cut : Int) (torn : Bool) (w : World) (hA : StoreV w f d p.A) (hB : StoreV w g e p.B) (hsA : Small p.A) (hsB : Small p.B) (hcut : -9223372036854775808 ≤ cut ∧ cut ≤ 9223372036854775807) :
    Calls Tryz.prog 8 #[.agg #[f, d, g, e, .int .i64 p.lost], .int .i64 addr, .int .i64 val, .int .i64 cut, .bool torn] w (PairΦ w (pairPutV p addr val cut torn)) := by
  have hPO := fun (w' : World) (hx : Ext w w') => specPairOk_c f d g e p w' (hA.ext hx) (hB.ext hx) hsA.1 hsB.1
  have hTW := fun (w' : World) (hx : Ext w w') (h1 : Shape4 p.A) (h2 : Shape4 p.B) => l23Copy_c f d g e p w' (hA.ext hx) (hB.ext hx) h1.flash h1.pages h1.disk h2.flash h2.pages h2.disk
  unfold pairPutV
  obtain ⟨a1, n1, rfl⟩ := hA.1.form
  obtain ⟨a2, n2, rfl⟩ := hA.2.form
  obtain ⟨a3, n3, rfl⟩ := hB.1.form
  obtain ⟨a4, n4, rfl⟩ := hB.2.form
  clear hA hB hsA hsB
  by_cases hok : pairOkB p = true
  · obtain ⟨hl, hokA, hokB⟩ := pairOk_iff.1 hok
    have hTw := fun (w' : World) (hx : Ext w w') => hTW w' hx (storeOk_shape hokA) (storeOk_shape hokB)
    rw [hok] at hPO
    simp only [hok, true_and]
    have HPA := Lib.hid (storeOk_P hokA)
    have HPB := Lib.hid (storeOk_P hokB)
    clear hTW hok hokA hokB
    by_cases hc : 0 ≤ cut
    · rw [if_pos hc]
      have hcn : ¬ cut < 0 := by omega
      have HSA := Lib.hid (HPA.out.to (xs := listA p addr val) (fun x hx => by
        unfold listA at hx
        split at hx
        · cases hx
        · exact (write_V (flashOk_iff.1 HPA.out.flash) _ _ _ x hx).ok) cut torn)
      have HSB : Hid (StoreP (putV p addr val cut torn).B) := Lib.hid (by
        unfold putV
        dsimp only
        split
        · exact HPB.out.to (fun x hx => by
            unfold listB at hx
            split at hx
            · cases hx
            · exact (write_V (flashOk_iff.1 HPB.out.flash) _ _ _ x hx).ok) _ torn
        · exact HPB.out)
      have hLs : (putV p addr val cut torn).lost = p.lost := rfl
      have hput := fun (a b : SC) (w' : World) hA hB hd => l23Put_c a b p addr val cut torn w' hA hB hd HPA.out HPB.out ⟨by omega, hcut.2⟩
      have HPUT := Lib.hid hput
      clear hput
      have HSA2 : Hid (StoreP (putV p addr val cut torn).A) := HSA
      clear HSA
      generalize putV p addr val cut torn = PV at *
      go_enter Tryz.func8, Tryz.ntmps8
      go_wp2_with fail
      refine (hPO _ (ext_alloc (ext_alloc (ext_refl _) _) _)).mono ?_; rintro e1 w1 ⟨rfl, hx1⟩
      have X1 := ext_trans (ext_alloc (ext_alloc (ext_refl w) _) _) hx1
      have G0 := keep_ext hx1 (hg_alloc (hg_new (b := w.heap.size) rfl))
      have G1 := keep_ext hx1 (hg_new (b := w.heap.size + 1) (by simp))
      obtain ⟨g0, gf0⟩ := cellsK G0
      obtain ⟨g1, gf1⟩ := cellsK G1
      have lw2 := heap_lt G1
      clear hPO hx1
      go_wp2_with fail
      refine (hTw _ X1).mono ?_; rintro e2 w2 ⟨f1, d1, g2, e2, L, K, rfl, hx2, hO1, hO2, hn, hb⟩
      have X2 := ext_trans X1 hx2
      have s1 := X1.size
      replace G1 := keep_ext hx2 G1
      obtain ⟨a, rfl, rfl, rfl, hSa⟩ := hO1.at4 (List.nodup_append.1 hn).1 HPA.out
      obtain ⟨b, rfl, rfl, rfl, hSb⟩ := hO2.at4 (List.nodup_append.1 hn).2.1 HPB.out
      have hdis : ∀ x ∈ a.L, x ∉ b.L := fun x h1 h2 => (List.nodup_append.1 hn).2.2 x h1 x h2 rfl
      have HB := Lib.hid hb
      have HN := Lib.hid hn
      have hcl := HPUT.out a b _ hSa hSb hdis
      clear g0 gf0 g1 gf1 G0 hx2 hO1 hO2 hSa hSb hn hb hdis hTw
      obtain ⟨g1, gf1⟩ := cellsK G1
      go_wp2_with fail
      refine hcl.mono ?_; rintro e3 w3 ⟨rfl, hC3, hSa, hSb⟩
      have X3 := hC3.ext X2 (fun x hx => by have := HB.out x hx; omega)
      replace G1 := hC3.keep G1 (fun hx => by have := HB.out _ hx; omega)
      have HSa := Lib.hid hSa
      have HSb := Lib.hid hSb
      rw [hLs]
      clear g1 gf1 hC3 hSa hSb hcl
      obtain ⟨g1, gf1⟩ := cellsK G1
      unfold pv
      go_wp2_with fail
      refine bodyPost_ret (v := pv a b PV.lost) (by simp [results, Tryz.results8, go_sem, g1, gf1, pv, hLs]) rfl ⟨_, rfl, ?_, PairO.of (HSa.out.keep fun x hx => ?_) (HSb.out.keep fun x hx => ?_) HSA2.out HSB.out HN.out fun x hx => ?_⟩
      · ((repeat (first | with_reducible (refine ext_set2 ?_ ?_); focus (first | exact Nat.le_refl _ | (dsimp only; omega) | (simp; omega)) | with_reducible refine ext_alloc2 ?_)); with_reducible exact X3)
      · have := HB.out x (by simp [hx])
        (repeat rw [setCell_other (by omega)])
      · have := HB.out x (by simp [hx])
        (repeat rw [setCell_other (by omega)])
      · have := HB.out x hx; omega
    · rw [if_neg hc]
      have hcn : cut < 0 := by omega
      go_enter Tryz.func8, Tryz.ntmps8
      go_wp2_with fail
      refine (hPO _ (ext_alloc (ext_alloc (ext_refl _) _) _)).mono ?_; rintro e1 w1 ⟨rfl, hx1⟩
      have X1 := ext_trans (ext_alloc (ext_alloc (ext_refl w) _) _) hx1
      have G0 := keep_ext hx1 (hg_alloc (hg_new (b := w.heap.size) rfl))
      have G1 := keep_ext hx1 (hg_new (b := w.heap.size + 1) (by simp))
      obtain ⟨g0, gf0⟩ := cellsK G0
      obtain ⟨g1, gf1⟩ := cellsK G1
      have lw2 := heap_lt G1
      clear hPO hx1
      go_wp2_with fail
      refine bodyPost_ret (v := nilPair) (by simp [results, Tryz.results8, go_sem, g1, gf1, nilPair]) rfl ⟨_, rfl, ?_, .inl ⟨rfl, rfl⟩⟩
      ((repeat (first | with_reducible (refine ext_set2 ?_ ?_); focus (first | exact Nat.le_refl _ | (dsimp only; omega) | (simp; omega)) | with_reducible refine ext_alloc2 ?_)); with_reducible exact X1)
  · rw [Bool.not_eq_true] at hok
    rw [hok] at hPO
    rw [if_neg (by rw [hok]; simp)]
    go_enter Tryz.func8, Tryz.ntmps8
    go_wp2_with fail
    refine (hPO _ (ext_alloc (ext_alloc (ext_refl _) _) _)).mono ?_; rintro e1 w1 ⟨rfl, hx1⟩
    have X1 := ext_trans (ext_alloc (ext_alloc (ext_refl w) _) _) hx1
    have G0 := keep_ext hx1 (hg_alloc (hg_new (b := w.heap.size) rfl))
    have G1 := keep_ext hx1 (hg_new (b := w.heap.size + 1) (by simp))
    obtain ⟨g0, gf0⟩ := cellsK G0
    obtain ⟨g1, gf1⟩ := cellsK G1
    have lw2 := heap_lt G1
    clear hPO hx1
    go_wp2_with fail
    refine bodyPost_ret (v := nilPair) (by simp [results, Tryz.results8, go_sem, g1, gf1, nilPair]) rfl ⟨_, rfl, ?_, .inl ⟨rfl, rfl⟩⟩
    ((repeat (first | with_reducible (refine ext_set2 ?_ ?_); focus (first | exact Nat.le_refl _ | (dsimp only; omega) | (simp; omega)) | with_reducible refine ext_alloc2 ?_)); with_reducible exact X1)
end Go.Bu

set_option linter.unusedVariables false
set_option linter.unusedSimpArgs false
namespace Go.Bu
open Go Go.RowKit Go.Plan Go.Proofs

theorem last_addr {f : List Block} (h : flashOkB f = true) {a : Int} (h0 : 0 < (last f a).seq) : (last f a).addr = a ∧ recOkB (last f a) = true := by
  rcases last_spec (flashOk_iff.1 h) a with ⟨e, _⟩ | ⟨h1, h2, _⟩
  · rw [e] at h0; exact absurd h0 (by decide)
  · exact ⟨h2, h1.ok (flashOk_iff.1 h)⟩
theorem flush_eq {s : Store} (h : flashOkB s.flash = true) (a : Int) : addrStep (flushSteps s) a = if 0 < (last s.flash a).seq ∧ (last s.flash a).kind = 1 then (if writeSteps s.flash 2 a (last s.flash a).val = [] then [] else ⟨1, a, (last s.flash a).val, 0, rec0⟩ :: writeSteps s.flash 2 a (last s.flash a).val) else [] := by
  unfold addrStep
  cases hin : inB a 1 6
  · rw [last_out h hin, if_neg (by simp), if_neg (fun hh => absurd hh.1 (by decide))]
  · have hi := inB_iff.1 hin
    rw [if_pos rfl]
    unfold flushSteps dirtyB readN
    rw [show (((a - 1).toNat : Nat) : Int) + 1 = a by omega]
    by_cases h0 : 0 < (last s.flash a).seq
    · by_cases h1 : (last s.flash a).kind = 1
      · have hc : 0 < (last s.flash a).seq ∧ (last s.flash a).kind = 1 := ⟨h0, h1⟩
        rw [if_pos hc, if_pos (by simp [h0, h1]), if_pos h0]
      · have hc : ¬ (0 < (last s.flash a).seq ∧ (last s.flash a).kind = 1) := fun h => h1 h.2
        rw [if_neg hc, if_neg (by simp [h1])]
    · have hc : ¬ (0 < (last s.flash a).seq ∧ (last s.flash a).kind = 1) := fun h => h0 h.1
      rw [if_neg hc, if_neg (by simp [h0])]
theorem fill_eq {s : Store} (h : flashOkB s.flash = true) (a : Int) (hin : inB a 1 6 = true) : addrStep (fillSteps s) a = if 0 < (last s.flash a).seq then [] else writeSteps s.flash 2 a (s.disk.getD (a - 1).toNat 0) := by
  unfold addrStep
  have hi := inB_iff.1 hin
  rw [hin, if_pos rfl]
  unfold fillSteps
  rw [show (((a - 1).toNat : Nat) : Int) + 1 = a by omega]

set_option maxRecDepth 20000 in
set_option maxHeartbeats 4000000 in
theorem implStepsFlush_c (fv dv : Value) (s : Store) (addr : Int) (w : World) (h : StoreV w fv dv s) (hok : storeOkB s = true) :
    Calls Tryz.prog 113 #[.agg #[fv, dv], .int .i64 addr] w (RetS w (addrStep (flushSteps s) addr)) := by
  have hfo := storeOk_flash hok
  have hSO := fun (w' : World) (hx : Ext w w') => implStoreOk_c fv dv s w' (h.ext hx) (pages_short hfo) (by have := storeOk_disk hok; omega)
  rw [hok] at hSO
  have hFL := fun (w' : World) (hx : Ext w w') => implFindLast_c fv s.flash addr w' (h.1.ext hx) hfo
  have hSW := fun (w' : World) (hx : Ext w w') => stepsWrite_c fv s.flash 2 addr (last s.flash addr).val w' (h.1.ext hx) hfo
  have HE := Lib.hid (flush_eq hfo addr)
  have HAD := Lib.hid (fun h0 => (last_addr hfo (a := addr) h0).1)
  have HWL := Lib.hid (write_le hfo 2 addr (last s.flash addr).val)
  obtain ⟨a1, n1, rfl⟩ := h.1.form
  obtain ⟨a2, n2, rfl⟩ := h.2.form
  clear h hok hfo
  generalize last s.flash addr = r at *
  generalize addrStep (flushSteps s) addr = RS at *
  obtain ⟨rk, rs, ra, rv⟩ := r
  dsimp only [recA] at *
  generalize writeSteps s.flash 2 addr rv = ws at *
  obtain ⟨kd, hkd⟩ : ∃ kd, (rk == 1) = kd := ⟨_, rfl⟩
  have hdt := fun w' => isDirty_c ⟨rk, rs, ra, rv⟩ w'
  have hds := fun w' => diskStep_c ⟨rk, rs, ra, rv⟩ w'
  dsimp only [recA] at hdt hds
  rw [hkd] at hdt
  have HKD := Lib.hid hkd
  clear hkd
  by_cases h0 : 0 < rs
  · cases kd
    · have hRS : RS = [] := by rw [HE.out, if_neg (fun h => by have := HKD.out; rw [h.2] at this; cases this)]
      subst hRS
      go_enter Tryz.func113, Tryz.ntmps113
      go_wp2_with fail
      refine (hSO _ (ext_alloc (ext_refl _) _)).mono ?_; rintro e1 w1 ⟨rfl, hx1⟩
      have G0 := keep_ext hx1 (hg_new (b := w.heap.size) rfl)
      obtain ⟨g0, gf0⟩ := cellsK G0
      have l0 := heap_lt G0
      have X1 := ext_trans (ext_alloc (ext_refl w) _) hx1
      clear hSO hx1
      go_wp2_with fail
      refine (hFL _ X1).mono ?_; rintro e2 w2 ⟨rfl, hx2⟩
      have X2 := ext_trans X1 hx2
      replace G0 := keep_ext hx2 G0
      clear g0 gf0 l0 hFL hx2 X1
      obtain ⟨g0, gf0⟩ := cellsK G0
      have l0 := heap_lt G0
      have XA : Ext w2 (w2.alloc (.cells #[.int .i64 rk, .int .i64 rs, .int .i64 ra, .int .i64 rv] 86)) := ext_alloc (ext_refl _) _
      have G5 : (w2.alloc (.cells #[.int .i64 rk, .int .i64 rs, .int .i64 ra, .int .i64 rv] 86)).heap[w2.heap.size]? = some (.cells #[.int .i64 rk, .int .i64 rs, .int .i64 ra, .int .i64 rv] 86 (0, 0)) := hg_new rfl
      go_wp2_with fail
      refine (hdt _).mono ?_; rintro e3 w3 ⟨rfl, hx3⟩
      have X3 := ext_trans X2 (ext_trans XA hx3)
      replace G0 := keep_ext (ext_trans XA hx3) G0
      replace G5 := keep_ext hx3 G5
      clear g0 gf0 hdt hx3 XA
      obtain ⟨g0, gf0⟩ := cellsK G0
      obtain ⟨g5, gf5⟩ := cellsK G5
      have l0 := heap_lt G0
      have l5 := heap_lt G5
      go_wp2_with fail
      go_ret
      exact ⟨_, rfl, X3, SRow.nil _ _, by simp⟩
    · have hk1 : rk = 1 := by simpa using HKD.out
      have hRS : RS = if ws = [] then [] else ⟨1, addr, rv, 0, rec0⟩ :: ws := by rw [HE.out, if_pos ⟨h0, hk1⟩]
      have HADD := Lib.hid (HAD.out h0)
      have HRS := Lib.hid hRS
      clear hRS HE HAD hk1
      go_enter Tryz.func113, Tryz.ntmps113
      go_wp2_with fail
      refine (hSO _ (ext_alloc (ext_refl _) _)).mono ?_; rintro e1 w1 ⟨rfl, hx1⟩
      have G0 := keep_ext hx1 (hg_new (b := w.heap.size) rfl)
      obtain ⟨g0, gf0⟩ := cellsK G0
      have l0 := heap_lt G0
      have X1 := ext_trans (ext_alloc (ext_refl w) _) hx1
      clear hSO hx1
      go_wp2_with fail
      refine (hFL _ X1).mono ?_; rintro e2 w2 ⟨rfl, hx2⟩
      have X2 := ext_trans X1 hx2
      replace G0 := keep_ext hx2 G0
      clear g0 gf0 l0 hFL hx2 X1
      obtain ⟨g0, gf0⟩ := cellsK G0
      have l0 := heap_lt G0
      have XA : Ext w2 (w2.alloc (.cells #[.int .i64 rk, .int .i64 rs, .int .i64 ra, .int .i64 rv] 86)) := ext_alloc (ext_refl _) _
      have G5 : (w2.alloc (.cells #[.int .i64 rk, .int .i64 rs, .int .i64 ra, .int .i64 rv] 86)).heap[w2.heap.size]? = some (.cells #[.int .i64 rk, .int .i64 rs, .int .i64 ra, .int .i64 rv] 86 (0, 0)) := hg_new rfl
      go_wp2_with fail
      refine (hdt _).mono ?_; rintro e3 w3 ⟨rfl, hx3⟩
      have X3 := ext_trans X2 (ext_trans XA hx3)
      replace G0 := keep_ext (ext_trans XA hx3) G0
      replace G5 := keep_ext hx3 G5
      clear g0 gf0 hdt hx3 XA
      obtain ⟨g0, gf0⟩ := cellsK G0
      obtain ⟨g5, gf5⟩ := cellsK G5
      have l0 := heap_lt G0
      have l5 := heap_lt G5
      go_wp2_with fail
      refine (hSW _ X3).mono ?_; rintro e4 w4 ⟨sv, rfl, hx4, hS, hl⟩
      have X4 := ext_trans X3 hx4
      replace G5 := keep_ext hx4 G5
      obtain ⟨sa, sc, rfl⟩ := hS.form
      have HS := Lib.hid hS
      have s3 := X3.size
      clear g0 gf0 g5 gf5 hSW hx4 hS l5
      obtain ⟨g5, gf5⟩ := cellsK G5
      have l5 := heap_lt G5
      cases ws with
      | nil =>
        have hRS : RS = [] := by rw [HRS.out, if_pos rfl]
        subst hRS
        go_wp2_with fail
        go_ret
        exact ⟨_, rfl, X4, SRow.nil _ _, by simp⟩
      | cons y ys =>
        have hRS : RS = ⟨1, ra, rv, 0, rec0⟩ :: y :: ys := by rw [HRS.out, if_neg (by simp), HADD.out]
        subst hRS
        have hlen : (((y :: ys).length : Int) == 0) = false := by simp; omega
        go_wp2_with fail
        refine (hds _).mono ?_; rintro e5 w5 ⟨rfl, hx5⟩
        have X5 := ext_trans X4 hx5
        replace HS := Lib.hid (HS.out.ext hx5)
        have s5 := X5.size
        have HW6 := HWL.out
        clear hds g5 gf5
        go_wp2_with (refine wpList_appSteps rfl _ _ rfl (xs := [⟨1, ra, rv, 0, rec0⟩]) (base := w5.heap.size) rfl (SRow.one (hg_new rfl) (Nat.le_refl _)) rfl (HS.out.ext (ext_alloc (ext_refl _) _)) (by simp) (by simp at HW6 ⊢; omega) (by simp) (fun v' w' hS' hg => ?_))
        go_ret
        refine ⟨_, rfl, grown_ext (ext_alloc X5 _) (fun g hg' => ?_) hg, hS'.base s5, by simp at HW6 ⊢; omega⟩
        have e : (some w5.heap.size : Option Nat) = some g := hg'
        cases e
        exact s5
  · have hRS : RS = [] := by rw [HE.out, if_neg (fun h => h0 h.1)]
    subst hRS
    have hd0 : decide (0 < rs) = false := by simpa using h0
    rw [hd0] at hFL
    go_enter Tryz.func113, Tryz.ntmps113
    go_wp2_with fail
    refine (hSO _ (ext_alloc (ext_refl _) _)).mono ?_; rintro e1 w1 ⟨rfl, hx1⟩
    have G0 := keep_ext hx1 (hg_new (b := w.heap.size) rfl)
    obtain ⟨g0, gf0⟩ := cellsK G0
    have l0 := heap_lt G0
    have X1 := ext_trans (ext_alloc (ext_refl w) _) hx1
    clear hSO hx1
    go_wp2_with fail
    refine (hFL _ X1).mono ?_; rintro e2 w2 ⟨rfl, hx2⟩
    have X2 := ext_trans X1 hx2
    replace G0 := keep_ext hx2 G0
    clear g0 gf0 l0 hFL hx2 X1
    obtain ⟨g0, gf0⟩ := cellsK G0
    have l0 := heap_lt G0
    have XA : Ext w2 (w2.alloc (.cells #[.int .i64 rk, .int .i64 rs, .int .i64 ra, .int .i64 rv] 86)) := ext_alloc (ext_refl _) _
    have G5 : (w2.alloc (.cells #[.int .i64 rk, .int .i64 rs, .int .i64 ra, .int .i64 rv] 86)).heap[w2.heap.size]? = some (.cells #[.int .i64 rk, .int .i64 rs, .int .i64 ra, .int .i64 rv] 86 (0, 0)) := hg_new rfl
    go_wp2_with fail
    go_ret
    exact ⟨_, rfl, ext_trans X2 XA, SRow.nil _ _, by simp⟩

set_option maxRecDepth 20000 in
set_option maxHeartbeats 4000000 in
theorem implStepsFill_c (fv dv : Value) (s : Store) (addr : Int) (w : World) (h : StoreV w fv dv s) (hok : storeOkB s = true) :
    Calls Tryz.prog 135 #[.agg #[fv, dv], .int .i64 addr] w (RetS w (addrStep (fillSteps s) addr)) := by
  have hfo := storeOk_flash hok
  have h6 := storeOk_disk hok
  have hSO := fun (w' : World) (hx : Ext w w') => implStoreOk_c fv dv s w' (h.ext hx) (pages_short hfo) (by omega)
  rw [hok] at hSO
  have hFL := fun (w' : World) (hx : Ext w w') => implFindLast_c fv s.flash addr w' (h.1.ext hx) hfo
  have hSW := fun (v : Int) (w' : World) (hx : Ext w w') => stepsWrite_c fv s.flash 2 addr v w' (h.1.ext hx) hfo
  have hD := h.2
  obtain ⟨a1, n1, rfl⟩ := h.1.form
  obtain ⟨a2, n2, rfl⟩ := h.2.form
  rw [h6] at hSO ⊢
  cases hin : inB addr 1 6
  · have hRS : addrStep (fillSteps s) addr = [] := by unfold addrStep; rw [hin]; rfl
    rw [hRS]
    clear hFL hSW hD hfo hRS
    go_enter Tryz.func135, Tryz.ntmps135
    go_wp2_with fail
    refine (hSO _ (ext_alloc (ext_refl _) _)).mono ?_; rintro e1 w1 ⟨rfl, hx1⟩
    have G0 := keep_ext hx1 (hg_new (b := w.heap.size) rfl)
    obtain ⟨g0, gf0⟩ := cellsK G0
    have l0 := heap_lt G0
    have X1 := ext_trans (ext_alloc (ext_refl w) _) hx1
    clear hSO hx1
    go_wp2_with (go_at_call 94; refine (addrOk_c _ _).mono ?_; rw [hin]; rintro e w' ⟨rfl, rfl⟩)
    go_ret
    exact ⟨_, rfl, X1, SRow.nil _ _, by simp⟩
  · have HE := Lib.hid (fill_eq hfo addr hin)
    have hi := inB_iff.1 hin
    generalize addrStep (fillSteps s) addr = RS at *
    obtain ⟨n, hn6, rfl⟩ : ∃ n : Nat, n < 6 ∧ addr = (n : Int) + 1 := ⟨(addr - 1).toNat, by omega, by omega⟩
    have hnl : n < s.disk.length := by omega
    obtain ⟨b, o, rfl, hb, c0⟩ := hD.at1 hnl
    have hb' : b < w.heap.size := hb
    have hdv : s.disk.getD ((n : Int) + 1 - 1).toNat 0 = s.disk[n] := by rw [show ((n : Int) + 1 - 1).toNat = n by omega, List.getD_eq_getElem?_getD, List.getElem?_eq_getElem hnl]; rfl
    rw [hdv] at HE
    obtain ⟨dv, hdd⟩ : ∃ dv : Int, s.disk[n] = dv := ⟨_, rfl⟩
    rw [hdd] at HE c0
    have hsw := hSW dv
    have hn6' : (n : Int) < 6 := by omega
    have hwr : IntKind.i64.wrap (n : Int) = (n : Int) := IntWalk.i64_in _ (by omega)
    have hwr2 : IntKind.i64.wrap ((n : Int) + 1 - 1) = (n : Int) := by rw [show (n : Int) + 1 - 1 = n by omega]; exact hwr
    generalize writeSteps s.flash 2 ((n : Int) + 1) dv = ws at *
    generalize last s.flash ((n : Int) + 1) = r at *
    obtain ⟨rk, rs, ra, rv⟩ := r
    dsimp only [recA] at *
    clear hSW hD hdv hdd hfo hi h6
    by_cases h0 : 0 < rs
    · have hRS : RS = [] := by rw [HE.out, if_pos h0]
      subst hRS
      go_enter Tryz.func135, Tryz.ntmps135
      go_wp2_with fail
      refine (hSO _ (ext_alloc (ext_refl _) _)).mono ?_; rintro e1 w1 ⟨rfl, hx1⟩
      have G0 := keep_ext hx1 (hg_new (b := w.heap.size) rfl)
      obtain ⟨g0, gf0⟩ := cellsK G0
      have l0 := heap_lt G0
      have X1 := ext_trans (ext_alloc (ext_refl w) _) hx1
      clear hSO hx1
      go_wp2_with (go_at_call 94; refine (addrOk_c _ _).mono ?_; rw [hin]; rintro e w' ⟨rfl, rfl⟩)
      refine (hFL _ X1).mono ?_; rintro e2 w2 ⟨rfl, hx2⟩
      have X2 := ext_trans X1 hx2
      replace G0 := keep_ext hx2 G0
      clear g0 gf0 l0 hFL hx2 X1
      obtain ⟨g0, gf0⟩ := cellsK G0
      have l0 := heap_lt G0
      have XA : Ext w2 (w2.alloc (.cells #[.int .i64 rk, .int .i64 rs, .int .i64 ra, .int .i64 rv] 86)) := ext_alloc (ext_refl _) _
      go_wp2_with fail
      go_ret
      exact ⟨_, rfl, ext_trans X2 XA, SRow.nil _ _, by simp⟩
    · have hRS : RS = ws := by rw [HE.out, if_neg h0]
      subst hRS
      have hd0 : decide (0 < rs) = false := by simpa using h0
      rw [hd0] at hFL
      go_enter Tryz.func135, Tryz.ntmps135
      go_wp2_with fail
      refine (hSO _ (ext_alloc (ext_refl _) _)).mono ?_; rintro e1 w1 ⟨rfl, hx1⟩
      have G0 := keep_ext hx1 (hg_new (b := w.heap.size) rfl)
      obtain ⟨g0, gf0⟩ := cellsK G0
      have l0 := heap_lt G0
      have X1 := ext_trans (ext_alloc (ext_refl w) _) hx1
      clear hSO hx1
      go_wp2_with (go_at_call 94; refine (addrOk_c _ _).mono ?_; rw [hin]; rintro e w' ⟨rfl, rfl⟩)
      refine (hFL _ X1).mono ?_; rintro e2 w2 ⟨rfl, hx2⟩
      have X2 := ext_trans X1 hx2
      replace G0 := keep_ext hx2 G0
      clear g0 gf0 l0 hFL hx2 X1
      obtain ⟨g0, gf0⟩ := cellsK G0
      have l0 := heap_lt G0
      have XA : Ext w2 (w2.alloc (.cells #[.int .i64 rk, .int .i64 rs, .int .i64 ra, .int .i64 rv] 86)) := ext_alloc (ext_refl _) _
      go_wp2_with fail
      have X2A := ext_trans X2 XA
      replace G0 := keep_ext XA G0
      refine wp_region_ext [9] [0, 1, 2, 3, 4, 5, 6, 7, 8, 9, 10] [] [] (by kernel_rfl) (by kernel_rfl) ?late ?_
      case late => exact fun f hf => absurd hf List.not_mem_nil
      refine Rob.y (v := ?_) rfl rfl (fun w1 hx hH => ?_) ?_; rotate_left
      · go_simp; first | done | rfl | exact (Bool.not_not _).symm
      simp only [Act.put, List.setIfInBounds_toArray, List.set_cons_succ, List.set_cons_zero]
      refine Rob.y (v := ?_) rfl rfl (fun w1 hx hH => ?_) ?_; rotate_left
      · (have hE : Ext _ w1 := (by first | exact hx | exact hx.1); obtain ⟨z0, zf0⟩ := cellsK (keep_ext hE G0); obtain ⟨hcx, hfx⟩ := bcell (ext_trans X2A hE)); go_simp; first | done | rfl
      simp only [Act.put, List.setIfInBounds_toArray, List.set_cons_succ, List.set_cons_zero]
      iterate 2
        refine Rob.y (v := ?_) rfl rfl (fun w1 hx hH => ?_) ?_; rotate_left
        · go_simp; first | done | rfl | exact (Bool.not_not _).symm
        simp only [Act.put, List.setIfInBounds_toArray, List.set_cons_succ, List.set_cons_zero]
      refine Rob.y (v := ?_) rfl rfl (fun w1 hx hH => ?_) ?_; rotate_left
      · (have hE : Ext _ w1 := (by first | exact hx | exact hx.1); obtain ⟨z0, zf0⟩ := cellsK (keep_ext hE G0); obtain ⟨hcx, hfx⟩ := bcell (ext_trans X2A hE)); go_simp; first | done | rfl
      simp only [Act.put, List.setIfInBounds_toArray, List.set_cons_succ, List.set_cons_zero]
      iterate 2
        refine Rob.y (v := ?_) rfl rfl (fun w1 hx hH => ?_) ?_; rotate_left
        · go_simp; first | done | rfl | exact (Bool.not_not _).symm
        simp only [Act.put, List.setIfInBounds_toArray, List.set_cons_succ, List.set_cons_zero]
      iterate 2
        refine Rob.y (v := ?_) rfl rfl (fun w1 hx hH => ?_) ?_; rotate_left
        · (have hE : Ext _ w1 := (by first | exact hx | exact hx.1); obtain ⟨z0, zf0⟩ := cellsK (keep_ext hE G0); obtain ⟨hcx, hfx⟩ := bcell (ext_trans X2A hE)); go_simp; first | done | rfl
        simp only [Act.put, List.setIfInBounds_toArray, List.set_cons_succ, List.set_cons_zero]
      refine Rob.c ((fun lo hi v w' => SRow lo w' v RS ∧ RS.length ≤ 7)) rfl rfl rfl (fun _ _ => ext_trans) (fun _ _ _ _ _ => fun h hx => ⟨h.1.ext hx, h.2⟩) (fun w1 hx hH => ?_) (fun lo9 hi9 v9 hlo9 hhi9 hv9 => ?_)
      · unfold RunTo; go_simp; exact ((hsw _ (ext_trans X2A hx))).mono fun e w' h => h.to
      simp only [Act.put, List.setIfInBounds_toArray, List.set_cons_succ, List.set_cons_zero]
      obtain ⟨_, hv9⟩ := hv9
      obtain ⟨a9, c9, rfl⟩ := hv9.1.form
      refine Rob.y (v := ?_) rfl rfl (fun w1 hx hH => ?_) ?_; rotate_left
      · go_simp; first | done | rfl | exact (Bool.not_not _).symm
      simp only [Act.put, List.setIfInBounds_toArray, List.set_cons_succ, List.set_cons_zero]
      refine fin_nil (fun w3 hx3 _ => ?_)
      obtain ⟨hx3, hS, hl⟩ := hx3
      have s2 := X2A.size
      have X3 := ext_trans X2A hx3
      have HS := Lib.hid hS
      clear hS hv9 g0 gf0
      go_wp2_with fail
      go_ret
      exact ⟨_, rfl, X3, HS.out.base (by omega), hl⟩
end Go.Bu

set_option linter.unusedVariables false
set_option linter.unusedSimpArgs false
namespace Go.Bu
open Go Go.RowKit Go.Plan Go.Proofs

theorem StoreV.small {w : World} {f d : Value} {s : Store} (h : storeOkB s = true) : Small s := ⟨by have := (storeOk_shape h).flash; omega, pages_short (storeOk_flash h), by have := storeOk_disk h; omega⟩
theorem playerPut_c (fv dv : Value) (s : Store) (e : Event) (w : World) (h : StoreV w fv dv s) (hok : storeOkB s = true) :
    Calls Tryz.prog 114 #[.agg #[fv, dv], eventA e] w (RetS w (writeSteps s.flash 1 e.a e.b)) := by
  have hP := fun (w' : World) (hx : Ext w w') => implStepsPut_c fv dv s e.a e.b w' (h.ext hx) (StoreV.small (w := w) (f := fv) (d := dv) hok)
  rw [show putSteps2 s e.a e.b = writeSteps s.flash 1 e.a e.b by unfold putSteps2; rw [if_pos hok]] at hP
  obtain ⟨a1, n1, rfl⟩ := h.1.form
  obtain ⟨a2, n2, rfl⟩ := h.2.form
  obtain ⟨k, ea, eb, ec, et⟩ := e
  dsimp only at hP ⊢
  clear h hok
  go_enter Tryz.func114, Tryz.ntmps114
  go_wp2_with fail
  refine (hP _ (ext_alloc (ext_alloc (ext_refl _) _) _)).mono ?_; rintro e2 w2 ⟨v, rfl, hx2, hS, hl⟩
  go_wp2_with fail
  go_ret
  exact ⟨_, rfl, ext_of2 hx2, hS.base size_of2, hl⟩
theorem playerFlush_c (fv dv : Value) (s : Store) (e : Event) (w : World) (h : StoreV w fv dv s) (hok : storeOkB s = true) :
    Calls Tryz.prog 115 #[.agg #[fv, dv], eventA e] w (RetS w (addrStep (flushSteps s) e.a)) := by
  have hP := fun (w' : World) (hx : Ext w w') => implStepsFlush_c fv dv s e.a w' (h.ext hx) hok
  obtain ⟨a1, n1, rfl⟩ := h.1.form
  obtain ⟨a2, n2, rfl⟩ := h.2.form
  obtain ⟨k, ea, eb, ec, et⟩ := e
  dsimp only at hP ⊢
  clear h hok
  go_enter Tryz.func115, Tryz.ntmps115
  go_wp2_with fail
  refine (hP _ (ext_alloc (ext_alloc (ext_refl _) _) _)).mono ?_; rintro e2 w2 ⟨v, rfl, hx2, hS, hl⟩
  go_wp2_with fail
  go_ret
  exact ⟨_, rfl, ext_of2 hx2, hS.base size_of2, hl⟩
theorem playerFill_c (fv dv : Value) (s : Store) (e : Event) (w : World) (h : StoreV w fv dv s) (hok : storeOkB s = true) :
    Calls Tryz.prog 116 #[.agg #[fv, dv], eventA e] w (RetS w (addrStep (fillSteps s) e.a)) := by
  have hP := fun (w' : World) (hx : Ext w w') => implStepsFill_c fv dv s e.a w' (h.ext hx) hok
  obtain ⟨a1, n1, rfl⟩ := h.1.form
  obtain ⟨a2, n2, rfl⟩ := h.2.form
  obtain ⟨k, ea, eb, ec, et⟩ := e
  dsimp only at hP ⊢
  clear h hok
  go_enter Tryz.func116, Tryz.ntmps116
  go_wp2_with fail
  refine (hP _ (ext_alloc (ext_alloc (ext_refl _) _) _)).mono ?_; rintro e2 w2 ⟨v, rfl, hx2, hS, hl⟩
  go_wp2_with fail
  go_ret
  exact ⟨_, rfl, ext_of2 hx2, hS.base size_of2, hl⟩

set_option maxRecDepth 20000 in
set_option maxHeartbeats 4000000 in
theorem implPlaySteps_c (fv dv : Value) (s : Store) (e : Event) (w : World) (h : StoreV w fv dv s) (hok : storeOkB s = true) :
    Calls Tryz.prog 79 #[.agg #[fv, dv], eventA e] w (RetS w (playSteps s e)) := by
  have hmf : ∀ (fn : Fn) (first cap : Array Value) (w : World), (Instr.makeFunc fn first cap).run Tryz.prog w = .ok (.func fn first cap) w := fun _ _ _ _ => rfl
  have hP := fun (w' : World) (hx : Ext w w') => playerPut_c fv dv s e w' (h.ext hx) hok
  have hF := fun (w' : World) (hx : Ext w w') => playerFlush_c fv dv s e w' (h.ext hx) hok
  have hL := fun (w' : World) (hx : Ext w w') => playerFill_c fv dv s e w' (h.ext hx) hok
  have HQ : Hid (playSteps s e = if e.kind = 1 then writeSteps s.flash 1 e.a e.b else if e.kind = 2 then addrStep (flushSteps s) e.a else if e.kind = 3 then addrStep (fillSteps s) e.a else []) := Lib.hid rfl
  obtain ⟨a1, n1, rfl⟩ := h.1.form
  obtain ⟨a2, n2, rfl⟩ := h.2.form
  generalize playSteps s e = PS at *
  generalize writeSteps s.flash 1 e.a e.b = W1 at *
  generalize addrStep (flushSteps s) e.a = W2 at *
  generalize addrStep (fillSteps s) e.a = W3 at *
  obtain ⟨k, ea, eb, ec, et⟩ := e
  dsimp only [eventA] at *
  clear h hok
  obtain ⟨W4, hW4⟩ : ∃ W4, ((((w.alloc (.cells #[.slice a1 s.flash.length n1, .slice a2 s.disk.length n2] 31)).alloc (.cells #[.int .i64 k, .int .i64 ea, .int .i64 eb, .int .i64 ec, .bool et] 46)).alloc (.cells #[.slice a1 s.flash.length n1, .slice a2 s.disk.length n2] 148)).alloc (.cells #[.nilFunc, .nilFunc, .nilFunc, .nilFunc] 150)) = W4 := ⟨_, rfl⟩
  have X4 : Ext w W4 := by rw [← hW4]; exact ext_alloc (ext_alloc (ext_alloc (ext_alloc (ext_refl _) _) _) _) _
  have G3 : W4.heap[w.heap.size + 1]? = some (.cells #[.int .i64 k, .int .i64 ea, .int .i64 eb, .int .i64 ec, .bool et] 46 (0, 0)) := by rw [← hW4]; exact hg_alloc (hg_alloc (hg_new (by simp)))
  have G6 : W4.heap[w.heap.size + 1 + 1 + 1]? = some (.cells #[.nilFunc, .nilFunc, .nilFunc, .nilFunc] 150 (0, 0)) := by rw [← hW4]; exact hg_new (by simp)
  have hth : W4.there (w.heap.size + 1 + 1 + 1) 0 4 := fun j hj => by
    rw [Nat.zero_add, cell_block G6, frozen_block G6, Array.getElem?_eq_getElem (by simpa using hj)]; exact ⟨rfl, rfl⟩
  obtain ⟨W5, hW5⟩ : ∃ W5, setAll W4 (w.heap.size + 1 + 1 + 1) 0 [.nilFunc, .func (.func 114) #[.agg #[.slice a1 s.flash.length n1, .slice a2 s.disk.length n2]] #[], .func (.func 115) #[.agg #[.slice a1 s.flash.length n1, .slice a2 s.disk.length n2]] #[], .func (.func 116) #[.agg #[.slice a1 s.flash.length n1, .slice a2 s.disk.length n2]] #[]] = W5 := ⟨_, rfl⟩
  obtain ⟨c6, hc6, hc6s, hc6g⟩ := setAll_block [.nilFunc, .func (.func 114) #[.agg #[.slice a1 s.flash.length n1, .slice a2 s.disk.length n2]] #[], .func (.func 115) #[.agg #[.slice a1 s.flash.length n1, .slice a2 s.disk.length n2]] #[], .func (.func 116) #[.agg #[.slice a1 s.flash.length n1, .slice a2 s.disk.length n2]] #[]] W4 0 _ G6 (by simp)
  have G65 : W5.heap[w.heap.size + 1 + 1 + 1]? = some (.cells c6 150 (0, 0)) := by rw [← hW5]; exact hc6
  have G35 : W5.heap[w.heap.size + 1]? = some (.cells #[.int .i64 k, .int .i64 ea, .int .i64 eb, .int .i64 ec, .bool et] 46 (0, 0)) := by rw [← hW5, setAll_other _ (by omega)]; exact G3
  have X5 : Ext w W5 := by rw [← hW5]; exact ext_trans (ext_refl w) (by
    have hb := setAll_below (w.heap.size + 1 + 1 + 1) w.heap.size (by omega) [.nilFunc, .func (.func 114) #[.agg #[.slice a1 s.flash.length n1, .slice a2 s.disk.length n2]] #[], .func (.func 115) #[.agg #[.slice a1 s.flash.length n1, .slice a2 s.disk.length n2]] #[], .func (.func 116) #[.agg #[.slice a1 s.flash.length n1, .slice a2 s.disk.length n2]] #[]] W4 0
    exact ⟨hb.os.trans X4.os, hb.tape.trans X4.tape, hb.output.trans X4.output, Nat.le_trans X4.size hb.size, fun b hb' => (hb.block b hb').trans (X4.block b hb')⟩)
  have HC6 := Lib.hid hc6g
  have HW5 := Lib.hid hW5
  have HW4 := Lib.hid hW4
  clear hW5 hc6 hc6s hc6g
  clear hW4
  by_cases h1 : k = 1
  · subst h1
    have hq : PS = W1 := by rw [HQ.out, if_pos rfl]
    subst hq
    have C6 : W5.cell? ⟨w.heap.size + 1 + 1 + 1, 1, none⟩ = some (.func (.func 114) #[.agg #[.slice a1 s.flash.length n1, .slice a2 s.disk.length n2]] #[]) := by rw [cell_block G65, HC6.out 1]; rfl
    clear hF hL HQ
    go_enter Tryz.func79, Tryz.ntmps79
    go_wp2_with (rw [HW4.out]; refine wpList_store_mid rfl 150 _ _ rfl (w.heap.size + 1 + 1 + 1) 0 #[.nilFunc, .func (.func 114) #[.agg #[.slice a1 s.flash.length n1, .slice a2 s.disk.length n2]] #[], .func (.func 115) #[.agg #[.slice a1 s.flash.length n1, .slice a2 s.disk.length n2]] #[], .func (.func 116) #[.agg #[.slice a1 s.flash.length n1, .slice a2 s.disk.length n2]] #[]] rfl rfl hth (by kernel_rfl) (by simp [Value.oneCell']) ?_; change wpList _ _ _ _ _ (setAll W4 (w.heap.size + 1 + 1 + 1) 0 [.nilFunc, .func (.func 114) #[.agg #[.slice a1 s.flash.length n1, .slice a2 s.disk.length n2]] #[], .func (.func 115) #[.agg #[.slice a1 s.flash.length n1, .slice a2 s.disk.length n2]] #[], .func (.func 116) #[.agg #[.slice a1 s.flash.length n1, .slice a2 s.disk.length n2]] #[]]); rw [HW5.out]; clear G3 G6 hth; obtain ⟨q3, qf3⟩ := cellsK G35)
    refine wp_region_ext [5] [0, 1, 2, 3, 4, 5, 6] [] [] (by kernel_rfl) (by kernel_rfl) ?late ?_
    case late => exact fun f hf => absurd hf List.not_mem_nil
    refine Rob.y (v := ?_) rfl rfl (fun w1 hx hH => ?_) ?_; rotate_left
    · go_simp; first | done | rfl | exact (Bool.not_not _).symm
    simp only [Act.put, List.setIfInBounds_toArray, List.set_cons_succ, List.set_cons_zero]
    iterate 4
      refine Rob.y (v := ?_) rfl rfl (fun w1 hx hH => ?_) ?_; rotate_left
      · (obtain ⟨z3, zf3⟩ := cellsK (keep_ext hx G35); have zc := cell_ext hx C6); go_simp; first | done | rfl
      simp only [Act.put, List.setIfInBounds_toArray, List.set_cons_succ, List.set_cons_zero]
    refine Rob.c ((fun lo hi v w' => SRow lo w' v PS ∧ PS.length ≤ 7)) rfl rfl rfl (fun _ _ => ext_trans) (fun _ _ _ _ _ => fun h hx => ⟨h.1.ext hx, h.2⟩) (fun w1 hx hH => ?_) (fun lo5 hi5 v5 hlo5 hhi5 hv5 => ?_)
    · unfold RunTo; go_simp; exact ((hP _ (ext_trans X5 hx))).mono fun e w' h => h.to
    simp only [Act.put, List.setIfInBounds_toArray, List.set_cons_succ, List.set_cons_zero]
    obtain ⟨_, hv5⟩ := hv5
    obtain ⟨a5, c5, rfl⟩ := hv5.1.form
    refine Rob.y (v := ?_) rfl rfl (fun w1 hx hH => ?_) ?_; rotate_left
    · go_simp; first | done | rfl | exact (Bool.not_not _).symm
    simp only [Act.put, List.setIfInBounds_toArray, List.set_cons_succ, List.set_cons_zero]
    refine fin_nil (fun w6 hx6 _ => ?_)
    obtain ⟨hx6, hS, hl⟩ := hx6
    have s5 := X5.size
    have X6 := ext_trans X5 hx6
    have HS := Lib.hid hS
    clear hS hv5 q3 qf3
    go_wp2_with fail
    go_ret
    exact ⟨_, rfl, X6, HS.out.base (by omega), hl⟩
  by_cases h2 : k = 2
  · subst h2
    have hq : PS = W2 := by rw [HQ.out, if_neg (by decide), if_pos rfl]
    subst hq
    have C6 : W5.cell? ⟨w.heap.size + 1 + 1 + 1, 2, none⟩ = some (.func (.func 115) #[.agg #[.slice a1 s.flash.length n1, .slice a2 s.disk.length n2]] #[]) := by rw [cell_block G65, HC6.out 2]; rfl
    clear hP hL HQ
    go_enter Tryz.func79, Tryz.ntmps79
    go_wp2_with (rw [HW4.out]; refine wpList_store_mid rfl 150 _ _ rfl (w.heap.size + 1 + 1 + 1) 0 #[.nilFunc, .func (.func 114) #[.agg #[.slice a1 s.flash.length n1, .slice a2 s.disk.length n2]] #[], .func (.func 115) #[.agg #[.slice a1 s.flash.length n1, .slice a2 s.disk.length n2]] #[], .func (.func 116) #[.agg #[.slice a1 s.flash.length n1, .slice a2 s.disk.length n2]] #[]] rfl rfl hth (by kernel_rfl) (by simp [Value.oneCell']) ?_; change wpList _ _ _ _ _ (setAll W4 (w.heap.size + 1 + 1 + 1) 0 [.nilFunc, .func (.func 114) #[.agg #[.slice a1 s.flash.length n1, .slice a2 s.disk.length n2]] #[], .func (.func 115) #[.agg #[.slice a1 s.flash.length n1, .slice a2 s.disk.length n2]] #[], .func (.func 116) #[.agg #[.slice a1 s.flash.length n1, .slice a2 s.disk.length n2]] #[]]); rw [HW5.out]; clear G3 G6 hth; obtain ⟨q3, qf3⟩ := cellsK G35)
    refine wp_region_ext [5] [0, 1, 2, 3, 4, 5, 6] [] [] (by kernel_rfl) (by kernel_rfl) ?late ?_
    case late => exact fun f hf => absurd hf List.not_mem_nil
    refine Rob.y (v := ?_) rfl rfl (fun w1 hx hH => ?_) ?_; rotate_left
    · go_simp; first | done | rfl | exact (Bool.not_not _).symm
    simp only [Act.put, List.setIfInBounds_toArray, List.set_cons_succ, List.set_cons_zero]
    iterate 4
      refine Rob.y (v := ?_) rfl rfl (fun w1 hx hH => ?_) ?_; rotate_left
      · (obtain ⟨z3, zf3⟩ := cellsK (keep_ext hx G35); have zc := cell_ext hx C6); go_simp; first | done | rfl
      simp only [Act.put, List.setIfInBounds_toArray, List.set_cons_succ, List.set_cons_zero]
    refine Rob.c ((fun lo hi v w' => SRow lo w' v PS ∧ PS.length ≤ 7)) rfl rfl rfl (fun _ _ => ext_trans) (fun _ _ _ _ _ => fun h hx => ⟨h.1.ext hx, h.2⟩) (fun w1 hx hH => ?_) (fun lo5 hi5 v5 hlo5 hhi5 hv5 => ?_)
    · unfold RunTo; go_simp; exact ((hF _ (ext_trans X5 hx))).mono fun e w' h => h.to
    simp only [Act.put, List.setIfInBounds_toArray, List.set_cons_succ, List.set_cons_zero]
    obtain ⟨_, hv5⟩ := hv5
    obtain ⟨a5, c5, rfl⟩ := hv5.1.form
    refine Rob.y (v := ?_) rfl rfl (fun w1 hx hH => ?_) ?_; rotate_left
    · go_simp; first | done | rfl | exact (Bool.not_not _).symm
    simp only [Act.put, List.setIfInBounds_toArray, List.set_cons_succ, List.set_cons_zero]
    refine fin_nil (fun w6 hx6 _ => ?_)
    obtain ⟨hx6, hS, hl⟩ := hx6
    have s5 := X5.size
    have X6 := ext_trans X5 hx6
    have HS := Lib.hid hS
    clear hS hv5 q3 qf3
    go_wp2_with fail
    go_ret
    exact ⟨_, rfl, X6, HS.out.base (by omega), hl⟩
  by_cases h3 : k = 3
  · subst h3
    have hq : PS = W3 := by rw [HQ.out, if_neg (by decide), if_neg (by decide), if_pos rfl]
    subst hq
    have C6 : W5.cell? ⟨w.heap.size + 1 + 1 + 1, 3, none⟩ = some (.func (.func 116) #[.agg #[.slice a1 s.flash.length n1, .slice a2 s.disk.length n2]] #[]) := by rw [cell_block G65, HC6.out 3]; rfl
    clear hP hF HQ
    go_enter Tryz.func79, Tryz.ntmps79
    go_wp2_with (rw [HW4.out]; refine wpList_store_mid rfl 150 _ _ rfl (w.heap.size + 1 + 1 + 1) 0 #[.nilFunc, .func (.func 114) #[.agg #[.slice a1 s.flash.length n1, .slice a2 s.disk.length n2]] #[], .func (.func 115) #[.agg #[.slice a1 s.flash.length n1, .slice a2 s.disk.length n2]] #[], .func (.func 116) #[.agg #[.slice a1 s.flash.length n1, .slice a2 s.disk.length n2]] #[]] rfl rfl hth (by kernel_rfl) (by simp [Value.oneCell']) ?_; change wpList _ _ _ _ _ (setAll W4 (w.heap.size + 1 + 1 + 1) 0 [.nilFunc, .func (.func 114) #[.agg #[.slice a1 s.flash.length n1, .slice a2 s.disk.length n2]] #[], .func (.func 115) #[.agg #[.slice a1 s.flash.length n1, .slice a2 s.disk.length n2]] #[], .func (.func 116) #[.agg #[.slice a1 s.flash.length n1, .slice a2 s.disk.length n2]] #[]]); rw [HW5.out]; clear G3 G6 hth; obtain ⟨q3, qf3⟩ := cellsK G35)
    refine wp_region_ext [5] [0, 1, 2, 3, 4, 5, 6] [] [] (by kernel_rfl) (by kernel_rfl) ?late ?_
    case late => exact fun f hf => absurd hf List.not_mem_nil
    refine Rob.y (v := ?_) rfl rfl (fun w1 hx hH => ?_) ?_; rotate_left
    · go_simp; first | done | rfl | exact (Bool.not_not _).symm
    simp only [Act.put, List.setIfInBounds_toArray, List.set_cons_succ, List.set_cons_zero]
    iterate 4
      refine Rob.y (v := ?_) rfl rfl (fun w1 hx hH => ?_) ?_; rotate_left
      · (obtain ⟨z3, zf3⟩ := cellsK (keep_ext hx G35); have zc := cell_ext hx C6); go_simp; first | done | rfl
      simp only [Act.put, List.setIfInBounds_toArray, List.set_cons_succ, List.set_cons_zero]
    refine Rob.c ((fun lo hi v w' => SRow lo w' v PS ∧ PS.length ≤ 7)) rfl rfl rfl (fun _ _ => ext_trans) (fun _ _ _ _ _ => fun h hx => ⟨h.1.ext hx, h.2⟩) (fun w1 hx hH => ?_) (fun lo5 hi5 v5 hlo5 hhi5 hv5 => ?_)
    · unfold RunTo; go_simp; exact ((hL _ (ext_trans X5 hx))).mono fun e w' h => h.to
    simp only [Act.put, List.setIfInBounds_toArray, List.set_cons_succ, List.set_cons_zero]
    obtain ⟨_, hv5⟩ := hv5
    obtain ⟨a5, c5, rfl⟩ := hv5.1.form
    refine Rob.y (v := ?_) rfl rfl (fun w1 hx hH => ?_) ?_; rotate_left
    · go_simp; first | done | rfl | exact (Bool.not_not _).symm
    simp only [Act.put, List.setIfInBounds_toArray, List.set_cons_succ, List.set_cons_zero]
    refine fin_nil (fun w6 hx6 _ => ?_)
    obtain ⟨hx6, hS, hl⟩ := hx6
    have s5 := X5.size
    have X6 := ext_trans X5 hx6
    have HS := Lib.hid hS
    clear hS hv5 q3 qf3
    go_wp2_with fail
    go_ret
    exact ⟨_, rfl, X6, HS.out.base (by omega), hl⟩
  · have hq : PS = [] := by rw [HQ.out, if_neg h1, if_neg h2, if_neg h3]
    subst hq
    clear hP hF hL HQ
    by_cases hk : k < 1
    · go_enter Tryz.func79, Tryz.ntmps79
      go_wp2_with (rw [HW4.out]; refine wpList_store_mid rfl 150 _ _ rfl (w.heap.size + 1 + 1 + 1) 0 #[.nilFunc, .func (.func 114) #[.agg #[.slice a1 s.flash.length n1, .slice a2 s.disk.length n2]] #[], .func (.func 115) #[.agg #[.slice a1 s.flash.length n1, .slice a2 s.disk.length n2]] #[], .func (.func 116) #[.agg #[.slice a1 s.flash.length n1, .slice a2 s.disk.length n2]] #[]] rfl rfl hth (by kernel_rfl) (by simp [Value.oneCell']) ?_; change wpList _ _ _ _ _ (setAll W4 (w.heap.size + 1 + 1 + 1) 0 [.nilFunc, .func (.func 114) #[.agg #[.slice a1 s.flash.length n1, .slice a2 s.disk.length n2]] #[], .func (.func 115) #[.agg #[.slice a1 s.flash.length n1, .slice a2 s.disk.length n2]] #[], .func (.func 116) #[.agg #[.slice a1 s.flash.length n1, .slice a2 s.disk.length n2]] #[]]); rw [HW5.out]; clear G3 G6 hth; obtain ⟨q3, qf3⟩ := cellsK G35)
      go_ret
      exact ⟨_, rfl, X5, SRow.nil _ _, by simp⟩
    · have hk3 : 3 < k := by omega
      clear h1 h2 h3
      go_enter Tryz.func79, Tryz.ntmps79
      go_wp2_with (rw [HW4.out]; refine wpList_store_mid rfl 150 _ _ rfl (w.heap.size + 1 + 1 + 1) 0 #[.nilFunc, .func (.func 114) #[.agg #[.slice a1 s.flash.length n1, .slice a2 s.disk.length n2]] #[], .func (.func 115) #[.agg #[.slice a1 s.flash.length n1, .slice a2 s.disk.length n2]] #[], .func (.func 116) #[.agg #[.slice a1 s.flash.length n1, .slice a2 s.disk.length n2]] #[]] rfl rfl hth (by kernel_rfl) (by simp [Value.oneCell']) ?_; change wpList _ _ _ _ _ (setAll W4 (w.heap.size + 1 + 1 + 1) 0 [.nilFunc, .func (.func 114) #[.agg #[.slice a1 s.flash.length n1, .slice a2 s.disk.length n2]] #[], .func (.func 115) #[.agg #[.slice a1 s.flash.length n1, .slice a2 s.disk.length n2]] #[], .func (.func 116) #[.agg #[.slice a1 s.flash.length n1, .slice a2 s.disk.length n2]] #[]]); rw [HW5.out]; clear G3 G6 hth; obtain ⟨q3, qf3⟩ := cellsK G35)
      go_ret
      exact ⟨_, rfl, X5, SRow.nil _ _, by simp⟩
end Go.Bu

set_option linter.unusedVariables false
set_option linter.unusedSimpArgs false
namespace Go.Bu
open Go Go.RowKit Go.Plan Go.Proofs

theorem run_append_zero {P : Program} (w : World) (t ty e : TypeId) (i : TypeInfo) (ht : P.underlying t = some (.slice e)) (hi : P.info? e = some i) (b : Option Addr) (n cap : Nat) (hnc : n ≤ cap) (x : Option Addr) (c : Nat) :
    (Builtin.append_ #[t, t] ty #[.slice b n cap, .slice x 0 c]).run P w = .ok (.slice b n cap) w := by
  cases x with
  | none => cases b <;> simp [Builtin.append_, run_underlying ht, sizeOf, typeInfo, hi, Builtin.lenOf, Builtin.firstCells, hnc, storeCells]
  | some a =>
    have hfc := run_firstCells_some (P := P) w i.size 0 a 0 c [] (by simp) (by simp)
    cases b <;> simp [Builtin.append_, run_underlying ht, sizeOf, typeInfo, hi, Builtin.lenOf, hfc, hnc, storeCells]

/-- append of a row of steps, empty or not, to another one -/
theorem wpList_appStepsA {w : World} {ops : Array Oper} {rest : List Oper} {o : Oper} {a : Act} {Q : Exit → Act → World → Prop} (hgd : o.guard = none) (s x : Operand)
    (ho : o.op = .call { callee := .builtin .append, args := #[s, x], argTypes := #[57, 57] }) {base base2 : Nat} {v u : Value} {xs ys : List Step} (hs : a.eval s = v) (hown : SRow base w v xs)
    (hx : a.eval x = u) (hu : SRow base2 w u ys) (hlen : xs.length + ys.length ≤ 1000000) (hbase : base ≤ w.heap.size)
    (h : ∀ v' w', SRow base w' v' (xs ++ ys) → w.grownBy w' v.ownBlock → wpList Tryz.prog ops Q rest (a.put o.dst v') w') : wpList Tryz.prog ops Q (o :: rest) a w := by
  by_cases hne : ys = []
  · subst hne
    obtain ⟨ua, uc, rfl⟩ := hu.form
    have hinfo : ∃ i, Tryz.prog.info? 88 = some i := by
      have : ((Tryz.prog.info? 88).isSome) = true := by kernel_rfl
      exact Option.isSome_iff_exists.1 this
    obtain ⟨i, hi⟩ := hinfo
    have hfin := h v w (by rw [List.append_nil]; exact hown) ⟨rfl, rfl, rfl, Nat.le_refl _, fun _ _ _ => rfl⟩
    have hv : ∃ b n cap, v = .slice b n cap ∧ n ≤ cap := by
      rcases hown.2 with ⟨rfl, h0⟩ | ⟨g, cap, cur, rfl, _, _, hc, _⟩
      · exact ⟨none, 0, 0, rfl, Nat.le_refl _⟩
      · exact ⟨_, _, cap, rfl, hc⟩
    obtain ⟨b, n, cap, rfl, hnc⟩ := hv
    refine wpList_plain hgd fun K hK' => ?_
    unfold Oper.wp
    simp [execOp, ho, resolve, invoke, builtin, hs, hx, run_append_zero w 57 o.type 88 i Tryz.underlying57 hi b n cap hnc ua uc, Result.andThen]
    exact hK' _ _ hfin
  · exact wpList_appSteps hgd s x ho hs hown hx hu hne hlen hbase h

/-- a row of steps made since base, or one that has no room -/
def OutRow (base : Nat) (w : World) (v : Value) (xs : List Step) : Prop := (∃ b, v = .slice (some b) 0 0 ∧ xs = []) ∨ SRow base w v xs
theorem OutRow.form {base : Nat} {w : World} {v : Value} {xs : List Step} (h : OutRow base w v xs) : ∃ a cap, v = .slice a xs.length cap := by
  rcases h with ⟨b, rfl, rfl⟩ | h
  · exact ⟨_, _, rfl⟩
  · exact h.form
theorem OutRow.steps {base : Nat} {w : World} {v : Value} {xs : List Step} (h : OutRow base w v xs) : Steps' (Old w) w v xs := by
  rcases h with ⟨b, rfl, rfl⟩ | h
  · exact ⟨_, _, rfl, fun i x hx => by simp at hx⟩
  · exact h.steps

theorem wpList_appOut {w : World} {ops : Array Oper} {rest : List Oper} {o : Oper} {a : Act} {Q : Exit → Act → World → Prop} (hgd : o.guard = none) (s x : Operand)
    (ho : o.op = .call { callee := .builtin .append, args := #[s, x], argTypes := #[57, 57] }) {base base2 : Nat} {v u : Value} {xs ys : List Step} (hs : a.eval s = v) (hown : OutRow base w v xs)
    (hx : a.eval x = u) (hu : SRow base2 w u ys) (hlen : xs.length + ys.length ≤ 1000000) (hbase : base ≤ w.heap.size)
    (h : ∀ v' w' ob, OutRow base w' v' (xs ++ ys) → w.grownBy w' ob → (∀ g, ob = some g → base ≤ g ∧ g < w.heap.size) → wpList Tryz.prog ops Q rest (a.put o.dst v') w') : wpList Tryz.prog ops Q (o :: rest) a w := by
  rcases hown with ⟨b, rfl, rfl⟩ | hown
  · have hinfo : ((Tryz.prog.info? 88).bind (fun i => i.zero.map fun z => (z.cells.size, i.size, i.bytes))) = some (8, 8, 64) := by kernel_rfl
    obtain ⟨i, hi, hi2⟩ := Option.bind_eq_some_iff.1 hinfo
    obtain ⟨z, hz, he⟩ := Option.map_eq_some_iff.1 hi2
    obtain ⟨hzs, he⟩ := Prod.mk.inj he
    obtain ⟨hsize, hby⟩ := Prod.mk.inj he
    by_cases hne : ys = []
    · subst hne
      obtain ⟨ua, uc, rfl⟩ := hu.form
      have hfin := h _ w none (.inl ⟨b, rfl, rfl⟩) ⟨rfl, rfl, rfl, Nat.le_refl _, fun _ _ _ => rfl⟩ (fun g hg => by cases hg)
      refine wpList_plain hgd fun K hK' => ?_
      unfold Oper.wp
      simp [execOp, ho, resolve, invoke, builtin, hs, hx, run_append_zero w 57 o.type 88 i Tryz.underlying57 hi (some b) 0 0 (Nat.le_refl _) ua uc, Result.andThen]
      exact hK' _ _ hfin
    · have hu2 := hu
      rcases hu.2 with ⟨rfl, h0⟩ | ⟨g, cap, cur, rfl, _, hh, _, _, _, ht⟩
      · exact absurd (List.length_eq_zero_iff.1 h0) hne
      have h1c : ∀ c ∈ ys.flatMap stepC, c.oneCell' = true := fun c hc => by
        obtain ⟨y, _, hy⟩ := List.mem_flatMap.1 hc
        simp at hy
        rcases hy with rfl | rfl | rfl | rfl | rfl | rfl | rfl | rfl <;> rfl
      have hpos : 0 < ys.length := List.length_pos_iff.2 hne
      simp only [List.length_nil, Nat.zero_add] at hlen
      obtain ⟨v', w', hr, h2, h3⟩ := run_append_arg_grows (P := Tryz.prog) w 57 o.type 88 i z 8 64 Tryz.underlying57 hi hz hsize hby hzs (by omega) b 0 0 [] rfl (by simp) ⟨g, 0, none⟩ ys.length cap (ys.flatMap stepC) hu2.1 (hu2.cells rfl) (by omega) (by simp [maxLen]; omega) (by omega)
      have hfin := h v' w' none (.inr (by
        rw [List.nil_append] at h2 ⊢
        rw [Nat.zero_add] at h2
        exact SRow.base h2 hbase)) h3 (fun g hg => by cases hg)
      refine wpList_plain hgd fun K hK' => ?_
      unfold Oper.wp
      simp [execOp, ho, resolve, invoke, builtin, hs, hx, hr, Result.andThen]
      exact hK' _ _ hfin
  · exact wpList_appStepsA hgd s x ho hs hown hx hu hlen hbase fun v' w' h1 h2 => h v' w' _ (.inr h1) h2 fun g hg => hown.lt g hg
end Go.Bu
