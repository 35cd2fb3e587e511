/- The program's playAll, playBegun and PlayDo. PlayDo of both sides; stores that calls return: read, compared, marked, held. -/
import Derived.Test.YtemhiidceckeoaaGreatZ7
import Derived.Test.YtemhiidceckeoaaGreatZ5
import Derived.Test.YtemhiidceckeoaaGreatZ6
set_option maxHeartbeats 2000000
set_option linter.unusedVariables false
set_option linter.unusedSimpArgs false
namespace Go.Bu
open Go Go.RowKit Go.Plan Go.Proofs

/-- a store of which each address was flushed, and by which steps -/
def allPairStep (a : Store × List Step) (n : Nat) : Store × List Step := (allStep a.1 n, a.2 ++ flushSteps a.1 n)
def allPair (s : Store) : Store × List Step := addrs6.foldl allPairStep (s, [])
theorem allPair_fst (s : Store) : (allPair s).1 = playAllS s := by
  have : ∀ (xs : List Nat) (a : Store × List Step), (xs.foldl allPairStep a).1 = xs.foldl allStep a.1 := by
    intro xs
    induction xs with
    | nil => exact fun _ => rfl
    | cons x xs ih => intro a; rw [List.foldl_cons, List.foldl_cons, ih]; rfl
  exact this addrs6 (s, [])
def PlayAllΦ (w : World) (s : Store) (e : Ending) (w' : World) : Prop := ∃ f d L v, e = .returned (.tuple #[.agg #[f, d], v]) ∧ Ext w w' ∧ OwnStore w' f d (playAllS s) L ∧ L.Nodup ∧ (∀ b ∈ L, w.heap.size ≤ b) ∧ SRow w.heap.size w' v (allPair s).2 ∧ (allPair s).2.length ≤ 42

set_option maxRecDepth 20000 in
set_option maxHeartbeats 4000000 in
theorem playAll_c (g e : Value) (s : Store) (w : World) (hB : StoreV w g e s) (hok : storeOkB s = true) :
    Calls Tryz.prog 78 #[.agg #[g, e]] w (PlayAllΦ w s) := by
  have hsh := storeOk_shape hok
  have hSC := fun (w' : World) (hx : Ext w w') => storeCopy_c g e s w' (hB.ext hx) hsh.flash hsh.pages hsh.disk
  have HOK := Lib.hid hok
  obtain ⟨a3, n3, rfl⟩ := hB.1.form
  obtain ⟨a4, n4, rfl⟩ := hB.2.form
  have HR0 : Hid ((addrs6.drop 0).foldl allPairStep (s, []) = allPair s) := Lib.hid rfl
  have HF := Lib.hid (allPair_fst s)
  clear hB hsh hok
  go_enter Tryz.func78, Tryz.ntmps78
  go_wp2_with fail
  refine (hSC _ (ext_alloc (ext_alloc (ext_refl _) _) _)).mono ?_; rintro e1 w1 ⟨f1, d1, L1, rfl, hx1, hO1, hn1, hb1⟩
  have X1 := ext_trans (ext_alloc (ext_alloc (ext_refl w) _) _) hx1
  have G2 := keep_ext hx1 (hg_new (b := w.heap.size + 1) (by simp))
  have s1 := hx1.size
  simp at s1
  have hb1' : Hid (∀ b ∈ L1, w.heap.size + 2 ≤ b) := Lib.hid fun b hb => by have := hb1 b hb; simp at this; omega
  obtain ⟨q1, m1, c1, q2, m2, c2, rfl, rfl⟩ := hO1.forms
  have hlL := hO1.lt
  have XA : Ext w1 (w1.alloc (.cells #[.slice q1 m1 c1, .slice q2 m2 c2] 31)) := ext_alloc (ext_refl _) _
  have GP : (w1.alloc (.cells #[.slice q1 m1 c1, .slice q2 m2 c2] 31)).heap[w1.heap.size]? = some (.cells #[.slice q1 m1 c1, .slice q2 m2 c2] 31 (0, 0)) := hg_new rfl
  have X2 := ext_trans X1 XA
  replace G2 := keep_ext XA G2
  have HO := Lib.hid (hO1.ext XA)
  have HN := Lib.hid hn1
  have HLL : Hid (∀ b ∈ L1, w.heap.size + 2 ≤ b) := hb1'
  clear hSC hx1 hb1 XA hO1 hn1 hlL hb1' X1
  obtain ⟨P, hP⟩ : ∃ P, w1.heap.size = P := ⟨_, rfl⟩
  have hPw : w.heap.size + 2 ≤ P := by omega
  go_wp2_with fail
  rw [hP] at GP
  clear hP s1
  go_loopw [5, 6] (fun v y wr => ∃ (k : Nat) (t : Store) (acc : List Step) (f d : Value) (L : List Nat), k ≤ 6 ∧ y = .int .i64 ((k : Int) + 1) ∧ Ext w wr ∧ wr.heap[P]? = some (.cells #[f, d] 31 (0, 0)) ∧ Hid (OwnStore wr f d t L) ∧ Hid L.Nodup ∧ Hid (∀ b ∈ L, w.heap.size + 2 ≤ b) ∧ Hid (storeOkB t = true) ∧
    Hid (SRow w.heap.size wr v acc) ∧ acc.length ≤ 7 * k ∧ Hid ((addrs6.drop k).foldl allPairStep (t, acc) = allPair s) ∧ wr.heap[w.heap.size + 1]? = some (.cells #[.slice none 0 0, .slice none 0 0] 31 (0, 0))) (fun _ y _ => 7 - (intOf y).toNat)
  case atStart => exact ⟨0, s, [], _, _, L1, by omega, rfl, X2, GP, HO, HN, HLL, HOK, Lib.hid (SRow.nil _ _), by simp, HR0, G2⟩
  case round =>
    clear HO HN HOK HR0 G2 GP X2 HLL
    obtain ⟨k, t, acc, f, d, L, hk, rfl, hX, GP, HO, HN, HB, HST, HS, hal, HR, G2⟩ := hrel
    obtain ⟨b1, k1, j1, b2, k2, j2, rfl, rfl⟩ := HO.out.forms
    obtain ⟨va, vc, rfl⟩ := HS.out.form
    obtain ⟨gp, gpf⟩ := cellsK GP
    have lP := heap_lt GP
    by_cases hlt : k < 6
    · rw [foldl_drop _ _ _ _ (show k < addrs6.length from hlt), addrs6_get] at HR
      have hfl := fun (w' : World) (hx : Ext wr w') => implStepsFlush_c _ _ t ((k : Int) + 1) w' (HO.out.ext hx).v HST.out
      rw [addrStep_at (flushSteps t) k hlt] at hfl
      have hto := fun (sv : Value) (w' : World) (hx : Ext wr w') (hS : Steps' (Old w') w' sv (flushSteps t k)) (hl : (flushSteps t k).length ≤ 7) => implStepsTo_c _ _ t sv _ ((flushSteps t k).length : Nat) false w' (HO.out.ext hx).v HST.out hS (flush_V (flashOk_iff.1 (storeOk_flash HST.out)) hlt) (by omega) ⟨by omega, by omega⟩
      rw [toSteps_all] at hto
      have HST2 := Lib.hid (storeOk_flush HST.out hlt)
      rw [show allPairStep (t, acc) k = (allStep t k, acc ++ flushSteps t k) from rfl] at HR
      rw [show allStep t k = doAll t (flushSteps t k) from rfl] at HR HST2
      generalize doAll t (flushSteps t k) = t2 at *
      generalize flushSteps t k = fs at *
      have hk1 : (k : Int) + 1 ≤ 6 := by omega
      go_wp2_with fail
      refine (hfl _ (ext_refl _)).mono ?_; rintro e4 w4 ⟨sv, rfl, hx4, hS, hwl⟩
      obtain ⟨sa, sc, rfl⟩ := hS.form
      replace GP := keep_ext hx4 GP
      have HSS := Lib.hid hS
      clear gp gpf hfl hS
      obtain ⟨gp, gpf⟩ := cellsK GP
      have lP := heap_lt GP
      go_wp2_with fail
      refine (hto _ _ hx4 HSS.out.steps hwl).mono ?_; rintro e5 w5 ⟨f5, d5, M, rfl, hx5, hOM, hnM, hbM⟩
      have X5 := ext_trans hx4 hx5
      obtain ⟨q3, m3, c3, q4, m4, c4, rfl, rfl⟩ := hOM.forms
      replace GP := keep_ext hx5 GP
      have G2' := keep_ext X5 G2
      have lP5 := heap_lt GP
      have hX5 := ext_trans hX X5
      have HOM := Lib.hid hOM
      have HNM := Lib.hid hnM
      have s4 := hx4.size
      have sX := hX.size
      have s5 := hX5.size
      have HBM : Hid (∀ b ∈ M, w4.heap.size ≤ b) := Lib.hid hbM
      have hneP : ¬ (w5.heap.size = P) := by omega
      have hvl : ∀ gq, (Value.slice va acc.length vc).ownBlock = some gq → gq < wr.heap.size := fun gq hq => (HS.out.lt gq hq).2
      have HVL := Lib.hid hvl
      have HS5 := Lib.hid (HS.out.ext X5)
      have HSF := Lib.hid (HSS.out.ext hx5)
      have hC : Chg [P] w5 (((w5.setCell ⟨P, 0, none⟩ (.slice q3 m3 c3)).setCell ⟨P, 1, none⟩ (.slice q4 m4 c4)).alloc (.cells #[.slice q3 m3 c3, .slice q4 m4 c4] 31)) :=
        (((Chg.refl _ _).set (p := ⟨P, 0, none⟩) (.inl (by simp)) _).set (p := ⟨P, 1, none⟩) (.inl (by simp)) _).alloc' _
      have hne1 := own_ne HS5.out GP (by decide)
      have hne2 := own_ne HSF.out GP (by decide)
      have XW : Ext ((w5.setCell ⟨P, 0, none⟩ (.slice q3 m3 c3)).setCell ⟨P, 1, none⟩ (.slice q4 m4 c4)) (((w5.setCell ⟨P, 0, none⟩ (.slice q3 m3 c3)).setCell ⟨P, 1, none⟩ (.slice q4 m4 c4)).alloc (.cells #[.slice q3 m3 c3, .slice q4 m4 c4] 31)) := ext_alloc (ext_refl _) _
      have HS6 := Lib.hid (SRow.ext (ownsRow_setCell_other (ownsRow_setCell_other HS5.out hne1 (.slice q3 m3 c3)) hne1 (.slice q4 m4 c4)) XW)
      have HSF6 := Lib.hid (SRow.ext (ownsRow_setCell_other (ownsRow_setCell_other HSF.out hne2 (.slice q3 m3 c3)) hne2 (.slice q4 m4 c4)) XW)
      have GP6 : (((w5.setCell ⟨P, 0, none⟩ (.slice q3 m3 c3)).setCell ⟨P, 1, none⟩ (.slice q4 m4 c4)).alloc (.cells #[.slice q3 m3 c3, .slice q4 m4 c4] 31)).heap[P]? = some (.cells #[.slice q3 m3 c3, .slice q4 m4 c4] 31 (0, 0)) := hg_alloc (hgo (hg_here (hg_here GP)) rfl)
      have HOM6 := Lib.hid (HOM.out.chg hC fun b hb hm => by have := HBM.out b hb; simp at hm; omega)
      have G26 := hC.keep G2' (by simp; omega)
      have X6 := hC.ext hX5 (by simp; omega)
      have sC := hC.size
      have HX6 := Lib.hid X6
      have HG26 := Lib.hid G26
      have HGP6 := Lib.hid GP6
      clear gp gpf hto HSS hx5 hOM hnM hbM HS HO hvl hx4 X5 hne1 hne2 XW HS5 HSF HOM hC GP6 G26 X6 G2'
      obtain ⟨gp, gpf⟩ := cellsK GP
      go_wp2_with (refine wpList_appStepsA rfl _ _ rfl rfl HS6.out rfl HSF6.out (by omega) (by omega) (fun v' w' hS' hg => ?_))
      have hOM7 : OwnStore w' (.slice q3 m3 c3) (.slice q4 m4 c4) t2 M := HOM6.out.keep fun b hb => hg.block b (HOM6.out.lt b hb) fun e => by
        have := HVL.out b e.symm
        have := HBM.out b hb
        omega
      refine ⟨⟨k + 1, t2, acc ++ fs, _, _, M, by omega, by go_num, ext_grown HX6.out HS6.out hg, keep_grown HGP6.out (by decide) HS6.out hg, Lib.hid hOM7, HNM, Lib.hid fun b hb => by have := HBM.out b hb; omega, HST2, Lib.hid hS', by simp; omega, HR, keep_grown HG26.out (by decide) HS6.out hg⟩, by simp [intOf]; omega⟩
    · obtain rfl : k = 6 := by omega
      have hr := HR.out
      rw [List.drop_eq_nil_of_le (by simp [addrs6])] at hr
      have hr : (t, acc) = allPair s := hr
      obtain ⟨g2, gf2⟩ := cellsK G2
      have l2 := heap_lt G2
      have HT : Hid (t = playAllS s ∧ acc = (allPair s).2) := Lib.hid ⟨by rw [← HF.out, ← hr], by rw [← hr]⟩
      go_wp2_with fail
      refine bodyPost_ret (v := .tuple #[.agg #[.slice b1 k1 j1, .slice b2 k2 j2], .slice va acc.length vc]) (by simp [results, Tryz.results78, go_sem, g2, gf2]) rfl ⟨_, _, L, _, rfl, ?_, ?_, HN.out, fun b hb => by have := HB.out b hb; omega, ?_, ?_⟩
      · ((repeat (first | with_reducible (refine ext_set2 ?_ ?_); focus (first | exact Nat.le_refl _ | (dsimp only; omega) | (simp; omega)) | with_reducible refine ext_alloc2 ?_)); with_reducible exact hX)
      · rw [← HT.out.1]
        refine HO.out.keep fun b hb => ?_
        have := HB.out b hb
        iterate 2 rw [setCell_other (by omega)]
      · have hne := own_ne HS.out G2 (by decide)
        rw [← HT.out.2]
        exact ownsRow_setCell_other (ownsRow_setCell_other HS.out hne _) hne _
      · rw [← HT.out.2]; omega

set_option maxRecDepth 20000 in
set_option maxHeartbeats 4000000 in
theorem implStepsTo_neg (fv dv : Value) (s : Store) (sv : Value) (xs : List Step) (cut : Int) (torn : Bool) (w : World) (h : StoreV w fv dv s) (hx : Steps' (Old w) w sv xs) (hcut : cut < 0) :
    Calls Tryz.prog 32 #[.agg #[fv, dv], sv, .int .i64 cut, .bool torn] w (Ret w (.tuple #[.agg #[.slice none 0 0, .slice none 0 0], .bool false])) := by
  obtain ⟨a1, n1, rfl⟩ := h.1.form
  obtain ⟨a2, n2, rfl⟩ := h.2.form
  obtain ⟨sa, sc, rfl⟩ := hx.form
  clear h hx
  have G8 := hg_new (w := w.alloc (.cells #[.slice a1 s.flash.length n1, .slice a2 s.disk.length n2] 31)) (b := w.heap.size + 1) (x := .cells #[.slice none 0 0, .slice none 0 0] 31) (by simp)
  obtain ⟨g8, gf8⟩ := cellsK G8
  go_enter Tryz.func32, Tryz.ntmps32
  go_wp2_with fail
  refine bodyPost_ret (v := .tuple #[.agg #[.slice none 0 0, .slice none 0 0], .bool false]) (by simp [results, Tryz.results32, go_sem, g8, gf8]) rfl ⟨rfl, ?_⟩
  exact ext_alloc (ext_alloc (ext_refl _) _) _

/-- how many steps are begun -/
def begunN (n : Nat) (c : Int) (torn : Bool) : Int := if torn = true ∧ min c n < n then min c n + 1 else min c n
def begunS (s : Store) (e : Event) : List Step := if e.kind = 4 then (allPair s).2 else if e.c < 0 then [] else (playSteps s e).take (begunN (playSteps s e).length e.c e.torn).toNat
def BegunΦ (w : World) (s : Store) (e : Event) (en : Ending) (w' : World) : Prop := ∃ f d L v, en = .returned (.tuple #[.agg #[f, d], v]) ∧ Ext w w' ∧ OwnStore w' f d (playDoS s e) L ∧ L.Nodup ∧ (∀ b ∈ L, w.heap.size ≤ b) ∧ Steps' (Old w') w' v (begunS s e) ∧ (begunS s e).length ≤ 42
theorem srow_chg {L : List Nat} {w w' : World} {base : Nat} {e : TypeId} {size n : Nat} {v : Value} {xs : List Value} (h : w.ownsRow base e size v n xs) (hx : Chg L w w') (hL : ∀ b ∈ L, b < base) : w'.ownsRow base e size v n xs := by
  obtain ⟨h1, h2⟩ := h
  refine ⟨h1, h2.imp id fun ⟨g, cap, cur, hv, hb, hh, hr⟩ => ⟨g, cap, cur, hv, hb, hx.keep hh fun hm => by have := hL g hm; omega, hr⟩⟩
theorem Sl.take' {w : World} {a : Option Addr} {len cap : Nat} {xs : List Step} (h : Steps' (Old w) w (.slice a len cap) xs) (n : Nat) (hn : n ≤ xs.length) : Steps' (Old w) w (.slice a n cap) (xs.take n) := by
  obtain ⟨a', c', he, hc⟩ := h
  injection he with h1 h2 h3
  subst h1; subst h3
  refine ⟨a, cap, by rw [List.length_take, Nat.min_eq_left hn], fun i x hi => hc i x ?_⟩
  rw [List.getElem?_take] at hi
  split at hi
  · exact hi
  · cases hi

set_option maxRecDepth 20000 in
set_option maxHeartbeats 4000000 in
theorem playBegun_c (g e : Value) (s : Store) (ev : Event) (w : World) (hB : StoreV w g e s) (hok : storeOkB s = true) (hc : -9223372036854775808 ≤ ev.c ∧ ev.c ≤ 9223372036854775807) :
    Calls Tryz.prog 48 #[.agg #[g, e], eventA ev] w (BegunΦ w s ev) := by
  have hsh := storeOk_shape hok
  have hSC := fun (w' : World) (hx : Ext w w') => storeCopy_c g e s w' (hB.ext hx) hsh.flash hsh.pages hsh.disk
  have hPA := fun (w' : World) (hx : Ext w w') => playAll_c g e s w' (hB.ext hx) hok
  have hPS := fun (w' : World) (hx : Ext w w') => implPlaySteps_c g e s ev w' (hB.ext hx) hok
  have hTO := fun (sv : Value) (w' : World) (hx : Ext w w') (hS : Steps' (Old w') w' sv (playSteps s ev)) (hl : (playSteps s ev).length ≤ 7) (h0 : 0 ≤ ev.c) => implStepsTo_c g e s sv _ ev.c ev.torn w' (hB.ext hx) hok hS (play_V (flashOk_iff.1 (storeOk_flash hok)) ev) (by omega) ⟨h0, hc.2⟩
  have hTN := fun (sv : Value) (w' : World) (hx : Ext w w') (hS : Steps' (Old w') w' sv (playSteps s ev)) (h0 : ev.c < 0) => implStepsTo_neg g e s sv _ ev.c ev.torn w' (hB.ext hx) hS h0
  have HD : Hid (playDoS s ev = if ev.kind = 4 then playAllS s else if ev.c < 0 then s else toSteps s (playSteps s ev) ev.c ev.torn) := Lib.hid rfl
  have HBG : Hid (begunS s ev = if ev.kind = 4 then (allPair s).2 else if ev.c < 0 then [] else (playSteps s ev).take (begunN (playSteps s ev).length ev.c ev.torn).toNat) := Lib.hid rfl
  unfold BegunΦ
  obtain ⟨a3, n3, rfl⟩ := hB.1.form
  obtain ⟨a4, n4, rfl⟩ := hB.2.form
  generalize playDoS s ev = DO at *
  generalize begunS s ev = BG at *
  generalize playSteps s ev = PS at *
  obtain ⟨k, ea, eb, ec, et⟩ := ev
  dsimp only [eventA] at *
  clear hB hok hsh
  by_cases h4 : k = 4
  · subst h4
    have hd : DO = playAllS s := by rw [HD.out, if_pos rfl]
    have hb : BG = (allPair s).2 := by rw [HBG.out, if_pos rfl]
    subst hd; subst hb
    clear hSC hPS hTO hTN HD HBG
    go_enter Tryz.func48, Tryz.ntmps48
    go_wp2_with fail
    refine (hPA _ (ext_alloc (ext_alloc (ext_alloc (ext_refl _) _) _) _)).mono ?_; rintro e1 w1 ⟨f, d, L, v, rfl, hx1, hO, hn, hb, hS, hl⟩
    have X1 := ext_trans (ext_alloc (ext_alloc (ext_alloc (ext_refl w) _) _) _) hx1
    have G4 := keep_ext hx1 (hg_new (b := w.heap.size + 1 + 1) (by simp))
    obtain ⟨b1, k1, j1, b2, k2, j2, rfl, rfl⟩ := hO.forms
    obtain ⟨va, vc, rfl⟩ := hS.form
    have HO := Lib.hid hO
    have HN := Lib.hid hn
    have HB : Hid (∀ b ∈ L, w.heap.size + 3 ≤ b) := Lib.hid fun b hm => by have := hb b hm; simp at this; omega
    have HS := Lib.hid hS
    obtain ⟨g4, gf4⟩ := cellsK G4
    clear hPA hx1 hO hn hb hS
    have s1 := X1.size
    go_wp2_with fail
    refine bodyPost_ret (v := .tuple #[.agg #[.slice b1 k1 j1, .slice b2 k2 j2], .slice va (allPair s).2.length vc]) (by simp [results, Tryz.results48, go_sem, g4, gf4]) rfl ⟨_, _, L, _, rfl, ?_, ?_, HN.out, fun b hb => by have := HB.out b hb; omega, ?_, ?_⟩
    · ((repeat (first | with_reducible (refine ext_set2 ?_ ?_); focus (first | exact Nat.le_refl _ | (dsimp only; omega) | (simp; omega)) | with_reducible refine ext_alloc2 ?_)); with_reducible exact X1)
    · refine HO.out.keep fun b hb => ?_
      have := HB.out b hb
      iterate 2 rw [setCell_other (by omega)]
    · have hne := own_ne HS.out G4 (by decide)
      refine SRow.steps (base := w.heap.size + 3) ?_
      exact ownsRow_setCell_other (ownsRow_setCell_other (HS.out.base (by simp)) hne _) hne _
    · exact hl
  · have hd : DO = if ec < 0 then s else toSteps s PS ec et := by rw [HD.out, if_neg h4]
    have hb : BG = if ec < 0 then [] else PS.take (begunN PS.length ec et).toNat := by rw [HBG.out, if_neg h4]
    clear hPA HD HBG
    go_enter Tryz.func48, Tryz.ntmps48
    go_wp2_with fail
    refine (hPS _ (ext_alloc (ext_alloc (ext_alloc (ext_refl _) _) _) _)).mono ?_; rintro e1 w1 ⟨sv, rfl, hx1, hS, hl⟩
    have X1 := ext_trans (ext_alloc (ext_alloc (ext_alloc (ext_refl w) _) _) _) hx1
    have G2 := keep_ext hx1 (hg_alloc (hg_alloc (hg_new (w := w) (b := w.heap.size) (x := .cells #[.slice a3 s.flash.length n3, .slice a4 s.disk.length n4] 31) rfl)))
    have G3 := keep_ext hx1 (hg_alloc (hg_new (b := w.heap.size + 1) (by simp)))
    have G4 := keep_ext hx1 (hg_new (b := w.heap.size + 1 + 1) (by simp))
    obtain ⟨va, vc, rfl⟩ := hS.form
    have hcap : PS.length ≤ vc := by
      rcases hS.2 with ⟨h1, h2⟩ | ⟨g, cap, cur, h1, h2, h3, h4, h5, h6⟩
      · omega
      · injection h1 with e1 e2 e3
        subst e3
        omega
    have HS := Lib.hid hS.steps
    have HR : Hid (SRow (w.heap.size + 3) w1 (.slice va PS.length vc) PS) := Lib.hid (hS.base (by simp))
    obtain ⟨g2, gf2⟩ := cellsK G2
    obtain ⟨g3, gf3⟩ := cellsK G3
    obtain ⟨g4, gf4⟩ := cellsK G4
    clear hPS hS
    have s1 := hx1.size
    simp at s1
    clear hx1
    by_cases hneg : ec < 0
    · rw [if_pos hneg] at hd hb
      subst hd; subst hb
      clear hTO
      go_wp2_with fail
      refine (hTN _ _ X1 HS.out hneg).mono ?_; rintro e2 w2 ⟨rfl, hx2⟩
      have X2 := ext_trans X1 hx2
      have s2 := hx2.size
      have XA : Ext w2 (w2.alloc (.cells #[.slice none 0 0, .slice none 0 0] 31)) := ext_alloc (ext_refl _) _
      have X3 := ext_trans X2 XA
      replace G2 := keep_ext XA (keep_ext hx2 G2)
      replace G4 := keep_ext XA (keep_ext hx2 G4)
      clear g2 gf2 g3 gf3 g4 gf4 hTN hx2 XA
      obtain ⟨g2, gf2⟩ := cellsK G2
      obtain ⟨g4, gf4⟩ := cellsK G4
      go_wp2_with fail
      refine (hSC _ X3).mono ?_; rintro e4 w4 ⟨f, d, L, rfl, hx4, hO, hn, hbb⟩
      have X4 := ext_trans X3 hx4
      replace G4 := keep_ext hx4 G4
      obtain ⟨b1, k1, j1, b2, k2, j2, rfl, rfl⟩ := hO.forms
      have s3 := X3.size
      have HN := Lib.hid hn
      have HO := Lib.hid hO
      have HB : Hid (∀ b ∈ L, w.heap.size + 3 ≤ b) := Lib.hid fun b hm => by have := hbb b hm; simp at this; have := X2.size; omega
      clear g2 gf2 g4 gf4 hSC hx4 G2 hn hO hbb
      obtain ⟨g4, gf4⟩ := cellsK G4
      have s4 := X4.size
      go_wp2_with fail
      refine bodyPost_ret (v := .tuple #[.agg #[.slice b1 k1 j1, .slice b2 k2 j2], .slice none 0 0]) (by simp [results, Tryz.results48, go_sem, g4, gf4]) rfl ⟨_, _, L, _, rfl, ?_, ?_, HN.out, fun b hb => by have := HB.out b hb; omega, ⟨none, 0, rfl, fun i x hi => by cases hi⟩, by simp⟩
      · ((repeat (first | with_reducible (refine ext_set2 ?_ ?_); focus (first | exact Nat.le_refl _ | (dsimp only; omega) | (simp; omega)) | with_reducible refine ext_alloc2 ?_)); with_reducible exact X4)
      · refine HO.out.keep fun b hb => ?_
        have := HB.out b hb
        iterate 2 rw [setCell_other (by omega)]
    · rw [if_neg hneg] at hd hb
      subst hd
      clear hTN hSC
      go_wp2_with fail
      refine (hTO _ _ X1 HS.out hl (by omega)).mono ?_; rintro e2 w2 ⟨f, d, L, rfl, hx2, hO, hn, hbb⟩
      have X2 := ext_trans X1 hx2
      have s2 := hx2.size
      replace G3 := keep_ext hx2 G3
      replace G4 := keep_ext hx2 G4
      obtain ⟨b1, k1, j1, b2, k2, j2, rfl, rfl⟩ := hO.forms
      have HN := Lib.hid hn
      have HB : Hid (∀ b ∈ L, w.heap.size + 3 ≤ b) := Lib.hid fun b hm => by have := hbb b hm; omega
      have hlO := hO.lt
      have XA : Ext w2 (w2.alloc (.cells #[.slice b1 k1 j1, .slice b2 k2 j2] 31)) := ext_alloc (ext_refl _) _
      have G7 : (w2.alloc (.cells #[.slice b1 k1 j1, .slice b2 k2 j2] 31)).heap[w2.heap.size]? = some (.cells #[.slice b1 k1 j1, .slice b2 k2 j2] 31 (0, 0)) := hg_new rfl
      have HO := Lib.hid (hO.ext XA)
      have X3 := ext_trans X2 XA
      have HS3 := Lib.hid (HR.out.ext (ext_trans hx2 XA))
      replace G3 := keep_ext XA G3
      replace G4 := keep_ext XA G4
      clear g2 gf2 g3 gf3 g4 gf4 hTO hx2 G2 hO hn hbb XA hlO
      obtain ⟨g3, gf3⟩ := cellsK G3
      obtain ⟨g4, gf4⟩ := cellsK G4
      have s3 := X3.size
      have H7 := Lib.hid G7
      have lP := heap_lt G7
      obtain ⟨P, hP⟩ : ∃ P, w2.heap.size = P := ⟨_, rfl⟩
      have hPw : w.heap.size + 3 ≤ P := by omega
      generalize hW : w2.alloc (.cells #[.slice b1 k1 j1, .slice b2 k2 j2] 31) = w3 at *
      rw [hP] at G7 H7 lP
      have hc1 : ∀ (w' : World) (Z : Int) (M : Nat), Z = M → M ≤ PS.length → (Instr.slice 57 (.slice va PS.length vc) none (some (.int .i64 Z)) none).run Tryz.prog w' = .ok (.slice va M vc) w' := fun w' Z M hZ hM => by
        subst hZ
        rw [run_slice_h w' 57 va PS.length vc (by kernel_rfl) .i64 M (by omega) (by omega)]
        rw [show (sizeOf (Tryz.prog.elem 57)).run Tryz.prog w' = .ok 8 w' by kernel_rfl]
        simp only [Result.andThen, sliced, Int.toNat_natCast, Nat.sub_zero]
        first | done | (split <;> simp [Addr.add])
      have HC1 := Lib.hid hc1
      clear hc1
      by_cases c1 : (PS.length : Int) < ec
      · have hnl : ¬ ((PS.length : Int) < PS.length) := by omega
        cases et
        all_goals
          have hc := fun w' => HC1.out w' (PS.length : Int) PS.length (by omega) (by omega)
          have hb2 : Hid (BG = PS.take PS.length) := Lib.hid (by rw [hb]; congr 1; unfold begunN; rw [if_neg (by omega)]; omega)
          clear hb
          go_wp2_with fail
          try rw [hP]
          try rw [hW]
          clear g3 gf3
          refine wp_region_st [4] G4 [0, 1, 2, 3, 4, 5] [] [] (by kernel_rfl) (by kernel_rfl) ?late ?_
          case late => exact fun f hf => absurd hf List.not_mem_nil
          refine Rob.y (v := ?_) rfl rfl (fun w1 hx hH => ?_) ?_; rotate_left
          · (obtain ⟨q7, qf7⟩ := cellsK (hx.1.keep G7 (by simp; omega))); go_simp; first | done | rfl
          simp only [Act.put, List.setIfInBounds_toArray, List.set_cons_succ, List.set_cons_zero]
          iterate 2
            refine Rob.y (v := ?_) rfl rfl (fun w1 hx hH => ?_) ?_; rotate_left
            · go_simp; first | done | rfl | exact (Bool.not_not _).symm
            simp only [Act.put, List.setIfInBounds_toArray, List.set_cons_succ, List.set_cons_zero]
          refine Rob.y (v := ?_) rfl rfl (fun w1 hx hH => ?_) ?_; rotate_left
          · (obtain ⟨q7, qf7⟩ := cellsK (hx.1.keep G7 (by simp; omega))); go_simp; first | done | rfl
          simp only [Act.put, List.setIfInBounds_toArray, List.set_cons_succ, List.set_cons_zero]
          refine Rob.st rfl rfl rfl rfl rfl rfl (by kernel_rfl) (by kernel_rfl) rfl (by omega) (fun lo4 hi4 hlo4 hhi4 => ?_)
          simp only [Act.put, List.setIfInBounds_toArray, List.set_cons_succ, List.set_cons_zero]
          refine Rob.y (v := ?_) rfl rfl (fun w1 hx hH => ?_) ?_; rotate_left
          · go_simp; first | done | rfl | exact (Bool.not_not _).symm
          simp only [Act.put, List.setIfInBounds_toArray, List.set_cons_succ, List.set_cons_zero]
          refine fin_nil (fun w5 hx5 _ => ?_)
          obtain ⟨⟨hC, -⟩, G⟩ := hx5
          have X5 := hC.ext X3 (by simp; omega)
          replace HO := Lib.hid (HO.out.chg hC (fun b hb hm => by have := HB.out b hb; simp at hm; omega))
          have HS5 := Lib.hid (SRow.steps (srow_chg HS3.out hC (by simp)))
          clear g4 gf4
          obtain ⟨g4, gf4⟩ := cellsK G
          go_wp2_with fail
          refine bodyPost_ret (v := .tuple #[.agg #[.slice b1 k1 j1, .slice b2 k2 j2], .slice va PS.length vc]) (by simp [results, Tryz.results48, go_sem, g4, gf4]) rfl ⟨_, _, L, _, rfl, X5, HO.out, HN.out, fun b hb => by have := HB.out b hb; omega, ?_, ?_⟩
          · rw [hb2.out]
            exact Sl.take' HS5.out _ (by omega)
          · rw [hb2.out, List.length_take]
            omega
      by_cases c2 : (PS.length : Int) = ec
      · subst c2
        clear c1
        cases et
        all_goals
          have hc := fun w' => HC1.out w' (PS.length : Int) PS.length (by omega) (by omega)
          have hb2 : Hid (BG = PS.take PS.length) := Lib.hid (by rw [hb]; congr 1; unfold begunN; rw [if_neg (by omega)]; omega)
          clear hb
          go_wp2_with fail
          try rw [hP]
          try rw [hW]
          clear g3 gf3
          refine wp_region_st [4] G4 [0, 1, 2, 3, 4, 5] [] [] (by kernel_rfl) (by kernel_rfl) ?late ?_
          case late => exact fun f hf => absurd hf List.not_mem_nil
          refine Rob.y (v := ?_) rfl rfl (fun w1 hx hH => ?_) ?_; rotate_left
          · (obtain ⟨q7, qf7⟩ := cellsK (hx.1.keep G7 (by simp; omega))); go_simp; first | done | rfl
          simp only [Act.put, List.setIfInBounds_toArray, List.set_cons_succ, List.set_cons_zero]
          iterate 2
            refine Rob.y (v := ?_) rfl rfl (fun w1 hx hH => ?_) ?_; rotate_left
            · go_simp; first | done | rfl | exact (Bool.not_not _).symm
            simp only [Act.put, List.setIfInBounds_toArray, List.set_cons_succ, List.set_cons_zero]
          refine Rob.y (v := ?_) rfl rfl (fun w1 hx hH => ?_) ?_; rotate_left
          · (obtain ⟨q7, qf7⟩ := cellsK (hx.1.keep G7 (by simp; omega))); go_simp; first | done | rfl
          simp only [Act.put, List.setIfInBounds_toArray, List.set_cons_succ, List.set_cons_zero]
          refine Rob.st rfl rfl rfl rfl rfl rfl (by kernel_rfl) (by kernel_rfl) rfl (by omega) (fun lo4 hi4 hlo4 hhi4 => ?_)
          simp only [Act.put, List.setIfInBounds_toArray, List.set_cons_succ, List.set_cons_zero]
          refine Rob.y (v := ?_) rfl rfl (fun w1 hx hH => ?_) ?_; rotate_left
          · go_simp; first | done | rfl | exact (Bool.not_not _).symm
          simp only [Act.put, List.setIfInBounds_toArray, List.set_cons_succ, List.set_cons_zero]
          refine fin_nil (fun w5 hx5 _ => ?_)
          obtain ⟨⟨hC, -⟩, G⟩ := hx5
          have X5 := hC.ext X3 (by simp; omega)
          replace HO := Lib.hid (HO.out.chg hC (fun b hb hm => by have := HB.out b hb; simp at hm; omega))
          have HS5 := Lib.hid (SRow.steps (srow_chg HS3.out hC (by simp)))
          clear g4 gf4
          obtain ⟨g4, gf4⟩ := cellsK G
          go_wp2_with fail
          refine bodyPost_ret (v := .tuple #[.agg #[.slice b1 k1 j1, .slice b2 k2 j2], .slice va PS.length vc]) (by simp [results, Tryz.results48, go_sem, g4, gf4]) rfl ⟨_, _, L, _, rfl, X5, HO.out, HN.out, fun b hb => by have := HB.out b hb; omega, ?_, ?_⟩
          · rw [hb2.out]
            exact Sl.take' HS5.out _ (by omega)
          · rw [hb2.out, List.length_take]
            omega
      obtain ⟨m, rfl⟩ : ∃ m : Nat, ec = m := ⟨ec.toNat, by omega⟩
      by_cases ct : et = true
      · subst ct
        have hc := fun w' => HC1.out w' ((m : Int) + 1) (m + 1) (by omega) (by omega)
        have hb2 : Hid (BG = PS.take (m + 1)) := Lib.hid (by rw [hb]; congr 1; unfold begunN; rw [if_pos ⟨rfl, by omega⟩]; omega)
        clear hb
        go_wp2_with fail
        try rw [hP]
        try rw [hW]
        clear g3 gf3
        refine wp_region_st [4] G4 [0, 1, 2, 3, 4, 5] [] [] (by kernel_rfl) (by kernel_rfl) ?late ?_
        case late => exact fun f hf => absurd hf List.not_mem_nil
        refine Rob.y (v := ?_) rfl rfl (fun w1 hx hH => ?_) ?_; rotate_left
        · (obtain ⟨q7, qf7⟩ := cellsK (hx.1.keep G7 (by simp; omega))); go_simp; first | done | rfl
        simp only [Act.put, List.setIfInBounds_toArray, List.set_cons_succ, List.set_cons_zero]
        iterate 2
          refine Rob.y (v := ?_) rfl rfl (fun w1 hx hH => ?_) ?_; rotate_left
          · go_simp; first | done | rfl | exact (Bool.not_not _).symm
          simp only [Act.put, List.setIfInBounds_toArray, List.set_cons_succ, List.set_cons_zero]
        refine Rob.y (v := ?_) rfl rfl (fun w1 hx hH => ?_) ?_; rotate_left
        · (obtain ⟨q7, qf7⟩ := cellsK (hx.1.keep G7 (by simp; omega))); go_simp; first | done | rfl
        simp only [Act.put, List.setIfInBounds_toArray, List.set_cons_succ, List.set_cons_zero]
        refine Rob.st rfl rfl rfl rfl rfl rfl (by kernel_rfl) (by kernel_rfl) rfl (by omega) (fun lo4 hi4 hlo4 hhi4 => ?_)
        simp only [Act.put, List.setIfInBounds_toArray, List.set_cons_succ, List.set_cons_zero]
        refine Rob.y (v := ?_) rfl rfl (fun w1 hx hH => ?_) ?_; rotate_left
        · go_simp; first | done | rfl | exact (Bool.not_not _).symm
        simp only [Act.put, List.setIfInBounds_toArray, List.set_cons_succ, List.set_cons_zero]
        refine fin_nil (fun w5 hx5 _ => ?_)
        obtain ⟨⟨hC, -⟩, G⟩ := hx5
        have X5 := hC.ext X3 (by simp; omega)
        replace HO := Lib.hid (HO.out.chg hC (fun b hb hm => by have := HB.out b hb; simp at hm; omega))
        have HS5 := Lib.hid (SRow.steps (srow_chg HS3.out hC (by simp)))
        clear g4 gf4
        obtain ⟨g4, gf4⟩ := cellsK G
        go_wp2_with fail
        refine bodyPost_ret (v := .tuple #[.agg #[.slice b1 k1 j1, .slice b2 k2 j2], .slice va (m + 1) vc]) (by simp [results, Tryz.results48, go_sem, g4, gf4]) rfl ⟨_, _, L, _, rfl, X5, HO.out, HN.out, fun b hb => by have := HB.out b hb; omega, ?_, ?_⟩
        · rw [hb2.out]
          exact Sl.take' HS5.out _ (by omega)
        · rw [hb2.out, List.length_take]
          omega
      · obtain rfl : et = false := by simpa using ct
        clear ct
        have hc := fun w' => HC1.out w' (m : Int) m (by omega) (by omega)
        have hb2 : Hid (BG = PS.take m) := Lib.hid (by rw [hb]; congr 1; unfold begunN; rw [if_neg (by simp)]; omega)
        clear hb
        go_wp2_with fail
        try rw [hP]
        try rw [hW]
        clear g3 gf3
        refine wp_region_st [4] G4 [0, 1, 2, 3, 4, 5] [] [] (by kernel_rfl) (by kernel_rfl) ?late ?_
        case late => exact fun f hf => absurd hf List.not_mem_nil
        refine Rob.y (v := ?_) rfl rfl (fun w1 hx hH => ?_) ?_; rotate_left
        · (obtain ⟨q7, qf7⟩ := cellsK (hx.1.keep G7 (by simp; omega))); go_simp; first | done | rfl
        simp only [Act.put, List.setIfInBounds_toArray, List.set_cons_succ, List.set_cons_zero]
        iterate 2
          refine Rob.y (v := ?_) rfl rfl (fun w1 hx hH => ?_) ?_; rotate_left
          · go_simp; first | done | rfl | exact (Bool.not_not _).symm
          simp only [Act.put, List.setIfInBounds_toArray, List.set_cons_succ, List.set_cons_zero]
        refine Rob.y (v := ?_) rfl rfl (fun w1 hx hH => ?_) ?_; rotate_left
        · (obtain ⟨q7, qf7⟩ := cellsK (hx.1.keep G7 (by simp; omega))); go_simp; first | done | rfl
        simp only [Act.put, List.setIfInBounds_toArray, List.set_cons_succ, List.set_cons_zero]
        refine Rob.st rfl rfl rfl rfl rfl rfl (by kernel_rfl) (by kernel_rfl) rfl (by omega) (fun lo4 hi4 hlo4 hhi4 => ?_)
        simp only [Act.put, List.setIfInBounds_toArray, List.set_cons_succ, List.set_cons_zero]
        refine Rob.y (v := ?_) rfl rfl (fun w1 hx hH => ?_) ?_; rotate_left
        · go_simp; first | done | rfl | exact (Bool.not_not _).symm
        simp only [Act.put, List.setIfInBounds_toArray, List.set_cons_succ, List.set_cons_zero]
        refine fin_nil (fun w5 hx5 _ => ?_)
        obtain ⟨⟨hC, -⟩, G⟩ := hx5
        have X5 := hC.ext X3 (by simp; omega)
        replace HO := Lib.hid (HO.out.chg hC (fun b hb hm => by have := HB.out b hb; simp at hm; omega))
        have HS5 := Lib.hid (SRow.steps (srow_chg HS3.out hC (by simp)))
        clear g4 gf4
        obtain ⟨g4, gf4⟩ := cellsK G
        go_wp2_with fail
        refine bodyPost_ret (v := .tuple #[.agg #[.slice b1 k1 j1, .slice b2 k2 j2], .slice va m vc]) (by simp [results, Tryz.results48, go_sem, g4, gf4]) rfl ⟨_, _, L, _, rfl, X5, HO.out, HN.out, fun b hb => by have := HB.out b hb; omega, ?_, ?_⟩
        · rw [hb2.out]
          exact Sl.take' HS5.out _ (by omega)
        · rw [hb2.out, List.length_take]
          omega
end Go.Bu

set_option linter.unusedVariables false
set_option linter.unusedSimpArgs false
namespace Go.Bu
open Go Go.RowKit Go.Plan Go.Proofs

def nilStore : Value := .agg #[.slice none 0 0, .slice none 0 0]
def store0 : Store := ⟨[], []⟩
/-- a store that a call has made, its blocks named -/
def StoreL (w : World) (v : Value) (s : Store) (M : List Nat) : Prop := (v = nilStore ∧ s = store0 ∧ M = []) ∨ ∃ f d, v = .agg #[f, d] ∧ OwnStore w f d s M ∧ M.Nodup ∧ Shape4 s
section
variable {w w' : World} {v : Value} {s : Store} {M N : List Nat} {base : Nat}
theorem StoreL.ext (h : StoreL w v s M) (hx : Ext w w') : StoreL w' v s M := h.imp id fun ⟨f, d, h1, h2, h3⟩ => ⟨f, d, h1, h2.ext hx, h3⟩
theorem StoreL.chg (h : StoreL w v s M) (hx : Chg N w w') (hm : ∀ b ∈ M, b ∉ N) : StoreL w' v s M := h.imp id fun ⟨f, d, h1, h2, h3⟩ => ⟨f, d, h1, h2.chg hx hm, h3⟩
theorem StoreL.lt (h : StoreL w v s M) : ∀ b ∈ M, b < w.heap.size := by
  rcases h with ⟨_, _, rfl⟩ | ⟨f, d, _, h2, _⟩
  · intro b hb; cases hb
  · exact h2.lt
theorem StoreL.forms (h : StoreL w v s M) : ∃ a n c b m k, v = .agg #[.slice a n c, .slice b m k] := by
  rcases h with ⟨rfl, rfl, _⟩ | ⟨f, d, rfl, h2, _⟩
  · exact ⟨none, 0, 0, none, 0, 0, rfl⟩
  · obtain ⟨a, n, c, b, m, k, rfl, rfl⟩ := h2.forms
    exact ⟨a, n, c, b, m, k, rfl⟩
theorem StoreL.small (h : StoreL w v s M) : Small s := by
  rcases h with ⟨_, rfl, _⟩ | ⟨f, d, _, _, _, h4⟩
  · exact small0
  · exact h4.small
theorem StoreL.read {f d : Value} (h : StoreL w (.agg #[f, d]) s M) : StoreV w f d s := by
  rcases h with ⟨h1, rfl, _⟩ | ⟨f', d', h1, h2, _⟩
  · unfold nilStore at h1
    injection h1 with h1
    simp at h1
    obtain ⟨rfl, rfl⟩ := h1
    exact storeV0 w
  · injection h1 with h1
    simp at h1
    obtain ⟨rfl, rfl⟩ := h1
    exact ⟨h2.flash, h2.disk⟩
end
theorem eqStore_l (f d f' d' : Value) (s : Store) (M N : List Nat) (w : World) (h : StoreL w (.agg #[f, d]) s M) (h' : StoreL w (.agg #[f', d']) s N) :
    Calls Tryz.prog 21 #[.agg #[f, d], .agg #[f', d']] w (Ret w (.bool true)) := by
  have := eqStore_c f f' d d' s s w h.read.1 h'.read.1 h.read.2 h'.read.2 (h.small.fits _) (h.small.fitsI _)
  rwa [storeEq_refl] at this
/-- a store that was marked -/
def StoreK (w : World) (v : Value) (M : List Nat) (k : Int) : Prop := (v = nilStore ∧ M = [] ∧ k = 1) ∨ ∃ f d s, v = .agg #[f, d] ∧ OwnStore w f d s M ∧ Marked s 1 ∧ k = 91
theorem StoreK.ext {w w' : World} {v : Value} {M : List Nat} {k : Int} (h : StoreK w v M k) (hx : Ext w w') : StoreK w' v M k := h.imp id fun ⟨f, d, s, h1, h2, h3⟩ => ⟨f, d, s, h1, h2.ext hx, h3⟩
theorem StoreK.k {w : World} {v : Value} {M : List Nat} {k : Int} (h : StoreK w v M k) : 0 ≤ k ∧ k ≤ 91 := by
  rcases h with ⟨_, _, rfl⟩ | ⟨f, d, s, _, _, _, rfl⟩ <;> omega
theorem markStore_l (v : Value) (s : Store) (M : List Nat) (w : World) (h : StoreL w v s M) :
    Calls Tryz.prog 22 #[v, .int .i64 1] w (fun e w' => ∃ k, e = .returned (.int .i64 k) ∧ Chg M w w' ∧ StoreK w' v M k) := by
  rcases h with ⟨rfl, rfl, rfl⟩ | ⟨f, d, rfl, h2, h3, h4⟩
  · exact (markNilS w).mono fun e w' ⟨he, hx⟩ => ⟨1, he, Chg.of_ext hx, .inl ⟨rfl, rfl, rfl⟩⟩
  · exact (markStore_c f d s M 1 w h2 h3 h4 (by omega) (by omega)).mono fun r w' ⟨he, hc, t, o1, m1⟩ => ⟨91, he, hc, .inr ⟨f, d, t, rfl, o1, m1, rfl⟩⟩
theorem heldStore_l (v : Value) (M : List Nat) (k : Int) (w : World) (h : StoreK w v M k) : Calls Tryz.prog 23 #[v, .int .i64 1] w (Ret w (.int .i64 k)) := by
  rcases h with ⟨rfl, rfl, rfl⟩ | ⟨f, d, s, rfl, o1, m1, rfl⟩
  · exact heldNilS w
  · exact heldStore_c f d s M 1 w o1 m1 (by omega) (by omega)

def doV (s : Store) (e : Event) : Store := if storeOkB s = true then playDoS s e else store0
def StoreΦ (w : World) (s : Store) (e : Ending) (w' : World) : Prop := ∃ v M, e = .returned v ∧ Ext w w' ∧ StoreL w' v s M ∧ ∀ b ∈ M, w.heap.size ≤ b

set_option maxRecDepth 20000 in
set_option maxHeartbeats 4000000 in
theorem specPlayDo_c (g e : Value) (s : Store) (ev : Event) (w : World) (hB : StoreV w g e s) (hs : Small s) :
    Calls Tryz.prog 17 #[.agg #[g, e], eventA ev] w (StoreΦ w (doV s ev)) := by
  have hSO := fun (w' : World) (hx : Ext w w') => specStoreOk_c g e s w' (hB.ext hx) hs.1
  have hSC := fun (w' : World) (hx : Ext w w') (h1 : Shape4 s) => l11Copy_c g e s w' (hB.ext hx) h1.flash h1.pages h1.disk
  have HD : Hid (doV s ev = if storeOkB s = true then playDoS s ev else store0) := Lib.hid rfl
  have HP : Hid (storeOkB s = true → StoreP s ∧ StoreP (playDoS s ev)) := Lib.hid fun h => ⟨storeOk_P h, (storeOk_P h).play ev⟩
  have HX : Hid (∀ c w, OwnS c w s → StoreP s → Calls Tryz.prog 43 #[.agg #[c.fv s, c.dv s], eventA ev] w (RetO c w (playDoS s ev))) := Lib.hid fun c w h1 h2 => l21Do_c c s ev w h1 h2
  obtain ⟨a3, n3, rfl⟩ := hB.1.form
  obtain ⟨a4, n4, rfl⟩ := hB.2.form
  generalize doV s ev = DO at *
  generalize playDoS s ev = PO at *
  obtain ⟨k, ea, eb, ec, et⟩ := ev
  dsimp only [eventA] at *
  clear hB hs
  by_cases hok : storeOkB s = true
  · have hd : DO = PO := by rw [HD.out, if_pos hok]
    subst hd
    have HPP := Lib.hid (HP.out hok)
    have hSc := fun (w' : World) (hx : Ext w w') => hSC w' hx HPP.out.1.shape4
    rw [hok] at hSO
    clear hSC hok HP HD
    go_enter Tryz.func17, Tryz.ntmps17
    go_wp2_with fail
    refine (hSO _ (ext_alloc (ext_alloc (ext_alloc (ext_refl _) _) _) _)).mono ?_; rintro e1 w1 ⟨rfl, hx1⟩
    have X1 := ext_trans (ext_alloc (ext_alloc (ext_alloc (ext_refl w) _) _) _) hx1
    have G2 := keep_ext hx1 (hg_alloc (hg_alloc (hg_new (w := w) (b := w.heap.size) (x := .cells #[.slice a3 s.flash.length n3, .slice a4 s.disk.length n4] 31) rfl)))
    have G3 := keep_ext hx1 (hg_alloc (hg_new (b := w.heap.size + 1) (by simp)))
    have G4 := keep_ext hx1 (hg_new (b := w.heap.size + 1 + 1) (by simp))
    have s1 := hx1.size
    simp at s1
    clear hSO hx1
    have HSc := Lib.hid hSc
    clear hSc
    obtain ⟨g2, gf2⟩ := cellsK G2
    go_wp2_with fail
    refine wp_region_ext [1, 3] [0, 2, 1, 3] [] [4] (by kernel_rfl) (by kernel_rfl) ?late ?_
    case late => exact fun f hf => absurd hf List.not_mem_nil
    iterate 2
      refine Rob.y (v := ?_) rfl rfl (fun w1 hx hH => ?_) ?_; rotate_left
      · (obtain ⟨z2, zf2⟩ := cellsK (keep_ext hx G2); obtain ⟨z3, zf3⟩ := cellsK (keep_ext hx G3)); go_simp; first | done | rfl
      simp only [Act.put, List.setIfInBounds_toArray, List.set_cons_succ, List.set_cons_zero]
    refine Rob.w (fun _ _ _ _ => True) (StoreM s) rfl rfl rfl (fun _ _ _ _ _ _ _ => trivial) (fun _ _ _ _ _ h hx => h.ext hx) (fun w2 hx hC hH => ?_) (fun lo1 hi1 v1 hlo1 hhi1 hv1 => ?_)
    · unfold RunTo; go_simp; exact (HSc.out _ (ext_trans X1 hx)).mono fun e w' hh => by obtain ⟨v, he, hx', hm⟩ := hh.to; exact ⟨v, he, .of_ext hx', ext_trans hx hx', hm⟩
    simp only [Act.put, List.setIfInBounds_toArray, List.set_cons_succ, List.set_cons_zero]
    obtain ⟨_, _, hv1⟩ := hv1
    obtain ⟨a1, m1, c1, a2, m2, c2, rfl⟩ := hv1.forms
    refine Rob.w (fun _ _ _ _ => True) (fun _ _ v w => StoreM DO lo1 hi1 v w) rfl rfl rfl (fun _ _ _ _ _ _ _ => trivial) (fun _ _ _ _ _ h hx => h.ext hx) (fun w2 hx hC hH => ?_) (fun lo3 hi3 v3 hlo3 hhi3 hv3 => ?_)
    · obtain ⟨L, hO, hn, hb⟩ := hC.own; obtain ⟨c, rfl, e1, e2, hS⟩ := hO.at4 hn HPP.out.1; have hcall := HX.out c w2 hS HPP.out.1; rw [show c.fv s = c.f4 by simp only [SC.fv, HPP.out.1.lens.1]; rfl, show c.dv s = c.d6 by simp only [SC.dv, HPP.out.1.lens.2]; rfl] at hcall; unfold RunTo; go_simp; exact hcall.mono fun e w' ⟨he, hC', hO'⟩ => ⟨_, he, ⟨hC'.size, fun b _ hlt hp => hC'.block b hlt fun hm => by have := hb b hm; have := hp (lo1, hi1) (by simp); dsimp only at this; omega⟩, hC'.ext hx.1 (fun b hm => by have := hb b hm; omega), _, _, c.L, rfl, hO'.own, hn, hb⟩
    simp only [Act.put, List.setIfInBounds_toArray, List.set_cons_succ, List.set_cons_zero]
    obtain ⟨_, _, hv3⟩ := hv3
    obtain ⟨b1, k1, j1, b2, k2, j2, rfl⟩ := hv3.forms
    refine fin_tailC (fun w3 hx3 hC3 _ => ?_)
    simp only [dstOf, List.getElem?_cons_succ, List.getElem?_cons_zero, Option.bind_some, Act.put, List.setIfInBounds_toArray, List.set_cons_succ, List.set_cons_zero, List.filterMap_cons, List.filterMap_nil]
    have X3 := ext_trans X1 hx3.1.1
    replace G4 := keep_ext hx3.1.1 G4
    obtain ⟨L, hO, hn, hb⟩ := hC3.own
    have HO := Lib.hid hO
    have HN := Lib.hid hn
    have HB : Hid (∀ b ∈ L, w.heap.size + 3 ≤ b) := Lib.hid fun b hm => by have := hb b hm; omega
    clear hO hn hb hx3 hC3 HX HSc g2 gf2 G2 G3
    obtain ⟨g4, gf4⟩ := cellsK G4
    have l4 := heap_lt G4
    go_wp2_with fail
    refine bodyPost_ret (v := .agg #[.slice b1 k1 j1, .slice b2 k2 j2]) (by simp [results, Tryz.results17, go_sem, g4, gf4]) rfl ⟨_, L, rfl, ?_, .inr ⟨_, _, rfl, ?_, HN.out, HPP.out.2.shape4⟩, fun b hb => by have := HB.out b hb; omega⟩
    · ((repeat (first | with_reducible (refine ext_set2 ?_ ?_); focus (first | exact Nat.le_refl _ | (dsimp only; omega) | (simp; omega)) | with_reducible refine ext_alloc2 ?_)); with_reducible exact X3)
    · refine HO.out.keep fun b hb => ?_
      have := HB.out b hb
      iterate 2 rw [setCell_other (by omega)]
  · have hd : DO = store0 := by rw [HD.out, if_neg hok]
    subst hd
    rw [show storeOkB s = false by simpa using hok] at hSO
    clear hSC hok HP HD HX
    go_enter Tryz.func17, Tryz.ntmps17
    go_wp2_with fail
    refine (hSO _ (ext_alloc (ext_alloc (ext_alloc (ext_refl _) _) _) _)).mono ?_; rintro e1 w1 ⟨rfl, hx1⟩
    have X1 := ext_trans (ext_alloc (ext_alloc (ext_alloc (ext_refl w) _) _) _) hx1
    have G2 := keep_ext hx1 (hg_alloc (hg_alloc (hg_new (w := w) (b := w.heap.size) (x := .cells #[.slice a3 s.flash.length n3, .slice a4 s.disk.length n4] 31) rfl)))
    have G3 := keep_ext hx1 (hg_alloc (hg_new (b := w.heap.size + 1) (by simp)))
    have G4 := keep_ext hx1 (hg_new (b := w.heap.size + 1 + 1) (by simp))
    have s1 := hx1.size
    simp at s1
    clear hSO hx1
    obtain ⟨g4, gf4⟩ := cellsK G4
    go_wp2_with fail
    refine bodyPost_ret (v := nilStore) (by simp [results, Tryz.results17, go_sem, g4, gf4, nilStore]) rfl ⟨_, _, rfl, ?_, .inl ⟨rfl, rfl, rfl⟩, fun b hb => by cases hb⟩
    ((repeat (first | with_reducible (refine ext_set2 ?_ ?_); focus (first | exact Nat.le_refl _ | (dsimp only; omega) | (simp; omega)) | with_reducible refine ext_alloc2 ?_)); with_reducible exact X1)

set_option maxRecDepth 20000 in
set_option maxHeartbeats 4000000 in
theorem implPlayDo_c (g e : Value) (s : Store) (ev : Event) (w : World) (hB : StoreV w g e s) (hs : Small s) (hc : -9223372036854775808 ≤ ev.c ∧ ev.c ≤ 9223372036854775807) :
    Calls Tryz.prog 20 #[.agg #[g, e], eventA ev] w (StoreΦ w (doV s ev)) := by
  have hSO := fun (w' : World) (hx : Ext w w') => implStoreOk_c g e s w' (hB.ext hx) hs.2.1 hs.2.2
  have hBG := fun (w' : World) (hx : Ext w w') (hok : storeOkB s = true) => playBegun_c g e s ev w' (hB.ext hx) hok hc
  have HD : Hid (doV s ev = if storeOkB s = true then playDoS s ev else store0) := Lib.hid rfl
  have HP : Hid (storeOkB s = true → StoreP (playDoS s ev)) := Lib.hid fun h => (storeOk_P h).play ev
  unfold BegunΦ at hBG
  obtain ⟨a3, n3, rfl⟩ := hB.1.form
  obtain ⟨a4, n4, rfl⟩ := hB.2.form
  generalize doV s ev = DO at *
  generalize playDoS s ev = PO at *
  generalize begunS s ev = BG at *
  obtain ⟨k, ea, eb, ec, et⟩ := ev
  dsimp only [eventA] at *
  clear hB hs
  by_cases hok : storeOkB s = true
  · have hd : DO = PO := by rw [HD.out, if_pos hok]
    subst hd
    have HPP := Lib.hid (HP.out hok)
    have hBg := fun (w' : World) (hx : Ext w w') => hBG w' hx hok
    rw [hok] at hSO
    clear hBG hok HP HD
    go_enter Tryz.func20, Tryz.ntmps20
    go_wp2_with fail
    refine (hSO _ (ext_alloc (ext_alloc (ext_alloc (ext_refl _) _) _) _)).mono ?_; rintro e1 w1 ⟨rfl, hx1⟩
    have X1 := ext_trans (ext_alloc (ext_alloc (ext_alloc (ext_refl w) _) _) _) hx1
    have G2 := keep_ext hx1 (hg_alloc (hg_alloc (hg_new (w := w) (b := w.heap.size) (x := .cells #[.slice a3 s.flash.length n3, .slice a4 s.disk.length n4] 31) rfl)))
    have G3 := keep_ext hx1 (hg_alloc (hg_new (b := w.heap.size + 1) (by simp)))
    have G4 := keep_ext hx1 (hg_new (b := w.heap.size + 1 + 1) (by simp))
    have s1 := hx1.size
    simp at s1
    clear hSO hx1
    obtain ⟨g2, gf2⟩ := cellsK G2
    obtain ⟨g3, gf3⟩ := cellsK G3
    go_wp2_with fail
    refine (hBg _ X1).mono ?_; rintro e2 w2 ⟨f, d, L, v, rfl, hx2, hO, hn, hb, hS, hl⟩
    have X2 := ext_trans X1 hx2
    obtain ⟨va, vc, rfl⟩ := hS.form
    obtain ⟨b1, k1, j1, b2, k2, j2, rfl, rfl⟩ := hO.forms
    replace G4 := keep_ext hx2 G4
    have s2 := hx2.size
    have HN := Lib.hid hn
    have HB : Hid (∀ b ∈ L, w.heap.size + 3 ≤ b) := Lib.hid fun b hm => by have := hb b hm; omega
    have XA : Ext w2 (w2.alloc (.cells #[.slice b1 k1 j1, .slice b2 k2 j2] 31)) := ext_alloc (ext_refl _) _
    have G5 : (w2.alloc (.cells #[.slice b1 k1 j1, .slice b2 k2 j2] 31)).heap[w2.heap.size]? = some (.cells #[.slice b1 k1 j1, .slice b2 k2 j2] 31 (0, 0)) := hg_new rfl
    have X3 := ext_trans X2 XA
    have HO := Lib.hid (hO.ext XA)
    replace G4 := keep_ext XA G4
    clear g2 gf2 g3 gf3 hBg hx2 hO hn hb hS XA G2 G3
    obtain ⟨g4, gf4⟩ := cellsK G4
    obtain ⟨g5, gf5⟩ := cellsK G5
    have l4 := heap_lt G4
    go_wp2_with fail
    refine bodyPost_ret (v := .agg #[.slice b1 k1 j1, .slice b2 k2 j2]) (by simp [results, Tryz.results20, go_sem, g4, gf4]) rfl ⟨_, L, rfl, ?_, .inr ⟨_, _, rfl, ?_, HN.out, HPP.out.shape4⟩, fun b hb => by have := HB.out b hb; omega⟩
    · have s3 := X3.size
      ((repeat (first | with_reducible (refine ext_set2 ?_ ?_); focus (first | exact Nat.le_refl _ | (dsimp only; omega) | (simp; omega)) | with_reducible refine ext_alloc2 ?_)); with_reducible exact X2)
    · refine HO.out.keep fun b hb => ?_
      have := HB.out b hb
      iterate 2 rw [setCell_other (by omega)]
  · have hd : DO = store0 := by rw [HD.out, if_neg hok]
    subst hd
    rw [show storeOkB s = false by simpa using hok] at hSO
    clear hBG hok HP HD
    go_enter Tryz.func20, Tryz.ntmps20
    go_wp2_with fail
    refine (hSO _ (ext_alloc (ext_alloc (ext_alloc (ext_refl _) _) _) _)).mono ?_; rintro e1 w1 ⟨rfl, hx1⟩
    have X1 := ext_trans (ext_alloc (ext_alloc (ext_alloc (ext_refl w) _) _) _) hx1
    have G2 := keep_ext hx1 (hg_alloc (hg_alloc (hg_new (w := w) (b := w.heap.size) (x := .cells #[.slice a3 s.flash.length n3, .slice a4 s.disk.length n4] 31) rfl)))
    have G3 := keep_ext hx1 (hg_alloc (hg_new (b := w.heap.size + 1) (by simp)))
    have G4 := keep_ext hx1 (hg_new (b := w.heap.size + 1 + 1) (by simp))
    have s1 := hx1.size
    simp at s1
    clear hSO hx1
    obtain ⟨g4, gf4⟩ := cellsK G4
    go_wp2_with fail
    refine bodyPost_ret (v := nilStore) (by simp [results, Tryz.results20, go_sem, g4, gf4, nilStore]) rfl ⟨_, _, rfl, ?_, .inl ⟨rfl, rfl, rfl⟩, fun b hb => by cases hb⟩
    ((repeat (first | with_reducible (refine ext_set2 ?_ ?_); focus (first | exact Nat.le_refl _ | (dsimp only; omega) | (simp; omega)) | with_reducible refine ext_alloc2 ?_)); with_reducible exact X1)
end Go.Bu
