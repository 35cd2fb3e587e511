/- The law FnPairSteps holds of every input. -/import Derived.Test.YtcainddboblpbaaGreatZ9
set_option linter.unusedVariables false
set_option linter.unusedSimpArgs false
namespace Go.Bu
open Go Go.RowKit Go.Plan Go.Proofs
theorem put_A {p : Pair} (hok : pairOkB p = true) (h1 : p.lost ≠ 1) {cut : Int} (hc : 0 ≤ cut) (addr val : Int) (torn : Bool) : (pairPutV p addr val cut torn).A = toSteps p.A (putSteps2 p.A addr val) cut torn:=by
 rw [pairPut_of hok hc]
 unfold putV listA putSteps2
 rw [if_neg h1,if_pos (pOk_iff.1 hok).2.1]
theorem put_B {p : Pair} (hok : pairOkB p = true) (h1 : p.lost ≠ 1) {cut : Int} (hc : 0 ≤ cut) (addr val : Int) (torn : Bool) (hl : cut < (putSteps2 p.A addr val).length) : (pairPutV p addr val cut torn).B = p.B:=by
 rw [pairPut_of hok hc]
 unfold putSteps2 at hl
 rw [if_pos (pOk_iff.1 hok).2.1] at hl
 unfold putV listA
 rw [if_neg h1]
 dsimp only
 rw [if_neg (by omega)]
set_option maxRecDepth 20000 in
set_option maxHeartbeats 1000000 in
theorem lawPairSteps (v : Value) (xs : List Nat) (w : World) (h : Bytes (Old w) w v xs) (hs : ∀ x ∈ xs,x < 256) (hcap : ∀ a n c,v = .slice a n c → n ≤ c) :
  Calls Tryz.prog 4 #[v] w (Ret w (.bool true)):=by
 obtain ⟨a,cap,rfl⟩:=h.form
 by_cases hl : xs.length ≤ 1048576
 ·go_enter Tryz.func4,Tryz.ntmps4
  go_wp2_with fail
  refine (drawPairPut_c _ xs _ h hs hl hcap).mono ?_;rintro e1 wa ⟨v1,u1,p,rfl,hxa,hp,addr,val,cut,torn,A0,A1,B0,B1,C0,C1,rfl⟩
  obtain ⟨a1,n1,c1,b1,m1,k1,a2,n2,c2,b2,m2,k2,rfl⟩:=hp.forms
  have HP:=Lib.hid hp
  clear hp
  go_wp2_with fail
  refine (implPairPut_r addr val cut torn (HP.out.ext (ext_alloc (ext_refl _) _))).mono ?_;rintro e2 wb ⟨v2,rfl,hxb,hq⟩
  obtain ⟨a3,n3,c3,b3,m3,k3,a4,n4,c4,b4,m4,k4,rfl⟩:=hq.forms
  have Xab:=ext_trans (ext_alloc (ext_refl wa) _) hxb
  have G3:=keep_ext hxb (hg_new (b:=wa.heap.size) rfl)
  replace HP:=Lib.hid (HP.out.ext Xab)
  have HQ:=Lib.hid hq
  have X0 : Ext w wb:=ext_trans hxa Xab
  clear hxa hxb Xab hq
  obtain ⟨q,hqv⟩ : ∃ q,pairPutV p addr val cut torn = q:=⟨_,rfl⟩
  have HV:=Lib.hid hqv
  rw [hqv] at HQ
  rw [show (pairPutV p addr val cut torn).lost = q.lost by rw [hqv]]
  clear hqv
  go_wp2_with fail
  have GE : ∀ o w',Ext (wb.alloc o) w' → Ext wb w':=fun o w' h=>ext_trans (ext_alloc (ext_refl _) _) h
  have G5:=hg_new (w:=wb) (x:=.cells #[.slice a3 n3 c3,.slice b3 m3 k3,.slice a4 n4 c4,.slice b4 m4 k4,.int .i64 q.lost] 28) (b:=wb.heap.size) rfl
  replace G3:=hg_alloc (x:=.cells #[.slice a3 n3 c3,.slice b3 m3 k3,.slice a4 n4 c4,.slice b4 m4 k4,.int .i64 q.lost] 28) G3
  replace HP:=Lib.hid (HP.out.ext (GE (.cells #[.slice a3 n3 c3,.slice b3 m3 k3,.slice a4 n4 c4,.slice b4 m4 k4,.int .i64 q.lost] 28) _ (ext_refl _)))
  replace HQ:=Lib.hid (HQ.out.ext (GE (.cells #[.slice a3 n3 c3,.slice b3 m3 k3,.slice a4 n4 c4,.slice b4 m4 k4,.int .i64 q.lost] 28) _ (ext_refl _)))
  replace X0:=ext_alloc X0 (.cells #[.slice a3 n3 c3,.slice b3 m3 k3,.slice a4 n4 c4,.slice b4 m4 k4,.int .i64 q.lost] 28)
  clear GE
  generalize wb.alloc (.cells #[.slice a3 n3 c3,.slice b3 m3 k3,.slice a4 n4 c4,.slice b4 m4 k4,.int .i64 q.lost] 28) = wc at *
  by_cases hok : pairOkB p = true
  ·by_cases hc : cut < 0
   ·skip
    refine wp_region_ext [6,7,11] [0,1,2,3,4,5,6,7,8,9,10,11,12,13,14,15,16,17,18,19,20,21,22] [] [] (by kernel_rfl) (by kernel_rfl) ?late ?_
    case late=>exact fun f hf=>absurd hf List.not_mem_nil
    iterate 2
     refine Rob.y (v:=?_) rfl rfl (fun w1 hx hH=>?_) ?_;rotate_left
     ·(have hE : Ext wc w1:=(by first | exact hx | exact hx.1 | exact hx.1.1);obtain ⟨z3,zf3⟩:=cellsK (keep_ext hE G3);obtain ⟨z5,zf5⟩:=cellsK (keep_ext hE G5));go_simp;first | done | rfl
     simp only [Act.put,slA,slB,slC]
    iterate 4
     refine Rob.y (v:=?_) rfl rfl (fun w1 hx hH=>?_) ?_;rotate_left
     ·go_simp;first | done | rfl | exact (Bool.not_not _).symm
     simp only [Act.put,slA,slB,slC]
    refine Rob.c (fun _ _ v w'=>PairR w' v q) rfl rfl rfl (fun _ _=>(by intro h k;revert h;(repeat' (first | exact fun h=>ext_trans h k | exact fun h=>Ints.ext h k | exact fun h=>PairR.ext h k | exact fun h=>h.ext k | refine And.imp ?_ ?_)))) (fun _ _ _ _ _=>fun hh hx=>by first | exact Ints.ext hh hx | exact PairR.ext hh hx | exact hh.ext hx) (fun w1 hx hH=>?_) (fun lo6 hi6 v6 hlo6 hhi6 hv6=>?_)
    ·unfold RunTo;go_simp;exact (HV.out ▸ specPairPut_r addr val cut torn (HP.out.ext hx)).mono fun e w' h=>h.to
    simp only [Act.put,slA,slB,slC]
    refine Rob.cv (.bool true) rfl rfl rfl (fun _ _=>(by intro h k;revert h;(repeat' (first | exact fun h=>ext_trans h k | exact fun h=>Ints.ext h k | exact fun h=>PairR.ext h k | exact fun h=>h.ext k | refine And.imp ?_ ?_)))) (fun w1 hx hH=>?_) (fun lo7 hi7 hlo7 hhi7=>?_)
    ·unfold RunTo;go_simp;exact (lqPair_t (HQ.out.ext hx.1) hx.2).mono fun e w' h=>h.to
    simp only [Act.put,slA,slB,slC]
    iterate 2
     refine Rob.y (v:=?_) rfl rfl (fun w1 hx hH=>?_) ?_;rotate_left
     ·go_simp;first | done | rfl | exact (Bool.not_not _).symm
     simp only [Act.put,slA,slB,slC]
    refine Rob.yg (v:=?_) rfl rfl (fun w1 hx hH=>?_) ?_;rotate_left
    ·(have hE : Ext wc w1:=(by first | exact hx | exact hx.1 | exact hx.1.1);obtain ⟨z3,zf3⟩:=cellsK (keep_ext hE G3);obtain ⟨z5,zf5⟩:=cellsK (keep_ext hE G5));go_simp;first | done | rfl
    simp only [Act.put,slA,slB,slC]
    refine Rob.cv (.bool true) rfl rfl rfl (fun _ _=>(by intro h k;revert h;(repeat' (first | exact fun h=>ext_trans h k | exact fun h=>Ints.ext h k | exact fun h=>PairR.ext h k | exact fun h=>h.ext k | refine And.imp ?_ ?_)))) (fun w1 hx hH=>?_) (fun lo11 hi11 hlo11 hhi11=>?_)
    ·unfold RunTo;go_simp;exact (hok ▸ specPairOk_r (HP.out.ext hx.1)).mono fun e w' h=>h.to
    simp only [Act.put,slA,slB,slC]
    refine Rob.yg (v:=?_) rfl rfl (fun w1 hx hH=>?_) ?_;rotate_left
    ·go_simp;first | done | rfl | exact (Bool.not_not _).symm
    simp only [Act.put,slA,slB,slC]
    iterate 2
     refine Rob.y (v:=?_) rfl rfl (fun w1 hx hH=>?_) ?_;rotate_left
     ·go_simp;first | done | rfl | exact (Bool.not_not _).symm
     simp only [Act.put,slA,slB,slC]
    refine Rob.yg (v:=?_) rfl rfl (fun w1 hx hH=>?_) ?_;rotate_left
    ·go_simp;first | done | rfl | exact (Bool.not_not _).symm
    simp only [Act.put,slA,slB,slC]
    refine Rob.yg (v:=.bool true) rfl rfl (fun w1 hx hH=>?_) ?_
    ·go_simp;first | done | rfl | (simp;omega)
    simp only [Act.put,slA,slB,slC]
    iterate 2
     refine Rob.y (v:=?_) rfl rfl (fun w1 hx hH=>?_) ?_;rotate_left
     ·go_simp;first | done | rfl | exact (Bool.not_not _).symm
     simp only [Act.put,slA,slB,slC]
    iterate 3
     refine Rob.no rfl rfl ?_
     simp only [Act.put,slA,slB,slC]
    refine Rob.y (v:=?_) rfl rfl (fun w1 hx hH=>?_) ?_;rotate_left
    ·go_simp;first | done | rfl | exact (Bool.not_not _).symm
    simp only [Act.put,slA,slB,slC]
    refine fin_nil (fun wd hxd _=>?_)
    replace hxd:=hxd.1
    replace HP:=Lib.hid (HP.out.ext hxd)
    replace HQ:=Lib.hid (HQ.out.ext hxd)
    replace G3:=keep_ext hxd G3
    replace G5:=keep_ext hxd G5
    replace X0:=ext_trans X0 hxd
    clear hxd
    (try clear g3 gf3 g5 gf5 l3 l5)
    obtain ⟨g3,gf3⟩:=cellsK G3
    obtain ⟨g5,gf5⟩:=cellsK G5
    have l3:=heap_lt G3
    have l5:=heap_lt G5
    go_wp2_with fail
    refine wp_region_ext [6,7] [0,1,2,3,4,5,6,7,8] [] [] (by kernel_rfl) (by kernel_rfl) ?late ?_
    case late=>exact fun f hf=>absurd hf List.not_mem_nil
    iterate 2
     refine Rob.y (v:=?_) rfl rfl (fun w1 hx hH=>?_) ?_;rotate_left
     ·(have hE : Ext wd w1:=(by first | exact hx | exact hx.1 | exact hx.1.1);obtain ⟨z3,zf3⟩:=cellsK (keep_ext hE G3);obtain ⟨z5,zf5⟩:=cellsK (keep_ext hE G5));go_simp;first | done | rfl
     simp only [Act.put,slA,slB,slC]
    iterate 4
     refine Rob.y (v:=?_) rfl rfl (fun w1 hx hH=>?_) ?_;rotate_left
     ·go_simp;first | done | rfl | exact (Bool.not_not _).symm
     simp only [Act.put,slA,slB,slC]
    refine Rob.c (fun _ _ v w'=>PairR w' v q) rfl rfl rfl (fun _ _=>(by intro h k;revert h;(repeat' (first | exact fun h=>ext_trans h k | exact fun h=>Ints.ext h k | exact fun h=>PairR.ext h k | exact fun h=>h.ext k | refine And.imp ?_ ?_)))) (fun _ _ _ _ _=>fun hh hx=>by first | exact Ints.ext hh hx | exact PairR.ext hh hx | exact hh.ext hx) (fun w1 hx hH=>?_) (fun lo6 hi6 v6 hlo6 hhi6 hv6=>?_)
    ·unfold RunTo;go_simp;exact (HV.out ▸ specPairPut_r addr val cut torn (HP.out.ext hx)).mono fun e w' h=>h.to
    simp only [Act.put,slA,slB,slC]
    refine Rob.cv (.bool true) rfl rfl rfl (fun _ _=>(by intro h k;revert h;(repeat' (first | exact fun h=>ext_trans h k | exact fun h=>Ints.ext h k | exact fun h=>PairR.ext h k | exact fun h=>h.ext k | refine And.imp ?_ ?_)))) (fun w1 hx hH=>?_) (fun lo7 hi7 hlo7 hhi7=>?_)
    ·unfold RunTo;go_simp;exact (lqPair_t (HQ.out.ext hx.1) hx.2).mono fun e w' h=>h.to
    simp only [Act.put,slA,slB,slC]
    refine Rob.y (v:=?_) rfl rfl (fun w1 hx hH=>?_) ?_;rotate_left
    ·go_simp;first | done | rfl | exact (Bool.not_not _).symm
    simp only [Act.put,slA,slB,slC]
    refine fin_nil (fun we hxe _=>?_)
    replace hxe:=hxe.1
    go_wp2_with fail
    go_ret
    exact ⟨rfl,ext_trans X0 hxe⟩
   ·by_cases h1 : p.lost = 1
    ·have H1:=Lib.hid h1
     clear h1
     refine wp_region_ext [6,7,11] [0,1,2,3,4,5,6,7,8,9,10,11,12,13,14,15,16,17,18,19,20,21,22] [] [] (by kernel_rfl) (by kernel_rfl) ?late ?_
     case late=>exact fun f hf=>absurd hf List.not_mem_nil
     iterate 2
      refine Rob.y (v:=?_) rfl rfl (fun w1 hx hH=>?_) ?_;rotate_left
      ·(have hE : Ext wc w1:=(by first | exact hx | exact hx.1 | exact hx.1.1);obtain ⟨z3,zf3⟩:=cellsK (keep_ext hE G3);obtain ⟨z5,zf5⟩:=cellsK (keep_ext hE G5));go_simp;first | done | rfl
      simp only [Act.put,slA,slB,slC]
     iterate 4
      refine Rob.y (v:=?_) rfl rfl (fun w1 hx hH=>?_) ?_;rotate_left
      ·go_simp;first | done | rfl | exact (Bool.not_not _).symm
      simp only [Act.put,slA,slB,slC]
     refine Rob.c (fun _ _ v w'=>PairR w' v q) rfl rfl rfl (fun _ _=>(by intro h k;revert h;(repeat' (first | exact fun h=>ext_trans h k | exact fun h=>Ints.ext h k | exact fun h=>PairR.ext h k | exact fun h=>h.ext k | refine And.imp ?_ ?_)))) (fun _ _ _ _ _=>fun hh hx=>by first | exact Ints.ext hh hx | exact PairR.ext hh hx | exact hh.ext hx) (fun w1 hx hH=>?_) (fun lo6 hi6 v6 hlo6 hhi6 hv6=>?_)
     ·unfold RunTo;go_simp;exact (HV.out ▸ specPairPut_r addr val cut torn (HP.out.ext hx)).mono fun e w' h=>h.to
     simp only [Act.put,slA,slB,slC]
     refine Rob.cv (.bool true) rfl rfl rfl (fun _ _=>(by intro h k;revert h;(repeat' (first | exact fun h=>ext_trans h k | exact fun h=>Ints.ext h k | exact fun h=>PairR.ext h k | exact fun h=>h.ext k | refine And.imp ?_ ?_)))) (fun w1 hx hH=>?_) (fun lo7 hi7 hlo7 hhi7=>?_)
     ·unfold RunTo;go_simp;exact (lqPair_t (HQ.out.ext hx.1) hx.2).mono fun e w' h=>h.to
     simp only [Act.put,slA,slB,slC]
     iterate 2
      refine Rob.y (v:=?_) rfl rfl (fun w1 hx hH=>?_) ?_;rotate_left
      ·go_simp;first | done | rfl | exact (Bool.not_not _).symm
      simp only [Act.put,slA,slB,slC]
     refine Rob.yg (v:=?_) rfl rfl (fun w1 hx hH=>?_) ?_;rotate_left
     ·(have hE : Ext wc w1:=(by first | exact hx | exact hx.1 | exact hx.1.1);obtain ⟨z3,zf3⟩:=cellsK (keep_ext hE G3);obtain ⟨z5,zf5⟩:=cellsK (keep_ext hE G5));go_simp;first | done | rfl
     simp only [Act.put,slA,slB,slC]
     refine Rob.cv (.bool true) rfl rfl rfl (fun _ _=>(by intro h k;revert h;(repeat' (first | exact fun h=>ext_trans h k | exact fun h=>Ints.ext h k | exact fun h=>PairR.ext h k | exact fun h=>h.ext k | refine And.imp ?_ ?_)))) (fun w1 hx hH=>?_) (fun lo11 hi11 hlo11 hhi11=>?_)
     ·unfold RunTo;go_simp;exact (hok ▸ specPairOk_r (HP.out.ext hx.1)).mono fun e w' h=>h.to
     simp only [Act.put,slA,slB,slC]
     refine Rob.yg (v:=?_) rfl rfl (fun w1 hx hH=>?_) ?_;rotate_left
     ·go_simp;first | done | rfl | exact (Bool.not_not _).symm
     simp only [Act.put,slA,slB,slC]
     iterate 2
      refine Rob.y (v:=?_) rfl rfl (fun w1 hx hH=>?_) ?_;rotate_left
      ·go_simp;first | done | rfl | exact (Bool.not_not _).symm
      simp only [Act.put,slA,slB,slC]
     refine Rob.yg (v:=?_) rfl rfl (fun w1 hx hH=>?_) ?_;rotate_left
     ·go_simp;first | done | rfl | exact (Bool.not_not _).symm
     simp only [Act.put,slA,slB,slC]
     refine Rob.yg (v:=.bool false) rfl rfl (fun w1 hx hH=>?_) ?_
     ·go_simp;first | done | rfl | (simp;omega)
     simp only [Act.put,slA,slB,slC]
     iterate 2
      refine Rob.y (v:=?_) rfl rfl (fun w1 hx hH=>?_) ?_;rotate_left
      ·go_simp;first | done | rfl | exact (Bool.not_not _).symm
      simp only [Act.put,slA,slB,slC]
     refine Rob.yg (v:=?_) rfl rfl (fun w1 hx hH=>?_) ?_;rotate_left
     ·go_simp;first | done | rfl | exact (Bool.not_not _).symm
     simp only [Act.put,slA,slB,slC]
     refine Rob.yg (v:=?_) rfl rfl (fun w1 hx hH=>?_) ?_;rotate_left
     ·(have hE : Ext wc w1:=(by first | exact hx | exact hx.1 | exact hx.1.1);obtain ⟨z3,zf3⟩:=cellsK (keep_ext hE G3);obtain ⟨z5,zf5⟩:=cellsK (keep_ext hE G5));go_simp;first | done | rfl
     simp only [Act.put,slA,slB,slC]
     refine Rob.yg (v:=.bool true) rfl rfl (fun w1 hx hH=>?_) ?_
     ·(obtain ⟨z3,zf3⟩:=cellsK (keep_ext hx.1 G3));go_simp;first | done | rfl | simp [H1.out]
     simp only [Act.put,slA,slB,slC]
     refine Rob.y (v:=?_) rfl rfl (fun w1 hx hH=>?_) ?_;rotate_left
     ·go_simp;first | done | rfl | exact (Bool.not_not _).symm
     simp only [Act.put,slA,slB,slC]
     refine fin_nil (fun wd hxd _=>?_)
     replace hxd:=hxd.1
     replace HP:=Lib.hid (HP.out.ext hxd)
     replace HQ:=Lib.hid (HQ.out.ext hxd)
     replace G3:=keep_ext hxd G3
     replace G5:=keep_ext hxd G5
     replace X0:=ext_trans X0 hxd
     clear hxd
     (try clear g3 gf3 g5 gf5 l3 l5)
     obtain ⟨g3,gf3⟩:=cellsK G3
     obtain ⟨g5,gf5⟩:=cellsK G5
     have l3:=heap_lt G3
     have l5:=heap_lt G5
     go_wp2_with fail
     refine wp_region_ext [6,7] [0,1,2,3,4,5,6,7,8] [] [] (by kernel_rfl) (by kernel_rfl) ?late ?_
     case late=>exact fun f hf=>absurd hf List.not_mem_nil
     iterate 2
      refine Rob.y (v:=?_) rfl rfl (fun w1 hx hH=>?_) ?_;rotate_left
      ·(have hE : Ext wd w1:=(by first | exact hx | exact hx.1 | exact hx.1.1);obtain ⟨z3,zf3⟩:=cellsK (keep_ext hE G3);obtain ⟨z5,zf5⟩:=cellsK (keep_ext hE G5));go_simp;first | done | rfl
      simp only [Act.put,slA,slB,slC]
     iterate 4
      refine Rob.y (v:=?_) rfl rfl (fun w1 hx hH=>?_) ?_;rotate_left
      ·go_simp;first | done | rfl | exact (Bool.not_not _).symm
      simp only [Act.put,slA,slB,slC]
     refine Rob.c (fun _ _ v w'=>PairR w' v q) rfl rfl rfl (fun _ _=>(by intro h k;revert h;(repeat' (first | exact fun h=>ext_trans h k | exact fun h=>Ints.ext h k | exact fun h=>PairR.ext h k | exact fun h=>h.ext k | refine And.imp ?_ ?_)))) (fun _ _ _ _ _=>fun hh hx=>by first | exact Ints.ext hh hx | exact PairR.ext hh hx | exact hh.ext hx) (fun w1 hx hH=>?_) (fun lo6 hi6 v6 hlo6 hhi6 hv6=>?_)
     ·unfold RunTo;go_simp;exact (HV.out ▸ specPairPut_r addr val cut torn (HP.out.ext hx)).mono fun e w' h=>h.to
     simp only [Act.put,slA,slB,slC]
     refine Rob.cv (.bool true) rfl rfl rfl (fun _ _=>(by intro h k;revert h;(repeat' (first | exact fun h=>ext_trans h k | exact fun h=>Ints.ext h k | exact fun h=>PairR.ext h k | exact fun h=>h.ext k | refine And.imp ?_ ?_)))) (fun w1 hx hH=>?_) (fun lo7 hi7 hlo7 hhi7=>?_)
     ·unfold RunTo;go_simp;exact (lqPair_t (HQ.out.ext hx.1) hx.2).mono fun e w' h=>h.to
     simp only [Act.put,slA,slB,slC]
     refine Rob.y (v:=?_) rfl rfl (fun w1 hx hH=>?_) ?_;rotate_left
     ·go_simp;first | done | rfl | exact (Bool.not_not _).symm
     simp only [Act.put,slA,slB,slC]
     refine fin_nil (fun we hxe _=>?_)
     replace hxe:=hxe.1
     go_wp2_with fail
     go_ret
     exact ⟨rfl,ext_trans X0 hxe⟩
    ·have H1:=Lib.hid h1
     clear h1
     refine wp_region_ext [6,7,11] [0,1,2,3,4,5,6,7,8,9,10,11,12,13,14,15,16,17,18,19,20,21,22] [] [] (by kernel_rfl) (by kernel_rfl) ?late ?_
     case late=>exact fun f hf=>absurd hf List.not_mem_nil
     iterate 2
      refine Rob.y (v:=?_) rfl rfl (fun w1 hx hH=>?_) ?_;rotate_left
      ·(have hE : Ext wc w1:=(by first | exact hx | exact hx.1 | exact hx.1.1);obtain ⟨z3,zf3⟩:=cellsK (keep_ext hE G3);obtain ⟨z5,zf5⟩:=cellsK (keep_ext hE G5));go_simp;first | done | rfl
      simp only [Act.put,slA,slB,slC]
     iterate 4
      refine Rob.y (v:=?_) rfl rfl (fun w1 hx hH=>?_) ?_;rotate_left
      ·go_simp;first | done | rfl | exact (Bool.not_not _).symm
      simp only [Act.put,slA,slB,slC]
     refine Rob.c (fun _ _ v w'=>PairR w' v q) rfl rfl rfl (fun _ _=>(by intro h k;revert h;(repeat' (first | exact fun h=>ext_trans h k | exact fun h=>Ints.ext h k | exact fun h=>PairR.ext h k | exact fun h=>h.ext k | refine And.imp ?_ ?_)))) (fun _ _ _ _ _=>fun hh hx=>by first | exact Ints.ext hh hx | exact PairR.ext hh hx | exact hh.ext hx) (fun w1 hx hH=>?_) (fun lo6 hi6 v6 hlo6 hhi6 hv6=>?_)
     ·unfold RunTo;go_simp;exact (HV.out ▸ specPairPut_r addr val cut torn (HP.out.ext hx)).mono fun e w' h=>h.to
     simp only [Act.put,slA,slB,slC]
     refine Rob.cv (.bool true) rfl rfl rfl (fun _ _=>(by intro h k;revert h;(repeat' (first | exact fun h=>ext_trans h k | exact fun h=>Ints.ext h k | exact fun h=>PairR.ext h k | exact fun h=>h.ext k | refine And.imp ?_ ?_)))) (fun w1 hx hH=>?_) (fun lo7 hi7 hlo7 hhi7=>?_)
     ·unfold RunTo;go_simp;exact (lqPair_t (HQ.out.ext hx.1) hx.2).mono fun e w' h=>h.to
     simp only [Act.put,slA,slB,slC]
     iterate 2
      refine Rob.y (v:=?_) rfl rfl (fun w1 hx hH=>?_) ?_;rotate_left
      ·go_simp;first | done | rfl | exact (Bool.not_not _).symm
      simp only [Act.put,slA,slB,slC]
     refine Rob.yg (v:=?_) rfl rfl (fun w1 hx hH=>?_) ?_;rotate_left
     ·(have hE : Ext wc w1:=(by first | exact hx | exact hx.1 | exact hx.1.1);obtain ⟨z3,zf3⟩:=cellsK (keep_ext hE G3);obtain ⟨z5,zf5⟩:=cellsK (keep_ext hE G5));go_simp;first | done | rfl
     simp only [Act.put,slA,slB,slC]
     refine Rob.cv (.bool true) rfl rfl rfl (fun _ _=>(by intro h k;revert h;(repeat' (first | exact fun h=>ext_trans h k | exact fun h=>Ints.ext h k | exact fun h=>PairR.ext h k | exact fun h=>h.ext k | refine And.imp ?_ ?_)))) (fun w1 hx hH=>?_) (fun lo11 hi11 hlo11 hhi11=>?_)
     ·unfold RunTo;go_simp;exact (hok ▸ specPairOk_r (HP.out.ext hx.1)).mono fun e w' h=>h.to
     simp only [Act.put,slA,slB,slC]
     refine Rob.yg (v:=?_) rfl rfl (fun w1 hx hH=>?_) ?_;rotate_left
     ·go_simp;first | done | rfl | exact (Bool.not_not _).symm
     simp only [Act.put,slA,slB,slC]
     iterate 2
      refine Rob.y (v:=?_) rfl rfl (fun w1 hx hH=>?_) ?_;rotate_left
      ·go_simp;first | done | rfl | exact (Bool.not_not _).symm
      simp only [Act.put,slA,slB,slC]
     refine Rob.yg (v:=?_) rfl rfl (fun w1 hx hH=>?_) ?_;rotate_left
     ·go_simp;first | done | rfl | exact (Bool.not_not _).symm
     simp only [Act.put,slA,slB,slC]
     refine Rob.yg (v:=.bool false) rfl rfl (fun w1 hx hH=>?_) ?_
     ·go_simp;first | done | rfl | (simp;omega)
     simp only [Act.put,slA,slB,slC]
     iterate 2
      refine Rob.y (v:=?_) rfl rfl (fun w1 hx hH=>?_) ?_;rotate_left
      ·go_simp;first | done | rfl | exact (Bool.not_not _).symm
      simp only [Act.put,slA,slB,slC]
     refine Rob.yg (v:=?_) rfl rfl (fun w1 hx hH=>?_) ?_;rotate_left
     ·go_simp;first | done | rfl | exact (Bool.not_not _).symm
     simp only [Act.put,slA,slB,slC]
     refine Rob.yg (v:=?_) rfl rfl (fun w1 hx hH=>?_) ?_;rotate_left
     ·(have hE : Ext wc w1:=(by first | exact hx | exact hx.1 | exact hx.1.1);obtain ⟨z3,zf3⟩:=cellsK (keep_ext hE G3);obtain ⟨z5,zf5⟩:=cellsK (keep_ext hE G5));go_simp;first | done | rfl
     simp only [Act.put,slA,slB,slC]
     refine Rob.yg (v:=.bool false) rfl rfl (fun w1 hx hH=>?_) ?_
     ·(obtain ⟨z3,zf3⟩:=cellsK (keep_ext hx.1 G3));go_simp;first | done | rfl | simp [H1.out]
     simp only [Act.put,slA,slB,slC]
     refine Rob.y (v:=?_) rfl rfl (fun w1 hx hH=>?_) ?_;rotate_left
     ·go_simp;first | done | rfl | exact (Bool.not_not _).symm
     simp only [Act.put,slA,slB,slC]
     refine fin_nil (fun wd hxd _=>?_)
     replace hxd:=hxd.1
     have HO:=Lib.hid hok
     clear hok
     replace HP:=Lib.hid (HP.out.ext hxd)
     replace HQ:=Lib.hid (HQ.out.ext hxd)
     replace G3:=keep_ext hxd G3
     replace G5:=keep_ext hxd G5
     replace X0:=ext_trans X0 hxd
     clear hxd
     (try clear g3 gf3 g5 gf5 l3 l5)
     obtain ⟨g3,gf3⟩:=cellsK G3
     obtain ⟨g5,gf5⟩:=cellsK G5
     have l3:=heap_lt G3
     have l5:=heap_lt G5
     have hc0 : 0 ≤ cut:=by omega
     have HA:=Lib.hid HP.out.a
     have HQA : Hid (StoreR wd (.agg #[.slice a3 n3 c3,.slice b3 m3 k3]) (toSteps p.A (putSteps2 p.A addr val) cut torn)):=Lib.hid (by have:=HQ.out.a;rwa [← HV.out,put_A HO.out H1.out hc0] at this)
     have HQB : cut < (putSteps2 p.A addr val).length → Hid (StoreR wd (.agg #[.slice a4 n4 c4,.slice b4 m4 k4]) p.B):=fun hl=>Lib.hid (by have:=HQ.out.b;rwa [← HV.out,put_B HO.out H1.out hc0 addr val torn hl] at this)
     have HVV : Hid (∀ x ∈ putSteps2 p.A addr val,StepV x):=Lib.hid (by
      have:=(pOk_iff.1 HO.out).2.1
      unfold putSteps2;rw [if_pos this];exact write_V (flashOk_iff.1 (storeOk_P this).flash) _ _ _)
     go_wp2_with fail
     refine (implStepsPut_r addr val HA.out).mono ?_;rintro e3 we ⟨v3,rfl,hxe,hS,hl7⟩
     obtain ⟨a5,n5,rfl⟩:=hS.steps.form
     have HS:=Lib.hid hS.steps
     clear hS
     have HSO : Hid (storeOkB (toSteps p.A (putSteps2 p.A addr val) cut torn) = true):=Lib.hid (by
      have:=(pOk_iff.1 HO.out).2.1
      unfold putSteps2;rw [if_pos this];exact storeOk_putTo this _ _ _ _)
     generalize putSteps2 p.A addr val = sts at *
     have Xe : Ext wd we:=hxe
     replace HP:=Lib.hid (HP.out.ext hxe)
     replace HQ:=Lib.hid (HQ.out.ext hxe)
     replace G3:=keep_ext hxe G3
     replace G5:=keep_ext hxe G5
     replace X0:=ext_trans X0 hxe
     clear hxe
     (try clear g3 gf3 g5 gf5 l3 l5)
     obtain ⟨g3,gf3⟩:=cellsK G3
     obtain ⟨g5,gf5⟩:=cellsK G5
     have l3:=heap_lt G3
     have l5:=heap_lt G5
     have hT:=implStepsTo_c _ _ _ _ sts cut torn we (HA.out.ext Xe).read2.1 (pOk_iff.1 HO.out).2.1 HS.out HVV.out (by omega) ⟨hc0,by omega⟩
     go_wp2_with fail
     refine hT.mono ?_;rintro e4 wf ⟨f',d',L',rfl,hxf,hO,hn,hb⟩
     obtain ⟨a7,n7,c7,b7,m7,k7,rfl,rfl⟩:=hO.forms
     have Xf : Ext wd wf:=ext_trans Xe hxf
     have hTR : StoreR wf (.agg #[.slice a7 n7 c7,.slice b7 m7 k7]) (toSteps p.A sts cut torn):=⟨_,_,rfl,⟨hO.flash,hO.disk⟩,small_ok HSO.out⟩
     have HTR:=Lib.hid hTR
     replace HP:=Lib.hid (HP.out.ext hxf)
     replace HQ:=Lib.hid (HQ.out.ext hxf)
     replace G3:=keep_ext hxf G3
     replace G5:=keep_ext hxf G5
     replace X0:=ext_trans X0 hxf
     clear hxf
     (try clear g3 gf3 g5 gf5 l3 l5)
     obtain ⟨g3,gf3⟩:=cellsK G3
     obtain ⟨g5,gf5⟩:=cellsK G5
     have l3:=heap_lt G3
     have l5:=heap_lt G5
     clear hT hO hn hb hTR
     have G10:=hg_new (w:=wf) (x:=.cells #[.slice a7 n7 c7,.slice b7 m7 k7] 26) (b:=wf.heap.size) rfl
     have Y0 : Ext wf (wf.alloc (.cells #[.slice a7 n7 c7,.slice b7 m7 k7] 26)):=ext_alloc (ext_refl _) _
     have hE1:=fun (w' : World) (hx : Ext wf w')=>lqStore_R (HQA.out.ext (ext_trans Xf hx)) (HTR.out.ext hx)
     have HE1:=Lib.hid hE1
     clear hE1
     by_cases hlt : cut < sts.length
     ·have hE2:=fun (w' : World) (hx : Ext wf w')=>lqStore_R ((HQB hlt).out.ext (ext_trans Xf hx)) ((HP.out.b).ext hx)
      have HE2:=Lib.hid hE2
      clear hE2 HQB
      go_wp2_with fail
      refine (HE1.out _ Y0).mono ?_;rintro e5 wg ⟨rfl,hxg⟩
      have Y1:=ext_trans Y0 hxg
      clear g3 gf3 g5 gf5
      obtain ⟨g3,gf3⟩:=cellsK (keep_ext Y1 G3)
      obtain ⟨g5,gf5⟩:=cellsK (keep_ext Y1 G5)
      go_wp2_with fail
      refine (HE2.out _ Y1).mono ?_;rintro e6 wh ⟨rfl,hxh⟩
      go_wp2_with fail
      go_ret
      exact ⟨rfl,ext_trans X0 (ext_trans Y1 hxh)⟩
     ·clear HQB
      go_wp2_with fail
      refine (HE1.out _ Y0).mono ?_;rintro e5 wg ⟨rfl,hxg⟩
      have Y1:=ext_trans Y0 hxg
      clear g3 gf3 g5 gf5
      obtain ⟨g3,gf3⟩:=cellsK (keep_ext Y1 G3)
      obtain ⟨g5,gf5⟩:=cellsK (keep_ext Y1 G5)
      go_wp2_with fail
      go_ret
      exact ⟨rfl,ext_trans X0 Y1⟩
  ·rw [Bool.not_eq_true] at hok
   refine wp_region_ext [6,7,11] [0,1,2,3,4,5,6,7,8,9,10,11,12,13,14,15,16,17,18,19,20,21,22] [] [] (by kernel_rfl) (by kernel_rfl) ?late ?_
   case late=>exact fun f hf=>absurd hf List.not_mem_nil
   iterate 2
    refine Rob.y (v:=?_) rfl rfl (fun w1 hx hH=>?_) ?_;rotate_left
    ·(have hE : Ext wc w1:=(by first | exact hx | exact hx.1 | exact hx.1.1);obtain ⟨z3,zf3⟩:=cellsK (keep_ext hE G3);obtain ⟨z5,zf5⟩:=cellsK (keep_ext hE G5));go_simp;first | done | rfl
    simp only [Act.put,slA,slB,slC]
   iterate 4
    refine Rob.y (v:=?_) rfl rfl (fun w1 hx hH=>?_) ?_;rotate_left
    ·go_simp;first | done | rfl | exact (Bool.not_not _).symm
    simp only [Act.put,slA,slB,slC]
   refine Rob.c (fun _ _ v w'=>PairR w' v q) rfl rfl rfl (fun _ _=>(by intro h k;revert h;(repeat' (first | exact fun h=>ext_trans h k | exact fun h=>Ints.ext h k | exact fun h=>PairR.ext h k | exact fun h=>h.ext k | refine And.imp ?_ ?_)))) (fun _ _ _ _ _=>fun hh hx=>by first | exact Ints.ext hh hx | exact PairR.ext hh hx | exact hh.ext hx) (fun w1 hx hH=>?_) (fun lo6 hi6 v6 hlo6 hhi6 hv6=>?_)
   ·unfold RunTo;go_simp;exact (HV.out ▸ specPairPut_r addr val cut torn (HP.out.ext hx)).mono fun e w' h=>h.to
   simp only [Act.put,slA,slB,slC]
   refine Rob.cv (.bool true) rfl rfl rfl (fun _ _=>(by intro h k;revert h;(repeat' (first | exact fun h=>ext_trans h k | exact fun h=>Ints.ext h k | exact fun h=>PairR.ext h k | exact fun h=>h.ext k | refine And.imp ?_ ?_)))) (fun w1 hx hH=>?_) (fun lo7 hi7 hlo7 hhi7=>?_)
   ·unfold RunTo;go_simp;exact (lqPair_t (HQ.out.ext hx.1) hx.2).mono fun e w' h=>h.to
   simp only [Act.put,slA,slB,slC]
   iterate 2
    refine Rob.y (v:=?_) rfl rfl (fun w1 hx hH=>?_) ?_;rotate_left
    ·go_simp;first | done | rfl | exact (Bool.not_not _).symm
    simp only [Act.put,slA,slB,slC]
   refine Rob.yg (v:=?_) rfl rfl (fun w1 hx hH=>?_) ?_;rotate_left
   ·(have hE : Ext wc w1:=(by first | exact hx | exact hx.1 | exact hx.1.1);obtain ⟨z3,zf3⟩:=cellsK (keep_ext hE G3);obtain ⟨z5,zf5⟩:=cellsK (keep_ext hE G5));go_simp;first | done | rfl
   simp only [Act.put,slA,slB,slC]
   refine Rob.cv (.bool false) rfl rfl rfl (fun _ _=>(by intro h k;revert h;(repeat' (first | exact fun h=>ext_trans h k | exact fun h=>Ints.ext h k | exact fun h=>PairR.ext h k | exact fun h=>h.ext k | refine And.imp ?_ ?_)))) (fun w1 hx hH=>?_) (fun lo11 hi11 hlo11 hhi11=>?_)
   ·unfold RunTo;go_simp;exact (hok ▸ specPairOk_r (HP.out.ext hx.1)).mono fun e w' h=>h.to
   simp only [Act.put,slA,slB,slC]
   refine Rob.yg (v:=?_) rfl rfl (fun w1 hx hH=>?_) ?_;rotate_left
   ·go_simp;first | done | rfl | exact (Bool.not_not _).symm
   simp only [Act.put,slA,slB,slC]
   iterate 2
    refine Rob.y (v:=?_) rfl rfl (fun w1 hx hH=>?_) ?_;rotate_left
    ·go_simp;first | done | rfl | exact (Bool.not_not _).symm
    simp only [Act.put,slA,slB,slC]
   iterate 2
    refine Rob.no rfl rfl ?_
    simp only [Act.put,slA,slB,slC]
   iterate 2
    refine Rob.y (v:=?_) rfl rfl (fun w1 hx hH=>?_) ?_;rotate_left
    ·go_simp;first | done | rfl | exact (Bool.not_not _).symm
    simp only [Act.put,slA,slB,slC]
   iterate 3
    refine Rob.no rfl rfl ?_
    simp only [Act.put,slA,slB,slC]
   refine Rob.y (v:=?_) rfl rfl (fun w1 hx hH=>?_) ?_;rotate_left
   ·go_simp;first | done | rfl | exact (Bool.not_not _).symm
   simp only [Act.put,slA,slB,slC]
   refine fin_nil (fun wd hxd _=>?_)
   replace hxd:=hxd.1
   replace HP:=Lib.hid (HP.out.ext hxd)
   replace HQ:=Lib.hid (HQ.out.ext hxd)
   replace G3:=keep_ext hxd G3
   replace G5:=keep_ext hxd G5
   replace X0:=ext_trans X0 hxd
   clear hxd
   (try clear g3 gf3 g5 gf5 l3 l5)
   obtain ⟨g3,gf3⟩:=cellsK G3
   obtain ⟨g5,gf5⟩:=cellsK G5
   have l3:=heap_lt G3
   have l5:=heap_lt G5
   go_wp2_with fail
   refine wp_region_ext [6,7] [0,1,2,3,4,5,6,7,8] [] [] (by kernel_rfl) (by kernel_rfl) ?late ?_
   case late=>exact fun f hf=>absurd hf List.not_mem_nil
   iterate 2
    refine Rob.y (v:=?_) rfl rfl (fun w1 hx hH=>?_) ?_;rotate_left
    ·(have hE : Ext wd w1:=(by first | exact hx | exact hx.1 | exact hx.1.1);obtain ⟨z3,zf3⟩:=cellsK (keep_ext hE G3);obtain ⟨z5,zf5⟩:=cellsK (keep_ext hE G5));go_simp;first | done | rfl
    simp only [Act.put,slA,slB,slC]
   iterate 4
    refine Rob.y (v:=?_) rfl rfl (fun w1 hx hH=>?_) ?_;rotate_left
    ·go_simp;first | done | rfl | exact (Bool.not_not _).symm
    simp only [Act.put,slA,slB,slC]
   refine Rob.c (fun _ _ v w'=>PairR w' v q) rfl rfl rfl (fun _ _=>(by intro h k;revert h;(repeat' (first | exact fun h=>ext_trans h k | exact fun h=>Ints.ext h k | exact fun h=>PairR.ext h k | exact fun h=>h.ext k | refine And.imp ?_ ?_)))) (fun _ _ _ _ _=>fun hh hx=>by first | exact Ints.ext hh hx | exact PairR.ext hh hx | exact hh.ext hx) (fun w1 hx hH=>?_) (fun lo6 hi6 v6 hlo6 hhi6 hv6=>?_)
   ·unfold RunTo;go_simp;exact (HV.out ▸ specPairPut_r addr val cut torn (HP.out.ext hx)).mono fun e w' h=>h.to
   simp only [Act.put,slA,slB,slC]
   refine Rob.cv (.bool true) rfl rfl rfl (fun _ _=>(by intro h k;revert h;(repeat' (first | exact fun h=>ext_trans h k | exact fun h=>Ints.ext h k | exact fun h=>PairR.ext h k | exact fun h=>h.ext k | refine And.imp ?_ ?_)))) (fun w1 hx hH=>?_) (fun lo7 hi7 hlo7 hhi7=>?_)
   ·unfold RunTo;go_simp;exact (lqPair_t (HQ.out.ext hx.1) hx.2).mono fun e w' h=>h.to
   simp only [Act.put,slA,slB,slC]
   refine Rob.y (v:=?_) rfl rfl (fun w1 hx hH=>?_) ?_;rotate_left
   ·go_simp;first | done | rfl | exact (Bool.not_not _).symm
   simp only [Act.put,slA,slB,slC]
   refine fin_nil (fun we hxe _=>?_)
   replace hxe:=hxe.1
   go_wp2_with fail
   go_ret
   exact ⟨rfl,ext_trans X0 hxe⟩
 ·go_enter Tryz.func4,Tryz.ntmps4
  go_wp2_with fail
  all_goals
   go_ret
   exact ⟨rfl,ext_refl _⟩
end Go.Bu