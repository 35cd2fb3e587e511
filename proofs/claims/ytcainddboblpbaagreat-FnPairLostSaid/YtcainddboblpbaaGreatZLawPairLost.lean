/- The law FnPairLost holds of every input. -/import Derived.Test.YtcainddboblpbaaGreatZ9
set_option linter.unusedVariables false
set_option linter.unusedSimpArgs false
namespace Go.Bu
open Go Go.RowKit Go.Plan Go.Proofs
set_option maxRecDepth 20000 in
set_option maxHeartbeats 1000000 in
theorem lawPairLost (v : Value) (xs : List Nat) (u : Value) (ys : List Nat) (w : World) (h : Bytes (Old w) w v xs) (hs : ∀ x ∈ xs,x < 256) (hcap : ∀ a n c,v = .slice a n c → n ≤ c) (h2 : Bytes (Old w) w u ys) (_ : ∀ x ∈ ys,x < 256) (_ : ∀ a n c,u = .slice a n c → n ≤ c) :
  Calls Tryz.prog 6 #[v,u] w (Ret w (.bool true)):=by
 obtain ⟨a,cap,rfl⟩:=h.form
 obtain ⟨ay,capy,rfl⟩:=h2.form
 by_cases hl : xs.length ≤ 1048576
 ·by_cases hl2 : ys.length ≤ 1048576
  ·go_enter Tryz.func6,Tryz.ntmps6
   go_wp2_with fail
   refine (drawPairLose_c _ xs _ h hs hl hcap).mono ?_;rintro e1 wa ⟨v1,u1,p,rfl,hxa,hp,which,q0,q1,rfl⟩
   obtain ⟨a1,n1,c1,b1,m1,k1,a2,n2,c2,b2,m2,k2,rfl⟩:=hp.forms
   have HP:=Lib.hid hp
   clear hp
   go_wp2_with fail
   refine (implPairLose_r which (HP.out.ext (ext_alloc (ext_refl _) _))).mono ?_;rintro e2 wb ⟨v2,rfl,hxb,hq⟩
   obtain ⟨a3,n3,c3,b3,m3,k3,a4,n4,c4,b4,m4,k4,rfl⟩:=hq.forms
   have Xab:=ext_trans (ext_alloc (ext_refl wa) _) hxb
   have G3:=keep_ext hxb (hg_new (b:=wa.heap.size) rfl)
   replace HP:=Lib.hid (HP.out.ext Xab)
   have HQ:=Lib.hid hq
   have X0 : Ext w wb:=ext_trans hxa Xab
   clear hxa hxb Xab hq
   obtain ⟨q,hqv⟩ : ∃ q,pairLoseV p which = q:=⟨_,rfl⟩
   have HV:=Lib.hid hqv
   rw [hqv] at HQ
   rw [show (pairLoseV p which).lost = q.lost by rw [hqv]]
   clear hqv
   go_wp2_with fail
   have GE : ∀ o w',Ext (wb.alloc o) w' → Ext wb w':=fun o w' h=>ext_trans (ext_alloc (ext_refl _) _) h
   have G5:=hg_new (w:=wb) (x:=.cells #[.slice a3 n3 c3,.slice b3 m3 k3,.slice a4 n4 c4,.slice b4 m4 k4,.int .i64 q.lost] 28) (b:=wb.heap.size) rfl
   replace G3:=hg_alloc (x:=.cells #[.slice a3 n3 c3,.slice b3 m3 k3,.slice a4 n4 c4,.slice b4 m4 k4,.int .i64 q.lost] 28) G3
   replace HP:=Lib.hid (HP.out.ext (GE (.cells #[.slice a3 n3 c3,.slice b3 m3 k3,.slice a4 n4 c4,.slice b4 m4 k4,.int .i64 q.lost] 28) _ (ext_refl _)))
   replace HQ:=Lib.hid (HQ.out.ext (GE (.cells #[.slice a3 n3 c3,.slice b3 m3 k3,.slice a4 n4 c4,.slice b4 m4 k4,.int .i64 q.lost] 28) _ (ext_refl _)))
   replace X0:=ext_alloc X0 (.cells #[.slice a3 n3 c3,.slice b3 m3 k3,.slice a4 n4 c4,.slice b4 m4 k4,.int .i64 q.lost] 28)
   clear GE
   generalize wb.alloc (.cells #[.slice a3 n3 c3,.slice b3 m3 k3,.slice a4 n4 c4,.slice b4 m4 k4,.int .i64 q.lost] 28) = wc at *
   by_cases hok : pairOkB p = true
   ·by_cases hw : which ≤ 2
    ·have hb1 : decide (which < 1) = false:=by simp;omega
     have hb2 : decide (which > 2) = false:=by simp;omega
     by_cases h0 : 0 < p.lost
     ·skip
      refine wp_region_ext [3,4,8] [0,1,2,3,4,5,6,7,8,9,10,11,12,13,14,15,16,17,18,19,20,21,22,23] [] [] (by kernel_rfl) (by kernel_rfl) ?late ?_
      case late=>exact fun f hf=>absurd hf List.not_mem_nil
      iterate 2
       refine Rob.y (v:=?_) rfl rfl (fun w1 hx hH=>?_) ?_;rotate_left
       ·(have hE : Ext wc w1:=(by first | exact hx | exact hx.1 | exact hx.1.1);obtain ⟨z3,zf3⟩:=cellsK (keep_ext hE G3);obtain ⟨z5,zf5⟩:=cellsK (keep_ext hE G5));go_simp;first | done | rfl
       simp only [Act.put,slA,slB,slC]
      refine Rob.y (v:=?_) rfl rfl (fun w1 hx hH=>?_) ?_;rotate_left
      ·go_simp;first | done | rfl | exact (Bool.not_not _).symm
      simp only [Act.put,slA,slB,slC]
      refine Rob.c (fun _ _ v w'=>PairR w' v q) rfl rfl rfl (fun _ _=>(by intro h k;revert h;(repeat' (first | exact fun h=>ext_trans h k | exact fun h=>Ints.ext h k | exact fun h=>PairR.ext h k | exact fun h=>h.ext k | refine And.imp ?_ ?_)))) (fun _ _ _ _ _=>fun hh hx=>by first | exact Ints.ext hh hx | exact PairR.ext hh hx | exact hh.ext hx) (fun w1 hx hH=>?_) (fun lo3 hi3 v3 hlo3 hhi3 hv3=>?_)
      ·unfold RunTo;go_simp;exact (HV.out ▸ specPairLose_r which (HP.out.ext hx)).mono fun e w' h=>h.to
      simp only [Act.put,slA,slB,slC]
      refine Rob.cv (.bool true) rfl rfl rfl (fun _ _=>(by intro h k;revert h;(repeat' (first | exact fun h=>ext_trans h k | exact fun h=>Ints.ext h k | exact fun h=>PairR.ext h k | exact fun h=>h.ext k | refine And.imp ?_ ?_)))) (fun w1 hx hH=>?_) (fun lo4 hi4 hlo4 hhi4=>?_)
      ·unfold RunTo;go_simp;exact (lqPair_t (HQ.out.ext hx.1) hx.2).mono fun e w' h=>h.to
      simp only [Act.put,slA,slB,slC]
      iterate 2
       refine Rob.y (v:=?_) rfl rfl (fun w1 hx hH=>?_) ?_;rotate_left
       ·go_simp;first | done | rfl | exact (Bool.not_not _).symm
       simp only [Act.put,slA,slB,slC]
      refine Rob.yg (v:=?_) rfl rfl (fun w1 hx hH=>?_) ?_;rotate_left
      ·(have hE : Ext wc w1:=(by first | exact hx | exact hx.1 | exact hx.1.1);obtain ⟨z3,zf3⟩:=cellsK (keep_ext hE G3);obtain ⟨z5,zf5⟩:=cellsK (keep_ext hE G5));go_simp;first | done | rfl
      simp only [Act.put,slA,slB,slC]
      refine Rob.cv (.bool true) rfl rfl rfl (fun _ _=>(by intro h k;revert h;(repeat' (first | exact fun h=>ext_trans h k | exact fun h=>Ints.ext h k | exact fun h=>PairR.ext h k | exact fun h=>h.ext k | refine And.imp ?_ ?_)))) (fun w1 hx hH=>?_) (fun lo8 hi8 hlo8 hhi8=>?_)
      ·unfold RunTo;go_simp;exact (hok ▸ specPairOk_r (HP.out.ext hx.1)).mono fun e w' h=>h.to
      simp only [Act.put,slA,slB,slC]
      refine Rob.yg (v:=?_) rfl rfl (fun w1 hx hH=>?_) ?_;rotate_left
      ·go_simp;first | done | rfl | exact (Bool.not_not _).symm
      simp only [Act.put,slA,slB,slC]
      iterate 2
       refine Rob.y (v:=?_) rfl rfl (fun w1 hx hH=>?_) ?_;rotate_left
       ·go_simp;first | done | rfl | exact (Bool.not_not _).symm
       simp only [Act.put,slA,slB,slC]
      refine Rob.yg (v:=?_) rfl rfl (fun w1 hx hH=>?_) ?_;rotate_left
      ·go_simp;first | done | rfl | exact (Bool.not_not _).symm
      simp only [Act.put,slA,slB,slC]
      refine Rob.yg (v:=.bool false) rfl rfl (fun w1 hx hH=>?_) ?_
      ·go_simp;first | done | exact hb1 | simp [hb1]
      simp only [Act.put,slA,slB,slC]
      iterate 2
       refine Rob.y (v:=?_) rfl rfl (fun w1 hx hH=>?_) ?_;rotate_left
       ·go_simp;first | done | rfl | exact (Bool.not_not _).symm
       simp only [Act.put,slA,slB,slC]
      refine Rob.yg (v:=?_) rfl rfl (fun w1 hx hH=>?_) ?_;rotate_left
      ·go_simp;first | done | rfl | exact (Bool.not_not _).symm
      simp only [Act.put,slA,slB,slC]
      refine Rob.yg (v:=.bool false) rfl rfl (fun w1 hx hH=>?_) ?_
      ·go_simp;first | done | exact hb2 | simp [hb2]
      simp only [Act.put,slA,slB,slC]
      iterate 2
       refine Rob.y (v:=?_) rfl rfl (fun w1 hx hH=>?_) ?_;rotate_left
       ·go_simp;first | done | rfl | exact (Bool.not_not _).symm
       simp only [Act.put,slA,slB,slC]
      refine Rob.yg (v:=?_) rfl rfl (fun w1 hx hH=>?_) ?_;rotate_left
      ·go_simp;first | done | rfl | exact (Bool.not_not _).symm
      simp only [Act.put,slA,slB,slC]
      refine Rob.yg (v:=?_) rfl rfl (fun w1 hx hH=>?_) ?_;rotate_left
      ·(have hE : Ext wc w1:=(by first | exact hx | exact hx.1 | exact hx.1.1);obtain ⟨z3,zf3⟩:=cellsK (keep_ext hE G3);obtain ⟨z5,zf5⟩:=cellsK (keep_ext hE G5));go_simp;first | done | rfl
      simp only [Act.put,slA,slB,slC]
      refine Rob.yg (v:=.bool true) rfl rfl (fun w1 hx hH=>?_) ?_
      ·(obtain ⟨z3,zf3⟩:=cellsK (keep_ext hx.1 G3));go_simp;first | done | rfl | (simp;omega)
      simp only [Act.put,slA,slB,slC]
      refine Rob.y (v:=?_) rfl rfl (fun w1 hx hH=>?_) ?_;rotate_left
      ·go_simp;first | done | rfl | exact (Bool.not_not _).symm
      simp only [Act.put,slA,slB,slC]
      refine fin_nil (fun wd hxd _=>?_)
      replace hxd:=hxd.1
      clear hb1 hb2
      replace HP:=Lib.hid (HP.out.ext hxd)
      replace HQ:=Lib.hid (HQ.out.ext hxd)
      replace G3:=keep_ext hxd G3
      replace G5:=keep_ext hxd G5
      replace X0:=ext_trans X0 hxd
      clear hxd
      (try clear g3 gf3 g5 gf5 l3 l5)
      obtain ⟨g3,gf3⟩:=cellsK G3
      obtain ⟨g5,gf5⟩:=cellsK G5
      have l3:=heap_lt G3
      have l5:=heap_lt G5
      go_wp2_with fail
      refine wp_region_ext [3,4] [0,1,2,3,4,5] [] [] (by kernel_rfl) (by kernel_rfl) ?late ?_
      case late=>exact fun f hf=>absurd hf List.not_mem_nil
      iterate 2
       refine Rob.y (v:=?_) rfl rfl (fun w1 hx hH=>?_) ?_;rotate_left
       ·(have hE : Ext wd w1:=(by first | exact hx | exact hx.1 | exact hx.1.1);obtain ⟨z3,zf3⟩:=cellsK (keep_ext hE G3);obtain ⟨z5,zf5⟩:=cellsK (keep_ext hE G5));go_simp;first | done | rfl
       simp only [Act.put,slA,slB,slC]
      refine Rob.y (v:=?_) rfl rfl (fun w1 hx hH=>?_) ?_;rotate_left
      ·go_simp;first | done | rfl | exact (Bool.not_not _).symm
      simp only [Act.put,slA,slB,slC]
      refine Rob.c (fun _ _ v w'=>PairR w' v q) rfl rfl rfl (fun _ _=>(by intro h k;revert h;(repeat' (first | exact fun h=>ext_trans h k | exact fun h=>Ints.ext h k | exact fun h=>PairR.ext h k | exact fun h=>h.ext k | refine And.imp ?_ ?_)))) (fun _ _ _ _ _=>fun hh hx=>by first | exact Ints.ext hh hx | exact PairR.ext hh hx | exact hh.ext hx) (fun w1 hx hH=>?_) (fun lo3 hi3 v3 hlo3 hhi3 hv3=>?_)
      ·unfold RunTo;go_simp;exact (HV.out ▸ specPairLose_r which (HP.out.ext hx)).mono fun e w' h=>h.to
      simp only [Act.put,slA,slB,slC]
      refine Rob.cv (.bool true) rfl rfl rfl (fun _ _=>(by intro h k;revert h;(repeat' (first | exact fun h=>ext_trans h k | exact fun h=>Ints.ext h k | exact fun h=>PairR.ext h k | exact fun h=>h.ext k | refine And.imp ?_ ?_)))) (fun w1 hx hH=>?_) (fun lo4 hi4 hlo4 hhi4=>?_)
      ·unfold RunTo;go_simp;exact (lqPair_t (HQ.out.ext hx.1) hx.2).mono fun e w' h=>h.to
      simp only [Act.put,slA,slB,slC]
      refine Rob.y (v:=?_) rfl rfl (fun w1 hx hH=>?_) ?_;rotate_left
      ·go_simp;first | done | rfl | exact (Bool.not_not _).symm
      simp only [Act.put,slA,slB,slC]
      refine fin_nil (fun we hxe _=>?_)
      replace hxe:=hxe.1
      go_wp2_with fail
      go_ret
      exact ⟨rfl,ext_trans X0 hxe⟩
     ·skip
      refine wp_region_ext [3,4,8] [0,1,2,3,4,5,6,7,8,9,10,11,12,13,14,15,16,17,18,19,20,21,22,23] [] [] (by kernel_rfl) (by kernel_rfl) ?late ?_
      case late=>exact fun f hf=>absurd hf List.not_mem_nil
      iterate 2
       refine Rob.y (v:=?_) rfl rfl (fun w1 hx hH=>?_) ?_;rotate_left
       ·(have hE : Ext wc w1:=(by first | exact hx | exact hx.1 | exact hx.1.1);obtain ⟨z3,zf3⟩:=cellsK (keep_ext hE G3);obtain ⟨z5,zf5⟩:=cellsK (keep_ext hE G5));go_simp;first | done | rfl
       simp only [Act.put,slA,slB,slC]
      refine Rob.y (v:=?_) rfl rfl (fun w1 hx hH=>?_) ?_;rotate_left
      ·go_simp;first | done | rfl | exact (Bool.not_not _).symm
      simp only [Act.put,slA,slB,slC]
      refine Rob.c (fun _ _ v w'=>PairR w' v q) rfl rfl rfl (fun _ _=>(by intro h k;revert h;(repeat' (first | exact fun h=>ext_trans h k | exact fun h=>Ints.ext h k | exact fun h=>PairR.ext h k | exact fun h=>h.ext k | refine And.imp ?_ ?_)))) (fun _ _ _ _ _=>fun hh hx=>by first | exact Ints.ext hh hx | exact PairR.ext hh hx | exact hh.ext hx) (fun w1 hx hH=>?_) (fun lo3 hi3 v3 hlo3 hhi3 hv3=>?_)
      ·unfold RunTo;go_simp;exact (HV.out ▸ specPairLose_r which (HP.out.ext hx)).mono fun e w' h=>h.to
      simp only [Act.put,slA,slB,slC]
      refine Rob.cv (.bool true) rfl rfl rfl (fun _ _=>(by intro h k;revert h;(repeat' (first | exact fun h=>ext_trans h k | exact fun h=>Ints.ext h k | exact fun h=>PairR.ext h k | exact fun h=>h.ext k | refine And.imp ?_ ?_)))) (fun w1 hx hH=>?_) (fun lo4 hi4 hlo4 hhi4=>?_)
      ·unfold RunTo;go_simp;exact (lqPair_t (HQ.out.ext hx.1) hx.2).mono fun e w' h=>h.to
      simp only [Act.put,slA,slB,slC]
      iterate 2
       refine Rob.y (v:=?_) rfl rfl (fun w1 hx hH=>?_) ?_;rotate_left
       ·go_simp;first | done | rfl | exact (Bool.not_not _).symm
       simp only [Act.put,slA,slB,slC]
      refine Rob.yg (v:=?_) rfl rfl (fun w1 hx hH=>?_) ?_;rotate_left
      ·(have hE : Ext wc w1:=(by first | exact hx | exact hx.1 | exact hx.1.1);obtain ⟨z3,zf3⟩:=cellsK (keep_ext hE G3);obtain ⟨z5,zf5⟩:=cellsK (keep_ext hE G5));go_simp;first | done | rfl
      simp only [Act.put,slA,slB,slC]
      refine Rob.cv (.bool true) rfl rfl rfl (fun _ _=>(by intro h k;revert h;(repeat' (first | exact fun h=>ext_trans h k | exact fun h=>Ints.ext h k | exact fun h=>PairR.ext h k | exact fun h=>h.ext k | refine And.imp ?_ ?_)))) (fun w1 hx hH=>?_) (fun lo8 hi8 hlo8 hhi8=>?_)
      ·unfold RunTo;go_simp;exact (hok ▸ specPairOk_r (HP.out.ext hx.1)).mono fun e w' h=>h.to
      simp only [Act.put,slA,slB,slC]
      refine Rob.yg (v:=?_) rfl rfl (fun w1 hx hH=>?_) ?_;rotate_left
      ·go_simp;first | done | rfl | exact (Bool.not_not _).symm
      simp only [Act.put,slA,slB,slC]
      iterate 2
       refine Rob.y (v:=?_) rfl rfl (fun w1 hx hH=>?_) ?_;rotate_left
       ·go_simp;first | done | rfl | exact (Bool.not_not _).symm
       simp only [Act.put,slA,slB,slC]
      refine Rob.yg (v:=?_) rfl rfl (fun w1 hx hH=>?_) ?_;rotate_left
      ·go_simp;first | done | rfl | exact (Bool.not_not _).symm
      simp only [Act.put,slA,slB,slC]
      refine Rob.yg (v:=.bool false) rfl rfl (fun w1 hx hH=>?_) ?_
      ·go_simp;first | done | exact hb1 | simp [hb1]
      simp only [Act.put,slA,slB,slC]
      iterate 2
       refine Rob.y (v:=?_) rfl rfl (fun w1 hx hH=>?_) ?_;rotate_left
       ·go_simp;first | done | rfl | exact (Bool.not_not _).symm
       simp only [Act.put,slA,slB,slC]
      refine Rob.yg (v:=?_) rfl rfl (fun w1 hx hH=>?_) ?_;rotate_left
      ·go_simp;first | done | rfl | exact (Bool.not_not _).symm
      simp only [Act.put,slA,slB,slC]
      refine Rob.yg (v:=.bool false) rfl rfl (fun w1 hx hH=>?_) ?_
      ·go_simp;first | done | exact hb2 | simp [hb2]
      simp only [Act.put,slA,slB,slC]
      iterate 2
       refine Rob.y (v:=?_) rfl rfl (fun w1 hx hH=>?_) ?_;rotate_left
       ·go_simp;first | done | rfl | exact (Bool.not_not _).symm
       simp only [Act.put,slA,slB,slC]
      refine Rob.yg (v:=?_) rfl rfl (fun w1 hx hH=>?_) ?_;rotate_left
      ·go_simp;first | done | rfl | exact (Bool.not_not _).symm
      simp only [Act.put,slA,slB,slC]
      refine Rob.yg (v:=?_) rfl rfl (fun w1 hx hH=>?_) ?_;rotate_left
      ·(have hE : Ext wc w1:=(by first | exact hx | exact hx.1 | exact hx.1.1);obtain ⟨z3,zf3⟩:=cellsK (keep_ext hE G3);obtain ⟨z5,zf5⟩:=cellsK (keep_ext hE G5));go_simp;first | done | rfl
      simp only [Act.put,slA,slB,slC]
      refine Rob.yg (v:=.bool false) rfl rfl (fun w1 hx hH=>?_) ?_
      ·(obtain ⟨z3,zf3⟩:=cellsK (keep_ext hx.1 G3));go_simp;first | done | rfl | (simp;omega)
      simp only [Act.put,slA,slB,slC]
      refine Rob.y (v:=?_) rfl rfl (fun w1 hx hH=>?_) ?_;rotate_left
      ·go_simp;first | done | rfl | exact (Bool.not_not _).symm
      simp only [Act.put,slA,slB,slC]
      refine fin_nil (fun wd hxd _=>?_)
      replace hxd:=hxd.1
      clear hb1 hb2
      replace HP:=Lib.hid (HP.out.ext hxd)
      replace HQ:=Lib.hid (HQ.out.ext hxd)
      replace G3:=keep_ext hxd G3
      replace G5:=keep_ext hxd G5
      replace X0:=ext_trans X0 hxd
      clear hxd
      (try clear g3 gf3 g5 gf5 l3 l5)
      obtain ⟨g3,gf3⟩:=cellsK G3
      obtain ⟨g5,gf5⟩:=cellsK G5
      have l3:=heap_lt G3
      have l5:=heap_lt G5
      have hl0 : p.lost = 0:=by have:=(pOk_iff.1 hok).1;omega
      have hVV:=HV.out
      rw [pairLoseV_whole hok q0 hw hl0] at hVV
      have HVV:=Lib.hid hVV
      have HQO : Hid (pairOkB q = true):=Lib.hid (by rw [← HV.out];exact pOk_lose hok ⟨q0,hw⟩)
      clear hVV hl0 h0 hok
      have hm0 : (0 : Int) ≤ (ys.length : Int) % 6:=by omega
      have hm1 : (ys.length : Int) % 6 < 6:=by omega
      go_wp2_with fail
      refine (implPairPut_r (1 + (ys.length : Int) % 6) 3 99 false HQ.out).mono ?_;rintro e3 we ⟨v3,rfl,hxe,hy⟩
      obtain ⟨a5,n5,c5,b5,m5,k5,a6,n6,c6,b6,m6,k6,rfl⟩:=hy.forms
      rw [pairPut_of HQO.out (by decide)] at hy ⊢
      obtain ⟨y,hyv⟩ : ∃ y,putV q (1 + (ys.length : Int) % 6) 3 99 false = y:=⟨_,rfl⟩
      have HYV:=Lib.hid hyv
      rw [hyv] at hy ⊢
      have HY:=Lib.hid hy
      clear hyv hy
      replace HP:=Lib.hid (HP.out.ext hxe)
      replace HQ:=Lib.hid (HQ.out.ext hxe)
      replace G3:=keep_ext hxe G3
      replace G5:=keep_ext hxe G5
      replace X0:=ext_trans X0 hxe
      clear hxe
      rcases (show which = 1 ∨ which = 2 by omega) with hwh | hwh
      ·have hq1 : q = ⟨newStore,p.B,1⟩:=by rw [← HVV.out,if_pos hwh]
       have hyA : y.A = newStore:=by rw [← HYV.out,hq1];unfold putV listA;rw [if_pos rfl,toSteps_none]
       have hxA : q.A = newStore:=by rw [hq1]
       have hxB : q.B = p.B:=by rw [hq1]
       have HPB:=Lib.hid HP.out.b
       have HQA:=Lib.hid (hxA ▸ HQ.out.a)
       have HQB:=Lib.hid (hxB ▸ HQ.out.b)
       have HYA:=Lib.hid (hyA ▸ HY.out.a)
       clear hq1 hyA hxA hxB HVV HV HYV
       subst hwh
       (try clear g3 gf3 g5 gf5 l3 l5)
       obtain ⟨g3,gf3⟩:=cellsK G3
       obtain ⟨g5,gf5⟩:=cellsK G5
       have l3:=heap_lt G3
       have l5:=heap_lt G5
       go_wp2_with fail
       have G8:=hg_new (w:=we) (x:=.cells #[.slice a5 n5 c5,.slice b5 m5 k5,.slice a6 n6 c6,.slice b6 m6 k6,.int .i64 y.lost] 28) (b:=we.heap.size) rfl
       have Y : Ext we (we.alloc (.cells #[.slice a5 n5 c5,.slice b5 m5 k5,.slice a6 n6 c6,.slice b6 m6 k6,.int .i64 y.lost] 28)):=ext_alloc (ext_refl _) _
       replace G3:=keep_ext Y G3
       replace G5:=keep_ext Y G5
       replace X0:=ext_trans X0 Y
       replace HPB:=Lib.hid (HPB.out.ext Y)
       replace HQA:=Lib.hid (HQA.out.ext Y)
       replace HQB:=Lib.hid (HQB.out.ext Y)
       replace HYA:=Lib.hid (HYA.out.ext Y)
       clear Y HP HQ HY g3 gf3 g5 gf5 l3 l5
       generalize we.alloc (.cells #[.slice a5 n5 c5,.slice b5 m5 k5,.slice a6 n6 c6,.slice b6 m6 k6,.int .i64 y.lost] 28) = wg at *
       refine wp_region_ext [2,3,9,16] [0,1,2,3,4,5,6,7,8,9,10,11,12,13,14,15,16,17,18] [] [] (by kernel_rfl) (by kernel_rfl) ?late ?_
       case late=>exact fun f hf=>absurd hf List.not_mem_nil
       refine Rob.y (v:=?_) rfl rfl (fun w1 hx hH=>?_) ?_;rotate_left
       ·go_simp;first | done | rfl | exact (Bool.not_not _).symm
       simp only [Act.put,slA,slB,slC]
       refine Rob.y (v:=?_) rfl rfl (fun w1 hx hH=>?_) ?_;rotate_left
       ·(have hE : Ext wg w1:=(by first | exact hx | exact hx.1);obtain ⟨z3,zf3⟩:=cellsK (keep_ext hE G3);obtain ⟨z5,zf5⟩:=cellsK (keep_ext hE G5);obtain ⟨z8,zf8⟩:=cellsK (keep_ext hE G8));go_simp;first | done | rfl
       simp only [Act.put,slA,slB,slC]
       refine Rob.c (fun _ _ v w'=>StoreR w' v newStore) rfl rfl rfl (fun _ _=>(by intro h k;revert h;(repeat' (first | exact fun h=>ext_trans h k | exact fun h=>Ints.ext h k | exact fun h=>PairR.ext h k | exact fun h=>h.ext k | refine And.imp ?_ ?_)))) (fun _ _ _ _ _=>fun hh hx=>by first | exact Ints.ext hh hx | exact PairR.ext hh hx | exact hh.ext hx) (fun w1 hx hH=>?_) (fun lo2 hi2 v2 hlo2 hhi2 hv2=>?_)
       ·unfold RunTo;go_simp;exact (implStoreNew_R _).mono fun e w' h=>h.to
       simp only [Act.put,slA,slB,slC]
       refine Rob.cv (.bool true) rfl rfl rfl (fun _ _=>(by intro h k;revert h;(repeat' (first | exact fun h=>ext_trans h k | exact fun h=>Ints.ext h k | exact fun h=>PairR.ext h k | exact fun h=>h.ext k | refine And.imp ?_ ?_)))) (fun w1 hx hH=>?_) (fun lo3 hi3 hlo3 hhi3=>?_)
       ·unfold RunTo;go_simp;exact (lqStore_R (HQA.out.ext hx.1) hx.2).mono fun e w' h=>h.to
       simp only [Act.put,slA,slB,slC]
       refine Rob.y (v:=?_) rfl rfl (fun w1 hx hH=>?_) ?_;rotate_left
       ·go_simp;first | done | rfl | exact (Bool.not_not _).symm
       simp only [Act.put,slA,slB,slC]
       refine Rob.yg (v:=?_) rfl rfl (fun w1 hx hH=>?_) ?_;rotate_left
       ·go_simp;first | done | rfl | exact (Bool.not_not _).symm
       simp only [Act.put,slA,slB,slC]
       refine Rob.yg (v:=?_) rfl rfl (fun w1 hx hH=>?_) ?_;rotate_left
       ·(have hE : Ext wg w1:=(by first | exact hx | exact hx.1);obtain ⟨z3,zf3⟩:=cellsK (keep_ext hE G3);obtain ⟨z5,zf5⟩:=cellsK (keep_ext hE G5);obtain ⟨z8,zf8⟩:=cellsK (keep_ext hE G8));go_simp;first | done | rfl
       simp only [Act.put,slA,slB,slC]
       refine Rob.yg (v:=?_) rfl rfl (fun w1 hx hH=>?_) ?_;rotate_left
       ·go_simp;first | done | rfl | exact (Bool.not_not _).symm
       simp only [Act.put,slA,slB,slC]
       refine Rob.yg (v:=?_) rfl rfl (fun w1 hx hH=>?_) ?_;rotate_left
       ·(have hE : Ext wg w1:=(by first | exact hx | exact hx.1);obtain ⟨z3,zf3⟩:=cellsK (keep_ext hE G3);obtain ⟨z5,zf5⟩:=cellsK (keep_ext hE G5);obtain ⟨z8,zf8⟩:=cellsK (keep_ext hE G8));go_simp;first | done | rfl
       simp only [Act.put,slA,slB,slC]
       refine Rob.cv (.bool true) rfl rfl rfl (fun _ _=>(by intro h k;revert h;(repeat' (first | exact fun h=>ext_trans h k | exact fun h=>Ints.ext h k | exact fun h=>PairR.ext h k | exact fun h=>h.ext k | refine And.imp ?_ ?_)))) (fun w1 hx hH=>?_) (fun lo9 hi9 hlo9 hhi9=>?_)
       ·unfold RunTo;go_simp;exact (lqStore_R (HQB.out.ext hx.1) (HPB.out.ext hx.1)).mono fun e w' h=>h.to
       simp only [Act.put,slA,slB,slC]
       iterate 2
        refine Rob.y (v:=?_) rfl rfl (fun w1 hx hH=>?_) ?_;rotate_left
        ·go_simp;first | done | rfl | exact (Bool.not_not _).symm
        simp only [Act.put,slA,slB,slC]
       refine Rob.yg (v:=?_) rfl rfl (fun w1 hx hH=>?_) ?_;rotate_left
       ·go_simp;first | done | rfl | exact (Bool.not_not _).symm
       simp only [Act.put,slA,slB,slC]
       refine Rob.yg (v:=?_) rfl rfl (fun w1 hx hH=>?_) ?_;rotate_left
       ·(have hE : Ext wg w1:=(by first | exact hx | exact hx.1);obtain ⟨z3,zf3⟩:=cellsK (keep_ext hE G3);obtain ⟨z5,zf5⟩:=cellsK (keep_ext hE G5);obtain ⟨z8,zf8⟩:=cellsK (keep_ext hE G8));go_simp;first | done | rfl
       simp only [Act.put,slA,slB,slC]
       refine Rob.yg (v:=?_) rfl rfl (fun w1 hx hH=>?_) ?_;rotate_left
       ·go_simp;first | done | rfl | exact (Bool.not_not _).symm
       simp only [Act.put,slA,slB,slC]
       refine Rob.yg (v:=?_) rfl rfl (fun w1 hx hH=>?_) ?_;rotate_left
       ·(have hE : Ext wg w1:=(by first | exact hx | exact hx.1);obtain ⟨z3,zf3⟩:=cellsK (keep_ext hE G3);obtain ⟨z5,zf5⟩:=cellsK (keep_ext hE G5);obtain ⟨z8,zf8⟩:=cellsK (keep_ext hE G8));go_simp;first | done | rfl
       simp only [Act.put,slA,slB,slC]
       refine Rob.cv (.bool true) rfl rfl rfl (fun _ _=>(by intro h k;revert h;(repeat' (first | exact fun h=>ext_trans h k | exact fun h=>Ints.ext h k | exact fun h=>PairR.ext h k | exact fun h=>h.ext k | refine And.imp ?_ ?_)))) (fun w1 hx hH=>?_) (fun lo16 hi16 hlo16 hhi16=>?_)
       ·unfold RunTo;go_simp;exact (lqStore_R (HYA.out.ext hx.1) (HQA.out.ext hx.1)).mono fun e w' h=>h.to
       simp only [Act.put,slA,slB,slC]
       iterate 2
        refine Rob.y (v:=?_) rfl rfl (fun w1 hx hH=>?_) ?_;rotate_left
        ·go_simp;first | done | rfl | exact (Bool.not_not _).symm
        simp only [Act.put,slA,slB,slC]
       refine fin_nil (fun wh hxh _=>?_)
       replace hxh:=hxh.1
       go_wp2_with fail
       go_ret
       exact ⟨rfl,ext_trans X0 hxh⟩
      ·have hq1 : q = ⟨p.A,newStore,2⟩:=by rw [← HVV.out,if_neg (by omega)]
       have hyB : y.B = newStore:=by
        rw [← HYV.out,hq1];unfold putV
        rw [show listB ⟨p.A,newStore,2⟩ (1 + (ys.length : Int) % 6) 3 = [] by unfold listB;rw [if_pos rfl],toSteps_none]
        dsimp only;split <;> rfl
       have hxA : q.A = p.A:=by rw [hq1]
       have hxB : q.B = newStore:=by rw [hq1]
       have HPA:=Lib.hid HP.out.a
       have HQA:=Lib.hid (hxA ▸ HQ.out.a)
       have HQB:=Lib.hid (hxB ▸ HQ.out.b)
       have HYB:=Lib.hid (hyB ▸ HY.out.b)
       clear hq1 hyB hxA hxB HVV HV HYV
       subst hwh
       (try clear g3 gf3 g5 gf5 l3 l5)
       obtain ⟨g3,gf3⟩:=cellsK G3
       obtain ⟨g5,gf5⟩:=cellsK G5
       have l3:=heap_lt G3
       have l5:=heap_lt G5
       go_wp2_with fail
       have G8:=hg_new (w:=we) (x:=.cells #[.slice a5 n5 c5,.slice b5 m5 k5,.slice a6 n6 c6,.slice b6 m6 k6,.int .i64 y.lost] 28) (b:=we.heap.size) rfl
       have Y : Ext we (we.alloc (.cells #[.slice a5 n5 c5,.slice b5 m5 k5,.slice a6 n6 c6,.slice b6 m6 k6,.int .i64 y.lost] 28)):=ext_alloc (ext_refl _) _
       replace G3:=keep_ext Y G3
       replace G5:=keep_ext Y G5
       replace X0:=ext_trans X0 Y
       replace HPA:=Lib.hid (HPA.out.ext Y)
       replace HQA:=Lib.hid (HQA.out.ext Y)
       replace HQB:=Lib.hid (HQB.out.ext Y)
       replace HYB:=Lib.hid (HYB.out.ext Y)
       clear Y HP HQ HY g3 gf3 g5 gf5 l3 l5
       generalize we.alloc (.cells #[.slice a5 n5 c5,.slice b5 m5 k5,.slice a6 n6 c6,.slice b6 m6 k6,.int .i64 y.lost] 28) = wg at *
       refine wp_region_ext [2,3,9,16] [0,1,2,3,4,5,6,7,8,9,10,11,12,13,14,15,16,17,18] [] [] (by kernel_rfl) (by kernel_rfl) ?late ?_
       case late=>exact fun f hf=>absurd hf List.not_mem_nil
       refine Rob.y (v:=?_) rfl rfl (fun w1 hx hH=>?_) ?_;rotate_left
       ·go_simp;first | done | rfl | exact (Bool.not_not _).symm
       simp only [Act.put,slA,slB,slC]
       refine Rob.y (v:=?_) rfl rfl (fun w1 hx hH=>?_) ?_;rotate_left
       ·(have hE : Ext wg w1:=(by first | exact hx | exact hx.1);obtain ⟨z3,zf3⟩:=cellsK (keep_ext hE G3);obtain ⟨z5,zf5⟩:=cellsK (keep_ext hE G5);obtain ⟨z8,zf8⟩:=cellsK (keep_ext hE G8));go_simp;first | done | rfl
       simp only [Act.put,slA,slB,slC]
       refine Rob.c (fun _ _ v w'=>StoreR w' v newStore) rfl rfl rfl (fun _ _=>(by intro h k;revert h;(repeat' (first | exact fun h=>ext_trans h k | exact fun h=>Ints.ext h k | exact fun h=>PairR.ext h k | exact fun h=>h.ext k | refine And.imp ?_ ?_)))) (fun _ _ _ _ _=>fun hh hx=>by first | exact Ints.ext hh hx | exact PairR.ext hh hx | exact hh.ext hx) (fun w1 hx hH=>?_) (fun lo2 hi2 v2 hlo2 hhi2 hv2=>?_)
       ·unfold RunTo;go_simp;exact (implStoreNew_R _).mono fun e w' h=>h.to
       simp only [Act.put,slA,slB,slC]
       refine Rob.cv (.bool true) rfl rfl rfl (fun _ _=>(by intro h k;revert h;(repeat' (first | exact fun h=>ext_trans h k | exact fun h=>Ints.ext h k | exact fun h=>PairR.ext h k | exact fun h=>h.ext k | refine And.imp ?_ ?_)))) (fun w1 hx hH=>?_) (fun lo3 hi3 hlo3 hhi3=>?_)
       ·unfold RunTo;go_simp;exact (lqStore_R (HQB.out.ext hx.1) hx.2).mono fun e w' h=>h.to
       simp only [Act.put,slA,slB,slC]
       refine Rob.y (v:=?_) rfl rfl (fun w1 hx hH=>?_) ?_;rotate_left
       ·go_simp;first | done | rfl | exact (Bool.not_not _).symm
       simp only [Act.put,slA,slB,slC]
       refine Rob.yg (v:=?_) rfl rfl (fun w1 hx hH=>?_) ?_;rotate_left
       ·go_simp;first | done | rfl | exact (Bool.not_not _).symm
       simp only [Act.put,slA,slB,slC]
       refine Rob.yg (v:=?_) rfl rfl (fun w1 hx hH=>?_) ?_;rotate_left
       ·(have hE : Ext wg w1:=(by first | exact hx | exact hx.1);obtain ⟨z3,zf3⟩:=cellsK (keep_ext hE G3);obtain ⟨z5,zf5⟩:=cellsK (keep_ext hE G5);obtain ⟨z8,zf8⟩:=cellsK (keep_ext hE G8));go_simp;first | done | rfl
       simp only [Act.put,slA,slB,slC]
       refine Rob.yg (v:=?_) rfl rfl (fun w1 hx hH=>?_) ?_;rotate_left
       ·go_simp;first | done | rfl | exact (Bool.not_not _).symm
       simp only [Act.put,slA,slB,slC]
       refine Rob.yg (v:=?_) rfl rfl (fun w1 hx hH=>?_) ?_;rotate_left
       ·(have hE : Ext wg w1:=(by first | exact hx | exact hx.1);obtain ⟨z3,zf3⟩:=cellsK (keep_ext hE G3);obtain ⟨z5,zf5⟩:=cellsK (keep_ext hE G5);obtain ⟨z8,zf8⟩:=cellsK (keep_ext hE G8));go_simp;first | done | rfl
       simp only [Act.put,slA,slB,slC]
       refine Rob.cv (.bool true) rfl rfl rfl (fun _ _=>(by intro h k;revert h;(repeat' (first | exact fun h=>ext_trans h k | exact fun h=>Ints.ext h k | exact fun h=>PairR.ext h k | exact fun h=>h.ext k | refine And.imp ?_ ?_)))) (fun w1 hx hH=>?_) (fun lo9 hi9 hlo9 hhi9=>?_)
       ·unfold RunTo;go_simp;exact (lqStore_R (HQA.out.ext hx.1) (HPA.out.ext hx.1)).mono fun e w' h=>h.to
       simp only [Act.put,slA,slB,slC]
       iterate 2
        refine Rob.y (v:=?_) rfl rfl (fun w1 hx hH=>?_) ?_;rotate_left
        ·go_simp;first | done | rfl | exact (Bool.not_not _).symm
        simp only [Act.put,slA,slB,slC]
       refine Rob.yg (v:=?_) rfl rfl (fun w1 hx hH=>?_) ?_;rotate_left
       ·go_simp;first | done | rfl | exact (Bool.not_not _).symm
       simp only [Act.put,slA,slB,slC]
       refine Rob.yg (v:=?_) rfl rfl (fun w1 hx hH=>?_) ?_;rotate_left
       ·(have hE : Ext wg w1:=(by first | exact hx | exact hx.1);obtain ⟨z3,zf3⟩:=cellsK (keep_ext hE G3);obtain ⟨z5,zf5⟩:=cellsK (keep_ext hE G5);obtain ⟨z8,zf8⟩:=cellsK (keep_ext hE G8));go_simp;first | done | rfl
       simp only [Act.put,slA,slB,slC]
       refine Rob.yg (v:=?_) rfl rfl (fun w1 hx hH=>?_) ?_;rotate_left
       ·go_simp;first | done | rfl | exact (Bool.not_not _).symm
       simp only [Act.put,slA,slB,slC]
       refine Rob.yg (v:=?_) rfl rfl (fun w1 hx hH=>?_) ?_;rotate_left
       ·(have hE : Ext wg w1:=(by first | exact hx | exact hx.1);obtain ⟨z3,zf3⟩:=cellsK (keep_ext hE G3);obtain ⟨z5,zf5⟩:=cellsK (keep_ext hE G5);obtain ⟨z8,zf8⟩:=cellsK (keep_ext hE G8));go_simp;first | done | rfl
       simp only [Act.put,slA,slB,slC]
       refine Rob.cv (.bool true) rfl rfl rfl (fun _ _=>(by intro h k;revert h;(repeat' (first | exact fun h=>ext_trans h k | exact fun h=>Ints.ext h k | exact fun h=>PairR.ext h k | exact fun h=>h.ext k | refine And.imp ?_ ?_)))) (fun w1 hx hH=>?_) (fun lo16 hi16 hlo16 hhi16=>?_)
       ·unfold RunTo;go_simp;exact (lqStore_R (HYB.out.ext hx.1) (HQB.out.ext hx.1)).mono fun e w' h=>h.to
       simp only [Act.put,slA,slB,slC]
       iterate 2
        refine Rob.y (v:=?_) rfl rfl (fun w1 hx hH=>?_) ?_;rotate_left
        ·go_simp;first | done | rfl | exact (Bool.not_not _).symm
        simp only [Act.put,slA,slB,slC]
       refine fin_nil (fun wh hxh _=>?_)
       replace hxh:=hxh.1
       go_wp2_with fail
       go_ret
       exact ⟨rfl,ext_trans X0 hxh⟩
    ·have hb1 : decide (which < 1) = false:=by simp;omega
     have hb2 : decide (which > 2) = true:=by simp;omega
     refine wp_region_ext [3,4,8] [0,1,2,3,4,5,6,7,8,9,10,11,12,13,14,15,16,17,18,19,20,21,22,23] [] [] (by kernel_rfl) (by kernel_rfl) ?late ?_
     case late=>exact fun f hf=>absurd hf List.not_mem_nil
     iterate 2
      refine Rob.y (v:=?_) rfl rfl (fun w1 hx hH=>?_) ?_;rotate_left
      ·(have hE : Ext wc w1:=(by first | exact hx | exact hx.1 | exact hx.1.1);obtain ⟨z3,zf3⟩:=cellsK (keep_ext hE G3);obtain ⟨z5,zf5⟩:=cellsK (keep_ext hE G5));go_simp;first | done | rfl
      simp only [Act.put,slA,slB,slC]
     refine Rob.y (v:=?_) rfl rfl (fun w1 hx hH=>?_) ?_;rotate_left
     ·go_simp;first | done | rfl | exact (Bool.not_not _).symm
     simp only [Act.put,slA,slB,slC]
     refine Rob.c (fun _ _ v w'=>PairR w' v q) rfl rfl rfl (fun _ _=>(by intro h k;revert h;(repeat' (first | exact fun h=>ext_trans h k | exact fun h=>Ints.ext h k | exact fun h=>PairR.ext h k | exact fun h=>h.ext k | refine And.imp ?_ ?_)))) (fun _ _ _ _ _=>fun hh hx=>by first | exact Ints.ext hh hx | exact PairR.ext hh hx | exact hh.ext hx) (fun w1 hx hH=>?_) (fun lo3 hi3 v3 hlo3 hhi3 hv3=>?_)
     ·unfold RunTo;go_simp;exact (HV.out ▸ specPairLose_r which (HP.out.ext hx)).mono fun e w' h=>h.to
     simp only [Act.put,slA,slB,slC]
     refine Rob.cv (.bool true) rfl rfl rfl (fun _ _=>(by intro h k;revert h;(repeat' (first | exact fun h=>ext_trans h k | exact fun h=>Ints.ext h k | exact fun h=>PairR.ext h k | exact fun h=>h.ext k | refine And.imp ?_ ?_)))) (fun w1 hx hH=>?_) (fun lo4 hi4 hlo4 hhi4=>?_)
     ·unfold RunTo;go_simp;exact (lqPair_t (HQ.out.ext hx.1) hx.2).mono fun e w' h=>h.to
     simp only [Act.put,slA,slB,slC]
     iterate 2
      refine Rob.y (v:=?_) rfl rfl (fun w1 hx hH=>?_) ?_;rotate_left
      ·go_simp;first | done | rfl | exact (Bool.not_not _).symm
      simp only [Act.put,slA,slB,slC]
     refine Rob.yg (v:=?_) rfl rfl (fun w1 hx hH=>?_) ?_;rotate_left
     ·(have hE : Ext wc w1:=(by first | exact hx | exact hx.1 | exact hx.1.1);obtain ⟨z3,zf3⟩:=cellsK (keep_ext hE G3);obtain ⟨z5,zf5⟩:=cellsK (keep_ext hE G5));go_simp;first | done | rfl
     simp only [Act.put,slA,slB,slC]
     refine Rob.cv (.bool true) rfl rfl rfl (fun _ _=>(by intro h k;revert h;(repeat' (first | exact fun h=>ext_trans h k | exact fun h=>Ints.ext h k | exact fun h=>PairR.ext h k | exact fun h=>h.ext k | refine And.imp ?_ ?_)))) (fun w1 hx hH=>?_) (fun lo8 hi8 hlo8 hhi8=>?_)
     ·unfold RunTo;go_simp;exact (hok ▸ specPairOk_r (HP.out.ext hx.1)).mono fun e w' h=>h.to
     simp only [Act.put,slA,slB,slC]
     refine Rob.yg (v:=?_) rfl rfl (fun w1 hx hH=>?_) ?_;rotate_left
     ·go_simp;first | done | rfl | exact (Bool.not_not _).symm
     simp only [Act.put,slA,slB,slC]
     iterate 2
      refine Rob.y (v:=?_) rfl rfl (fun w1 hx hH=>?_) ?_;rotate_left
      ·go_simp;first | done | rfl | exact (Bool.not_not _).symm
      simp only [Act.put,slA,slB,slC]
     refine Rob.yg (v:=?_) rfl rfl (fun w1 hx hH=>?_) ?_;rotate_left
     ·go_simp;first | done | rfl | exact (Bool.not_not _).symm
     simp only [Act.put,slA,slB,slC]
     refine Rob.yg (v:=.bool false) rfl rfl (fun w1 hx hH=>?_) ?_
     ·go_simp;first | done | exact hb1 | simp [hb1]
     simp only [Act.put,slA,slB,slC]
     iterate 2
      refine Rob.y (v:=?_) rfl rfl (fun w1 hx hH=>?_) ?_;rotate_left
      ·go_simp;first | done | rfl | exact (Bool.not_not _).symm
      simp only [Act.put,slA,slB,slC]
     refine Rob.yg (v:=?_) rfl rfl (fun w1 hx hH=>?_) ?_;rotate_left
     ·go_simp;first | done | rfl | exact (Bool.not_not _).symm
     simp only [Act.put,slA,slB,slC]
     refine Rob.yg (v:=.bool true) rfl rfl (fun w1 hx hH=>?_) ?_
     ·go_simp;first | done | exact hb2 | simp [hb2] | (simp;omega)
     simp only [Act.put,slA,slB,slC]
     iterate 2
      refine Rob.y (v:=?_) rfl rfl (fun w1 hx hH=>?_) ?_;rotate_left
      ·go_simp;first | done | rfl | exact (Bool.not_not _).symm
      simp only [Act.put,slA,slB,slC]
     iterate 3
      refine Rob.no rfl rfl ?_
      simp only [Act.put,slA,slB,slC]
     refine Rob.y (v:=?_) rfl rfl (fun w1 hx hH=>?_) ?_;rotate_left
     ·go_simp;first | done | rfl | exact (Bool.not_not _).symm
     simp only [Act.put,slA,slB,slC]
     refine fin_nil (fun wd hxd _=>?_)
     replace hxd:=hxd.1
     clear hb1 hb2
     replace HP:=Lib.hid (HP.out.ext hxd)
     replace HQ:=Lib.hid (HQ.out.ext hxd)
     replace G3:=keep_ext hxd G3
     replace G5:=keep_ext hxd G5
     replace X0:=ext_trans X0 hxd
     clear hxd
     (try clear g3 gf3 g5 gf5 l3 l5)
     obtain ⟨g3,gf3⟩:=cellsK G3
     obtain ⟨g5,gf5⟩:=cellsK G5
     have l3:=heap_lt G3
     have l5:=heap_lt G5
     go_wp2_with fail
     refine wp_region_ext [3,4] [0,1,2,3,4,5] [] [] (by kernel_rfl) (by kernel_rfl) ?late ?_
     case late=>exact fun f hf=>absurd hf List.not_mem_nil
     iterate 2
      refine Rob.y (v:=?_) rfl rfl (fun w1 hx hH=>?_) ?_;rotate_left
      ·(have hE : Ext wd w1:=(by first | exact hx | exact hx.1 | exact hx.1.1);obtain ⟨z3,zf3⟩:=cellsK (keep_ext hE G3);obtain ⟨z5,zf5⟩:=cellsK (keep_ext hE G5));go_simp;first | done | rfl
      simp only [Act.put,slA,slB,slC]
     refine Rob.y (v:=?_) rfl rfl (fun w1 hx hH=>?_) ?_;rotate_left
     ·go_simp;first | done | rfl | exact (Bool.not_not _).symm
     simp only [Act.put,slA,slB,slC]
     refine Rob.c (fun _ _ v w'=>PairR w' v q) rfl rfl rfl (fun _ _=>(by intro h k;revert h;(repeat' (first | exact fun h=>ext_trans h k | exact fun h=>Ints.ext h k | exact fun h=>PairR.ext h k | exact fun h=>h.ext k | refine And.imp ?_ ?_)))) (fun _ _ _ _ _=>fun hh hx=>by first | exact Ints.ext hh hx | exact PairR.ext hh hx | exact hh.ext hx) (fun w1 hx hH=>?_) (fun lo3 hi3 v3 hlo3 hhi3 hv3=>?_)
     ·unfold RunTo;go_simp;exact (HV.out ▸ specPairLose_r which (HP.out.ext hx)).mono fun e w' h=>h.to
     simp only [Act.put,slA,slB,slC]
     refine Rob.cv (.bool true) rfl rfl rfl (fun _ _=>(by intro h k;revert h;(repeat' (first | exact fun h=>ext_trans h k | exact fun h=>Ints.ext h k | exact fun h=>PairR.ext h k | exact fun h=>h.ext k | refine And.imp ?_ ?_)))) (fun w1 hx hH=>?_) (fun lo4 hi4 hlo4 hhi4=>?_)
     ·unfold RunTo;go_simp;exact (lqPair_t (HQ.out.ext hx.1) hx.2).mono fun e w' h=>h.to
     simp only [Act.put,slA,slB,slC]
     refine Rob.y (v:=?_) rfl rfl (fun w1 hx hH=>?_) ?_;rotate_left
     ·go_simp;first | done | rfl | exact (Bool.not_not _).symm
     simp only [Act.put,slA,slB,slC]
     refine fin_nil (fun we hxe _=>?_)
     replace hxe:=hxe.1
     go_wp2_with fail
     go_ret
     exact ⟨rfl,ext_trans X0 hxe⟩
   ·rw [Bool.not_eq_true] at hok
    refine wp_region_ext [3,4,8] [0,1,2,3,4,5,6,7,8,9,10,11,12,13,14,15,16,17,18,19,20,21,22,23] [] [] (by kernel_rfl) (by kernel_rfl) ?late ?_
    case late=>exact fun f hf=>absurd hf List.not_mem_nil
    iterate 2
     refine Rob.y (v:=?_) rfl rfl (fun w1 hx hH=>?_) ?_;rotate_left
     ·(have hE : Ext wc w1:=(by first | exact hx | exact hx.1 | exact hx.1.1);obtain ⟨z3,zf3⟩:=cellsK (keep_ext hE G3);obtain ⟨z5,zf5⟩:=cellsK (keep_ext hE G5));go_simp;first | done | rfl
     simp only [Act.put,slA,slB,slC]
    refine Rob.y (v:=?_) rfl rfl (fun w1 hx hH=>?_) ?_;rotate_left
    ·go_simp;first | done | rfl | exact (Bool.not_not _).symm
    simp only [Act.put,slA,slB,slC]
    refine Rob.c (fun _ _ v w'=>PairR w' v q) rfl rfl rfl (fun _ _=>(by intro h k;revert h;(repeat' (first | exact fun h=>ext_trans h k | exact fun h=>Ints.ext h k | exact fun h=>PairR.ext h k | exact fun h=>h.ext k | refine And.imp ?_ ?_)))) (fun _ _ _ _ _=>fun hh hx=>by first | exact Ints.ext hh hx | exact PairR.ext hh hx | exact hh.ext hx) (fun w1 hx hH=>?_) (fun lo3 hi3 v3 hlo3 hhi3 hv3=>?_)
    ·unfold RunTo;go_simp;exact (HV.out ▸ specPairLose_r which (HP.out.ext hx)).mono fun e w' h=>h.to
    simp only [Act.put,slA,slB,slC]
    refine Rob.cv (.bool true) rfl rfl rfl (fun _ _=>(by intro h k;revert h;(repeat' (first | exact fun h=>ext_trans h k | exact fun h=>Ints.ext h k | exact fun h=>PairR.ext h k | exact fun h=>h.ext k | refine And.imp ?_ ?_)))) (fun w1 hx hH=>?_) (fun lo4 hi4 hlo4 hhi4=>?_)
    ·unfold RunTo;go_simp;exact (lqPair_t (HQ.out.ext hx.1) hx.2).mono fun e w' h=>h.to
    simp only [Act.put,slA,slB,slC]
    iterate 2
     refine Rob.y (v:=?_) rfl rfl (fun w1 hx hH=>?_) ?_;rotate_left
     ·go_simp;first | done | rfl | exact (Bool.not_not _).symm
     simp only [Act.put,slA,slB,slC]
    refine Rob.yg (v:=?_) rfl rfl (fun w1 hx hH=>?_) ?_;rotate_left
    ·(have hE : Ext wc w1:=(by first | exact hx | exact hx.1 | exact hx.1.1);obtain ⟨z3,zf3⟩:=cellsK (keep_ext hE G3);obtain ⟨z5,zf5⟩:=cellsK (keep_ext hE G5));go_simp;first | done | rfl
    simp only [Act.put,slA,slB,slC]
    refine Rob.cv (.bool false) rfl rfl rfl (fun _ _=>(by intro h k;revert h;(repeat' (first | exact fun h=>ext_trans h k | exact fun h=>Ints.ext h k | exact fun h=>PairR.ext h k | exact fun h=>h.ext k | refine And.imp ?_ ?_)))) (fun w1 hx hH=>?_) (fun lo8 hi8 hlo8 hhi8=>?_)
    ·unfold RunTo;go_simp;exact (hok ▸ specPairOk_r (HP.out.ext hx.1)).mono fun e w' h=>h.to
    simp only [Act.put,slA,slB,slC]
    refine Rob.yg (v:=?_) rfl rfl (fun w1 hx hH=>?_) ?_;rotate_left
    ·go_simp;first | done | rfl | exact (Bool.not_not _).symm
    simp only [Act.put,slA,slB,slC]
    iterate 2
     refine Rob.y (v:=?_) rfl rfl (fun w1 hx hH=>?_) ?_;rotate_left
     ·go_simp;first | done | rfl | exact (Bool.not_not _).symm
     simp only [Act.put,slA,slB,slC]
    iterate 2
     refine Rob.no rfl rfl ?_
     simp only [Act.put,slA,slB,slC]
    iterate 2
     refine Rob.y (v:=?_) rfl rfl (fun w1 hx hH=>?_) ?_;rotate_left
     ·go_simp;first | done | rfl | exact (Bool.not_not _).symm
     simp only [Act.put,slA,slB,slC]
    iterate 2
     refine Rob.no rfl rfl ?_
     simp only [Act.put,slA,slB,slC]
    iterate 2
     refine Rob.y (v:=?_) rfl rfl (fun w1 hx hH=>?_) ?_;rotate_left
     ·go_simp;first | done | rfl | exact (Bool.not_not _).symm
     simp only [Act.put,slA,slB,slC]
    iterate 3
     refine Rob.no rfl rfl ?_
     simp only [Act.put,slA,slB,slC]
    refine Rob.y (v:=?_) rfl rfl (fun w1 hx hH=>?_) ?_;rotate_left
    ·go_simp;first | done | rfl | exact (Bool.not_not _).symm
    simp only [Act.put,slA,slB,slC]
    refine fin_nil (fun wd hxd _=>?_)
    replace hxd:=hxd.1
    replace HP:=Lib.hid (HP.out.ext hxd)
    replace HQ:=Lib.hid (HQ.out.ext hxd)
    replace G3:=keep_ext hxd G3
    replace G5:=keep_ext hxd G5
    replace X0:=ext_trans X0 hxd
    clear hxd
    (try clear g3 gf3 g5 gf5 l3 l5)
    obtain ⟨g3,gf3⟩:=cellsK G3
    obtain ⟨g5,gf5⟩:=cellsK G5
    have l3:=heap_lt G3
    have l5:=heap_lt G5
    go_wp2_with fail
    refine wp_region_ext [3,4] [0,1,2,3,4,5] [] [] (by kernel_rfl) (by kernel_rfl) ?late ?_
    case late=>exact fun f hf=>absurd hf List.not_mem_nil
    iterate 2
     refine Rob.y (v:=?_) rfl rfl (fun w1 hx hH=>?_) ?_;rotate_left
     ·(have hE : Ext wd w1:=(by first | exact hx | exact hx.1 | exact hx.1.1);obtain ⟨z3,zf3⟩:=cellsK (keep_ext hE G3);obtain ⟨z5,zf5⟩:=cellsK (keep_ext hE G5));go_simp;first | done | rfl
     simp only [Act.put,slA,slB,slC]
    refine Rob.y (v:=?_) rfl rfl (fun w1 hx hH=>?_) ?_;rotate_left
    ·go_simp;first | done | rfl | exact (Bool.not_not _).symm
    simp only [Act.put,slA,slB,slC]
    refine Rob.c (fun _ _ v w'=>PairR w' v q) rfl rfl rfl (fun _ _=>(by intro h k;revert h;(repeat' (first | exact fun h=>ext_trans h k | exact fun h=>Ints.ext h k | exact fun h=>PairR.ext h k | exact fun h=>h.ext k | refine And.imp ?_ ?_)))) (fun _ _ _ _ _=>fun hh hx=>by first | exact Ints.ext hh hx | exact PairR.ext hh hx | exact hh.ext hx) (fun w1 hx hH=>?_) (fun lo3 hi3 v3 hlo3 hhi3 hv3=>?_)
    ·unfold RunTo;go_simp;exact (HV.out ▸ specPairLose_r which (HP.out.ext hx)).mono fun e w' h=>h.to
    simp only [Act.put,slA,slB,slC]
    refine Rob.cv (.bool true) rfl rfl rfl (fun _ _=>(by intro h k;revert h;(repeat' (first | exact fun h=>ext_trans h k | exact fun h=>Ints.ext h k | exact fun h=>PairR.ext h k | exact fun h=>h.ext k | refine And.imp ?_ ?_)))) (fun w1 hx hH=>?_) (fun lo4 hi4 hlo4 hhi4=>?_)
    ·unfold RunTo;go_simp;exact (lqPair_t (HQ.out.ext hx.1) hx.2).mono fun e w' h=>h.to
    simp only [Act.put,slA,slB,slC]
    refine Rob.y (v:=?_) rfl rfl (fun w1 hx hH=>?_) ?_;rotate_left
    ·go_simp;first | done | rfl | exact (Bool.not_not _).symm
    simp only [Act.put,slA,slB,slC]
    refine fin_nil (fun we hxe _=>?_)
    replace hxe:=hxe.1
    go_wp2_with fail
    go_ret
    exact ⟨rfl,ext_trans X0 hxe⟩
  ·go_enter Tryz.func6,Tryz.ntmps6
   go_wp2_with fail
   go_ret
   exact ⟨rfl,ext_refl _⟩
 ·go_enter Tryz.func6,Tryz.ntmps6
  go_wp2_with fail
  all_goals
   go_ret
   exact ⟨rfl,ext_refl _⟩
end Go.Bu