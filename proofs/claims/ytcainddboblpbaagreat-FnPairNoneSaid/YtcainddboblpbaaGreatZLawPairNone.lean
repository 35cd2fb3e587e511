/- The law FnPairNone holds of every input. -/import Derived.Test.YtcainddboblpbaaGreatZ9
set_option linter.unusedVariables false
set_option linter.unusedSimpArgs false
namespace Go.Bu
open Go Go.RowKit Go.Plan Go.Proofs
set_option maxRecDepth 20000 in
set_option maxHeartbeats 1000000 in
theorem lawPairNone (v : Value) (xs : List Nat) (w : World) (h : Bytes (Old w) w v xs) (hs : ∀ x ∈ xs,x < 256) (hcap : ∀ a n c,v = .slice a n c → n ≤ c) :
  Calls Tryz.prog 3 #[v] w (Ret w (.bool true)):=by
 obtain ⟨a,cap,rfl⟩:=h.form
 by_cases hl : xs.length ≤ 1048576
 ·go_enter Tryz.func3,Tryz.ntmps3
  go_wp2_with fail
  refine (drawPairPut_c _ xs _ h hs hl hcap).mono ?_;rintro e1 wa ⟨v1,u1,p,rfl,hxa,hp,addr,val,cut,torn,A0,A1,B0,B1,C0,C1,rfl⟩
  obtain ⟨a1,n1,c1,b1,m1,k1,a2,n2,c2,b2,m2,k2,rfl⟩:=hp.forms
  have HP:=Lib.hid hp
  clear hp
  go_wp2_with fail
  refine (implPairPut_r addr val cut torn (HP.out.ext (ext_alloc (ext_refl _) _))).mono ?_;rintro e2 wb ⟨v2,rfl,hxb,hq⟩
  obtain ⟨a3,n3,c3,b3,m3,k3,a4,n4,c4,b4,m4,k4,rfl⟩:=hq.forms
  have Xab:=ext_trans (ext_alloc (ext_refl wa) _) hxb
  have G3:=keep_ext hxb (hg_new (b:=wa.heap.size) rfl)
  replace HP:=Lib.hid (HP.out.ext Xab)
  have HQ:=Lib.hid hq
  have X0 : Ext w wb:=ext_trans hxa Xab
  clear hxa hxb Xab hq
  obtain ⟨q,hqv⟩ : ∃ q,pairPutV p addr val cut torn = q:=⟨_,rfl⟩
  have HV:=Lib.hid hqv
  rw [hqv] at HQ
  rw [show (pairPutV p addr val cut torn).lost = q.lost by rw [hqv]]
  clear hqv
  go_wp2_with fail
  have GE : ∀ o w',Ext (wb.alloc o) w' → Ext wb w':=fun o w' h=>ext_trans (ext_alloc (ext_refl _) _) h
  have G5:=hg_new (w:=wb) (x:=.cells #[.slice a3 n3 c3,.slice b3 m3 k3,.slice a4 n4 c4,.slice b4 m4 k4,.int .i64 q.lost] 28) (b:=wb.heap.size) rfl
  replace G3:=hg_alloc (x:=.cells #[.slice a3 n3 c3,.slice b3 m3 k3,.slice a4 n4 c4,.slice b4 m4 k4,.int .i64 q.lost] 28) G3
  replace HP:=Lib.hid (HP.out.ext (GE (.cells #[.slice a3 n3 c3,.slice b3 m3 k3,.slice a4 n4 c4,.slice b4 m4 k4,.int .i64 q.lost] 28) _ (ext_refl _)))
  replace HQ:=Lib.hid (HQ.out.ext (GE (.cells #[.slice a3 n3 c3,.slice b3 m3 k3,.slice a4 n4 c4,.slice b4 m4 k4,.int .i64 q.lost] 28) _ (ext_refl _)))
  replace X0:=ext_alloc X0 (.cells #[.slice a3 n3 c3,.slice b3 m3 k3,.slice a4 n4 c4,.slice b4 m4 k4,.int .i64 q.lost] 28)
  clear GE
  generalize wb.alloc (.cells #[.slice a3 n3 c3,.slice b3 m3 k3,.slice a4 n4 c4,.slice b4 m4 k4,.int .i64 q.lost] 28) = wc at *
  by_cases hok : pairOkB p = true
  ·skip
   refine wp_region_ext [6,7,11] [0,1,2,3,4,5,6,7,8,9,10,11,12,13] [] [] (by kernel_rfl) (by kernel_rfl) ?late ?_
   case late=>exact fun f hf=>absurd hf List.not_mem_nil
   iterate 2
    refine Rob.y (v:=?_) rfl rfl (fun w1 hx hH=>?_) ?_;rotate_left
    ·(have hE : Ext wc w1:=(by first | exact hx | exact hx.1 | exact hx.1.1);obtain ⟨z3,zf3⟩:=cellsK (keep_ext hE G3);obtain ⟨z5,zf5⟩:=cellsK (keep_ext hE G5));go_simp;first | done | rfl
    simp only [Act.put,slA,slB,slC]
   iterate 4
    refine Rob.y (v:=?_) rfl rfl (fun w1 hx hH=>?_) ?_;rotate_left
    ·go_simp;first | done | rfl | exact (Bool.not_not _).symm
    simp only [Act.put,slA,slB,slC]
   refine Rob.c (fun _ _ v w'=>PairR w' v q) rfl rfl rfl (fun _ _=>(by intro h k;revert h;(repeat' (first | exact fun h=>ext_trans h k | exact fun h=>Ints.ext h k | exact fun h=>PairR.ext h k | exact fun h=>h.ext k | refine And.imp ?_ ?_)))) (fun _ _ _ _ _=>fun hh hx=>by first | exact Ints.ext hh hx | exact PairR.ext hh hx | exact hh.ext hx) (fun w1 hx hH=>?_) (fun lo6 hi6 v6 hlo6 hhi6 hv6=>?_)
   ·unfold RunTo;go_simp;exact (HV.out ▸ specPairPut_r addr val cut torn (HP.out.ext hx)).mono fun e w' h=>h.to
   simp only [Act.put,slA,slB,slC]
   refine Rob.cv (.bool true) rfl rfl rfl (fun _ _=>(by intro h k;revert h;(repeat' (first | exact fun h=>ext_trans h k | exact fun h=>Ints.ext h k | exact fun h=>PairR.ext h k | exact fun h=>h.ext k | refine And.imp ?_ ?_)))) (fun w1 hx hH=>?_) (fun lo7 hi7 hlo7 hhi7=>?_)
   ·unfold RunTo;go_simp;exact (lqPair_t (HQ.out.ext hx.1) hx.2).mono fun e w' h=>h.to
   simp only [Act.put,slA,slB,slC]
   iterate 2
    refine Rob.y (v:=?_) rfl rfl (fun w1 hx hH=>?_) ?_;rotate_left
    ·go_simp;first | done | rfl | exact (Bool.not_not _).symm
    simp only [Act.put,slA,slB,slC]
   refine Rob.yg (v:=?_) rfl rfl (fun w1 hx hH=>?_) ?_;rotate_left
   ·(have hE : Ext wc w1:=(by first | exact hx | exact hx.1 | exact hx.1.1);obtain ⟨z3,zf3⟩:=cellsK (keep_ext hE G3);obtain ⟨z5,zf5⟩:=cellsK (keep_ext hE G5));go_simp;first | done | rfl
   simp only [Act.put,slA,slB,slC]
   refine Rob.cv (.bool true) rfl rfl rfl (fun _ _=>(by intro h k;revert h;(repeat' (first | exact fun h=>ext_trans h k | exact fun h=>Ints.ext h k | exact fun h=>PairR.ext h k | exact fun h=>h.ext k | refine And.imp ?_ ?_)))) (fun w1 hx hH=>?_) (fun lo11 hi11 hlo11 hhi11=>?_)
   ·unfold RunTo;go_simp;exact (hok ▸ specPairOk_r (HP.out.ext hx.1)).mono fun e w' h=>h.to
   simp only [Act.put,slA,slB,slC]
   refine Rob.yg (v:=?_) rfl rfl (fun w1 hx hH=>?_) ?_;rotate_left
   ·go_simp;first | done | rfl | exact (Bool.not_not _).symm
   simp only [Act.put,slA,slB,slC]
   refine Rob.y (v:=?_) rfl rfl (fun w1 hx hH=>?_) ?_;rotate_left
   ·go_simp;first | done | rfl | exact (Bool.not_not _).symm
   simp only [Act.put,slA,slB,slC]
   refine fin_nil (fun wd hxd _=>?_)
   replace hxd:=hxd.1
   have HO:=Lib.hid hok
   clear hok
   replace HP:=Lib.hid (HP.out.ext hxd)
   replace HQ:=Lib.hid (HQ.out.ext hxd)
   replace G3:=keep_ext hxd G3
   replace G5:=keep_ext hxd G5
   replace X0:=ext_trans X0 hxd
   clear hxd
   (try clear g3 gf3 g5 gf5 l3 l5)
   obtain ⟨g3,gf3⟩:=cellsK G3
   obtain ⟨g5,gf5⟩:=cellsK G5
   have l3:=heap_lt G3
   have l5:=heap_lt G5
   have hc : ∀ w',Ext wd w' → Calls Tryz.prog 11 #[.agg #[.slice a1 n1 c1,.slice b1 m1 k1,.slice a2 n2 c2,.slice b2 m2 k2,.int .i64 p.lost],.int .i64 addr,.int .i64 val,.int .i64 0,.bool false] w' (PairRet w' p):=fun w' hx=>by
    have:=implPairPut_r addr val 0 false (HP.out.ext hx)
    rwa [put_zero HO.out] at this
   have hc2 : ∀ w',Ext wd w' → Calls Tryz.prog 11 #[.agg #[.slice a1 n1 c1,.slice b1 m1 k1,.slice a2 n2 c2,.slice b2 m2 k2,.int .i64 p.lost],.int .i64 7,.int .i64 1,.int .i64 99,.bool true] w' (PairRet w' p):=fun w' hx=>by
    have:=implPairPut_r 7 1 99 true (HP.out.ext hx)
    rwa [put_out HO.out] at this
   have hc3 : ∀ w',Ext wd w' → Calls Tryz.prog 11 #[.agg #[.slice a1 n1 c1,.slice b1 m1 k1,.slice a2 n2 c2,.slice b2 m2 k2,.int .i64 p.lost],.int .i64 1,.int .i64 1,.int .i64 (-1),.bool false] w' (PairRet w' pair0):=fun w' hx=>by
    have:=implPairPut_r 1 1 (-1) false (HP.out.ext hx)
    rwa [put_low _ _ (by decide)] at this
   have HC:=Lib.hid hc
   have HC2:=Lib.hid hc2
   have HC3:=Lib.hid hc3
   clear hc hc2 hc3
   go_wp2_with fail
   refine (HC.out _ (ext_refl _)).mono ?_;rintro e3 we ⟨v3,rfl,hxe,hy⟩
   obtain ⟨a5,n5,c5,b5,m5,k5,a6,n6,c6,b6,m6,k6,rfl⟩:=hy.forms
   have Xe : Ext wd we:=hxe
   replace HP:=Lib.hid (HP.out.ext hxe)
   replace HQ:=Lib.hid (HQ.out.ext hxe)
   replace G3:=keep_ext hxe G3
   replace G5:=keep_ext hxe G5
   replace X0:=ext_trans X0 hxe
   clear hxe
   (try clear g3 gf3 g5 gf5 l3 l5)
   obtain ⟨g3,gf3⟩:=cellsK G3
   obtain ⟨g5,gf5⟩:=cellsK G5
   have l3:=heap_lt G3
   have l5:=heap_lt G5
   have HY:=Lib.hid hy
   clear hy
   go_wp2_with fail
   refine (HC2.out _ (ext_alloc Xe _)).mono ?_;rintro e4 wf ⟨v4,rfl,hxf,hz⟩
   obtain ⟨a7,n7,c7,b7,m7,k7,a8,n8,c8,b8,m8,k8,rfl⟩:=hz.forms
   have G9:=keep_ext hxf (hg_new (b:=we.heap.size) rfl)
   have Xef : Ext we wf:=ext_trans (ext_alloc (ext_refl _) _) hxf
   have Xf : Ext wd wf:=ext_trans Xe Xef
   replace HY:=Lib.hid (HY.out.ext Xef)
   replace HP:=Lib.hid (HP.out.ext Xef)
   replace HQ:=Lib.hid (HQ.out.ext Xef)
   replace G3:=keep_ext Xef G3
   replace G5:=keep_ext Xef G5
   replace X0:=ext_trans X0 Xef
   clear Xef
   (try clear g3 gf3 g5 gf5 l3 l5)
   obtain ⟨g3,gf3⟩:=cellsK G3
   obtain ⟨g5,gf5⟩:=cellsK G5
   have l3:=heap_lt G3
   have l5:=heap_lt G5
   obtain ⟨g9,gf9⟩:=cellsK G9
   have l9:=heap_lt G9
   have HZ:=Lib.hid hz
   clear hz Xe hxf
   go_wp2_with fail
   refine (HC3.out _ (ext_alloc Xf _)).mono ?_;rintro e5 wg ⟨v5,rfl,hxg,hu⟩
   obtain ⟨a9,n9,c9,b9,m9,k9,a10,n10,c10,b10,m10,k10,rfl⟩:=hu.forms
   have G10:=keep_ext hxg (hg_new (b:=wf.heap.size) rfl)
   have Xfg : Ext wf wg:=ext_trans (ext_alloc (ext_refl _) _) hxg
   replace HY:=Lib.hid (HY.out.ext Xfg)
   replace HZ:=Lib.hid (HZ.out.ext Xfg)
   replace G9:=keep_ext Xfg G9
   replace HP:=Lib.hid (HP.out.ext Xfg)
   replace HQ:=Lib.hid (HQ.out.ext Xfg)
   replace G3:=keep_ext Xfg G3
   replace G5:=keep_ext Xfg G5
   replace X0:=ext_trans X0 Xfg
   clear Xfg
   (try clear g3 gf3 g5 gf5 l3 l5)
   obtain ⟨g3,gf3⟩:=cellsK G3
   obtain ⟨g5,gf5⟩:=cellsK G5
   have l3:=heap_lt G3
   have l5:=heap_lt G5
   clear g9 gf9
   obtain ⟨g9,gf9⟩:=cellsK G9
   have l9:=heap_lt G9
   obtain ⟨g10,gf10⟩:=cellsK G10
   have l10:=heap_lt G10
   have HU:=Lib.hid hu
   clear hu Xf hxg HC HC2 HC3
   have hE1:=fun (w' : World) (hx : Ext wg w')=>lqPair_t (HY.out.ext hx) (HP.out.ext hx)
   have hE2:=fun (w' : World) (hx : Ext wg w')=>lqPair_t (HZ.out.ext hx) (HP.out.ext hx)
   have hE3:=fun (w' : World) (hx : Ext wg w')=>lqPair_t (HU.out.ext hx) (nil_pair w')
   have HE1:=Lib.hid hE1
   have HE2:=Lib.hid hE2
   have HE3:=Lib.hid hE3
   have Y0 : Ext wg (wg.alloc (.cells #[.slice a9 n9 c9,.slice b9 m9 k9,.slice a10 n10 c10,.slice b10 m10 k10,.int .i64 pair0.lost] 28)):=ext_alloc (ext_refl _) _
   have G11:=hg_new (w:=wg) (x:=.cells #[.slice a9 n9 c9,.slice b9 m9 k9,.slice a10 n10 c10,.slice b10 m10 k10,.int .i64 pair0.lost] 28) (b:=wg.heap.size) rfl
   clear hE1 hE2 hE3 HY HZ HU
   go_wp2_with fail
   refine (HE1.out _ Y0).mono ?_;rintro e6 wh ⟨rfl,hxh⟩
   replace Y0:=ext_trans Y0 hxh
   replace G11:=keep_ext hxh G11
   clear hxh g3 gf3 g5 gf5 g9 gf9 g10 gf10
   (try clear g11 gf11 l11)
   obtain ⟨g3,gf3⟩:=cellsK (keep_ext Y0 G3)
   obtain ⟨g5,gf5⟩:=cellsK (keep_ext Y0 G5)
   obtain ⟨g9,gf9⟩:=cellsK (keep_ext Y0 G9)
   obtain ⟨g10,gf10⟩:=cellsK (keep_ext Y0 G10)
   obtain ⟨g11,gf11⟩:=cellsK G11
   have l11:=heap_lt G11
   go_wp2_with fail
   refine (HE2.out _ Y0).mono ?_;rintro e7 wi ⟨rfl,hxi⟩
   replace Y0:=ext_trans Y0 hxi
   replace G11:=keep_ext hxi G11
   clear hxi g3 gf3 g5 gf5 g9 gf9 g10 gf10
   (try clear g11 gf11 l11)
   obtain ⟨g3,gf3⟩:=cellsK (keep_ext Y0 G3)
   obtain ⟨g5,gf5⟩:=cellsK (keep_ext Y0 G5)
   obtain ⟨g9,gf9⟩:=cellsK (keep_ext Y0 G9)
   obtain ⟨g10,gf10⟩:=cellsK (keep_ext Y0 G10)
   obtain ⟨g11,gf11⟩:=cellsK G11
   have l11:=heap_lt G11
   go_wp2_with fail
   refine (HE3.out _ Y0).mono ?_;rintro e8 wj ⟨rfl,hxj⟩
   go_wp2_with fail
   go_ret
   exact ⟨rfl,ext_trans X0 (ext_trans Y0 hxj)⟩
  ·rw [Bool.not_eq_true] at hok
   refine wp_region_ext [6,7,11] [0,1,2,3,4,5,6,7,8,9,10,11,12,13] [] [] (by kernel_rfl) (by kernel_rfl) ?late ?_
   case late=>exact fun f hf=>absurd hf List.not_mem_nil
   iterate 2
    refine Rob.y (v:=?_) rfl rfl (fun w1 hx hH=>?_) ?_;rotate_left
    ·(have hE : Ext wc w1:=(by first | exact hx | exact hx.1 | exact hx.1.1);obtain ⟨z3,zf3⟩:=cellsK (keep_ext hE G3);obtain ⟨z5,zf5⟩:=cellsK (keep_ext hE G5));go_simp;first | done | rfl
    simp only [Act.put,slA,slB,slC]
   iterate 4
    refine Rob.y (v:=?_) rfl rfl (fun w1 hx hH=>?_) ?_;rotate_left
    ·go_simp;first | done | rfl | exact (Bool.not_not _).symm
    simp only [Act.put,slA,slB,slC]
   refine Rob.c (fun _ _ v w'=>PairR w' v q) rfl rfl rfl (fun _ _=>(by intro h k;revert h;(repeat' (first | exact fun h=>ext_trans h k | exact fun h=>Ints.ext h k | exact fun h=>PairR.ext h k | exact fun h=>h.ext k | refine And.imp ?_ ?_)))) (fun _ _ _ _ _=>fun hh hx=>by first | exact Ints.ext hh hx | exact PairR.ext hh hx | exact hh.ext hx) (fun w1 hx hH=>?_) (fun lo6 hi6 v6 hlo6 hhi6 hv6=>?_)
   ·unfold RunTo;go_simp;exact (HV.out ▸ specPairPut_r addr val cut torn (HP.out.ext hx)).mono fun e w' h=>h.to
   simp only [Act.put,slA,slB,slC]
   refine Rob.cv (.bool true) rfl rfl rfl (fun _ _=>(by intro h k;revert h;(repeat' (first | exact fun h=>ext_trans h k | exact fun h=>Ints.ext h k | exact fun h=>PairR.ext h k | exact fun h=>h.ext k | refine And.imp ?_ ?_)))) (fun w1 hx hH=>?_) (fun lo7 hi7 hlo7 hhi7=>?_)
   ·unfold RunTo;go_simp;exact (lqPair_t (HQ.out.ext hx.1) hx.2).mono fun e w' h=>h.to
   simp only [Act.put,slA,slB,slC]
   iterate 2
    refine Rob.y (v:=?_) rfl rfl (fun w1 hx hH=>?_) ?_;rotate_left
    ·go_simp;first | done | rfl | exact (Bool.not_not _).symm
    simp only [Act.put,slA,slB,slC]
   refine Rob.yg (v:=?_) rfl rfl (fun w1 hx hH=>?_) ?_;rotate_left
   ·(have hE : Ext wc w1:=(by first | exact hx | exact hx.1 | exact hx.1.1);obtain ⟨z3,zf3⟩:=cellsK (keep_ext hE G3);obtain ⟨z5,zf5⟩:=cellsK (keep_ext hE G5));go_simp;first | done | rfl
   simp only [Act.put,slA,slB,slC]
   refine Rob.cv (.bool false) rfl rfl rfl (fun _ _=>(by intro h k;revert h;(repeat' (first | exact fun h=>ext_trans h k | exact fun h=>Ints.ext h k | exact fun h=>PairR.ext h k | exact fun h=>h.ext k | refine And.imp ?_ ?_)))) (fun w1 hx hH=>?_) (fun lo11 hi11 hlo11 hhi11=>?_)
   ·unfold RunTo;go_simp;exact (hok ▸ specPairOk_r (HP.out.ext hx.1)).mono fun e w' h=>h.to
   simp only [Act.put,slA,slB,slC]
   refine Rob.yg (v:=?_) rfl rfl (fun w1 hx hH=>?_) ?_;rotate_left
   ·go_simp;first | done | rfl | exact (Bool.not_not _).symm
   simp only [Act.put,slA,slB,slC]
   refine Rob.y (v:=?_) rfl rfl (fun w1 hx hH=>?_) ?_;rotate_left
   ·go_simp;first | done | rfl | exact (Bool.not_not _).symm
   simp only [Act.put,slA,slB,slC]
   refine fin_nil (fun wd hxd _=>?_)
   replace hxd:=hxd.1
   replace HP:=Lib.hid (HP.out.ext hxd)
   replace HQ:=Lib.hid (HQ.out.ext hxd)
   replace G3:=keep_ext hxd G3
   replace G5:=keep_ext hxd G5
   replace X0:=ext_trans X0 hxd
   clear hxd
   (try clear g3 gf3 g5 gf5 l3 l5)
   obtain ⟨g3,gf3⟩:=cellsK G3
   obtain ⟨g5,gf5⟩:=cellsK G5
   have l3:=heap_lt G3
   have l5:=heap_lt G5
   go_wp2_with fail
   refine wp_region_ext [6,7] [0,1,2,3,4,5,6,7,8] [] [] (by kernel_rfl) (by kernel_rfl) ?late ?_
   case late=>exact fun f hf=>absurd hf List.not_mem_nil
   iterate 2
    refine Rob.y (v:=?_) rfl rfl (fun w1 hx hH=>?_) ?_;rotate_left
    ·(have hE : Ext wd w1:=(by first | exact hx | exact hx.1 | exact hx.1.1);obtain ⟨z3,zf3⟩:=cellsK (keep_ext hE G3);obtain ⟨z5,zf5⟩:=cellsK (keep_ext hE G5));go_simp;first | done | rfl
    simp only [Act.put,slA,slB,slC]
   iterate 4
    refine Rob.y (v:=?_) rfl rfl (fun w1 hx hH=>?_) ?_;rotate_left
    ·go_simp;first | done | rfl | exact (Bool.not_not _).symm
    simp only [Act.put,slA,slB,slC]
   refine Rob.c (fun _ _ v w'=>PairR w' v q) rfl rfl rfl (fun _ _=>(by intro h k;revert h;(repeat' (first | exact fun h=>ext_trans h k | exact fun h=>Ints.ext h k | exact fun h=>PairR.ext h k | exact fun h=>h.ext k | refine And.imp ?_ ?_)))) (fun _ _ _ _ _=>fun hh hx=>by first | exact Ints.ext hh hx | exact PairR.ext hh hx | exact hh.ext hx) (fun w1 hx hH=>?_) (fun lo6 hi6 v6 hlo6 hhi6 hv6=>?_)
   ·unfold RunTo;go_simp;exact (HV.out ▸ specPairPut_r addr val cut torn (HP.out.ext hx)).mono fun e w' h=>h.to
   simp only [Act.put,slA,slB,slC]
   refine Rob.cv (.bool true) rfl rfl rfl (fun _ _=>(by intro h k;revert h;(repeat' (first | exact fun h=>ext_trans h k | exact fun h=>Ints.ext h k | exact fun h=>PairR.ext h k | exact fun h=>h.ext k | refine And.imp ?_ ?_)))) (fun w1 hx hH=>?_) (fun lo7 hi7 hlo7 hhi7=>?_)
   ·unfold RunTo;go_simp;exact (lqPair_t (HQ.out.ext hx.1) hx.2).mono fun e w' h=>h.to
   simp only [Act.put,slA,slB,slC]
   refine Rob.y (v:=?_) rfl rfl (fun w1 hx hH=>?_) ?_;rotate_left
   ·go_simp;first | done | rfl | exact (Bool.not_not _).symm
   simp only [Act.put,slA,slB,slC]
   refine fin_nil (fun we hxe _=>?_)
   replace hxe:=hxe.1
   go_wp2_with fail
   go_ret
   exact ⟨rfl,ext_trans X0 hxe⟩
 ·go_enter Tryz.func3,Tryz.ntmps3
  go_wp2_with fail
  all_goals
   go_ret
   exact ⟨rfl,ext_refl _⟩
end Go.Bu