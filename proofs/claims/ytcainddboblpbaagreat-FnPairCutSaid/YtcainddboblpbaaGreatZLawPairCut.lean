/- The law FnPairCut holds of every input. -/import Derived.Test.YtcainddboblpbaaGreatZ9
set_option linter.unusedVariables false
set_option linter.unusedSimpArgs false
namespace Go.Bu
open Go Go.RowKit Go.Plan Go.Proofs
set_option maxRecDepth 20000 in
set_option maxHeartbeats 1000000 in
theorem lawPairCut (v : Value) (xs : List Nat) (w : World) (h : Bytes (Old w) w v xs) (hs : ∀ x ∈ xs,x < 256) (hcap : ∀ a n c,v = .slice a n c → n ≤ c) :
  Calls Tryz.prog 9 #[v] w (Ret w (.bool true)):=by
 obtain ⟨a,cap,rfl⟩:=h.form
 by_cases hl : xs.length ≤ 1048576
 ·go_enter Tryz.func9,Tryz.ntmps9
  go_wp2_with fail
  refine (drawPairPut_c _ xs _ h hs hl hcap).mono ?_;rintro e1 wa ⟨v1,u1,p,rfl,hxa,hp,addr,val,cut,torn,A0,A1,B0,B1,C0,C1,rfl⟩
  obtain ⟨a1,n1,c1,b1,m1,k1,a2,n2,c2,b2,m2,k2,rfl⟩:=hp.forms
  have HP:=Lib.hid hp
  clear hp
  go_wp2_with fail
  refine (implPairPut_r addr val cut torn (HP.out.ext (ext_alloc (ext_refl _) _))).mono ?_;rintro e2 wb ⟨v2,rfl,hxb,hq⟩
  obtain ⟨a3,n3,c3,b3,m3,k3,a4,n4,c4,b4,m4,k4,rfl⟩:=hq.forms
  have Xab:=ext_trans (ext_alloc (ext_refl wa) _) hxb
  have G3:=keep_ext hxb (hg_new (b:=wa.heap.size) rfl)
  replace HP:=Lib.hid (HP.out.ext Xab)
  have HQ:=Lib.hid hq
  have X0 : Ext w wb:=ext_trans hxa Xab
  clear hxa hxb Xab hq
  obtain ⟨q,hqv⟩ : ∃ q,pairPutV p addr val cut torn = q:=⟨_,rfl⟩
  have HV:=Lib.hid hqv
  rw [hqv] at HQ
  rw [show (pairPutV p addr val cut torn).lost = q.lost by rw [hqv]]
  clear hqv
  go_wp2_with fail
  have GE : ∀ o w',Ext (wb.alloc o) w' → Ext wb w':=fun o w' h=>ext_trans (ext_alloc (ext_refl _) _) h
  have G5:=hg_new (w:=wb) (x:=.cells #[.slice a3 n3 c3,.slice b3 m3 k3,.slice a4 n4 c4,.slice b4 m4 k4,.int .i64 q.lost] 28) (b:=wb.heap.size) rfl
  replace G3:=hg_alloc (x:=.cells #[.slice a3 n3 c3,.slice b3 m3 k3,.slice a4 n4 c4,.slice b4 m4 k4,.int .i64 q.lost] 28) G3
  replace HP:=Lib.hid (HP.out.ext (GE (.cells #[.slice a3 n3 c3,.slice b3 m3 k3,.slice a4 n4 c4,.slice b4 m4 k4,.int .i64 q.lost] 28) _ (ext_refl _)))
  replace HQ:=Lib.hid (HQ.out.ext (GE (.cells #[.slice a3 n3 c3,.slice b3 m3 k3,.slice a4 n4 c4,.slice b4 m4 k4,.int .i64 q.lost] 28) _ (ext_refl _)))
  replace X0:=ext_alloc X0 (.cells #[.slice a3 n3 c3,.slice b3 m3 k3,.slice a4 n4 c4,.slice b4 m4 k4,.int .i64 q.lost] 28)
  clear GE
  generalize wb.alloc (.cells #[.slice a3 n3 c3,.slice b3 m3 k3,.slice a4 n4 c4,.slice b4 m4 k4,.int .i64 q.lost] 28) = wc at *
  by_cases hok : pairOkB p = true
  ·by_cases hc : cut < 0
   ·skip
    refine wp_region_ext [6,7,11] [0,1,2,3,4,5,6,7,8,9,10,11,12,13,14,15,16,17,18,19,20,21,22,23,24,25] [] [] (by kernel_rfl) (by kernel_rfl) ?late ?_
    case late=>exact fun f hf=>absurd hf List.not_mem_nil
    iterate 2
     refine Rob.y (v:=?_) rfl rfl (fun w1 hx hH=>?_) ?_;rotate_left
     ·(have hE : Ext wc w1:=(by first | exact hx | exact hx.1 | exact hx.1.1);obtain ⟨z3,zf3⟩:=cellsK (keep_ext hE G3);obtain ⟨z5,zf5⟩:=cellsK (keep_ext hE G5));go_simp;first | done | rfl
     simp only [Act.put,slA,slB,slC]
    iterate 4
     refine Rob.y (v:=?_) rfl rfl (fun w1 hx hH=>?_) ?_;rotate_left
     ·go_simp;first | done | rfl | exact (Bool.not_not _).symm
     simp only [Act.put,slA,slB,slC]
    refine Rob.c (fun _ _ v w'=>PairR w' v q) rfl rfl rfl (fun _ _=>(by intro h k;revert h;(repeat' (first | exact fun h=>ext_trans h k | exact fun h=>Ints.ext h k | exact fun h=>PairR.ext h k | exact fun h=>h.ext k | refine And.imp ?_ ?_)))) (fun _ _ _ _ _=>fun hh hx=>by first | exact Ints.ext hh hx | exact PairR.ext hh hx | exact hh.ext hx) (fun w1 hx hH=>?_) (fun lo6 hi6 v6 hlo6 hhi6 hv6=>?_)
    ·unfold RunTo;go_simp;exact (HV.out ▸ specPairPut_r addr val cut torn (HP.out.ext hx)).mono fun e w' h=>h.to
    simp only [Act.put,slA,slB,slC]
    refine Rob.cv (.bool true) rfl rfl rfl (fun _ _=>(by intro h k;revert h;(repeat' (first | exact fun h=>ext_trans h k | exact fun h=>Ints.ext h k | exact fun h=>PairR.ext h k | exact fun h=>h.ext k | refine And.imp ?_ ?_)))) (fun w1 hx hH=>?_) (fun lo7 hi7 hlo7 hhi7=>?_)
    ·unfold RunTo;go_simp;exact (lqPair_t (HQ.out.ext hx.1) hx.2).mono fun e w' h=>h.to
    simp only [Act.put,slA,slB,slC]
    iterate 2
     refine Rob.y (v:=?_) rfl rfl (fun w1 hx hH=>?_) ?_;rotate_left
     ·go_simp;first | done | rfl | exact (Bool.not_not _).symm
     simp only [Act.put,slA,slB,slC]
    refine Rob.yg (v:=?_) rfl rfl (fun w1 hx hH=>?_) ?_;rotate_left
    ·(have hE : Ext wc w1:=(by first | exact hx | exact hx.1 | exact hx.1.1);obtain ⟨z3,zf3⟩:=cellsK (keep_ext hE G3);obtain ⟨z5,zf5⟩:=cellsK (keep_ext hE G5));go_simp;first | done | rfl
    simp only [Act.put,slA,slB,slC]
    refine Rob.cv (.bool true) rfl rfl rfl (fun _ _=>(by intro h k;revert h;(repeat' (first | exact fun h=>ext_trans h k | exact fun h=>Ints.ext h k | exact fun h=>PairR.ext h k | exact fun h=>h.ext k | refine And.imp ?_ ?_)))) (fun w1 hx hH=>?_) (fun lo11 hi11 hlo11 hhi11=>?_)
    ·unfold RunTo;go_simp;exact (hok ▸ specPairOk_r (HP.out.ext hx.1)).mono fun e w' h=>h.to
    simp only [Act.put,slA,slB,slC]
    refine Rob.yg (v:=?_) rfl rfl (fun w1 hx hH=>?_) ?_;rotate_left
    ·go_simp;first | done | rfl | exact (Bool.not_not _).symm
    simp only [Act.put,slA,slB,slC]
    iterate 2
     refine Rob.y (v:=?_) rfl rfl (fun w1 hx hH=>?_) ?_;rotate_left
     ·go_simp;first | done | rfl | exact (Bool.not_not _).symm
     simp only [Act.put,slA,slB,slC]
    refine Rob.yg (v:=?_) rfl rfl (fun w1 hx hH=>?_) ?_;rotate_left
    ·go_simp;first | done | rfl | exact (Bool.not_not _).symm
    simp only [Act.put,slA,slB,slC]
    refine Rob.yg (v:=.bool true) rfl rfl (fun w1 hx hH=>?_) ?_
    ·go_simp;first | done | rfl | (simp;omega)
    simp only [Act.put,slA,slB,slC]
    iterate 2
     refine Rob.y (v:=?_) rfl rfl (fun w1 hx hH=>?_) ?_;rotate_left
     ·go_simp;first | done | rfl | exact (Bool.not_not _).symm
     simp only [Act.put,slA,slB,slC]
    iterate 2
     refine Rob.no rfl rfl ?_
     simp only [Act.put,slA,slB,slC]
    iterate 2
     refine Rob.y (v:=?_) rfl rfl (fun w1 hx hH=>?_) ?_;rotate_left
     ·go_simp;first | done | rfl | exact (Bool.not_not _).symm
     simp only [Act.put,slA,slB,slC]
    iterate 2
     refine Rob.no rfl rfl ?_
     simp only [Act.put,slA,slB,slC]
    refine Rob.y (v:=?_) rfl rfl (fun w1 hx hH=>?_) ?_;rotate_left
    ·go_simp;first | done | rfl | exact (Bool.not_not _).symm
    simp only [Act.put,slA,slB,slC]
    refine fin_nil (fun wd hxd _=>?_)
    replace hxd:=hxd.1
    replace HP:=Lib.hid (HP.out.ext hxd)
    replace HQ:=Lib.hid (HQ.out.ext hxd)
    replace G3:=keep_ext hxd G3
    replace G5:=keep_ext hxd G5
    replace X0:=ext_trans X0 hxd
    clear hxd
    (try clear g3 gf3 g5 gf5 l3 l5)
    obtain ⟨g3,gf3⟩:=cellsK G3
    obtain ⟨g5,gf5⟩:=cellsK G5
    have l3:=heap_lt G3
    have l5:=heap_lt G5
    go_wp2_with fail
    refine wp_region_ext [6,7] [0,1,2,3,4,5,6,7,8] [] [] (by kernel_rfl) (by kernel_rfl) ?late ?_
    case late=>exact fun f hf=>absurd hf List.not_mem_nil
    iterate 2
     refine Rob.y (v:=?_) rfl rfl (fun w1 hx hH=>?_) ?_;rotate_left
     ·(have hE : Ext wd w1:=(by first | exact hx | exact hx.1 | exact hx.1.1);obtain ⟨z3,zf3⟩:=cellsK (keep_ext hE G3);obtain ⟨z5,zf5⟩:=cellsK (keep_ext hE G5));go_simp;first | done | rfl
     simp only [Act.put,slA,slB,slC]
    iterate 4
     refine Rob.y (v:=?_) rfl rfl (fun w1 hx hH=>?_) ?_;rotate_left
     ·go_simp;first | done | rfl | exact (Bool.not_not _).symm
     simp only [Act.put,slA,slB,slC]
    refine Rob.c (fun _ _ v w'=>PairR w' v q) rfl rfl rfl (fun _ _=>(by intro h k;revert h;(repeat' (first | exact fun h=>ext_trans h k | exact fun h=>Ints.ext h k | exact fun h=>PairR.ext h k | exact fun h=>h.ext k | refine And.imp ?_ ?_)))) (fun _ _ _ _ _=>fun hh hx=>by first | exact Ints.ext hh hx | exact PairR.ext hh hx | exact hh.ext hx) (fun w1 hx hH=>?_) (fun lo6 hi6 v6 hlo6 hhi6 hv6=>?_)
    ·unfold RunTo;go_simp;exact (HV.out ▸ specPairPut_r addr val cut torn (HP.out.ext hx)).mono fun e w' h=>h.to
    simp only [Act.put,slA,slB,slC]
    refine Rob.cv (.bool true) rfl rfl rfl (fun _ _=>(by intro h k;revert h;(repeat' (first | exact fun h=>ext_trans h k | exact fun h=>Ints.ext h k | exact fun h=>PairR.ext h k | exact fun h=>h.ext k | refine And.imp ?_ ?_)))) (fun w1 hx hH=>?_) (fun lo7 hi7 hlo7 hhi7=>?_)
    ·unfold RunTo;go_simp;exact (lqPair_t (HQ.out.ext hx.1) hx.2).mono fun e w' h=>h.to
    simp only [Act.put,slA,slB,slC]
    refine Rob.y (v:=?_) rfl rfl (fun w1 hx hH=>?_) ?_;rotate_left
    ·go_simp;first | done | rfl | exact (Bool.not_not _).symm
    simp only [Act.put,slA,slB,slC]
    refine fin_nil (fun we hxe _=>?_)
    replace hxe:=hxe.1
    go_wp2_with fail
    go_ret
    exact ⟨rfl,ext_trans X0 hxe⟩
   ·by_cases h6 : 6 < addr
    ·skip
     refine wp_region_ext [6,7,11] [0,1,2,3,4,5,6,7,8,9,10,11,12,13,14,15,16,17,18,19,20,21,22,23,24,25] [] [] (by kernel_rfl) (by kernel_rfl) ?late ?_
     case late=>exact fun f hf=>absurd hf List.not_mem_nil
     iterate 2
      refine Rob.y (v:=?_) rfl rfl (fun w1 hx hH=>?_) ?_;rotate_left
      ·(have hE : Ext wc w1:=(by first | exact hx | exact hx.1 | exact hx.1.1);obtain ⟨z3,zf3⟩:=cellsK (keep_ext hE G3);obtain ⟨z5,zf5⟩:=cellsK (keep_ext hE G5));go_simp;first | done | rfl
      simp only [Act.put,slA,slB,slC]
     iterate 4
      refine Rob.y (v:=?_) rfl rfl (fun w1 hx hH=>?_) ?_;rotate_left
      ·go_simp;first | done | rfl | exact (Bool.not_not _).symm
      simp only [Act.put,slA,slB,slC]
     refine Rob.c (fun _ _ v w'=>PairR w' v q) rfl rfl rfl (fun _ _=>(by intro h k;revert h;(repeat' (first | exact fun h=>ext_trans h k | exact fun h=>Ints.ext h k | exact fun h=>PairR.ext h k | exact fun h=>h.ext k | refine And.imp ?_ ?_)))) (fun _ _ _ _ _=>fun hh hx=>by first | exact Ints.ext hh hx | exact PairR.ext hh hx | exact hh.ext hx) (fun w1 hx hH=>?_) (fun lo6 hi6 v6 hlo6 hhi6 hv6=>?_)
     ·unfold RunTo;go_simp;exact (HV.out ▸ specPairPut_r addr val cut torn (HP.out.ext hx)).mono fun e w' h=>h.to
     simp only [Act.put,slA,slB,slC]
     refine Rob.cv (.bool true) rfl rfl rfl (fun _ _=>(by intro h k;revert h;(repeat' (first | exact fun h=>ext_trans h k | exact fun h=>Ints.ext h k | exact fun h=>PairR.ext h k | exact fun h=>h.ext k | refine And.imp ?_ ?_)))) (fun w1 hx hH=>?_) (fun lo7 hi7 hlo7 hhi7=>?_)
     ·unfold RunTo;go_simp;exact (lqPair_t (HQ.out.ext hx.1) hx.2).mono fun e w' h=>h.to
     simp only [Act.put,slA,slB,slC]
     iterate 2
      refine Rob.y (v:=?_) rfl rfl (fun w1 hx hH=>?_) ?_;rotate_left
      ·go_simp;first | done | rfl | exact (Bool.not_not _).symm
      simp only [Act.put,slA,slB,slC]
     refine Rob.yg (v:=?_) rfl rfl (fun w1 hx hH=>?_) ?_;rotate_left
     ·(have hE : Ext wc w1:=(by first | exact hx | exact hx.1 | exact hx.1.1);obtain ⟨z3,zf3⟩:=cellsK (keep_ext hE G3);obtain ⟨z5,zf5⟩:=cellsK (keep_ext hE G5));go_simp;first | done | rfl
     simp only [Act.put,slA,slB,slC]
     refine Rob.cv (.bool true) rfl rfl rfl (fun _ _=>(by intro h k;revert h;(repeat' (first | exact fun h=>ext_trans h k | exact fun h=>Ints.ext h k | exact fun h=>PairR.ext h k | exact fun h=>h.ext k | refine And.imp ?_ ?_)))) (fun w1 hx hH=>?_) (fun lo11 hi11 hlo11 hhi11=>?_)
     ·unfold RunTo;go_simp;exact (hok ▸ specPairOk_r (HP.out.ext hx.1)).mono fun e w' h=>h.to
     simp only [Act.put,slA,slB,slC]
     refine Rob.yg (v:=?_) rfl rfl (fun w1 hx hH=>?_) ?_;rotate_left
     ·go_simp;first | done | rfl | exact (Bool.not_not _).symm
     simp only [Act.put,slA,slB,slC]
     iterate 2
      refine Rob.y (v:=?_) rfl rfl (fun w1 hx hH=>?_) ?_;rotate_left
      ·go_simp;first | done | rfl | exact (Bool.not_not _).symm
      simp only [Act.put,slA,slB,slC]
     refine Rob.yg (v:=?_) rfl rfl (fun w1 hx hH=>?_) ?_;rotate_left
     ·go_simp;first | done | rfl | exact (Bool.not_not _).symm
     simp only [Act.put,slA,slB,slC]
     refine Rob.yg (v:=.bool false) rfl rfl (fun w1 hx hH=>?_) ?_
     ·go_simp;first | done | rfl | (simp;omega)
     simp only [Act.put,slA,slB,slC]
     iterate 2
      refine Rob.y (v:=?_) rfl rfl (fun w1 hx hH=>?_) ?_;rotate_left
      ·go_simp;first | done | rfl | exact (Bool.not_not _).symm
      simp only [Act.put,slA,slB,slC]
     refine Rob.yg (v:=?_) rfl rfl (fun w1 hx hH=>?_) ?_;rotate_left
     ·go_simp;first | done | rfl | exact (Bool.not_not _).symm
     simp only [Act.put,slA,slB,slC]
     refine Rob.yg (v:=.bool false) rfl rfl (fun w1 hx hH=>?_) ?_
     ·go_simp;first | done | rfl | (simp;omega)
     simp only [Act.put,slA,slB,slC]
     iterate 2
      refine Rob.y (v:=?_) rfl rfl (fun w1 hx hH=>?_) ?_;rotate_left
      ·go_simp;first | done | rfl | exact (Bool.not_not _).symm
      simp only [Act.put,slA,slB,slC]
     refine Rob.yg (v:=?_) rfl rfl (fun w1 hx hH=>?_) ?_;rotate_left
     ·go_simp;first | done | rfl | exact (Bool.not_not _).symm
     simp only [Act.put,slA,slB,slC]
     refine Rob.yg (v:=.bool true) rfl rfl (fun w1 hx hH=>?_) ?_
     ·go_simp;first | done | rfl | (simp;omega)
     simp only [Act.put,slA,slB,slC]
     refine Rob.y (v:=?_) rfl rfl (fun w1 hx hH=>?_) ?_;rotate_left
     ·go_simp;first | done | rfl | exact (Bool.not_not _).symm
     simp only [Act.put,slA,slB,slC]
     refine fin_nil (fun wd hxd _=>?_)
     replace hxd:=hxd.1
     replace HP:=Lib.hid (HP.out.ext hxd)
     replace HQ:=Lib.hid (HQ.out.ext hxd)
     replace G3:=keep_ext hxd G3
     replace G5:=keep_ext hxd G5
     replace X0:=ext_trans X0 hxd
     clear hxd
     (try clear g3 gf3 g5 gf5 l3 l5)
     obtain ⟨g3,gf3⟩:=cellsK G3
     obtain ⟨g5,gf5⟩:=cellsK G5
     have l3:=heap_lt G3
     have l5:=heap_lt G5
     go_wp2_with fail
     refine wp_region_ext [6,7] [0,1,2,3,4,5,6,7,8] [] [] (by kernel_rfl) (by kernel_rfl) ?late ?_
     case late=>exact fun f hf=>absurd hf List.not_mem_nil
     iterate 2
      refine Rob.y (v:=?_) rfl rfl (fun w1 hx hH=>?_) ?_;rotate_left
      ·(have hE : Ext wd w1:=(by first | exact hx | exact hx.1 | exact hx.1.1);obtain ⟨z3,zf3⟩:=cellsK (keep_ext hE G3);obtain ⟨z5,zf5⟩:=cellsK (keep_ext hE G5));go_simp;first | done | rfl
      simp only [Act.put,slA,slB,slC]
     iterate 4
      refine Rob.y (v:=?_) rfl rfl (fun w1 hx hH=>?_) ?_;rotate_left
      ·go_simp;first | done | rfl | exact (Bool.not_not _).symm
      simp only [Act.put,slA,slB,slC]
     refine Rob.c (fun _ _ v w'=>PairR w' v q) rfl rfl rfl (fun _ _=>(by intro h k;revert h;(repeat' (first | exact fun h=>ext_trans h k | exact fun h=>Ints.ext h k | exact fun h=>PairR.ext h k | exact fun h=>h.ext k | refine And.imp ?_ ?_)))) (fun _ _ _ _ _=>fun hh hx=>by first | exact Ints.ext hh hx | exact PairR.ext hh hx | exact hh.ext hx) (fun w1 hx hH=>?_) (fun lo6 hi6 v6 hlo6 hhi6 hv6=>?_)
     ·unfold RunTo;go_simp;exact (HV.out ▸ specPairPut_r addr val cut torn (HP.out.ext hx)).mono fun e w' h=>h.to
     simp only [Act.put,slA,slB,slC]
     refine Rob.cv (.bool true) rfl rfl rfl (fun _ _=>(by intro h k;revert h;(repeat' (first | exact fun h=>ext_trans h k | exact fun h=>Ints.ext h k | exact fun h=>PairR.ext h k | exact fun h=>h.ext k | refine And.imp ?_ ?_)))) (fun w1 hx hH=>?_) (fun lo7 hi7 hlo7 hhi7=>?_)
     ·unfold RunTo;go_simp;exact (lqPair_t (HQ.out.ext hx.1) hx.2).mono fun e w' h=>h.to
     simp only [Act.put,slA,slB,slC]
     refine Rob.y (v:=?_) rfl rfl (fun w1 hx hH=>?_) ?_;rotate_left
     ·go_simp;first | done | rfl | exact (Bool.not_not _).symm
     simp only [Act.put,slA,slB,slC]
     refine fin_nil (fun we hxe _=>?_)
     replace hxe:=hxe.1
     go_wp2_with fail
     go_ret
     exact ⟨rfl,ext_trans X0 hxe⟩
    ·skip
     refine wp_region_ext [6,7,11] [0,1,2,3,4,5,6,7,8,9,10,11,12,13,14,15,16,17,18,19,20,21,22,23,24,25] [] [] (by kernel_rfl) (by kernel_rfl) ?late ?_
     case late=>exact fun f hf=>absurd hf List.not_mem_nil
     iterate 2
      refine Rob.y (v:=?_) rfl rfl (fun w1 hx hH=>?_) ?_;rotate_left
      ·(have hE : Ext wc w1:=(by first | exact hx | exact hx.1 | exact hx.1.1);obtain ⟨z3,zf3⟩:=cellsK (keep_ext hE G3);obtain ⟨z5,zf5⟩:=cellsK (keep_ext hE G5));go_simp;first | done | rfl
      simp only [Act.put,slA,slB,slC]
     iterate 4
      refine Rob.y (v:=?_) rfl rfl (fun w1 hx hH=>?_) ?_;rotate_left
      ·go_simp;first | done | rfl | exact (Bool.not_not _).symm
      simp only [Act.put,slA,slB,slC]
     refine Rob.c (fun _ _ v w'=>PairR w' v q) rfl rfl rfl (fun _ _=>(by intro h k;revert h;(repeat' (first | exact fun h=>ext_trans h k | exact fun h=>Ints.ext h k | exact fun h=>PairR.ext h k | exact fun h=>h.ext k | refine And.imp ?_ ?_)))) (fun _ _ _ _ _=>fun hh hx=>by first | exact Ints.ext hh hx | exact PairR.ext hh hx | exact hh.ext hx) (fun w1 hx hH=>?_) (fun lo6 hi6 v6 hlo6 hhi6 hv6=>?_)
     ·unfold RunTo;go_simp;exact (HV.out ▸ specPairPut_r addr val cut torn (HP.out.ext hx)).mono fun e w' h=>h.to
     simp only [Act.put,slA,slB,slC]
     refine Rob.cv (.bool true) rfl rfl rfl (fun _ _=>(by intro h k;revert h;(repeat' (first | exact fun h=>ext_trans h k | exact fun h=>Ints.ext h k | exact fun h=>PairR.ext h k | exact fun h=>h.ext k | refine And.imp ?_ ?_)))) (fun w1 hx hH=>?_) (fun lo7 hi7 hlo7 hhi7=>?_)
     ·unfold RunTo;go_simp;exact (lqPair_t (HQ.out.ext hx.1) hx.2).mono fun e w' h=>h.to
     simp only [Act.put,slA,slB,slC]
     iterate 2
      refine Rob.y (v:=?_) rfl rfl (fun w1 hx hH=>?_) ?_;rotate_left
      ·go_simp;first | done | rfl | exact (Bool.not_not _).symm
      simp only [Act.put,slA,slB,slC]
     refine Rob.yg (v:=?_) rfl rfl (fun w1 hx hH=>?_) ?_;rotate_left
     ·(have hE : Ext wc w1:=(by first | exact hx | exact hx.1 | exact hx.1.1);obtain ⟨z3,zf3⟩:=cellsK (keep_ext hE G3);obtain ⟨z5,zf5⟩:=cellsK (keep_ext hE G5));go_simp;first | done | rfl
     simp only [Act.put,slA,slB,slC]
     refine Rob.cv (.bool true) rfl rfl rfl (fun _ _=>(by intro h k;revert h;(repeat' (first | exact fun h=>ext_trans h k | exact fun h=>Ints.ext h k | exact fun h=>PairR.ext h k | exact fun h=>h.ext k | refine And.imp ?_ ?_)))) (fun w1 hx hH=>?_) (fun lo11 hi11 hlo11 hhi11=>?_)
     ·unfold RunTo;go_simp;exact (hok ▸ specPairOk_r (HP.out.ext hx.1)).mono fun e w' h=>h.to
     simp only [Act.put,slA,slB,slC]
     refine Rob.yg (v:=?_) rfl rfl (fun w1 hx hH=>?_) ?_;rotate_left
     ·go_simp;first | done | rfl | exact (Bool.not_not _).symm
     simp only [Act.put,slA,slB,slC]
     iterate 2
      refine Rob.y (v:=?_) rfl rfl (fun w1 hx hH=>?_) ?_;rotate_left
      ·go_simp;first | done | rfl | exact (Bool.not_not _).symm
      simp only [Act.put,slA,slB,slC]
     refine Rob.yg (v:=?_) rfl rfl (fun w1 hx hH=>?_) ?_;rotate_left
     ·go_simp;first | done | rfl | exact (Bool.not_not _).symm
     simp only [Act.put,slA,slB,slC]
     refine Rob.yg (v:=.bool false) rfl rfl (fun w1 hx hH=>?_) ?_
     ·go_simp;first | done | rfl | (simp;omega)
     simp only [Act.put,slA,slB,slC]
     iterate 2
      refine Rob.y (v:=?_) rfl rfl (fun w1 hx hH=>?_) ?_;rotate_left
      ·go_simp;first | done | rfl | exact (Bool.not_not _).symm
      simp only [Act.put,slA,slB,slC]
     refine Rob.yg (v:=?_) rfl rfl (fun w1 hx hH=>?_) ?_;rotate_left
     ·go_simp;first | done | rfl | exact (Bool.not_not _).symm
     simp only [Act.put,slA,slB,slC]
     refine Rob.yg (v:=.bool false) rfl rfl (fun w1 hx hH=>?_) ?_
     ·go_simp;first | done | rfl | (simp;omega)
     simp only [Act.put,slA,slB,slC]
     iterate 2
      refine Rob.y (v:=?_) rfl rfl (fun w1 hx hH=>?_) ?_;rotate_left
      ·go_simp;first | done | rfl | exact (Bool.not_not _).symm
      simp only [Act.put,slA,slB,slC]
     refine Rob.yg (v:=?_) rfl rfl (fun w1 hx hH=>?_) ?_;rotate_left
     ·go_simp;first | done | rfl | exact (Bool.not_not _).symm
     simp only [Act.put,slA,slB,slC]
     refine Rob.yg (v:=.bool false) rfl rfl (fun w1 hx hH=>?_) ?_
     ·go_simp;first | done | rfl | (simp;omega)
     simp only [Act.put,slA,slB,slC]
     refine Rob.y (v:=?_) rfl rfl (fun w1 hx hH=>?_) ?_;rotate_left
     ·go_simp;first | done | rfl | exact (Bool.not_not _).symm
     simp only [Act.put,slA,slB,slC]
     refine fin_nil (fun wd hxd _=>?_)
     replace hxd:=hxd.1
     have HO:=Lib.hid hok
     clear hok
     replace HP:=Lib.hid (HP.out.ext hxd)
     replace HQ:=Lib.hid (HQ.out.ext hxd)
     replace G3:=keep_ext hxd G3
     replace G5:=keep_ext hxd G5
     replace X0:=ext_trans X0 hxd
     clear hxd
     (try clear g3 gf3 g5 gf5 l3 l5)
     obtain ⟨g3,gf3⟩:=cellsK G3
     obtain ⟨g5,gf5⟩:=cellsK G5
     have l3:=heap_lt G3
     have l5:=heap_lt G5
     have hc0 : 0 ≤ cut:=by omega
     obtain ⟨k,rfl⟩ : ∃ k : Nat,addr = (k : Int) + 1:=⟨(addr - 1).toNat,by omega⟩
     have hk6 : k < 6:=by omega
     have hq0:=HV.out
     rw [pairPut_of HO.out hc0] at hq0
     have HQO : Hid (pairOkB q = true):=Lib.hid (by rw [← hq0];exact pOk_put HO.out _ _ _ _)
     have HSET : Hid (pairAllV p ≠ pairAllV q → (pairAllV p).set k val = pairAllV q):=Lib.hid fun h=>by
      rw [← hq0] at h ⊢;exact cut_all HO.out hk6 val cut torn h
     have HL6 : Hid ((pairAllV p).length = 6):=Lib.hid (by unfold pairAllV;rw [if_pos HO.out];split <;> exact allS_len _)
     clear hq0 HV
     have hcA:=implPairAll_n HP.out HO.out
     go_wp2_with fail
     refine hcA.mono ?_;rintro e3 we ⟨B,T,o,cp,rfl,hxe,hB,hOA⟩
     have HOA:=Lib.hid hOA
     have sB:=hOA.lt
     clear hcA hOA
     have Xe : Ext wd we:=hxe
     have hcB:=fun (w' : World) (hx : Ext we w')=>implPairAll_n (HQ.out.ext (ext_trans Xe hx)) HQO.out
     (try clear g3 gf3 g5 gf5 l3 l5)
     obtain ⟨g3,gf3⟩:=cellsK G3
     obtain ⟨g5,gf5⟩:=cellsK G5
     have l3:=heap_lt G3
     have l5:=heap_lt G5
     clear g3 gf3 g5 gf5
     have hnB3 : wa.heap.size ≠ B:=by omega
     have hnB5 : wb.heap.size ≠ B:=by omega
     have L3:=l3;have L5:=l5
     obtain ⟨g3,gf3⟩:=cellsK (keep_ext Xe G3)
     obtain ⟨g5,gf5⟩:=cellsK (keep_ext Xe G5)
     obtain ⟨xs6,hxs6⟩ : ∃ l,pairAllV p = l:=⟨_,rfl⟩
     rw [hxs6] at HOA HL6 HSET ⊢
     have hcB:=hcB we (ext_refl _)
     go_wp2_with fail
     refine hcB.mono ?_;rintro e4 wf ⟨B',T',o',cp',rfl,hxf,hB',hOB⟩
     have sB':=hOB.lt
     have hBB : B' ≠ B:=by omega
     obtain ⟨ys6,hys6⟩ : ∃ l,pairAllV q = l:=⟨_,rfl⟩
     rw [hys6] at hOB HSET ⊢
     have HOB:=Lib.hid hOB
     replace HOA:=Lib.hid (HOA.out.keep (hxf.block _ sB))
     have Xf : Ext wd wf:=ext_trans Xe hxf
     clear hcB hOB g3 gf3 g5 gf5 hxs6 hys6
     obtain ⟨g3,gf3⟩:=cellsK (keep_ext Xf G3)
     obtain ⟨g5,gf5⟩:=cellsK (keep_ext Xf G5)
     have hEq:=lqInts_r (HOA.out.ints (cap:=cp)) (HOB.out.ints (cap:=cp')) (by have:=HL6.out;omega)
     by_cases hsame : xs6 = ys6
     ·rw [decide_eq_true hsame] at hEq
      have HSAME:=Lib.hid hsame
      clear hsame
      have hPO:=fun (w' : World) (hx : Ext wf w')=>HQO.out ▸ implPairOk_r (HQ.out.ext (ext_trans Xf hx))
      have HPO:=Lib.hid hPO
      clear hPO
      go_wp2_with fail
      refine hEq.mono ?_;rintro e5 wg ⟨rfl,hxg⟩
      clear g3 gf3 g5 gf5 hEq
      obtain ⟨g3,gf3⟩:=cellsK (keep_ext (ext_trans Xf hxg) G3)
      obtain ⟨g5,gf5⟩:=cellsK (keep_ext (ext_trans Xf hxg) G5)
      go_wp2_with fail
      refine (HPO.out _ hxg).mono ?_;rintro e6 wh ⟨rfl,hxh⟩
      go_wp2_with fail
      go_ret
      exact ⟨rfl,ext_trans X0 (ext_trans Xf (ext_trans hxg hxh))⟩
     ·rw [decide_eq_false hsame] at hEq
      have HSAME:=Lib.hid (HSET.out hsame)
      clear hsame HSET
      go_wp2_with fail
      refine hEq.mono ?_;rintro e5 wg ⟨rfl,hxg⟩
      clear g3 gf3 g5 gf5 hEq
      have Xg:=ext_trans Xf hxg
      replace HOA:=Lib.hid (HOA.out.keep (hxg.block _ HOA.out.lt))
      replace HOB:=Lib.hid (HOB.out.keep (hxg.block _ HOB.out.lt))
      have hkx : k < xs6.length:=by rw [HL6.out];exact hk6
      have hLx:=HL6.out
      have e0:=HOA.out.one (k:=k) hkx
      have ef:=HOA.out.frozen
      have hS:=HOA.out.put hkx val
      have hC8:=set_chg wg B (o + k) (.int .i64 val)
      have HS2:=Lib.hid hS
      have X8:=hC8.ext Xg (by simp;omega)
      have HOB2:=Lib.hid (HOB.out.chg hC8 (by simpa using hBB))
      have hEq:=lqInts_r (HS2.out.ints (cap:=cp)) (HOB2.out.ints (cap:=cp')) (by rw [List.length_set];omega)
      rw [decide_eq_true HSAME.out,List.length_set,hLx] at hEq
      have hPO:=fun (w' : World) (hx : Ext (wg.setCell ⟨B,o + k,none⟩ (.int .i64 val)) w')=>HQO.out ▸ implPairOk_r (HQ.out.ext (ext_trans X8 hx))
      have HPO:=Lib.hid hPO
      have HEQ:=Lib.hid hEq
      obtain ⟨g3,gf3⟩:=cellsK (keep_ext X8 G3)
      obtain ⟨g5,gf5⟩:=cellsK (keep_ext X8 G5)
      clear hS hC8 hEq hPO
      go_wp2_with fail
      refine HEQ.out.mono ?_;rintro e6 wh ⟨rfl,hxh⟩
      clear g3 gf3 g5 gf5 e0 ef
      obtain ⟨g3,gf3⟩:=cellsK (keep_ext (ext_trans X8 hxh) G3)
      obtain ⟨g5,gf5⟩:=cellsK (keep_ext (ext_trans X8 hxh) G5)
      go_wp2_with fail
      refine (HPO.out _ hxh).mono ?_;rintro e7 wi ⟨rfl,hxi⟩
      go_wp2_with fail
      go_ret
      exact ⟨rfl,ext_trans X0 (ext_trans X8 (ext_trans hxh hxi))⟩
  ·rw [Bool.not_eq_true] at hok
   refine wp_region_ext [6,7,11] [0,1,2,3,4,5,6,7,8,9,10,11,12,13,14,15,16,17,18,19,20,21,22,23,24,25] [] [] (by kernel_rfl) (by kernel_rfl) ?late ?_
   case late=>exact fun f hf=>absurd hf List.not_mem_nil
   iterate 2
    refine Rob.y (v:=?_) rfl rfl (fun w1 hx hH=>?_) ?_;rotate_left
    ·(have hE : Ext wc w1:=(by first | exact hx | exact hx.1 | exact hx.1.1);obtain ⟨z3,zf3⟩:=cellsK (keep_ext hE G3);obtain ⟨z5,zf5⟩:=cellsK (keep_ext hE G5));go_simp;first | done | rfl
    simp only [Act.put,slA,slB,slC]
   iterate 4
    refine Rob.y (v:=?_) rfl rfl (fun w1 hx hH=>?_) ?_;rotate_left
    ·go_simp;first | done | rfl | exact (Bool.not_not _).symm
    simp only [Act.put,slA,slB,slC]
   refine Rob.c (fun _ _ v w'=>PairR w' v q) rfl rfl rfl (fun _ _=>(by intro h k;revert h;(repeat' (first | exact fun h=>ext_trans h k | exact fun h=>Ints.ext h k | exact fun h=>PairR.ext h k | exact fun h=>h.ext k | refine And.imp ?_ ?_)))) (fun _ _ _ _ _=>fun hh hx=>by first | exact Ints.ext hh hx | exact PairR.ext hh hx | exact hh.ext hx) (fun w1 hx hH=>?_) (fun lo6 hi6 v6 hlo6 hhi6 hv6=>?_)
   ·unfold RunTo;go_simp;exact (HV.out ▸ specPairPut_r addr val cut torn (HP.out.ext hx)).mono fun e w' h=>h.to
   simp only [Act.put,slA,slB,slC]
   refine Rob.cv (.bool true) rfl rfl rfl (fun _ _=>(by intro h k;revert h;(repeat' (first | exact fun h=>ext_trans h k | exact fun h=>Ints.ext h k | exact fun h=>PairR.ext h k | exact fun h=>h.ext k | refine And.imp ?_ ?_)))) (fun w1 hx hH=>?_) (fun lo7 hi7 hlo7 hhi7=>?_)
   ·unfold RunTo;go_simp;exact (lqPair_t (HQ.out.ext hx.1) hx.2).mono fun e w' h=>h.to
   simp only [Act.put,slA,slB,slC]
   iterate 2
    refine Rob.y (v:=?_) rfl rfl (fun w1 hx hH=>?_) ?_;rotate_left
    ·go_simp;first | done | rfl | exact (Bool.not_not _).symm
    simp only [Act.put,slA,slB,slC]
   refine Rob.yg (v:=?_) rfl rfl (fun w1 hx hH=>?_) ?_;rotate_left
   ·(have hE : Ext wc w1:=(by first | exact hx | exact hx.1 | exact hx.1.1);obtain ⟨z3,zf3⟩:=cellsK (keep_ext hE G3);obtain ⟨z5,zf5⟩:=cellsK (keep_ext hE G5));go_simp;first | done | rfl
   simp only [Act.put,slA,slB,slC]
   refine Rob.cv (.bool false) rfl rfl rfl (fun _ _=>(by intro h k;revert h;(repeat' (first | exact fun h=>ext_trans h k | exact fun h=>Ints.ext h k | exact fun h=>PairR.ext h k | exact fun h=>h.ext k | refine And.imp ?_ ?_)))) (fun w1 hx hH=>?_) (fun lo11 hi11 hlo11 hhi11=>?_)
   ·unfold RunTo;go_simp;exact (hok ▸ specPairOk_r (HP.out.ext hx.1)).mono fun e w' h=>h.to
   simp only [Act.put,slA,slB,slC]
   refine Rob.yg (v:=?_) rfl rfl (fun w1 hx hH=>?_) ?_;rotate_left
   ·go_simp;first | done | rfl | exact (Bool.not_not _).symm
   simp only [Act.put,slA,slB,slC]
   iterate 2
    refine Rob.y (v:=?_) rfl rfl (fun w1 hx hH=>?_) ?_;rotate_left
    ·go_simp;first | done | rfl | exact (Bool.not_not _).symm
    simp only [Act.put,slA,slB,slC]
   iterate 2
    refine Rob.no rfl rfl ?_
    simp only [Act.put,slA,slB,slC]
   iterate 2
    refine Rob.y (v:=?_) rfl rfl (fun w1 hx hH=>?_) ?_;rotate_left
    ·go_simp;first | done | rfl | exact (Bool.not_not _).symm
    simp only [Act.put,slA,slB,slC]
   iterate 2
    refine Rob.no rfl rfl ?_
    simp only [Act.put,slA,slB,slC]
   iterate 2
    refine Rob.y (v:=?_) rfl rfl (fun w1 hx hH=>?_) ?_;rotate_left
    ·go_simp;first | done | rfl | exact (Bool.not_not _).symm
    simp only [Act.put,slA,slB,slC]
   iterate 2
    refine Rob.no rfl rfl ?_
    simp only [Act.put,slA,slB,slC]
   refine Rob.y (v:=?_) rfl rfl (fun w1 hx hH=>?_) ?_;rotate_left
   ·go_simp;first | done | rfl | exact (Bool.not_not _).symm
   simp only [Act.put,slA,slB,slC]
   refine fin_nil (fun wd hxd _=>?_)
   replace hxd:=hxd.1
   replace HP:=Lib.hid (HP.out.ext hxd)
   replace HQ:=Lib.hid (HQ.out.ext hxd)
   replace G3:=keep_ext hxd G3
   replace G5:=keep_ext hxd G5
   replace X0:=ext_trans X0 hxd
   clear hxd
   (try clear g3 gf3 g5 gf5 l3 l5)
   obtain ⟨g3,gf3⟩:=cellsK G3
   obtain ⟨g5,gf5⟩:=cellsK G5
   have l3:=heap_lt G3
   have l5:=heap_lt G5
   go_wp2_with fail
   refine wp_region_ext [6,7] [0,1,2,3,4,5,6,7,8] [] [] (by kernel_rfl) (by kernel_rfl) ?late ?_
   case late=>exact fun f hf=>absurd hf List.not_mem_nil
   iterate 2
    refine Rob.y (v:=?_) rfl rfl (fun w1 hx hH=>?_) ?_;rotate_left
    ·(have hE : Ext wd w1:=(by first | exact hx | exact hx.1 | exact hx.1.1);obtain ⟨z3,zf3⟩:=cellsK (keep_ext hE G3);obtain ⟨z5,zf5⟩:=cellsK (keep_ext hE G5));go_simp;first | done | rfl
    simp only [Act.put,slA,slB,slC]
   iterate 4
    refine Rob.y (v:=?_) rfl rfl (fun w1 hx hH=>?_) ?_;rotate_left
    ·go_simp;first | done | rfl | exact (Bool.not_not _).symm
    simp only [Act.put,slA,slB,slC]
   refine Rob.c (fun _ _ v w'=>PairR w' v q) rfl rfl rfl (fun _ _=>(by intro h k;revert h;(repeat' (first | exact fun h=>ext_trans h k | exact fun h=>Ints.ext h k | exact fun h=>PairR.ext h k | exact fun h=>h.ext k | refine And.imp ?_ ?_)))) (fun _ _ _ _ _=>fun hh hx=>by first | exact Ints.ext hh hx | exact PairR.ext hh hx | exact hh.ext hx) (fun w1 hx hH=>?_) (fun lo6 hi6 v6 hlo6 hhi6 hv6=>?_)
   ·unfold RunTo;go_simp;exact (HV.out ▸ specPairPut_r addr val cut torn (HP.out.ext hx)).mono fun e w' h=>h.to
   simp only [Act.put,slA,slB,slC]
   refine Rob.cv (.bool true) rfl rfl rfl (fun _ _=>(by intro h k;revert h;(repeat' (first | exact fun h=>ext_trans h k | exact fun h=>Ints.ext h k | exact fun h=>PairR.ext h k | exact fun h=>h.ext k | refine And.imp ?_ ?_)))) (fun w1 hx hH=>?_) (fun lo7 hi7 hlo7 hhi7=>?_)
   ·unfold RunTo;go_simp;exact (lqPair_t (HQ.out.ext hx.1) hx.2).mono fun e w' h=>h.to
   simp only [Act.put,slA,slB,slC]
   refine Rob.y (v:=?_) rfl rfl (fun w1 hx hH=>?_) ?_;rotate_left
   ·go_simp;first | done | rfl | exact (Bool.not_not _).symm
   simp only [Act.put,slA,slB,slC]
   refine fin_nil (fun we hxe _=>?_)
   replace hxe:=hxe.1
   go_wp2_with fail
   go_ret
   exact ⟨rfl,ext_trans X0 hxe⟩
 ·go_enter Tryz.func9,Tryz.ntmps9
  go_wp2_with fail
  all_goals
   go_ret
   exact ⟨rfl,ext_refl _⟩
end Go.Bu