/- The law FnPairPut holds of every input. -/import Derived.Test.YtcainddboblpbaaGreatZ9
set_option linter.unusedVariables false
set_option linter.unusedSimpArgs false
namespace Go.Bu
open Go Go.RowKit Go.Plan Go.Proofs
set_option maxRecDepth 20000 in
set_option maxHeartbeats 1000000 in
theorem lawPairPut (v : Value) (xs : List Nat) (w : World) (h : Bytes (Old w) w v xs) (hs : ∀ x ∈ xs,x < 256) (hcap : ∀ a n c,v = .slice a n c → n ≤ c) :
  Calls Tryz.prog 5 #[v] w (Ret w (.bool true)):=by
 obtain ⟨a,cap,rfl⟩:=h.form
 by_cases hl : xs.length ≤ 1048576
 ·go_enter Tryz.func5,Tryz.ntmps5
  go_wp2_with fail
  refine (drawPairPut_c _ xs _ h hs hl hcap).mono ?_;rintro e1 wa ⟨v1,u1,p,rfl,hxa,hp,addr,val,cut,torn,A0,A1,B0,B1,C0,C1,rfl⟩
  obtain ⟨a1,n1,c1,b1,m1,k1,a2,n2,c2,b2,m2,k2,rfl⟩:=hp.forms
  have HP:=Lib.hid hp
  clear hp
  go_wp2_with fail
  refine (implPairPut_r addr val cut torn (HP.out.ext (ext_alloc (ext_refl _) _))).mono ?_;rintro e2 wb ⟨v2,rfl,hxb,hq⟩
  obtain ⟨a3,n3,c3,b3,m3,k3,a4,n4,c4,b4,m4,k4,rfl⟩:=hq.forms
  have Xab:=ext_trans (ext_alloc (ext_refl wa) _) hxb
  have G3:=keep_ext hxb (hg_new (b:=wa.heap.size) rfl)
  replace HP:=Lib.hid (HP.out.ext Xab)
  have HQ:=Lib.hid hq
  have X0 : Ext w wb:=ext_trans hxa Xab
  clear hxa hxb Xab hq
  obtain ⟨q,hqv⟩ : ∃ q,pairPutV p addr val cut torn = q:=⟨_,rfl⟩
  have HV:=Lib.hid hqv
  rw [hqv] at HQ
  rw [show (pairPutV p addr val cut torn).lost = q.lost by rw [hqv]]
  clear hqv
  go_wp2_with fail
  have GE : ∀ o w',Ext (wb.alloc o) w' → Ext wb w':=fun o w' h=>ext_trans (ext_alloc (ext_refl _) _) h
  have G5:=hg_new (w:=wb) (x:=.cells #[.slice a3 n3 c3,.slice b3 m3 k3,.slice a4 n4 c4,.slice b4 m4 k4,.int .i64 q.lost] 28) (b:=wb.heap.size) rfl
  replace G3:=hg_alloc (x:=.cells #[.slice a3 n3 c3,.slice b3 m3 k3,.slice a4 n4 c4,.slice b4 m4 k4,.int .i64 q.lost] 28) G3
  replace HP:=Lib.hid (HP.out.ext (GE (.cells #[.slice a3 n3 c3,.slice b3 m3 k3,.slice a4 n4 c4,.slice b4 m4 k4,.int .i64 q.lost] 28) _ (ext_refl _)))
  replace HQ:=Lib.hid (HQ.out.ext (GE (.cells #[.slice a3 n3 c3,.slice b3 m3 k3,.slice a4 n4 c4,.slice b4 m4 k4,.int .i64 q.lost] 28) _ (ext_refl _)))
  replace X0:=ext_alloc X0 (.cells #[.slice a3 n3 c3,.slice b3 m3 k3,.slice a4 n4 c4,.slice b4 m4 k4,.int .i64 q.lost] 28)
  clear GE
  generalize wb.alloc (.cells #[.slice a3 n3 c3,.slice b3 m3 k3,.slice a4 n4 c4,.slice b4 m4 k4,.int .i64 q.lost] 28) = wc at *
  by_cases hok : pairOkB p = true
  ·by_cases hc : cut < 0
   ·skip
    refine wp_region_ext [6,7,11] [0,1,2,3,4,5,6,7,8,9,10,11,12,13,14,15,16,17,18,19,20,21,22,23,24,25,26,27,28,29,30,31,32,33] [] [] (by kernel_rfl) (by kernel_rfl) ?late ?_
    case late=>exact fun f hf=>absurd hf List.not_mem_nil
    iterate 2
     refine Rob.y (v:=?_) rfl rfl (fun w1 hx hH=>?_) ?_;rotate_left
     ·(have hE : Ext wc w1:=(by first | exact hx | exact hx.1 | exact hx.1.1);obtain ⟨z3,zf3⟩:=cellsK (keep_ext hE G3);obtain ⟨z5,zf5⟩:=cellsK (keep_ext hE G5));go_simp;first | done | rfl
     simp only [Act.put,slA,slB,slC]
    iterate 4
     refine Rob.y (v:=?_) rfl rfl (fun w1 hx hH=>?_) ?_;rotate_left
     ·go_simp;first | done | rfl | exact (Bool.not_not _).symm
     simp only [Act.put,slA,slB,slC]
    refine Rob.c (fun _ _ v w'=>PairR w' v q) rfl rfl rfl (fun _ _=>(by intro h k;revert h;(repeat' (first | exact fun h=>ext_trans h k | exact fun h=>Ints.ext h k | exact fun h=>PairR.ext h k | exact fun h=>h.ext k | refine And.imp ?_ ?_)))) (fun _ _ _ _ _=>fun hh hx=>by first | exact Ints.ext hh hx | exact PairR.ext hh hx | exact hh.ext hx) (fun w1 hx hH=>?_) (fun lo6 hi6 v6 hlo6 hhi6 hv6=>?_)
    ·unfold RunTo;go_simp;exact (HV.out ▸ specPairPut_r addr val cut torn (HP.out.ext hx)).mono fun e w' h=>h.to
    simp only [Act.put,slA,slB,slC]
    refine Rob.cv (.bool true) rfl rfl rfl (fun _ _=>(by intro h k;revert h;(repeat' (first | exact fun h=>ext_trans h k | exact fun h=>Ints.ext h k | exact fun h=>PairR.ext h k | exact fun h=>h.ext k | refine And.imp ?_ ?_)))) (fun w1 hx hH=>?_) (fun lo7 hi7 hlo7 hhi7=>?_)
    ·unfold RunTo;go_simp;exact (lqPair_t (HQ.out.ext hx.1) hx.2).mono fun e w' h=>h.to
    simp only [Act.put,slA,slB,slC]
    iterate 2
     refine Rob.y (v:=?_) rfl rfl (fun w1 hx hH=>?_) ?_;rotate_left
     ·go_simp;first | done | rfl | exact (Bool.not_not _).symm
     simp only [Act.put,slA,slB,slC]
    refine Rob.yg (v:=?_) rfl rfl (fun w1 hx hH=>?_) ?_;rotate_left
    ·(have hE : Ext wc w1:=(by first | exact hx | exact hx.1 | exact hx.1.1);obtain ⟨z3,zf3⟩:=cellsK (keep_ext hE G3);obtain ⟨z5,zf5⟩:=cellsK (keep_ext hE G5));go_simp;first | done | rfl
    simp only [Act.put,slA,slB,slC]
    refine Rob.cv (.bool true) rfl rfl rfl (fun _ _=>(by intro h k;revert h;(repeat' (first | exact fun h=>ext_trans h k | exact fun h=>Ints.ext h k | exact fun h=>PairR.ext h k | exact fun h=>h.ext k | refine And.imp ?_ ?_)))) (fun w1 hx hH=>?_) (fun lo11 hi11 hlo11 hhi11=>?_)
    ·unfold RunTo;go_simp;exact (hok ▸ specPairOk_r (HP.out.ext hx.1)).mono fun e w' h=>h.to
    simp only [Act.put,slA,slB,slC]
    refine Rob.yg (v:=?_) rfl rfl (fun w1 hx hH=>?_) ?_;rotate_left
    ·go_simp;first | done | rfl | exact (Bool.not_not _).symm
    simp only [Act.put,slA,slB,slC]
    iterate 2
     refine Rob.y (v:=?_) rfl rfl (fun w1 hx hH=>?_) ?_;rotate_left
     ·go_simp;first | done | rfl | exact (Bool.not_not _).symm
     simp only [Act.put,slA,slB,slC]
    refine Rob.yg (v:=?_) rfl rfl (fun w1 hx hH=>?_) ?_;rotate_left
    ·go_simp;first | done | rfl | exact (Bool.not_not _).symm
    simp only [Act.put,slA,slB,slC]
    refine Rob.yg (v:=.bool true) rfl rfl (fun w1 hx hH=>?_) ?_
    ·go_simp;first | done | rfl | (simp;omega)
    simp only [Act.put,slA,slB,slC]
    iterate 2
     refine Rob.y (v:=?_) rfl rfl (fun w1 hx hH=>?_) ?_;rotate_left
     ·go_simp;first | done | rfl | exact (Bool.not_not _).symm
     simp only [Act.put,slA,slB,slC]
    iterate 2
     refine Rob.no rfl rfl ?_
     simp only [Act.put,slA,slB,slC]
    iterate 2
     refine Rob.y (v:=?_) rfl rfl (fun w1 hx hH=>?_) ?_;rotate_left
     ·go_simp;first | done | rfl | exact (Bool.not_not _).symm
     simp only [Act.put,slA,slB,slC]
    iterate 2
     refine Rob.no rfl rfl ?_
     simp only [Act.put,slA,slB,slC]
    iterate 2
     refine Rob.y (v:=?_) rfl rfl (fun w1 hx hH=>?_) ?_;rotate_left
     ·go_simp;first | done | rfl | exact (Bool.not_not _).symm
     simp only [Act.put,slA,slB,slC]
    iterate 2
     refine Rob.no rfl rfl ?_
     simp only [Act.put,slA,slB,slC]
    iterate 2
     refine Rob.y (v:=?_) rfl rfl (fun w1 hx hH=>?_) ?_;rotate_left
     ·go_simp;first | done | rfl | exact (Bool.not_not _).symm
     simp only [Act.put,slA,slB,slC]
    iterate 2
     refine Rob.no rfl rfl ?_
     simp only [Act.put,slA,slB,slC]
    refine Rob.y (v:=?_) rfl rfl (fun w1 hx hH=>?_) ?_;rotate_left
    ·go_simp;first | done | rfl | exact (Bool.not_not _).symm
    simp only [Act.put,slA,slB,slC]
    refine fin_nil (fun wd hxd _=>?_)
    replace hxd:=hxd.1
    replace HP:=Lib.hid (HP.out.ext hxd)
    replace HQ:=Lib.hid (HQ.out.ext hxd)
    replace G3:=keep_ext hxd G3
    replace G5:=keep_ext hxd G5
    replace X0:=ext_trans X0 hxd
    clear hxd
    (try clear g3 gf3 g5 gf5 l3 l5)
    obtain ⟨g3,gf3⟩:=cellsK G3
    obtain ⟨g5,gf5⟩:=cellsK G5
    have l3:=heap_lt G3
    have l5:=heap_lt G5
    go_wp2_with fail
    refine wp_region_ext [6,7] [0,1,2,3,4,5,6,7,8] [] [] (by kernel_rfl) (by kernel_rfl) ?late ?_
    case late=>exact fun f hf=>absurd hf List.not_mem_nil
    iterate 2
     refine Rob.y (v:=?_) rfl rfl (fun w1 hx hH=>?_) ?_;rotate_left
     ·(have hE : Ext wd w1:=(by first | exact hx | exact hx.1 | exact hx.1.1);obtain ⟨z3,zf3⟩:=cellsK (keep_ext hE G3);obtain ⟨z5,zf5⟩:=cellsK (keep_ext hE G5));go_simp;first | done | rfl
     simp only [Act.put,slA,slB,slC]
    iterate 4
     refine Rob.y (v:=?_) rfl rfl (fun w1 hx hH=>?_) ?_;rotate_left
     ·go_simp;first | done | rfl | exact (Bool.not_not _).symm
     simp only [Act.put,slA,slB,slC]
    refine Rob.c (fun _ _ v w'=>PairR w' v q) rfl rfl rfl (fun _ _=>(by intro h k;revert h;(repeat' (first | exact fun h=>ext_trans h k | exact fun h=>Ints.ext h k | exact fun h=>PairR.ext h k | exact fun h=>h.ext k | refine And.imp ?_ ?_)))) (fun _ _ _ _ _=>fun hh hx=>by first | exact Ints.ext hh hx | exact PairR.ext hh hx | exact hh.ext hx) (fun w1 hx hH=>?_) (fun lo6 hi6 v6 hlo6 hhi6 hv6=>?_)
    ·unfold RunTo;go_simp;exact (HV.out ▸ specPairPut_r addr val cut torn (HP.out.ext hx)).mono fun e w' h=>h.to
    simp only [Act.put,slA,slB,slC]
    refine Rob.cv (.bool true) rfl rfl rfl (fun _ _=>(by intro h k;revert h;(repeat' (first | exact fun h=>ext_trans h k | exact fun h=>Ints.ext h k | exact fun h=>PairR.ext h k | exact fun h=>h.ext k | refine And.imp ?_ ?_)))) (fun w1 hx hH=>?_) (fun lo7 hi7 hlo7 hhi7=>?_)
    ·unfold RunTo;go_simp;exact (lqPair_t (HQ.out.ext hx.1) hx.2).mono fun e w' h=>h.to
    simp only [Act.put,slA,slB,slC]
    refine Rob.y (v:=?_) rfl rfl (fun w1 hx hH=>?_) ?_;rotate_left
    ·go_simp;first | done | rfl | exact (Bool.not_not _).symm
    simp only [Act.put,slA,slB,slC]
    refine fin_nil (fun we hxe _=>?_)
    replace hxe:=hxe.1
    go_wp2_with fail
    go_ret
    exact ⟨rfl,ext_trans X0 hxe⟩
   ·by_cases h6 : 6 < addr
    ·skip
     refine wp_region_ext [6,7,11] [0,1,2,3,4,5,6,7,8,9,10,11,12,13,14,15,16,17,18,19,20,21,22,23,24,25,26,27,28,29,30,31,32,33] [] [] (by kernel_rfl) (by kernel_rfl) ?late ?_
     case late=>exact fun f hf=>absurd hf List.not_mem_nil
     iterate 2
      refine Rob.y (v:=?_) rfl rfl (fun w1 hx hH=>?_) ?_;rotate_left
      ·(have hE : Ext wc w1:=(by first | exact hx | exact hx.1 | exact hx.1.1);obtain ⟨z3,zf3⟩:=cellsK (keep_ext hE G3);obtain ⟨z5,zf5⟩:=cellsK (keep_ext hE G5));go_simp;first | done | rfl
      simp only [Act.put,slA,slB,slC]
     iterate 4
      refine Rob.y (v:=?_) rfl rfl (fun w1 hx hH=>?_) ?_;rotate_left
      ·go_simp;first | done | rfl | exact (Bool.not_not _).symm
      simp only [Act.put,slA,slB,slC]
     refine Rob.c (fun _ _ v w'=>PairR w' v q) rfl rfl rfl (fun _ _=>(by intro h k;revert h;(repeat' (first | exact fun h=>ext_trans h k | exact fun h=>Ints.ext h k | exact fun h=>PairR.ext h k | exact fun h=>h.ext k | refine And.imp ?_ ?_)))) (fun _ _ _ _ _=>fun hh hx=>by first | exact Ints.ext hh hx | exact PairR.ext hh hx | exact hh.ext hx) (fun w1 hx hH=>?_) (fun lo6 hi6 v6 hlo6 hhi6 hv6=>?_)
     ·unfold RunTo;go_simp;exact (HV.out ▸ specPairPut_r addr val cut torn (HP.out.ext hx)).mono fun e w' h=>h.to
     simp only [Act.put,slA,slB,slC]
     refine Rob.cv (.bool true) rfl rfl rfl (fun _ _=>(by intro h k;revert h;(repeat' (first | exact fun h=>ext_trans h k | exact fun h=>Ints.ext h k | exact fun h=>PairR.ext h k | exact fun h=>h.ext k | refine And.imp ?_ ?_)))) (fun w1 hx hH=>?_) (fun lo7 hi7 hlo7 hhi7=>?_)
     ·unfold RunTo;go_simp;exact (lqPair_t (HQ.out.ext hx.1) hx.2).mono fun e w' h=>h.to
     simp only [Act.put,slA,slB,slC]
     iterate 2
      refine Rob.y (v:=?_) rfl rfl (fun w1 hx hH=>?_) ?_;rotate_left
      ·go_simp;first | done | rfl | exact (Bool.not_not _).symm
      simp only [Act.put,slA,slB,slC]
     refine Rob.yg (v:=?_) rfl rfl (fun w1 hx hH=>?_) ?_;rotate_left
     ·(have hE : Ext wc w1:=(by first | exact hx | exact hx.1 | exact hx.1.1);obtain ⟨z3,zf3⟩:=cellsK (keep_ext hE G3);obtain ⟨z5,zf5⟩:=cellsK (keep_ext hE G5));go_simp;first | done | rfl
     simp only [Act.put,slA,slB,slC]
     refine Rob.cv (.bool true) rfl rfl rfl (fun _ _=>(by intro h k;revert h;(repeat' (first | exact fun h=>ext_trans h k | exact fun h=>Ints.ext h k | exact fun h=>PairR.ext h k | exact fun h=>h.ext k | refine And.imp ?_ ?_)))) (fun w1 hx hH=>?_) (fun lo11 hi11 hlo11 hhi11=>?_)
     ·unfold RunTo;go_simp;exact (hok ▸ specPairOk_r (HP.out.ext hx.1)).mono fun e w' h=>h.to
     simp only [Act.put,slA,slB,slC]
     refine Rob.yg (v:=?_) rfl rfl (fun w1 hx hH=>?_) ?_;rotate_left
     ·go_simp;first | done | rfl | exact (Bool.not_not _).symm
     simp only [Act.put,slA,slB,slC]
     iterate 2
      refine Rob.y (v:=?_) rfl rfl (fun w1 hx hH=>?_) ?_;rotate_left
      ·go_simp;first | done | rfl | exact (Bool.not_not _).symm
      simp only [Act.put,slA,slB,slC]
     refine Rob.yg (v:=?_) rfl rfl (fun w1 hx hH=>?_) ?_;rotate_left
     ·go_simp;first | done | rfl | exact (Bool.not_not _).symm
     simp only [Act.put,slA,slB,slC]
     refine Rob.yg (v:=.bool false) rfl rfl (fun w1 hx hH=>?_) ?_
     ·go_simp;first | done | rfl | (simp;omega)
     simp only [Act.put,slA,slB,slC]
     iterate 2
      refine Rob.y (v:=?_) rfl rfl (fun w1 hx hH=>?_) ?_;rotate_left
      ·go_simp;first | done | rfl | exact (Bool.not_not _).symm
      simp only [Act.put,slA,slB,slC]
     refine Rob.yg (v:=?_) rfl rfl (fun w1 hx hH=>?_) ?_;rotate_left
     ·go_simp;first | done | rfl | exact (Bool.not_not _).symm
     simp only [Act.put,slA,slB,slC]
     refine Rob.yg (v:=.bool false) rfl rfl (fun w1 hx hH=>?_) ?_
     ·go_simp;first | done | rfl | (simp;omega)
     simp only [Act.put,slA,slB,slC]
     iterate 2
      refine Rob.y (v:=?_) rfl rfl (fun w1 hx hH=>?_) ?_;rotate_left
      ·go_simp;first | done | rfl | exact (Bool.not_not _).symm
      simp only [Act.put,slA,slB,slC]
     refine Rob.yg (v:=?_) rfl rfl (fun w1 hx hH=>?_) ?_;rotate_left
     ·go_simp;first | done | rfl | exact (Bool.not_not _).symm
     simp only [Act.put,slA,slB,slC]
     refine Rob.yg (v:=.bool true) rfl rfl (fun w1 hx hH=>?_) ?_
     ·go_simp;first | done | rfl | (simp;omega)
     simp only [Act.put,slA,slB,slC]
     iterate 2
      refine Rob.y (v:=?_) rfl rfl (fun w1 hx hH=>?_) ?_;rotate_left
      ·go_simp;first | done | rfl | exact (Bool.not_not _).symm
      simp only [Act.put,slA,slB,slC]
     iterate 2
      refine Rob.no rfl rfl ?_
      simp only [Act.put,slA,slB,slC]
     iterate 2
      refine Rob.y (v:=?_) rfl rfl (fun w1 hx hH=>?_) ?_;rotate_left
      ·go_simp;first | done | rfl | exact (Bool.not_not _).symm
      simp only [Act.put,slA,slB,slC]
     iterate 2
      refine Rob.no rfl rfl ?_
      simp only [Act.put,slA,slB,slC]
     refine Rob.y (v:=?_) rfl rfl (fun w1 hx hH=>?_) ?_;rotate_left
     ·go_simp;first | done | rfl | exact (Bool.not_not _).symm
     simp only [Act.put,slA,slB,slC]
     refine fin_nil (fun wd hxd _=>?_)
     replace hxd:=hxd.1
     replace HP:=Lib.hid (HP.out.ext hxd)
     replace HQ:=Lib.hid (HQ.out.ext hxd)
     replace G3:=keep_ext hxd G3
     replace G5:=keep_ext hxd G5
     replace X0:=ext_trans X0 hxd
     clear hxd
     (try clear g3 gf3 g5 gf5 l3 l5)
     obtain ⟨g3,gf3⟩:=cellsK G3
     obtain ⟨g5,gf5⟩:=cellsK G5
     have l3:=heap_lt G3
     have l5:=heap_lt G5
     go_wp2_with fail
     refine wp_region_ext [6,7] [0,1,2,3,4,5,6,7,8] [] [] (by kernel_rfl) (by kernel_rfl) ?late ?_
     case late=>exact fun f hf=>absurd hf List.not_mem_nil
     iterate 2
      refine Rob.y (v:=?_) rfl rfl (fun w1 hx hH=>?_) ?_;rotate_left
      ·(have hE : Ext wd w1:=(by first | exact hx | exact hx.1 | exact hx.1.1);obtain ⟨z3,zf3⟩:=cellsK (keep_ext hE G3);obtain ⟨z5,zf5⟩:=cellsK (keep_ext hE G5));go_simp;first | done | rfl
      simp only [Act.put,slA,slB,slC]
     iterate 4
      refine Rob.y (v:=?_) rfl rfl (fun w1 hx hH=>?_) ?_;rotate_left
      ·go_simp;first | done | rfl | exact (Bool.not_not _).symm
      simp only [Act.put,slA,slB,slC]
     refine Rob.c (fun _ _ v w'=>PairR w' v q) rfl rfl rfl (fun _ _=>(by intro h k;revert h;(repeat' (first | exact fun h=>ext_trans h k | exact fun h=>Ints.ext h k | exact fun h=>PairR.ext h k | exact fun h=>h.ext k | refine And.imp ?_ ?_)))) (fun _ _ _ _ _=>fun hh hx=>by first | exact Ints.ext hh hx | exact PairR.ext hh hx | exact hh.ext hx) (fun w1 hx hH=>?_) (fun lo6 hi6 v6 hlo6 hhi6 hv6=>?_)
     ·unfold RunTo;go_simp;exact (HV.out ▸ specPairPut_r addr val cut torn (HP.out.ext hx)).mono fun e w' h=>h.to
     simp only [Act.put,slA,slB,slC]
     refine Rob.cv (.bool true) rfl rfl rfl (fun _ _=>(by intro h k;revert h;(repeat' (first | exact fun h=>ext_trans h k | exact fun h=>Ints.ext h k | exact fun h=>PairR.ext h k | exact fun h=>h.ext k | refine And.imp ?_ ?_)))) (fun w1 hx hH=>?_) (fun lo7 hi7 hlo7 hhi7=>?_)
     ·unfold RunTo;go_simp;exact (lqPair_t (HQ.out.ext hx.1) hx.2).mono fun e w' h=>h.to
     simp only [Act.put,slA,slB,slC]
     refine Rob.y (v:=?_) rfl rfl (fun w1 hx hH=>?_) ?_;rotate_left
     ·go_simp;first | done | rfl | exact (Bool.not_not _).symm
     simp only [Act.put,slA,slB,slC]
     refine fin_nil (fun we hxe _=>?_)
     replace hxe:=hxe.1
     go_wp2_with fail
     go_ret
     exact ⟨rfl,ext_trans X0 hxe⟩
    ·by_cases h9 : 9 < val
     ·skip
      refine wp_region_ext [6,7,11] [0,1,2,3,4,5,6,7,8,9,10,11,12,13,14,15,16,17,18,19,20,21,22,23,24,25,26,27,28,29,30,31,32,33] [] [] (by kernel_rfl) (by kernel_rfl) ?late ?_
      case late=>exact fun f hf=>absurd hf List.not_mem_nil
      iterate 2
       refine Rob.y (v:=?_) rfl rfl (fun w1 hx hH=>?_) ?_;rotate_left
       ·(have hE : Ext wc w1:=(by first | exact hx | exact hx.1 | exact hx.1.1);obtain ⟨z3,zf3⟩:=cellsK (keep_ext hE G3);obtain ⟨z5,zf5⟩:=cellsK (keep_ext hE G5));go_simp;first | done | rfl
       simp only [Act.put,slA,slB,slC]
      iterate 4
       refine Rob.y (v:=?_) rfl rfl (fun w1 hx hH=>?_) ?_;rotate_left
       ·go_simp;first | done | rfl | exact (Bool.not_not _).symm
       simp only [Act.put,slA,slB,slC]
      refine Rob.c (fun _ _ v w'=>PairR w' v q) rfl rfl rfl (fun _ _=>(by intro h k;revert h;(repeat' (first | exact fun h=>ext_trans h k | exact fun h=>Ints.ext h k | exact fun h=>PairR.ext h k | exact fun h=>h.ext k | refine And.imp ?_ ?_)))) (fun _ _ _ _ _=>fun hh hx=>by first | exact Ints.ext hh hx | exact PairR.ext hh hx | exact hh.ext hx) (fun w1 hx hH=>?_) (fun lo6 hi6 v6 hlo6 hhi6 hv6=>?_)
      ·unfold RunTo;go_simp;exact (HV.out ▸ specPairPut_r addr val cut torn (HP.out.ext hx)).mono fun e w' h=>h.to
      simp only [Act.put,slA,slB,slC]
      refine Rob.cv (.bool true) rfl rfl rfl (fun _ _=>(by intro h k;revert h;(repeat' (first | exact fun h=>ext_trans h k | exact fun h=>Ints.ext h k | exact fun h=>PairR.ext h k | exact fun h=>h.ext k | refine And.imp ?_ ?_)))) (fun w1 hx hH=>?_) (fun lo7 hi7 hlo7 hhi7=>?_)
      ·unfold RunTo;go_simp;exact (lqPair_t (HQ.out.ext hx.1) hx.2).mono fun e w' h=>h.to
      simp only [Act.put,slA,slB,slC]
      iterate 2
       refine Rob.y (v:=?_) rfl rfl (fun w1 hx hH=>?_) ?_;rotate_left
       ·go_simp;first | done | rfl | exact (Bool.not_not _).symm
       simp only [Act.put,slA,slB,slC]
      refine Rob.yg (v:=?_) rfl rfl (fun w1 hx hH=>?_) ?_;rotate_left
      ·(have hE : Ext wc w1:=(by first | exact hx | exact hx.1 | exact hx.1.1);obtain ⟨z3,zf3⟩:=cellsK (keep_ext hE G3);obtain ⟨z5,zf5⟩:=cellsK (keep_ext hE G5));go_simp;first | done | rfl
      simp only [Act.put,slA,slB,slC]
      refine Rob.cv (.bool true) rfl rfl rfl (fun _ _=>(by intro h k;revert h;(repeat' (first | exact fun h=>ext_trans h k | exact fun h=>Ints.ext h k | exact fun h=>PairR.ext h k | exact fun h=>h.ext k | refine And.imp ?_ ?_)))) (fun w1 hx hH=>?_) (fun lo11 hi11 hlo11 hhi11=>?_)
      ·unfold RunTo;go_simp;exact (hok ▸ specPairOk_r (HP.out.ext hx.1)).mono fun e w' h=>h.to
      simp only [Act.put,slA,slB,slC]
      refine Rob.yg (v:=?_) rfl rfl (fun w1 hx hH=>?_) ?_;rotate_left
      ·go_simp;first | done | rfl | exact (Bool.not_not _).symm
      simp only [Act.put,slA,slB,slC]
      iterate 2
       refine Rob.y (v:=?_) rfl rfl (fun w1 hx hH=>?_) ?_;rotate_left
       ·go_simp;first | done | rfl | exact (Bool.not_not _).symm
       simp only [Act.put,slA,slB,slC]
      refine Rob.yg (v:=?_) rfl rfl (fun w1 hx hH=>?_) ?_;rotate_left
      ·go_simp;first | done | rfl | exact (Bool.not_not _).symm
      simp only [Act.put,slA,slB,slC]
      refine Rob.yg (v:=.bool false) rfl rfl (fun w1 hx hH=>?_) ?_
      ·go_simp;first | done | rfl | (simp;omega)
      simp only [Act.put,slA,slB,slC]
      iterate 2
       refine Rob.y (v:=?_) rfl rfl (fun w1 hx hH=>?_) ?_;rotate_left
       ·go_simp;first | done | rfl | exact (Bool.not_not _).symm
       simp only [Act.put,slA,slB,slC]
      refine Rob.yg (v:=?_) rfl rfl (fun w1 hx hH=>?_) ?_;rotate_left
      ·go_simp;first | done | rfl | exact (Bool.not_not _).symm
      simp only [Act.put,slA,slB,slC]
      refine Rob.yg (v:=.bool false) rfl rfl (fun w1 hx hH=>?_) ?_
      ·go_simp;first | done | rfl | (simp;omega)
      simp only [Act.put,slA,slB,slC]
      iterate 2
       refine Rob.y (v:=?_) rfl rfl (fun w1 hx hH=>?_) ?_;rotate_left
       ·go_simp;first | done | rfl | exact (Bool.not_not _).symm
       simp only [Act.put,slA,slB,slC]
      refine Rob.yg (v:=?_) rfl rfl (fun w1 hx hH=>?_) ?_;rotate_left
      ·go_simp;first | done | rfl | exact (Bool.not_not _).symm
      simp only [Act.put,slA,slB,slC]
      refine Rob.yg (v:=.bool false) rfl rfl (fun w1 hx hH=>?_) ?_
      ·go_simp;first | done | rfl | (simp;omega)
      simp only [Act.put,slA,slB,slC]
      iterate 2
       refine Rob.y (v:=?_) rfl rfl (fun w1 hx hH=>?_) ?_;rotate_left
       ·go_simp;first | done | rfl | exact (Bool.not_not _).symm
       simp only [Act.put,slA,slB,slC]
      refine Rob.yg (v:=?_) rfl rfl (fun w1 hx hH=>?_) ?_;rotate_left
      ·go_simp;first | done | rfl | exact (Bool.not_not _).symm
      simp only [Act.put,slA,slB,slC]
      refine Rob.yg (v:=.bool false) rfl rfl (fun w1 hx hH=>?_) ?_
      ·go_simp;first | done | rfl | (simp;omega)
      simp only [Act.put,slA,slB,slC]
      iterate 2
       refine Rob.y (v:=?_) rfl rfl (fun w1 hx hH=>?_) ?_;rotate_left
       ·go_simp;first | done | rfl | exact (Bool.not_not _).symm
       simp only [Act.put,slA,slB,slC]
      refine Rob.yg (v:=?_) rfl rfl (fun w1 hx hH=>?_) ?_;rotate_left
      ·go_simp;first | done | rfl | exact (Bool.not_not _).symm
      simp only [Act.put,slA,slB,slC]
      refine Rob.yg (v:=.bool true) rfl rfl (fun w1 hx hH=>?_) ?_
      ·go_simp;first | done | rfl | (simp;omega)
      simp only [Act.put,slA,slB,slC]
      refine Rob.y (v:=?_) rfl rfl (fun w1 hx hH=>?_) ?_;rotate_left
      ·go_simp;first | done | rfl | exact (Bool.not_not _).symm
      simp only [Act.put,slA,slB,slC]
      refine fin_nil (fun wd hxd _=>?_)
      replace hxd:=hxd.1
      replace HP:=Lib.hid (HP.out.ext hxd)
      replace HQ:=Lib.hid (HQ.out.ext hxd)
      replace G3:=keep_ext hxd G3
      replace G5:=keep_ext hxd G5
      replace X0:=ext_trans X0 hxd
      clear hxd
      (try clear g3 gf3 g5 gf5 l3 l5)
      obtain ⟨g3,gf3⟩:=cellsK G3
      obtain ⟨g5,gf5⟩:=cellsK G5
      have l3:=heap_lt G3
      have l5:=heap_lt G5
      go_wp2_with fail
      refine wp_region_ext [6,7] [0,1,2,3,4,5,6,7,8] [] [] (by kernel_rfl) (by kernel_rfl) ?late ?_
      case late=>exact fun f hf=>absurd hf List.not_mem_nil
      iterate 2
       refine Rob.y (v:=?_) rfl rfl (fun w1 hx hH=>?_) ?_;rotate_left
       ·(have hE : Ext wd w1:=(by first | exact hx | exact hx.1 | exact hx.1.1);obtain ⟨z3,zf3⟩:=cellsK (keep_ext hE G3);obtain ⟨z5,zf5⟩:=cellsK (keep_ext hE G5));go_simp;first | done | rfl
       simp only [Act.put,slA,slB,slC]
      iterate 4
       refine Rob.y (v:=?_) rfl rfl (fun w1 hx hH=>?_) ?_;rotate_left
       ·go_simp;first | done | rfl | exact (Bool.not_not _).symm
       simp only [Act.put,slA,slB,slC]
      refine Rob.c (fun _ _ v w'=>PairR w' v q) rfl rfl rfl (fun _ _=>(by intro h k;revert h;(repeat' (first | exact fun h=>ext_trans h k | exact fun h=>Ints.ext h k | exact fun h=>PairR.ext h k | exact fun h=>h.ext k | refine And.imp ?_ ?_)))) (fun _ _ _ _ _=>fun hh hx=>by first | exact Ints.ext hh hx | exact PairR.ext hh hx | exact hh.ext hx) (fun w1 hx hH=>?_) (fun lo6 hi6 v6 hlo6 hhi6 hv6=>?_)
      ·unfold RunTo;go_simp;exact (HV.out ▸ specPairPut_r addr val cut torn (HP.out.ext hx)).mono fun e w' h=>h.to
      simp only [Act.put,slA,slB,slC]
      refine Rob.cv (.bool true) rfl rfl rfl (fun _ _=>(by intro h k;revert h;(repeat' (first | exact fun h=>ext_trans h k | exact fun h=>Ints.ext h k | exact fun h=>PairR.ext h k | exact fun h=>h.ext k | refine And.imp ?_ ?_)))) (fun w1 hx hH=>?_) (fun lo7 hi7 hlo7 hhi7=>?_)
      ·unfold RunTo;go_simp;exact (lqPair_t (HQ.out.ext hx.1) hx.2).mono fun e w' h=>h.to
      simp only [Act.put,slA,slB,slC]
      refine Rob.y (v:=?_) rfl rfl (fun w1 hx hH=>?_) ?_;rotate_left
      ·go_simp;first | done | rfl | exact (Bool.not_not _).symm
      simp only [Act.put,slA,slB,slC]
      refine fin_nil (fun we hxe _=>?_)
      replace hxe:=hxe.1
      go_wp2_with fail
      go_ret
      exact ⟨rfl,ext_trans X0 hxe⟩
     ·skip
      refine wp_region_ext [6,7,11] [0,1,2,3,4,5,6,7,8,9,10,11,12,13,14,15,16,17,18,19,20,21,22,23,24,25,26,27,28,29,30,31,32,33] [] [] (by kernel_rfl) (by kernel_rfl) ?late ?_
      case late=>exact fun f hf=>absurd hf List.not_mem_nil
      iterate 2
       refine Rob.y (v:=?_) rfl rfl (fun w1 hx hH=>?_) ?_;rotate_left
       ·(have hE : Ext wc w1:=(by first | exact hx | exact hx.1 | exact hx.1.1);obtain ⟨z3,zf3⟩:=cellsK (keep_ext hE G3);obtain ⟨z5,zf5⟩:=cellsK (keep_ext hE G5));go_simp;first | done | rfl
       simp only [Act.put,slA,slB,slC]
      iterate 4
       refine Rob.y (v:=?_) rfl rfl (fun w1 hx hH=>?_) ?_;rotate_left
       ·go_simp;first | done | rfl | exact (Bool.not_not _).symm
       simp only [Act.put,slA,slB,slC]
      refine Rob.c (fun _ _ v w'=>PairR w' v q) rfl rfl rfl (fun _ _=>(by intro h k;revert h;(repeat' (first | exact fun h=>ext_trans h k | exact fun h=>Ints.ext h k | exact fun h=>PairR.ext h k | exact fun h=>h.ext k | refine And.imp ?_ ?_)))) (fun _ _ _ _ _=>fun hh hx=>by first | exact Ints.ext hh hx | exact PairR.ext hh hx | exact hh.ext hx) (fun w1 hx hH=>?_) (fun lo6 hi6 v6 hlo6 hhi6 hv6=>?_)
      ·unfold RunTo;go_simp;exact (HV.out ▸ specPairPut_r addr val cut torn (HP.out.ext hx)).mono fun e w' h=>h.to
      simp only [Act.put,slA,slB,slC]
      refine Rob.cv (.bool true) rfl rfl rfl (fun _ _=>(by intro h k;revert h;(repeat' (first | exact fun h=>ext_trans h k | exact fun h=>Ints.ext h k | exact fun h=>PairR.ext h k | exact fun h=>h.ext k | refine And.imp ?_ ?_)))) (fun w1 hx hH=>?_) (fun lo7 hi7 hlo7 hhi7=>?_)
      ·unfold RunTo;go_simp;exact (lqPair_t (HQ.out.ext hx.1) hx.2).mono fun e w' h=>h.to
      simp only [Act.put,slA,slB,slC]
      iterate 2
       refine Rob.y (v:=?_) rfl rfl (fun w1 hx hH=>?_) ?_;rotate_left
       ·go_simp;first | done | rfl | exact (Bool.not_not _).symm
       simp only [Act.put,slA,slB,slC]
      refine Rob.yg (v:=?_) rfl rfl (fun w1 hx hH=>?_) ?_;rotate_left
      ·(have hE : Ext wc w1:=(by first | exact hx | exact hx.1 | exact hx.1.1);obtain ⟨z3,zf3⟩:=cellsK (keep_ext hE G3);obtain ⟨z5,zf5⟩:=cellsK (keep_ext hE G5));go_simp;first | done | rfl
      simp only [Act.put,slA,slB,slC]
      refine Rob.cv (.bool true) rfl rfl rfl (fun _ _=>(by intro h k;revert h;(repeat' (first | exact fun h=>ext_trans h k | exact fun h=>Ints.ext h k | exact fun h=>PairR.ext h k | exact fun h=>h.ext k | refine And.imp ?_ ?_)))) (fun w1 hx hH=>?_) (fun lo11 hi11 hlo11 hhi11=>?_)
      ·unfold RunTo;go_simp;exact (hok ▸ specPairOk_r (HP.out.ext hx.1)).mono fun e w' h=>h.to
      simp only [Act.put,slA,slB,slC]
      refine Rob.yg (v:=?_) rfl rfl (fun w1 hx hH=>?_) ?_;rotate_left
      ·go_simp;first | done | rfl | exact (Bool.not_not _).symm
      simp only [Act.put,slA,slB,slC]
      iterate 2
       refine Rob.y (v:=?_) rfl rfl (fun w1 hx hH=>?_) ?_;rotate_left
       ·go_simp;first | done | rfl | exact (Bool.not_not _).symm
       simp only [Act.put,slA,slB,slC]
      refine Rob.yg (v:=?_) rfl rfl (fun w1 hx hH=>?_) ?_;rotate_left
      ·go_simp;first | done | rfl | exact (Bool.not_not _).symm
      simp only [Act.put,slA,slB,slC]
      refine Rob.yg (v:=.bool false) rfl rfl (fun w1 hx hH=>?_) ?_
      ·go_simp;first | done | rfl | (simp;omega)
      simp only [Act.put,slA,slB,slC]
      iterate 2
       refine Rob.y (v:=?_) rfl rfl (fun w1 hx hH=>?_) ?_;rotate_left
       ·go_simp;first | done | rfl | exact (Bool.not_not _).symm
       simp only [Act.put,slA,slB,slC]
      refine Rob.yg (v:=?_) rfl rfl (fun w1 hx hH=>?_) ?_;rotate_left
      ·go_simp;first | done | rfl | exact (Bool.not_not _).symm
      simp only [Act.put,slA,slB,slC]
      refine Rob.yg (v:=.bool false) rfl rfl (fun w1 hx hH=>?_) ?_
      ·go_simp;first | done | rfl | (simp;omega)
      simp only [Act.put,slA,slB,slC]
      iterate 2
       refine Rob.y (v:=?_) rfl rfl (fun w1 hx hH=>?_) ?_;rotate_left
       ·go_simp;first | done | rfl | exact (Bool.not_not _).symm
       simp only [Act.put,slA,slB,slC]
      refine Rob.yg (v:=?_) rfl rfl (fun w1 hx hH=>?_) ?_;rotate_left
      ·go_simp;first | done | rfl | exact (Bool.not_not _).symm
      simp only [Act.put,slA,slB,slC]
      refine Rob.yg (v:=.bool false) rfl rfl (fun w1 hx hH=>?_) ?_
      ·go_simp;first | done | rfl | (simp;omega)
      simp only [Act.put,slA,slB,slC]
      iterate 2
       refine Rob.y (v:=?_) rfl rfl (fun w1 hx hH=>?_) ?_;rotate_left
       ·go_simp;first | done | rfl | exact (Bool.not_not _).symm
       simp only [Act.put,slA,slB,slC]
      refine Rob.yg (v:=?_) rfl rfl (fun w1 hx hH=>?_) ?_;rotate_left
      ·go_simp;first | done | rfl | exact (Bool.not_not _).symm
      simp only [Act.put,slA,slB,slC]
      refine Rob.yg (v:=.bool false) rfl rfl (fun w1 hx hH=>?_) ?_
      ·go_simp;first | done | rfl | (simp;omega)
      simp only [Act.put,slA,slB,slC]
      iterate 2
       refine Rob.y (v:=?_) rfl rfl (fun w1 hx hH=>?_) ?_;rotate_left
       ·go_simp;first | done | rfl | exact (Bool.not_not _).symm
       simp only [Act.put,slA,slB,slC]
      refine Rob.yg (v:=?_) rfl rfl (fun w1 hx hH=>?_) ?_;rotate_left
      ·go_simp;first | done | rfl | exact (Bool.not_not _).symm
      simp only [Act.put,slA,slB,slC]
      refine Rob.yg (v:=.bool false) rfl rfl (fun w1 hx hH=>?_) ?_
      ·go_simp;first | done | rfl | (simp;omega)
      simp only [Act.put,slA,slB,slC]
      refine Rob.y (v:=?_) rfl rfl (fun w1 hx hH=>?_) ?_;rotate_left
      ·go_simp;first | done | rfl | exact (Bool.not_not _).symm
      simp only [Act.put,slA,slB,slC]
      refine fin_nil (fun wd hxd _=>?_)
      replace hxd:=hxd.1
      have HO:=Lib.hid hok
      clear hok
      replace HP:=Lib.hid (HP.out.ext hxd)
      replace HQ:=Lib.hid (HQ.out.ext hxd)
      replace G3:=keep_ext hxd G3
      replace G5:=keep_ext hxd G5
      replace X0:=ext_trans X0 hxd
      clear hxd
      (try clear g3 gf3 g5 gf5 l3 l5)
      obtain ⟨g3,gf3⟩:=cellsK G3
      obtain ⟨g5,gf5⟩:=cellsK G5
      have l3:=heap_lt G3
      have l5:=heap_lt G5
      obtain ⟨k,rfl⟩ : ∃ k : Nat,addr = (k : Int) + 1:=⟨(addr - 1).toNat,by omega⟩
      have hk6 : k < 6:=by omega
      have HA:=Lib.hid HP.out.a
      have HB:=Lib.hid HP.out.b
      clear HV HQ G5 g5 gf5
      have L5:=l5
      clear l5
      go_wp2_with fail
      refine (implStepsPut_r ((k : Int) + 1) val HA.out).mono ?_;rintro e3 we ⟨v3,rfl,hxe,hS,hl7⟩
      obtain ⟨ae,ce,rfl⟩:=hS.steps.form
      have Xe : Ext wd we:=hxe
      clear hS hxe
      by_cases hnA : putSteps2 p.A ((k : Int) + 1) val = []
      ·rw [hnA]
       go_wp2_with fail
       go_ret
       exact ⟨rfl,ext_trans X0 Xe⟩
      ·have hlA : ((putSteps2 p.A ((k : Int) + 1) val).length : Int) ≠ 0:=by
        intro h;exact hnA (List.length_eq_zero_iff.1 (by omega))
       have HNA:=Lib.hid hnA
       clear hnA
       generalize hgl : (putSteps2 p.A ((k : Int) + 1) val).length = nA at hlA hl7 ⊢
       have hlA2 : (((nA : Nat) : Int) == 0) = false:=by simp only [beq_eq_false_iff_ne];exact hlA
       clear hgl
       clear g3 gf3
       obtain ⟨g3,gf3⟩:=cellsK (keep_ext Xe G3)
       have L3:=l3
       go_wp2_with fail
       refine (implStepsPut_r ((k : Int) + 1) val (HB.out.ext Xe)).mono ?_;rintro e4 wf ⟨v4,rfl,hxf,hS,hl8⟩
       obtain ⟨af,cf,rfl⟩:=hS.steps.form
       have Xf : Ext wd wf:=ext_trans Xe hxf
       clear hS hxf Xe
       by_cases hnB : putSteps2 p.B ((k : Int) + 1) val = []
       ·rw [hnB]
        go_wp2_with fail
        go_ret
        exact ⟨rfl,ext_trans X0 Xf⟩
       ·have hlB : ((putSteps2 p.B ((k : Int) + 1) val).length : Int) ≠ 0:=by
         intro h;exact hnB (List.length_eq_zero_iff.1 (by omega))
        have HNB:=Lib.hid hnB
        clear hnB
        generalize hgl : (putSteps2 p.B ((k : Int) + 1) val).length = nB at hlB hl8 ⊢
        have hlB2 : (((nB : Nat) : Int) == 0) = false:=by simp only [beq_eq_false_iff_ne];exact hlB
        clear hgl g3 gf3
        obtain ⟨g3,gf3⟩:=cellsK (keep_ext Xf G3)
        have hcY:=implPairPut_r ((k : Int) + 1) val 99 false (HP.out.ext Xf)
        rw [pairPut_of HO.out (by decide)] at hcY
        go_wp2_with fail
        refine hcY.mono ?_;rintro e5 wm ⟨v5,rfl,hxm,hy⟩
        obtain ⟨a5,n5,c5,b5,m5,k5,a6,n6,c6,b6,m6,k6,rfl⟩:=hy.forms
        obtain ⟨y,hyv⟩ : ∃ y,putV p ((k : Int) + 1) val 99 false = y:=⟨_,rfl⟩
        have hyl : y.lost = p.lost:=by rw [← hyv];rfl
        have hyo : pairOkB y = true:=by rw [← hyv];exact pOk_put HO.out _ _ _ _
        rw [hyv] at hy ⊢
        rw [hyl] at hy ⊢
        have HYV:=Lib.hid hyv
        have HYOK:=Lib.hid hyo
        have HYO:=Lib.hid (pOk_iff.1 hyo).2
        obtain ⟨lo,hlo⟩ : ∃ lo,p.lost = lo:=⟨_,rfl⟩
        have hlo3 : lo = 0 ∨ lo = 1 ∨ lo = 2:=by have:=(pOk_iff.1 HO.out).1;omega
        have HLO:=Lib.hid hlo
        rw [hlo] at hy G3 ⊢
        have Xm : Ext wd wm:=ext_trans Xf hxm
        have Ym : Ext wm (wm.alloc (.cells #[.slice a5 n5 c5,.slice b5 m5 k5,.slice a6 n6 c6,.slice b6 m6 k6,.int .i64 lo] 28)):=ext_alloc (ext_refl _) _
        have G9:=hg_new (w:=wm) (x:=.cells #[.slice a5 n5 c5,.slice b5 m5 k5,.slice a6 n6 c6,.slice b6 m6 k6,.int .i64 lo] 28) (b:=wm.heap.size) rfl
        have HY:=Lib.hid (hy.ext Ym)
        replace G3:=keep_ext (ext_trans Xm Ym) G3
        replace HA:=Lib.hid (HA.out.ext (ext_trans Xm Ym))
        replace HB:=Lib.hid (HB.out.ext (ext_trans Xm Ym))
        replace X0:=ext_trans X0 (ext_trans Xm Ym)
        clear hyv hyl hyo hlo hcY g3 gf3 HP Xf hxm hy
        have s9 : wm.heap.size < (wm.alloc (.cells #[.slice a5 n5 c5,.slice b5 m5 k5,.slice a6 n6 c6,.slice b6 m6 k6,.int .i64 lo] 28)).heap.size:=by simp
        have s3 : wa.heap.size < wm.heap.size:=Nat.lt_of_lt_of_le L3 Xm.size
        clear Ym Xm
        obtain ⟨g3,gf3⟩:=cellsK G3
        obtain ⟨g9,gf9⟩:=cellsK G9
        go_wp2_with fail
        generalize wm.alloc (.cells #[.slice a5 n5 c5,.slice b5 m5 k5,.slice a6 n6 c6,.slice b6 m6 k6,.int .i64 lo] 28) = wn at *
        have HYA:=Lib.hid HY.out.a
        have HYB:=Lib.hid HY.out.b
        have okA:=(pOk_iff.1 HO.out).2.1
        have okB:=(pOk_iff.1 HO.out).2.2
        have HOK2:=Lib.hid (And.intro okA okB)
        clear okA okB
        refine (implStoreAll_n HA.out HOK2.out.1).mono ?_;rintro e6 wp ⟨B1,T1,o1,cp1,rfl,hxp,hB1,hO1⟩
        rw [allS_len]
        have HO1:=Lib.hid hO1
        have lB1:=hO1.lt
        clear hO1 g3 gf3 g9 gf9
        obtain ⟨g3,gf3⟩:=cellsK (keep_ext hxp G3)
        obtain ⟨g9,gf9⟩:=cellsK (keep_ext hxp G9)
        go_wp2_with fail
        refine (implStoreAll_n (HB.out.ext hxp) HOK2.out.2).mono ?_;rintro e7 wq ⟨B2,T2,o2,cp2,rfl,hxq,hB2,hO2⟩
        rw [allS_len]
        have lB2:=hO2.lt
        have hO1:=HO1.out.keep (hxq.block _ lB1)
        have Xq : Ext wn wq:=ext_trans hxp hxq
        have n12 : B1 ≠ B2:=by omega
        have n21 : B2 ≠ B1:=by omega
        clear g3 gf3 g9 gf9 HO1
        obtain ⟨g3,gf3⟩:=cellsK (keep_ext Xq G3)
        have HOX:=Lib.hid (And.intro hO1 hO2)
        have k1 : k < (allS p.A).length:=by rw [allS_len];exact hk6
        have k2 : k < (allS p.B).length:=by rw [allS_len];exact hk6
        have hw1 : wn.heap.size ≤ B2:=Nat.le_trans hxp.size hB2
        have sq:=hxq.size
        rcases hlo3 with rfl | rfl | rfl
        ·have e1:=hO1.one (k:=k) k1
         have f1:=hO1.frozen
         have hOA:=hO1.put k1 val
         have C1:=set_chg wq B1 (o1 + k) (.int .i64 val)
         have hO2':=hO2.chg C1 (by simpa using n21)
         have e2:=hO2'.one (k:=k) k2
         have f2:=hO2'.frozen
         have hOB:=hO2'.put k2 val
         have C2:=set_chg (wq.setCell ⟨B1,o1 + k,none⟩ (.int .i64 val)) B2 (o2 + k) (.int .i64 val)
         replace hOA:=hOA.chg C2 (by simpa using n12)
         have XS1:=C1.ext Xq (by simp;omega)
         have XS:=C2.ext XS1 (by simp;omega)
         obtain ⟨p3,pf3⟩:=cellsK (keep_ext XS1 G3)
         obtain ⟨q3,qf3⟩:=cellsK (keep_ext XS G3)
         obtain ⟨q9,qf9⟩:=cellsK (keep_ext XS G9)
         have HK:=Lib.hid (And.intro hO1 hO2')
         clear C1 C2 hO1 hO2 hO2'
         have hA : allS y.A = ((allS p.A).set k val):=by rw [← HYV.out,full_A HO.out hk6 val HNA.out,HLO.out];rfl
         have hB : allS y.B = ((allS p.B).set k val):=by rw [← HYV.out,full_B HO.out hk6 val HNB.out,HLO.out];rfl
         have hc1:=fun (w' : World) (hx : Ext ((wq.setCell ⟨B1,o1 + k,none⟩ (.int .i64 val)).setCell ⟨B2,o2 + k,none⟩ (.int .i64 val)) w')=>allV_ok HYO.out.1 ▸ implStoreAll_r (HYA.out.ext (ext_trans XS hx)).read2.1 (HYA.out.ext (ext_trans XS hx)).read2.2
         have hc3:=fun (w' : World) (hx : Ext ((wq.setCell ⟨B1,o1 + k,none⟩ (.int .i64 val)).setCell ⟨B2,o2 + k,none⟩ (.int .i64 val)) w')=>allV_ok HYO.out.2 ▸ implStoreAll_r (HYB.out.ext (ext_trans XS hx)).read2.1 (HYB.out.ext (ext_trans XS hx)).read2.2
         have hc2:=fun (w' : World) (v : Value) (hx : Ext ((wq.setCell ⟨B1,o1 + k,none⟩ (.int .i64 val)).setCell ⟨B2,o2 + k,none⟩ (.int .i64 val)) w') (hI : Ints (Old w') w' v (allS y.A))=>lqInts_t hI (show Ints (Old w') w' (.slice (some ⟨B1,o1,none⟩) 6 (6 + cp1)) (allS y.A) by
          have:=(hOA.keep (hx.block _ hOA.lt)).ints (cap:=cp1)
          rw [← hA,allS_len] at this;exact this) (by rw [allS_len];omega)
         have hc4:=fun (w' : World) (v : Value) (hx : Ext ((wq.setCell ⟨B1,o1 + k,none⟩ (.int .i64 val)).setCell ⟨B2,o2 + k,none⟩ (.int .i64 val)) w') (hI : Ints (Old w') w' v (allS y.B))=>lqInts_t hI (show Ints (Old w') w' (.slice (some ⟨B2,o2,none⟩) 6 (6 + cp2)) (allS y.B) by
          have:=(hOB.keep (hx.block _ hOB.lt)).ints (cap:=cp2)
          rw [← hB,allS_len] at this;exact this) (by rw [allS_len];omega)
         have hc5:=fun (w' : World) (hx : Ext ((wq.setCell ⟨B1,o1 + k,none⟩ (.int .i64 val)).setCell ⟨B2,o2 + k,none⟩ (.int .i64 val)) w')=>HYOK.out ▸ implPairOk_r (HY.out.ext (ext_trans XS hx))
         have HC1:=Lib.hid hc1
         have HC2:=Lib.hid hc2
         have HC3:=Lib.hid hc3
         have HC4:=Lib.hid hc4
         have HC5:=Lib.hid hc5
         clear hc1 hc2 hc3 hc4 hc5 hA hB hOA hOB
         go_wp2_with fail
         clear g3 gf3 p3 pf3 q3 qf3 q9 qf9 e1 e2 f1 f2
         refine (HC1.out _ (ext_refl _)).mono ?_;rintro e7 wg ⟨v7,rfl,Y,hI⟩
         (try clear g3 gf3)
         (try clear g9 gf9)
         obtain ⟨g3,gf3⟩:=cellsK (keep_ext (ext_trans XS Y) G3)
         obtain ⟨g9,gf9⟩:=cellsK (keep_ext (ext_trans XS Y) G9)
         go_wp2_with fail
         refine (HC2.out _ _ Y hI).mono ?_;rintro e8 wh ⟨rfl,hxh⟩
         replace Y:=ext_trans Y hxh
         clear hxh hI
         (try clear g3 gf3)
         (try clear g9 gf9)
         obtain ⟨g3,gf3⟩:=cellsK (keep_ext (ext_trans XS Y) G3)
         obtain ⟨g9,gf9⟩:=cellsK (keep_ext (ext_trans XS Y) G9)
         go_wp2_with fail
         refine (HC3.out _ Y).mono ?_;rintro e9 wi ⟨v9,rfl,hxi,hJ⟩
         replace Y:=ext_trans Y hxi
         clear hxi
         (try clear g3 gf3)
         (try clear g9 gf9)
         obtain ⟨g3,gf3⟩:=cellsK (keep_ext (ext_trans XS Y) G3)
         obtain ⟨g9,gf9⟩:=cellsK (keep_ext (ext_trans XS Y) G9)
         go_wp2_with fail
         refine (HC4.out _ _ Y hJ).mono ?_;rintro e10 wj ⟨rfl,hxj⟩
         replace Y:=ext_trans Y hxj
         clear hxj hJ
         (try clear g3 gf3)
         (try clear g9 gf9)
         obtain ⟨g3,gf3⟩:=cellsK (keep_ext (ext_trans XS Y) G3)
         obtain ⟨g9,gf9⟩:=cellsK (keep_ext (ext_trans XS Y) G9)
         go_wp2_with fail
         refine (HC5.out _ Y).mono ?_;rintro e11 wk ⟨rfl,hxk⟩
         go_wp2_with fail
         go_ret
         exact ⟨rfl,ext_trans X0 (ext_trans XS (ext_trans Y hxk))⟩
        ·have e2:=hO2.one (k:=k) k2
         have f2:=hO2.frozen
         have hOB:=hO2.put k2 val
         have C2:=set_chg wq B2 (o2 + k) (.int .i64 val)
         have hOA:=hO1.chg C2 (by simpa using n12)
         have XS:=C2.ext Xq (by simp;omega)
         obtain ⟨q3,qf3⟩:=cellsK (keep_ext XS G3)
         obtain ⟨q9,qf9⟩:=cellsK (keep_ext XS G9)
         clear C2 hO1 hO2
         have hA : allS y.A = (allS p.A):=by rw [← HYV.out,full_A HO.out hk6 val HNA.out,HLO.out];rfl
         have hB : allS y.B = ((allS p.B).set k val):=by rw [← HYV.out,full_B HO.out hk6 val HNB.out,HLO.out];rfl
         have hc1:=fun (w' : World) (hx : Ext (wq.setCell ⟨B2,o2 + k,none⟩ (.int .i64 val)) w')=>allV_ok HYO.out.1 ▸ implStoreAll_r (HYA.out.ext (ext_trans XS hx)).read2.1 (HYA.out.ext (ext_trans XS hx)).read2.2
         have hc3:=fun (w' : World) (hx : Ext (wq.setCell ⟨B2,o2 + k,none⟩ (.int .i64 val)) w')=>allV_ok HYO.out.2 ▸ implStoreAll_r (HYB.out.ext (ext_trans XS hx)).read2.1 (HYB.out.ext (ext_trans XS hx)).read2.2
         have hc2:=fun (w' : World) (v : Value) (hx : Ext (wq.setCell ⟨B2,o2 + k,none⟩ (.int .i64 val)) w') (hI : Ints (Old w') w' v (allS y.A))=>lqInts_t hI (show Ints (Old w') w' (.slice (some ⟨B1,o1,none⟩) 6 (6 + cp1)) (allS y.A) by
          have:=(hOA.keep (hx.block _ hOA.lt)).ints (cap:=cp1)
          rw [← hA,allS_len] at this;exact this) (by rw [allS_len];omega)
         have hc4:=fun (w' : World) (v : Value) (hx : Ext (wq.setCell ⟨B2,o2 + k,none⟩ (.int .i64 val)) w') (hI : Ints (Old w') w' v (allS y.B))=>lqInts_t hI (show Ints (Old w') w' (.slice (some ⟨B2,o2,none⟩) 6 (6 + cp2)) (allS y.B) by
          have:=(hOB.keep (hx.block _ hOB.lt)).ints (cap:=cp2)
          rw [← hB,allS_len] at this;exact this) (by rw [allS_len];omega)
         have hc5:=fun (w' : World) (hx : Ext (wq.setCell ⟨B2,o2 + k,none⟩ (.int .i64 val)) w')=>HYOK.out ▸ implPairOk_r (HY.out.ext (ext_trans XS hx))
         have HC1:=Lib.hid hc1
         have HC2:=Lib.hid hc2
         have HC3:=Lib.hid hc3
         have HC4:=Lib.hid hc4
         have HC5:=Lib.hid hc5
         clear hc1 hc2 hc3 hc4 hc5 hA hB hOA hOB
         go_wp2_with fail
         clear g3 gf3 q3 qf3 q9 qf9 e2 f2
         refine (HC1.out _ (ext_refl _)).mono ?_;rintro e7 wg ⟨v7,rfl,Y,hI⟩
         (try clear g3 gf3)
         (try clear g9 gf9)
         obtain ⟨g3,gf3⟩:=cellsK (keep_ext (ext_trans XS Y) G3)
         obtain ⟨g9,gf9⟩:=cellsK (keep_ext (ext_trans XS Y) G9)
         go_wp2_with fail
         refine (HC2.out _ _ Y hI).mono ?_;rintro e8 wh ⟨rfl,hxh⟩
         replace Y:=ext_trans Y hxh
         clear hxh hI
         (try clear g3 gf3)
         (try clear g9 gf9)
         obtain ⟨g3,gf3⟩:=cellsK (keep_ext (ext_trans XS Y) G3)
         obtain ⟨g9,gf9⟩:=cellsK (keep_ext (ext_trans XS Y) G9)
         go_wp2_with fail
         refine (HC3.out _ Y).mono ?_;rintro e9 wi ⟨v9,rfl,hxi,hJ⟩
         replace Y:=ext_trans Y hxi
         clear hxi
         (try clear g3 gf3)
         (try clear g9 gf9)
         obtain ⟨g3,gf3⟩:=cellsK (keep_ext (ext_trans XS Y) G3)
         obtain ⟨g9,gf9⟩:=cellsK (keep_ext (ext_trans XS Y) G9)
         go_wp2_with fail
         refine (HC4.out _ _ Y hJ).mono ?_;rintro e10 wj ⟨rfl,hxj⟩
         replace Y:=ext_trans Y hxj
         clear hxj hJ
         (try clear g3 gf3)
         (try clear g9 gf9)
         obtain ⟨g3,gf3⟩:=cellsK (keep_ext (ext_trans XS Y) G3)
         obtain ⟨g9,gf9⟩:=cellsK (keep_ext (ext_trans XS Y) G9)
         go_wp2_with fail
         refine (HC5.out _ Y).mono ?_;rintro e11 wk ⟨rfl,hxk⟩
         go_wp2_with fail
         go_ret
         exact ⟨rfl,ext_trans X0 (ext_trans XS (ext_trans Y hxk))⟩
        ·have e1:=hO1.one (k:=k) k1
         have f1:=hO1.frozen
         have hOA:=hO1.put k1 val
         have C1:=set_chg wq B1 (o1 + k) (.int .i64 val)
         have hOB:=hO2.chg C1 (by simpa using n21)
         have XS:=C1.ext Xq (by simp;omega)
         obtain ⟨q3,qf3⟩:=cellsK (keep_ext XS G3)
         obtain ⟨q9,qf9⟩:=cellsK (keep_ext XS G9)
         clear C1 hO1 hO2
         have hA : allS y.A = ((allS p.A).set k val):=by rw [← HYV.out,full_A HO.out hk6 val HNA.out,HLO.out];rfl
         have hB : allS y.B = (allS p.B):=by rw [← HYV.out,full_B HO.out hk6 val HNB.out,HLO.out];rfl
         have hc1:=fun (w' : World) (hx : Ext (wq.setCell ⟨B1,o1 + k,none⟩ (.int .i64 val)) w')=>allV_ok HYO.out.1 ▸ implStoreAll_r (HYA.out.ext (ext_trans XS hx)).read2.1 (HYA.out.ext (ext_trans XS hx)).read2.2
         have hc3:=fun (w' : World) (hx : Ext (wq.setCell ⟨B1,o1 + k,none⟩ (.int .i64 val)) w')=>allV_ok HYO.out.2 ▸ implStoreAll_r (HYB.out.ext (ext_trans XS hx)).read2.1 (HYB.out.ext (ext_trans XS hx)).read2.2
         have hc2:=fun (w' : World) (v : Value) (hx : Ext (wq.setCell ⟨B1,o1 + k,none⟩ (.int .i64 val)) w') (hI : Ints (Old w') w' v (allS y.A))=>lqInts_t hI (show Ints (Old w') w' (.slice (some ⟨B1,o1,none⟩) 6 (6 + cp1)) (allS y.A) by
          have:=(hOA.keep (hx.block _ hOA.lt)).ints (cap:=cp1)
          rw [← hA,allS_len] at this;exact this) (by rw [allS_len];omega)
         have hc4:=fun (w' : World) (v : Value) (hx : Ext (wq.setCell ⟨B1,o1 + k,none⟩ (.int .i64 val)) w') (hI : Ints (Old w') w' v (allS y.B))=>lqInts_t hI (show Ints (Old w') w' (.slice (some ⟨B2,o2,none⟩) 6 (6 + cp2)) (allS y.B) by
          have:=(hOB.keep (hx.block _ hOB.lt)).ints (cap:=cp2)
          rw [← hB,allS_len] at this;exact this) (by rw [allS_len];omega)
         have hc5:=fun (w' : World) (hx : Ext (wq.setCell ⟨B1,o1 + k,none⟩ (.int .i64 val)) w')=>HYOK.out ▸ implPairOk_r (HY.out.ext (ext_trans XS hx))
         have HC1:=Lib.hid hc1
         have HC2:=Lib.hid hc2
         have HC3:=Lib.hid hc3
         have HC4:=Lib.hid hc4
         have HC5:=Lib.hid hc5
         clear hc1 hc2 hc3 hc4 hc5 hA hB hOA hOB
         go_wp2_with fail
         clear g3 gf3 q3 qf3 q9 qf9 e1 f1
         refine (HC1.out _ (ext_refl _)).mono ?_;rintro e7 wg ⟨v7,rfl,Y,hI⟩
         (try clear g3 gf3)
         (try clear g9 gf9)
         obtain ⟨g3,gf3⟩:=cellsK (keep_ext (ext_trans XS Y) G3)
         obtain ⟨g9,gf9⟩:=cellsK (keep_ext (ext_trans XS Y) G9)
         go_wp2_with fail
         refine (HC2.out _ _ Y hI).mono ?_;rintro e8 wh ⟨rfl,hxh⟩
         replace Y:=ext_trans Y hxh
         clear hxh hI
         (try clear g3 gf3)
         (try clear g9 gf9)
         obtain ⟨g3,gf3⟩:=cellsK (keep_ext (ext_trans XS Y) G3)
         obtain ⟨g9,gf9⟩:=cellsK (keep_ext (ext_trans XS Y) G9)
         go_wp2_with fail
         refine (HC3.out _ Y).mono ?_;rintro e9 wi ⟨v9,rfl,hxi,hJ⟩
         replace Y:=ext_trans Y hxi
         clear hxi
         (try clear g3 gf3)
         (try clear g9 gf9)
         obtain ⟨g3,gf3⟩:=cellsK (keep_ext (ext_trans XS Y) G3)
         obtain ⟨g9,gf9⟩:=cellsK (keep_ext (ext_trans XS Y) G9)
         go_wp2_with fail
         refine (HC4.out _ _ Y hJ).mono ?_;rintro e10 wj ⟨rfl,hxj⟩
         replace Y:=ext_trans Y hxj
         clear hxj hJ
         (try clear g3 gf3)
         (try clear g9 gf9)
         obtain ⟨g3,gf3⟩:=cellsK (keep_ext (ext_trans XS Y) G3)
         obtain ⟨g9,gf9⟩:=cellsK (keep_ext (ext_trans XS Y) G9)
         go_wp2_with fail
         refine (HC5.out _ Y).mono ?_;rintro e11 wk ⟨rfl,hxk⟩
         go_wp2_with fail
         go_ret
         exact ⟨rfl,ext_trans X0 (ext_trans XS (ext_trans Y hxk))⟩
  ·rw [Bool.not_eq_true] at hok
   refine wp_region_ext [6,7,11] [0,1,2,3,4,5,6,7,8,9,10,11,12,13,14,15,16,17,18,19,20,21,22,23,24,25,26,27,28,29,30,31,32,33] [] [] (by kernel_rfl) (by kernel_rfl) ?late ?_
   case late=>exact fun f hf=>absurd hf List.not_mem_nil
   iterate 2
    refine Rob.y (v:=?_) rfl rfl (fun w1 hx hH=>?_) ?_;rotate_left
    ·(have hE : Ext wc w1:=(by first | exact hx | exact hx.1 | exact hx.1.1);obtain ⟨z3,zf3⟩:=cellsK (keep_ext hE G3);obtain ⟨z5,zf5⟩:=cellsK (keep_ext hE G5));go_simp;first | done | rfl
    simp only [Act.put,slA,slB,slC]
   iterate 4
    refine Rob.y (v:=?_) rfl rfl (fun w1 hx hH=>?_) ?_;rotate_left
    ·go_simp;first | done | rfl | exact (Bool.not_not _).symm
    simp only [Act.put,slA,slB,slC]
   refine Rob.c (fun _ _ v w'=>PairR w' v q) rfl rfl rfl (fun _ _=>(by intro h k;revert h;(repeat' (first | exact fun h=>ext_trans h k | exact fun h=>Ints.ext h k | exact fun h=>PairR.ext h k | exact fun h=>h.ext k | refine And.imp ?_ ?_)))) (fun _ _ _ _ _=>fun hh hx=>by first | exact Ints.ext hh hx | exact PairR.ext hh hx | exact hh.ext hx) (fun w1 hx hH=>?_) (fun lo6 hi6 v6 hlo6 hhi6 hv6=>?_)
   ·unfold RunTo;go_simp;exact (HV.out ▸ specPairPut_r addr val cut torn (HP.out.ext hx)).mono fun e w' h=>h.to
   simp only [Act.put,slA,slB,slC]
   refine Rob.cv (.bool true) rfl rfl rfl (fun _ _=>(by intro h k;revert h;(repeat' (first | exact fun h=>ext_trans h k | exact fun h=>Ints.ext h k | exact fun h=>PairR.ext h k | exact fun h=>h.ext k | refine And.imp ?_ ?_)))) (fun w1 hx hH=>?_) (fun lo7 hi7 hlo7 hhi7=>?_)
   ·unfold RunTo;go_simp;exact (lqPair_t (HQ.out.ext hx.1) hx.2).mono fun e w' h=>h.to
   simp only [Act.put,slA,slB,slC]
   iterate 2
    refine Rob.y (v:=?_) rfl rfl (fun w1 hx hH=>?_) ?_;rotate_left
    ·go_simp;first | done | rfl | exact (Bool.not_not _).symm
    simp only [Act.put,slA,slB,slC]
   refine Rob.yg (v:=?_) rfl rfl (fun w1 hx hH=>?_) ?_;rotate_left
   ·(have hE : Ext wc w1:=(by first | exact hx | exact hx.1 | exact hx.1.1);obtain ⟨z3,zf3⟩:=cellsK (keep_ext hE G3);obtain ⟨z5,zf5⟩:=cellsK (keep_ext hE G5));go_simp;first | done | rfl
   simp only [Act.put,slA,slB,slC]
   refine Rob.cv (.bool false) rfl rfl rfl (fun _ _=>(by intro h k;revert h;(repeat' (first | exact fun h=>ext_trans h k | exact fun h=>Ints.ext h k | exact fun h=>PairR.ext h k | exact fun h=>h.ext k | refine And.imp ?_ ?_)))) (fun w1 hx hH=>?_) (fun lo11 hi11 hlo11 hhi11=>?_)
   ·unfold RunTo;go_simp;exact (hok ▸ specPairOk_r (HP.out.ext hx.1)).mono fun e w' h=>h.to
   simp only [Act.put,slA,slB,slC]
   refine Rob.yg (v:=?_) rfl rfl (fun w1 hx hH=>?_) ?_;rotate_left
   ·go_simp;first | done | rfl | exact (Bool.not_not _).symm
   simp only [Act.put,slA,slB,slC]
   iterate 2
    refine Rob.y (v:=?_) rfl rfl (fun w1 hx hH=>?_) ?_;rotate_left
    ·go_simp;first | done | rfl | exact (Bool.not_not _).symm
    simp only [Act.put,slA,slB,slC]
   iterate 2
    refine Rob.no rfl rfl ?_
    simp only [Act.put,slA,slB,slC]
   iterate 2
    refine Rob.y (v:=?_) rfl rfl (fun w1 hx hH=>?_) ?_;rotate_left
    ·go_simp;first | done | rfl | exact (Bool.not_not _).symm
    simp only [Act.put,slA,slB,slC]
   iterate 2
    refine Rob.no rfl rfl ?_
    simp only [Act.put,slA,slB,slC]
   iterate 2
    refine Rob.y (v:=?_) rfl rfl (fun w1 hx hH=>?_) ?_;rotate_left
    ·go_simp;first | done | rfl | exact (Bool.not_not _).symm
    simp only [Act.put,slA,slB,slC]
   iterate 2
    refine Rob.no rfl rfl ?_
    simp only [Act.put,slA,slB,slC]
   iterate 2
    refine Rob.y (v:=?_) rfl rfl (fun w1 hx hH=>?_) ?_;rotate_left
    ·go_simp;first | done | rfl | exact (Bool.not_not _).symm
    simp only [Act.put,slA,slB,slC]
   iterate 2
    refine Rob.no rfl rfl ?_
    simp only [Act.put,slA,slB,slC]
   iterate 2
    refine Rob.y (v:=?_) rfl rfl (fun w1 hx hH=>?_) ?_;rotate_left
    ·go_simp;first | done | rfl | exact (Bool.not_not _).symm
    simp only [Act.put,slA,slB,slC]
   iterate 2
    refine Rob.no rfl rfl ?_
    simp only [Act.put,slA,slB,slC]
   refine Rob.y (v:=?_) rfl rfl (fun w1 hx hH=>?_) ?_;rotate_left
   ·go_simp;first | done | rfl | exact (Bool.not_not _).symm
   simp only [Act.put,slA,slB,slC]
   refine fin_nil (fun wd hxd _=>?_)
   replace hxd:=hxd.1
   replace HP:=Lib.hid (HP.out.ext hxd)
   replace HQ:=Lib.hid (HQ.out.ext hxd)
   replace G3:=keep_ext hxd G3
   replace G5:=keep_ext hxd G5
   replace X0:=ext_trans X0 hxd
   clear hxd
   (try clear g3 gf3 g5 gf5 l3 l5)
   obtain ⟨g3,gf3⟩:=cellsK G3
   obtain ⟨g5,gf5⟩:=cellsK G5
   have l3:=heap_lt G3
   have l5:=heap_lt G5
   go_wp2_with fail
   refine wp_region_ext [6,7] [0,1,2,3,4,5,6,7,8] [] [] (by kernel_rfl) (by kernel_rfl) ?late ?_
   case late=>exact fun f hf=>absurd hf List.not_mem_nil
   iterate 2
    refine Rob.y (v:=?_) rfl rfl (fun w1 hx hH=>?_) ?_;rotate_left
    ·(have hE : Ext wd w1:=(by first | exact hx | exact hx.1 | exact hx.1.1);obtain ⟨z3,zf3⟩:=cellsK (keep_ext hE G3);obtain ⟨z5,zf5⟩:=cellsK (keep_ext hE G5));go_simp;first | done | rfl
    simp only [Act.put,slA,slB,slC]
   iterate 4
    refine Rob.y (v:=?_) rfl rfl (fun w1 hx hH=>?_) ?_;rotate_left
    ·go_simp;first | done | rfl | exact (Bool.not_not _).symm
    simp only [Act.put,slA,slB,slC]
   refine Rob.c (fun _ _ v w'=>PairR w' v q) rfl rfl rfl (fun _ _=>(by intro h k;revert h;(repeat' (first | exact fun h=>ext_trans h k | exact fun h=>Ints.ext h k | exact fun h=>PairR.ext h k | exact fun h=>h.ext k | refine And.imp ?_ ?_)))) (fun _ _ _ _ _=>fun hh hx=>by first | exact Ints.ext hh hx | exact PairR.ext hh hx | exact hh.ext hx) (fun w1 hx hH=>?_) (fun lo6 hi6 v6 hlo6 hhi6 hv6=>?_)
   ·unfold RunTo;go_simp;exact (HV.out ▸ specPairPut_r addr val cut torn (HP.out.ext hx)).mono fun e w' h=>h.to
   simp only [Act.put,slA,slB,slC]
   refine Rob.cv (.bool true) rfl rfl rfl (fun _ _=>(by intro h k;revert h;(repeat' (first | exact fun h=>ext_trans h k | exact fun h=>Ints.ext h k | exact fun h=>PairR.ext h k | exact fun h=>h.ext k | refine And.imp ?_ ?_)))) (fun w1 hx hH=>?_) (fun lo7 hi7 hlo7 hhi7=>?_)
   ·unfold RunTo;go_simp;exact (lqPair_t (HQ.out.ext hx.1) hx.2).mono fun e w' h=>h.to
   simp only [Act.put,slA,slB,slC]
   refine Rob.y (v:=?_) rfl rfl (fun w1 hx hH=>?_) ?_;rotate_left
   ·go_simp;first | done | rfl | exact (Bool.not_not _).symm
   simp only [Act.put,slA,slB,slC]
   refine fin_nil (fun we hxe _=>?_)
   replace hxe:=hxe.1
   go_wp2_with fail
   go_ret
   exact ⟨rfl,ext_trans X0 hxe⟩
 ·go_enter Tryz.func5,Tryz.ntmps5
  go_wp2_with fail
  all_goals
   go_ret
   exact ⟨rfl,ext_refl _⟩
end Go.Bu