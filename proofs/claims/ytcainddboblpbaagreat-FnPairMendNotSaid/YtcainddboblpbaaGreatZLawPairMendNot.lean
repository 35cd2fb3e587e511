/- The law FnPairMendNot holds of every input. -/import Derived.Test.YtcainddboblpbaaGreatZ9
set_option linter.unusedVariables false
set_option linter.unusedSimpArgs false
namespace Go.Bu
open Go Go.RowKit Go.Plan Go.Proofs
theorem readN_of_all {s t : Store} (h : allS s = allS t) (n : Nat) (hn : n < 6) : readN s n = readN t n:=by
 have h1 : (allS s)[n]? = some (readN s n):=by unfold allS;simp [hn]
 have h2 : (allS t)[n]? = some (readN t n):=by unfold allS;simp [hn]
 rw [h] at h1
 exact Option.some.inj (h1.symm.trans h2)
theorem sameV_id {fr t : Store} (h : ∀ n,n < 6 → readN t n = readN fr n) : sameV fr t = t:=by
 have : ∀ L : List Nat,(∀ n ∈ L,n < 6) → L.foldl (sameStep fr) t = t:=by
  intro L
  induction L with
  | nil=>intro _;rfl
  | cons n L ih =>
   intro hL
   rw [List.foldl_cons,show sameStep fr t n = t by unfold sameStep;rw [if_pos (h n (hL n (by simp)))]]
   exact ih fun m hm=>hL m (by simp [hm])
 exact this addrs6 (by decide)
theorem mend_same {p : Pair} (hok : pairOkB p = true) (h : allV p.A = allV p.B) : mendV p = p:=by
 obtain ⟨_,hA,hB⟩:=pOk_iff.1 hok
 rw [allV_ok hA,allV_ok hB] at h
 unfold mendV
 rw [if_pos hok]
 split
 ·rename_i h0
  rw [sameV_id fun n hn=>readN_of_all h.symm n hn]
  obtain ⟨A,B,l⟩:=p
  dsimp only at h0
  rw [h0]
 ·rfl
theorem mend_lost {p : Pair} (hok : pairOkB p = true) (h : p.lost ≠ 0) : mendV p = p:=by
 unfold mendV
 rw [if_pos hok,if_neg h]
theorem mend_A {p : Pair} (hok : pairOkB p = true) : (mendV p).A = p.A:=by
 unfold mendV
 rw [if_pos hok]
 split <;> rfl
set_option maxRecDepth 20000 in
set_option maxHeartbeats 1000000 in
theorem lawPairMendNot (v : Value) (xs : List Nat) (w : World) (h : Bytes (Old w) w v xs) (hs : ∀ x ∈ xs,x < 256) (hcap : ∀ a n c,v = .slice a n c → n ≤ c) :
  Calls Tryz.prog 8 #[v] w (Ret w (.bool true)):=by
 obtain ⟨a,cap,rfl⟩:=h.form
 by_cases hl : xs.length ≤ 1048576
 ·go_enter Tryz.func8,Tryz.ntmps8
  go_wp2_with fail
  refine (drawPairMend_c _ xs _ h hs hl hcap).mono ?_;rintro e1 wa ⟨p,v1,rfl,hxa,hp⟩
  obtain ⟨a1,n1,c1,b1,m1,k1,a2,n2,c2,b2,m2,k2,rfl⟩:=hp.forms
  have HP:=Lib.hid hp
  clear hp
  go_wp2_with fail
  refine (implPairMend_r (HP.out.ext (ext_alloc (ext_refl _) _))).mono ?_;rintro e2 wb ⟨v2,rfl,hxb,hq⟩
  obtain ⟨a3,n3,c3,b3,m3,k3,a4,n4,c4,b4,m4,k4,rfl⟩:=hq.forms
  have Xab:=ext_trans (ext_alloc (ext_refl wa) _) hxb
  have G3:=keep_ext hxb (hg_new (b:=wa.heap.size) rfl)
  replace HP:=Lib.hid (HP.out.ext Xab)
  have HQ:=Lib.hid hq
  have X0 : Ext w wb:=ext_trans hxa Xab
  clear hxa hxb Xab hq
  obtain ⟨q,hqv⟩ : ∃ q,mendV p = q:=⟨_,rfl⟩
  have HV:=Lib.hid hqv
  rw [hqv] at HQ
  rw [show (mendV p).lost = q.lost by rw [hqv]]
  clear hqv
  go_wp2_with fail
  have GE : ∀ o w',Ext (wb.alloc o) w' → Ext wb w':=fun o w' h=>ext_trans (ext_alloc (ext_refl _) _) h
  have G5:=hg_new (w:=wb) (x:=.cells #[.slice a3 n3 c3,.slice b3 m3 k3,.slice a4 n4 c4,.slice b4 m4 k4,.int .i64 q.lost] 28) (b:=wb.heap.size) rfl
  replace G3:=hg_alloc (x:=.cells #[.slice a3 n3 c3,.slice b3 m3 k3,.slice a4 n4 c4,.slice b4 m4 k4,.int .i64 q.lost] 28) G3
  replace HP:=Lib.hid (HP.out.ext (GE (.cells #[.slice a3 n3 c3,.slice b3 m3 k3,.slice a4 n4 c4,.slice b4 m4 k4,.int .i64 q.lost] 28) _ (ext_refl _)))
  replace HQ:=Lib.hid (HQ.out.ext (GE (.cells #[.slice a3 n3 c3,.slice b3 m3 k3,.slice a4 n4 c4,.slice b4 m4 k4,.int .i64 q.lost] 28) _ (ext_refl _)))
  replace X0:=ext_alloc X0 (.cells #[.slice a3 n3 c3,.slice b3 m3 k3,.slice a4 n4 c4,.slice b4 m4 k4,.int .i64 q.lost] 28)
  clear GE
  generalize wb.alloc (.cells #[.slice a3 n3 c3,.slice b3 m3 k3,.slice a4 n4 c4,.slice b4 m4 k4,.int .i64 q.lost] 28) = wc at *
  by_cases hok : pairOkB p = true
  ·skip
   refine wp_region_ext [2,3,7] [0,1,2,3,4,5,6,7,8,9] [] [] (by kernel_rfl) (by kernel_rfl) ?late ?_
   case late=>exact fun f hf=>absurd hf List.not_mem_nil
   iterate 2
    refine Rob.y (v:=?_) rfl rfl (fun w1 hx hH=>?_) ?_;rotate_left
    ·(have hE : Ext wc w1:=(by first | exact hx | exact hx.1 | exact hx.1.1);obtain ⟨z3,zf3⟩:=cellsK (keep_ext hE G3);obtain ⟨z5,zf5⟩:=cellsK (keep_ext hE G5));go_simp;first | done | rfl
    simp only [Act.put,slA,slB,slC]
   refine Rob.c (fun _ _ v w'=>PairR w' v q) rfl rfl rfl (fun _ _=>(by intro h k;revert h;(repeat' (first | exact fun h=>ext_trans h k | exact fun h=>Ints.ext h k | exact fun h=>PairR.ext h k | exact fun h=>h.ext k | refine And.imp ?_ ?_)))) (fun _ _ _ _ _=>fun hh hx=>by first | exact Ints.ext hh hx | exact PairR.ext hh hx | exact hh.ext hx) (fun w1 hx hH=>?_) (fun lo2 hi2 v2 hlo2 hhi2 hv2=>?_)
   ·unfold RunTo;go_simp;exact (HV.out ▸ specPairMend_r (HP.out.ext hx)).mono fun e w' h=>h.to
   simp only [Act.put,slA,slB,slC]
   refine Rob.cv (.bool true) rfl rfl rfl (fun _ _=>(by intro h k;revert h;(repeat' (first | exact fun h=>ext_trans h k | exact fun h=>Ints.ext h k | exact fun h=>PairR.ext h k | exact fun h=>h.ext k | refine And.imp ?_ ?_)))) (fun w1 hx hH=>?_) (fun lo3 hi3 hlo3 hhi3=>?_)
   ·unfold RunTo;go_simp;exact (lqPair_t (HQ.out.ext hx.1) hx.2).mono fun e w' h=>h.to
   simp only [Act.put,slA,slB,slC]
   iterate 2
    refine Rob.y (v:=?_) rfl rfl (fun w1 hx hH=>?_) ?_;rotate_left
    ·go_simp;first | done | rfl | exact (Bool.not_not _).symm
    simp only [Act.put,slA,slB,slC]
   refine Rob.yg (v:=?_) rfl rfl (fun w1 hx hH=>?_) ?_;rotate_left
   ·(have hE : Ext wc w1:=(by first | exact hx | exact hx.1 | exact hx.1.1);obtain ⟨z3,zf3⟩:=cellsK (keep_ext hE G3);obtain ⟨z5,zf5⟩:=cellsK (keep_ext hE G5));go_simp;first | done | rfl
   simp only [Act.put,slA,slB,slC]
   refine Rob.cv (.bool true) rfl rfl rfl (fun _ _=>(by intro h k;revert h;(repeat' (first | exact fun h=>ext_trans h k | exact fun h=>Ints.ext h k | exact fun h=>PairR.ext h k | exact fun h=>h.ext k | refine And.imp ?_ ?_)))) (fun w1 hx hH=>?_) (fun lo7 hi7 hlo7 hhi7=>?_)
   ·unfold RunTo;go_simp;exact (hok ▸ specPairOk_r (HP.out.ext hx.1)).mono fun e w' h=>h.to
   simp only [Act.put,slA,slB,slC]
   refine Rob.yg (v:=?_) rfl rfl (fun w1 hx hH=>?_) ?_;rotate_left
   ·go_simp;first | done | rfl | exact (Bool.not_not _).symm
   simp only [Act.put,slA,slB,slC]
   refine Rob.y (v:=?_) rfl rfl (fun w1 hx hH=>?_) ?_;rotate_left
   ·go_simp;first | done | rfl | exact (Bool.not_not _).symm
   simp only [Act.put,slA,slB,slC]
   refine fin_nil (fun wd hxd _=>?_)
   replace hxd:=hxd.1
   have HO:=Lib.hid hok
   have HS:=Lib.hid HP.out.read.2.2.2
   clear hok
   replace HP:=Lib.hid (HP.out.ext hxd)
   replace HQ:=Lib.hid (HQ.out.ext hxd)
   replace G3:=keep_ext hxd G3
   replace G5:=keep_ext hxd G5
   replace X0:=ext_trans X0 hxd
   clear hxd
   (try clear g3 gf3 g5 gf5 l3 l5)
   obtain ⟨g3,gf3⟩:=cellsK G3
   obtain ⟨g5,gf5⟩:=cellsK G5
   have l3:=heap_lt G3
   have l5:=heap_lt G5
   by_cases hsame : allV p.A = allV p.B
   ·have HSAME : Hid (decide (allV p.A = allV p.B) = true):=Lib.hid (decide_eq_true hsame)
    have HQP : Hid (q = p):=Lib.hid (by rw [← HV.out];exact mend_same HO.out hsame)
    clear hsame
    go_wp2_with fail
    refine wp_region_ext [2,5,6] [0,1,3,4,2,5,6,7] [] [] (by kernel_rfl) (by kernel_rfl) ?late ?_
    case late=>exact fun f hf=>absurd hf List.not_mem_nil
    refine Rob.y (v:=?_) rfl rfl (fun w1 hx hH=>?_) ?_;rotate_left
    ·go_simp;first | done | rfl | exact (Bool.not_not _).symm
    simp only [Act.put,slA,slB,slC]
    refine Rob.y (v:=?_) rfl rfl (fun w1 hx hH=>?_) ?_;rotate_left
    ·(have hE : Ext wd w1:=(by first | exact hx | exact hx.1 | exact hx.1.1 | exact hx.1.1.1);obtain ⟨z3,zf3⟩:=cellsK (keep_ext hE G3);obtain ⟨z5,zf5⟩:=cellsK (keep_ext hE G5));go_simp;first | done | rfl
    simp only [Act.put,slA,slB,slC]
    refine Rob.y (v:=?_) rfl rfl (fun w1 hx hH=>?_) ?_;rotate_left
    ·go_simp;first | done | rfl | exact (Bool.not_not _).symm
    simp only [Act.put,slA,slB,slC]
    refine Rob.y (v:=?_) rfl rfl (fun w1 hx hH=>?_) ?_;rotate_left
    ·(have hE : Ext wd w1:=(by first | exact hx | exact hx.1 | exact hx.1.1 | exact hx.1.1.1);obtain ⟨z3,zf3⟩:=cellsK (keep_ext hE G3);obtain ⟨z5,zf5⟩:=cellsK (keep_ext hE G5));go_simp;first | done | rfl
    simp only [Act.put,slA,slB,slC]
    refine Rob.c (fun _ _ v w'=>Ints (Old w') w' v (allV p.A)) rfl rfl rfl (fun _ _=>(by intro h k;revert h;(repeat' (first | exact fun h=>ext_trans h k | exact fun h=>Ints.ext h k | exact fun h=>PairR.ext h k | exact fun h=>h.ext k | refine And.imp ?_ ?_)))) (fun _ _ _ _ _=>fun hh hx=>by first | exact Ints.ext hh hx | exact PairR.ext hh hx | exact hh.ext hx) (fun w1 hx hH=>?_) (fun lo2 hi2 v2 hlo2 hhi2 hv2=>?_)
    ·unfold RunTo;go_simp;exact (implStoreAll_r (HP.out.ext hx).read.2.1 HS.out.1).mono fun e w' h=>h.to
    simp only [Act.put,slA,slB,slC]
    refine Rob.c (fun _ _ v w'=>Ints (Old w') w' v (allV p.B)) rfl rfl rfl (fun _ _=>(by intro h k;revert h;(repeat' (first | exact fun h=>ext_trans h k | exact fun h=>Ints.ext h k | exact fun h=>PairR.ext h k | exact fun h=>h.ext k | refine And.imp ?_ ?_)))) (fun _ _ _ _ _=>fun hh hx=>by first | exact Ints.ext hh hx | exact PairR.ext hh hx | exact hh.ext hx) (fun w1 hx hH=>?_) (fun lo5 hi5 v5 hlo5 hhi5 hv5=>?_)
    ·unfold RunTo;go_simp;exact (implStoreAll_r (HP.out.ext hx.1).read.2.2.1 HS.out.2).mono fun e w' h=>h.to
    simp only [Act.put,slA,slB,slC]
    refine Rob.cv (.bool true) rfl rfl rfl (fun _ _=>(by intro h k;revert h;(repeat' (first | exact fun h=>ext_trans h k | exact fun h=>Ints.ext h k | exact fun h=>PairR.ext h k | exact fun h=>h.ext k | refine And.imp ?_ ?_)))) (fun w1 hx hH=>?_) (fun lo6 hi6 hlo6 hhi6=>?_)
    ·unfold RunTo;go_simp;exact (HSAME.out ▸ lqInts_r hx.1.2 hx.2 (allV_len _)).mono fun e w' h=>h.to
    simp only [Act.put,slA,slB,slC]
    refine Rob.y (v:=?_) rfl rfl (fun w1 hx hH=>?_) ?_;rotate_left
    ·go_simp;first | done | rfl | exact (Bool.not_not _).symm
    simp only [Act.put,slA,slB,slC]
    refine fin_nil (fun we hxe _=>?_)
    replace hxe:=hxe.1.1
    replace HP:=Lib.hid (HP.out.ext hxe)
    replace HQ:=Lib.hid (HQ.out.ext hxe)
    replace G3:=keep_ext hxe G3
    replace G5:=keep_ext hxe G5
    replace X0:=ext_trans X0 hxe
    clear hxe
    (try clear g3 gf3 g5 gf5 l3 l5)
    obtain ⟨g3,gf3⟩:=cellsK G3
    obtain ⟨g5,gf5⟩:=cellsK G5
    have l3:=heap_lt G3
    have l5:=heap_lt G5
    go_wp2_with fail
    have G6:=hg_new (w:=we) (x:=.cells #[.slice a1 n1 c1,.slice b1 m1 k1,.slice a1 n1 c1,.slice b1 m1 k1,.int .i64 0] 28) (b:=we.heap.size) rfl
    have Y : Ext we (we.alloc (.cells #[.slice a1 n1 c1,.slice b1 m1 k1,.slice a1 n1 c1,.slice b1 m1 k1,.int .i64 0] 28)):=ext_alloc (ext_refl _) _
    replace HP:=Lib.hid (HP.out.ext Y)
    replace HQ:=Lib.hid (HQ.out.ext Y)
    replace G3:=keep_ext Y G3
    replace G5:=keep_ext Y G5
    replace X0:=ext_trans X0 Y
    clear Y
    have HY : Hid (PairR (we.alloc (.cells #[.slice a1 n1 c1,.slice b1 m1 k1,.slice a1 n1 c1,.slice b1 m1 k1,.int .i64 0] 28)) (.agg #[.slice a1 n1 c1,.slice b1 m1 k1,.slice a1 n1 c1,.slice b1 m1 k1,.int .i64 0]) ⟨p.A,p.A,0⟩):=Lib.hid ⟨_,_,_,_,rfl,HP.out.read.2.1,HP.out.read.2.1,HS.out.1,HS.out.1⟩
    have HYM : Hid (∀ (w' : World) (v : Value),PairR w' v ⟨p.A,p.A,0⟩ → Calls Tryz.prog 31 #[v] w' (PairRet w' ⟨p.A,p.A,0⟩)):=Lib.hid fun w' v hv=>by
     have:=implPairMend_r hv
     rwa [mend_same (p:=⟨p.A,p.A,0⟩) (pOk_iff.2 ⟨⟨by dsimp only;omega,by dsimp only;omega⟩,(pOk_iff.1 HO.out).2.1,(pOk_iff.1 HO.out).2.1⟩) rfl] at this
    have HQA : Hid (StoreR (we.alloc (.cells #[.slice a1 n1 c1,.slice b1 m1 k1,.slice a1 n1 c1,.slice b1 m1 k1,.int .i64 0] 28)) (.agg #[.slice a3 n3 c3,.slice b3 m3 k3]) p.A):=Lib.hid (by have:=HQ.out.a;rwa [← HV.out,mend_A HO.out] at this)
    clear g3 gf3 g5 gf5 l3 l5 HS HSAME
    generalize we.alloc (.cells #[.slice a1 n1 c1,.slice b1 m1 k1,.slice a1 n1 c1,.slice b1 m1 k1,.int .i64 0] 28) = wf at *
    refine wp_region_ext [10,14,16,23] [0,1,2,3,4,5,6,7,8,9,10,11,12,13,15,14,16,17,18,19,20,21,22,23,24,25] [] [] (by kernel_rfl) (by kernel_rfl) ?late ?_
    case late=>exact fun f hf=>absurd hf List.not_mem_nil
    iterate 3
     refine Rob.y (v:=?_) rfl rfl (fun w1 hx hH=>?_) ?_;rotate_left
     ·go_simp;first | done | rfl | exact (Bool.not_not _).symm
     simp only [Act.put,slA,slB,slC]
    iterate 3
     refine Rob.no rfl rfl ?_
     simp only [Act.put,slA,slB,slC]
    iterate 2
     refine Rob.y (v:=?_) rfl rfl (fun w1 hx hH=>?_) ?_;rotate_left
     ·go_simp;first | done | rfl | exact (Bool.not_not _).symm
     simp only [Act.put,slA,slB,slC]
    iterate 2
     refine Rob.yg (v:=?_) rfl rfl (fun w1 hx hH=>?_) ?_;rotate_left
     ·(have hE : Ext wf w1:=(by first | exact hx | exact hx.1 | exact hx.1.1 | exact hx.1.1.1);obtain ⟨z3,zf3⟩:=cellsK (keep_ext hE G3);obtain ⟨z5,zf5⟩:=cellsK (keep_ext hE G5);obtain ⟨z6,zf6⟩:=cellsK (keep_ext hE G6));go_simp;first | done | rfl
     simp only [Act.put,slA,slB,slC]
    refine Rob.cv (.bool true) rfl rfl rfl (fun _ _=>(by intro h k;revert h;(repeat' (first | exact fun h=>ext_trans h k | exact fun h=>Ints.ext h k | exact fun h=>PairR.ext h k | exact fun h=>h.ext k | refine And.imp ?_ ?_)))) (fun w1 hx hH=>?_) (fun lo10 hi10 hlo10 hhi10=>?_)
    ·unfold RunTo;go_simp;exact (lqPair_t (HQ.out.ext hx) (HQP.out.symm ▸ HP.out.ext hx)).mono fun e w' h=>h.to
    simp only [Act.put,slA,slB,slC]
    iterate 2
     refine Rob.y (v:=?_) rfl rfl (fun w1 hx hH=>?_) ?_;rotate_left
     ·go_simp;first | done | rfl | exact (Bool.not_not _).symm
     simp only [Act.put,slA,slB,slC]
    iterate 2
     refine Rob.yg (v:=?_) rfl rfl (fun w1 hx hH=>?_) ?_;rotate_left
     ·(have hE : Ext wf w1:=(by first | exact hx | exact hx.1 | exact hx.1.1 | exact hx.1.1.1);obtain ⟨z3,zf3⟩:=cellsK (keep_ext hE G3);obtain ⟨z5,zf5⟩:=cellsK (keep_ext hE G5);obtain ⟨z6,zf6⟩:=cellsK (keep_ext hE G6));go_simp;first | done | rfl
     simp only [Act.put,slA,slB,slC]
    refine Rob.c (fun _ _ v w'=>PairR w' v ⟨p.A,p.A,0⟩) rfl rfl rfl (fun _ _=>(by intro h k;revert h;(repeat' (first | exact fun h=>ext_trans h k | exact fun h=>Ints.ext h k | exact fun h=>PairR.ext h k | exact fun h=>h.ext k | refine And.imp ?_ ?_)))) (fun _ _ _ _ _=>fun hh hx=>by first | exact Ints.ext hh hx | exact PairR.ext hh hx | exact hh.ext hx) (fun w1 hx hH=>?_) (fun lo14 hi14 v14 hlo14 hhi14 hv14=>?_)
    ·unfold RunTo;go_simp;exact (HYM.out _ _ (HY.out.ext hx)).mono fun e w' h=>h.to
    simp only [Act.put,slA,slB,slC]
    refine Rob.cv (.bool true) rfl rfl rfl (fun _ _=>(by intro h k;revert h;(repeat' (first | exact fun h=>ext_trans h k | exact fun h=>Ints.ext h k | exact fun h=>PairR.ext h k | exact fun h=>h.ext k | refine And.imp ?_ ?_)))) (fun w1 hx hH=>?_) (fun lo16 hi16 hlo16 hhi16=>?_)
    ·unfold RunTo;go_simp;exact (lqPair_t hx.2 (HY.out.ext hx.1)).mono fun e w' h=>h.to
    simp only [Act.put,slA,slB,slC]
    iterate 2
     refine Rob.y (v:=?_) rfl rfl (fun w1 hx hH=>?_) ?_;rotate_left
     ·go_simp;first | done | rfl | exact (Bool.not_not _).symm
     simp only [Act.put,slA,slB,slC]
    refine Rob.yg (v:=?_) rfl rfl (fun w1 hx hH=>?_) ?_;rotate_left
    ·go_simp;first | done | rfl | exact (Bool.not_not _).symm
    simp only [Act.put,slA,slB,slC]
    refine Rob.yg (v:=?_) rfl rfl (fun w1 hx hH=>?_) ?_;rotate_left
    ·(have hE : Ext wf w1:=(by first | exact hx | exact hx.1 | exact hx.1.1 | exact hx.1.1.1);obtain ⟨z3,zf3⟩:=cellsK (keep_ext hE G3);obtain ⟨z5,zf5⟩:=cellsK (keep_ext hE G5);obtain ⟨z6,zf6⟩:=cellsK (keep_ext hE G6));go_simp;first | done | rfl
    simp only [Act.put,slA,slB,slC]
    refine Rob.yg (v:=?_) rfl rfl (fun w1 hx hH=>?_) ?_;rotate_left
    ·go_simp;first | done | rfl | exact (Bool.not_not _).symm
    simp only [Act.put,slA,slB,slC]
    refine Rob.yg (v:=?_) rfl rfl (fun w1 hx hH=>?_) ?_;rotate_left
    ·(have hE : Ext wf w1:=(by first | exact hx | exact hx.1 | exact hx.1.1 | exact hx.1.1.1);obtain ⟨z3,zf3⟩:=cellsK (keep_ext hE G3);obtain ⟨z5,zf5⟩:=cellsK (keep_ext hE G5);obtain ⟨z6,zf6⟩:=cellsK (keep_ext hE G6));go_simp;first | done | rfl
    simp only [Act.put,slA,slB,slC]
    refine Rob.cv (.bool true) rfl rfl rfl (fun _ _=>(by intro h k;revert h;(repeat' (first | exact fun h=>ext_trans h k | exact fun h=>Ints.ext h k | exact fun h=>PairR.ext h k | exact fun h=>h.ext k | refine And.imp ?_ ?_)))) (fun w1 hx hH=>?_) (fun lo23 hi23 hlo23 hhi23=>?_)
    ·unfold RunTo;go_simp;exact (lqStore_R (HQA.out.ext hx.1) (HP.out.a.ext hx.1)).mono fun e w' h=>h.to
    simp only [Act.put,slA,slB,slC]
    iterate 2
     refine Rob.y (v:=?_) rfl rfl (fun w1 hx hH=>?_) ?_;rotate_left
     ·go_simp;first | done | rfl | exact (Bool.not_not _).symm
     simp only [Act.put,slA,slB,slC]
    refine fin_nil (fun wh hxh _=>?_)
    replace hxh:=hxh.1
    go_wp2_with fail
    go_ret
    exact ⟨rfl,ext_trans X0 hxh⟩
   ·have HSAME : Hid (decide (allV p.A = allV p.B) = false):=Lib.hid (decide_eq_false hsame)
    clear hsame
    go_wp2_with fail
    refine wp_region_ext [2,5,6] [0,1,3,4,2,5,6,7] [] [] (by kernel_rfl) (by kernel_rfl) ?late ?_
    case late=>exact fun f hf=>absurd hf List.not_mem_nil
    refine Rob.y (v:=?_) rfl rfl (fun w1 hx hH=>?_) ?_;rotate_left
    ·go_simp;first | done | rfl | exact (Bool.not_not _).symm
    simp only [Act.put,slA,slB,slC]
    refine Rob.y (v:=?_) rfl rfl (fun w1 hx hH=>?_) ?_;rotate_left
    ·(have hE : Ext wd w1:=(by first | exact hx | exact hx.1 | exact hx.1.1 | exact hx.1.1.1);obtain ⟨z3,zf3⟩:=cellsK (keep_ext hE G3);obtain ⟨z5,zf5⟩:=cellsK (keep_ext hE G5));go_simp;first | done | rfl
    simp only [Act.put,slA,slB,slC]
    refine Rob.y (v:=?_) rfl rfl (fun w1 hx hH=>?_) ?_;rotate_left
    ·go_simp;first | done | rfl | exact (Bool.not_not _).symm
    simp only [Act.put,slA,slB,slC]
    refine Rob.y (v:=?_) rfl rfl (fun w1 hx hH=>?_) ?_;rotate_left
    ·(have hE : Ext wd w1:=(by first | exact hx | exact hx.1 | exact hx.1.1 | exact hx.1.1.1);obtain ⟨z3,zf3⟩:=cellsK (keep_ext hE G3);obtain ⟨z5,zf5⟩:=cellsK (keep_ext hE G5));go_simp;first | done | rfl
    simp only [Act.put,slA,slB,slC]
    refine Rob.c (fun _ _ v w'=>Ints (Old w') w' v (allV p.A)) rfl rfl rfl (fun _ _=>(by intro h k;revert h;(repeat' (first | exact fun h=>ext_trans h k | exact fun h=>Ints.ext h k | exact fun h=>PairR.ext h k | exact fun h=>h.ext k | refine And.imp ?_ ?_)))) (fun _ _ _ _ _=>fun hh hx=>by first | exact Ints.ext hh hx | exact PairR.ext hh hx | exact hh.ext hx) (fun w1 hx hH=>?_) (fun lo2 hi2 v2 hlo2 hhi2 hv2=>?_)
    ·unfold RunTo;go_simp;exact (implStoreAll_r (HP.out.ext hx).read.2.1 HS.out.1).mono fun e w' h=>h.to
    simp only [Act.put,slA,slB,slC]
    refine Rob.c (fun _ _ v w'=>Ints (Old w') w' v (allV p.B)) rfl rfl rfl (fun _ _=>(by intro h k;revert h;(repeat' (first | exact fun h=>ext_trans h k | exact fun h=>Ints.ext h k | exact fun h=>PairR.ext h k | exact fun h=>h.ext k | refine And.imp ?_ ?_)))) (fun _ _ _ _ _=>fun hh hx=>by first | exact Ints.ext hh hx | exact PairR.ext hh hx | exact hh.ext hx) (fun w1 hx hH=>?_) (fun lo5 hi5 v5 hlo5 hhi5 hv5=>?_)
    ·unfold RunTo;go_simp;exact (implStoreAll_r (HP.out.ext hx.1).read.2.2.1 HS.out.2).mono fun e w' h=>h.to
    simp only [Act.put,slA,slB,slC]
    refine Rob.cv (.bool false) rfl rfl rfl (fun _ _=>(by intro h k;revert h;(repeat' (first | exact fun h=>ext_trans h k | exact fun h=>Ints.ext h k | exact fun h=>PairR.ext h k | exact fun h=>h.ext k | refine And.imp ?_ ?_)))) (fun w1 hx hH=>?_) (fun lo6 hi6 hlo6 hhi6=>?_)
    ·unfold RunTo;go_simp;exact (HSAME.out ▸ lqInts_r hx.1.2 hx.2 (allV_len _)).mono fun e w' h=>h.to
    simp only [Act.put,slA,slB,slC]
    refine Rob.y (v:=?_) rfl rfl (fun w1 hx hH=>?_) ?_;rotate_left
    ·go_simp;first | done | rfl | exact (Bool.not_not _).symm
    simp only [Act.put,slA,slB,slC]
    refine fin_nil (fun we hxe _=>?_)
    replace hxe:=hxe.1.1
    replace HP:=Lib.hid (HP.out.ext hxe)
    replace HQ:=Lib.hid (HQ.out.ext hxe)
    replace G3:=keep_ext hxe G3
    replace G5:=keep_ext hxe G5
    replace X0:=ext_trans X0 hxe
    clear hxe
    (try clear g3 gf3 g5 gf5 l3 l5)
    obtain ⟨g3,gf3⟩:=cellsK G3
    obtain ⟨g5,gf5⟩:=cellsK G5
    have l3:=heap_lt G3
    have l5:=heap_lt G5
    go_wp2_with fail
    have G6:=hg_new (w:=we) (x:=.cells #[.slice a1 n1 c1,.slice b1 m1 k1,.slice a1 n1 c1,.slice b1 m1 k1,.int .i64 0] 28) (b:=we.heap.size) rfl
    have Y : Ext we (we.alloc (.cells #[.slice a1 n1 c1,.slice b1 m1 k1,.slice a1 n1 c1,.slice b1 m1 k1,.int .i64 0] 28)):=ext_alloc (ext_refl _) _
    replace HP:=Lib.hid (HP.out.ext Y)
    replace HQ:=Lib.hid (HQ.out.ext Y)
    replace G3:=keep_ext Y G3
    replace G5:=keep_ext Y G5
    replace X0:=ext_trans X0 Y
    clear Y
    have HY : Hid (PairR (we.alloc (.cells #[.slice a1 n1 c1,.slice b1 m1 k1,.slice a1 n1 c1,.slice b1 m1 k1,.int .i64 0] 28)) (.agg #[.slice a1 n1 c1,.slice b1 m1 k1,.slice a1 n1 c1,.slice b1 m1 k1,.int .i64 0]) ⟨p.A,p.A,0⟩):=Lib.hid ⟨_,_,_,_,rfl,HP.out.read.2.1,HP.out.read.2.1,HS.out.1,HS.out.1⟩
    have HYM : Hid (∀ (w' : World) (v : Value),PairR w' v ⟨p.A,p.A,0⟩ → Calls Tryz.prog 31 #[v] w' (PairRet w' ⟨p.A,p.A,0⟩)):=Lib.hid fun w' v hv=>by
     have:=implPairMend_r hv
     rwa [mend_same (p:=⟨p.A,p.A,0⟩) (pOk_iff.2 ⟨⟨by dsimp only;omega,by dsimp only;omega⟩,(pOk_iff.1 HO.out).2.1,(pOk_iff.1 HO.out).2.1⟩) rfl] at this
    have HQA : Hid (StoreR (we.alloc (.cells #[.slice a1 n1 c1,.slice b1 m1 k1,.slice a1 n1 c1,.slice b1 m1 k1,.int .i64 0] 28)) (.agg #[.slice a3 n3 c3,.slice b3 m3 k3]) p.A):=Lib.hid (by have:=HQ.out.a;rwa [← HV.out,mend_A HO.out] at this)
    clear g3 gf3 g5 gf5 l3 l5 HS HSAME
    generalize we.alloc (.cells #[.slice a1 n1 c1,.slice b1 m1 k1,.slice a1 n1 c1,.slice b1 m1 k1,.int .i64 0] 28) = wf at *
    by_cases h0 : p.lost = 0
    ·have H0:=Lib.hid h0
     clear h0
     refine wp_region_ext [10,14,16,23] [0,1,2,3,4,5,6,7,8,9,10,11,12,13,15,14,16,17,18,19,20,21,22,23,24,25] [] [] (by kernel_rfl) (by kernel_rfl) ?late ?_
     case late=>exact fun f hf=>absurd hf List.not_mem_nil
     iterate 3
      refine Rob.y (v:=?_) rfl rfl (fun w1 hx hH=>?_) ?_;rotate_left
      ·go_simp;first | done | rfl | exact (Bool.not_not _).symm
      simp only [Act.put,slA,slB,slC]
     refine Rob.yg (v:=?_) rfl rfl (fun w1 hx hH=>?_) ?_;rotate_left
     ·go_simp;first | done | rfl | exact (Bool.not_not _).symm
     simp only [Act.put,slA,slB,slC]
     refine Rob.yg (v:=?_) rfl rfl (fun w1 hx hH=>?_) ?_;rotate_left
     ·(have hE : Ext wf w1:=(by first | exact hx | exact hx.1 | exact hx.1.1 | exact hx.1.1.1);obtain ⟨z3,zf3⟩:=cellsK (keep_ext hE G3);obtain ⟨z5,zf5⟩:=cellsK (keep_ext hE G5);obtain ⟨z6,zf6⟩:=cellsK (keep_ext hE G6));go_simp;first | done | rfl
     simp only [Act.put,slA,slB,slC]
     refine Rob.yg (v:=.bool true) rfl rfl (fun w1 hx hH=>?_) ?_
     ·(have hE : Ext wf w1:=(by first | exact hx | exact hx.1 | exact hx.1.1 | exact hx.1.1.1);obtain ⟨z3,zf3⟩:=cellsK (keep_ext hE G3);obtain ⟨z5,zf5⟩:=cellsK (keep_ext hE G5));go_simp;simp [H0.out]
     simp only [Act.put,slA,slB,slC]
     iterate 2
      refine Rob.y (v:=?_) rfl rfl (fun w1 hx hH=>?_) ?_;rotate_left
      ·go_simp;first | done | rfl | exact (Bool.not_not _).symm
      simp only [Act.put,slA,slB,slC]
     iterate 3
      refine Rob.no rfl rfl ?_
      simp only [Act.put,slA,slB,slC]
     iterate 2
      refine Rob.y (v:=?_) rfl rfl (fun w1 hx hH=>?_) ?_;rotate_left
      ·go_simp;first | done | rfl | exact (Bool.not_not _).symm
      simp only [Act.put,slA,slB,slC]
     iterate 2
      refine Rob.yg (v:=?_) rfl rfl (fun w1 hx hH=>?_) ?_;rotate_left
      ·(have hE : Ext wf w1:=(by first | exact hx | exact hx.1 | exact hx.1.1 | exact hx.1.1.1);obtain ⟨z3,zf3⟩:=cellsK (keep_ext hE G3);obtain ⟨z5,zf5⟩:=cellsK (keep_ext hE G5);obtain ⟨z6,zf6⟩:=cellsK (keep_ext hE G6));go_simp;first | done | rfl
      simp only [Act.put,slA,slB,slC]
     refine Rob.c (fun _ _ v w'=>PairR w' v ⟨p.A,p.A,0⟩) rfl rfl rfl (fun _ _=>(by intro h k;revert h;(repeat' (first | exact fun h=>ext_trans h k | exact fun h=>Ints.ext h k | exact fun h=>PairR.ext h k | exact fun h=>h.ext k | refine And.imp ?_ ?_)))) (fun _ _ _ _ _=>fun hh hx=>by first | exact Ints.ext hh hx | exact PairR.ext hh hx | exact hh.ext hx) (fun w1 hx hH=>?_) (fun lo14 hi14 v14 hlo14 hhi14 hv14=>?_)
     ·unfold RunTo;go_simp;exact (HYM.out _ _ (HY.out.ext hx)).mono fun e w' h=>h.to
     simp only [Act.put,slA,slB,slC]
     refine Rob.cv (.bool true) rfl rfl rfl (fun _ _=>(by intro h k;revert h;(repeat' (first | exact fun h=>ext_trans h k | exact fun h=>Ints.ext h k | exact fun h=>PairR.ext h k | exact fun h=>h.ext k | refine And.imp ?_ ?_)))) (fun w1 hx hH=>?_) (fun lo16 hi16 hlo16 hhi16=>?_)
     ·unfold RunTo;go_simp;exact (lqPair_t hx.2 (HY.out.ext hx.1)).mono fun e w' h=>h.to
     simp only [Act.put,slA,slB,slC]
     iterate 2
      refine Rob.y (v:=?_) rfl rfl (fun w1 hx hH=>?_) ?_;rotate_left
      ·go_simp;first | done | rfl | exact (Bool.not_not _).symm
      simp only [Act.put,slA,slB,slC]
     refine Rob.yg (v:=?_) rfl rfl (fun w1 hx hH=>?_) ?_;rotate_left
     ·go_simp;first | done | rfl | exact (Bool.not_not _).symm
     simp only [Act.put,slA,slB,slC]
     refine Rob.yg (v:=?_) rfl rfl (fun w1 hx hH=>?_) ?_;rotate_left
     ·(have hE : Ext wf w1:=(by first | exact hx | exact hx.1 | exact hx.1.1 | exact hx.1.1.1);obtain ⟨z3,zf3⟩:=cellsK (keep_ext hE G3);obtain ⟨z5,zf5⟩:=cellsK (keep_ext hE G5);obtain ⟨z6,zf6⟩:=cellsK (keep_ext hE G6));go_simp;first | done | rfl
     simp only [Act.put,slA,slB,slC]
     refine Rob.yg (v:=?_) rfl rfl (fun w1 hx hH=>?_) ?_;rotate_left
     ·go_simp;first | done | rfl | exact (Bool.not_not _).symm
     simp only [Act.put,slA,slB,slC]
     refine Rob.yg (v:=?_) rfl rfl (fun w1 hx hH=>?_) ?_;rotate_left
     ·(have hE : Ext wf w1:=(by first | exact hx | exact hx.1 | exact hx.1.1 | exact hx.1.1.1);obtain ⟨z3,zf3⟩:=cellsK (keep_ext hE G3);obtain ⟨z5,zf5⟩:=cellsK (keep_ext hE G5);obtain ⟨z6,zf6⟩:=cellsK (keep_ext hE G6));go_simp;first | done | rfl
     simp only [Act.put,slA,slB,slC]
     refine Rob.cv (.bool true) rfl rfl rfl (fun _ _=>(by intro h k;revert h;(repeat' (first | exact fun h=>ext_trans h k | exact fun h=>Ints.ext h k | exact fun h=>PairR.ext h k | exact fun h=>h.ext k | refine And.imp ?_ ?_)))) (fun w1 hx hH=>?_) (fun lo23 hi23 hlo23 hhi23=>?_)
     ·unfold RunTo;go_simp;exact (lqStore_R (HQA.out.ext hx.1) (HP.out.a.ext hx.1)).mono fun e w' h=>h.to
     simp only [Act.put,slA,slB,slC]
     iterate 2
      refine Rob.y (v:=?_) rfl rfl (fun w1 hx hH=>?_) ?_;rotate_left
      ·go_simp;first | done | rfl | exact (Bool.not_not _).symm
      simp only [Act.put,slA,slB,slC]
     refine fin_nil (fun wh hxh _=>?_)
     replace hxh:=hxh.1
     go_wp2_with fail
     go_ret
     exact ⟨rfl,ext_trans X0 hxh⟩
    ·have H0:=Lib.hid h0
     have HQP : Hid (q = p):=Lib.hid (by rw [← HV.out];exact mend_lost HO.out h0)
     clear h0
     refine wp_region_ext [10,14,16,23] [0,1,2,3,4,5,6,7,8,9,10,11,12,13,15,14,16,17,18,19,20,21,22,23,24,25] [] [] (by kernel_rfl) (by kernel_rfl) ?late ?_
     case late=>exact fun f hf=>absurd hf List.not_mem_nil
     iterate 3
      refine Rob.y (v:=?_) rfl rfl (fun w1 hx hH=>?_) ?_;rotate_left
      ·go_simp;first | done | rfl | exact (Bool.not_not _).symm
      simp only [Act.put,slA,slB,slC]
     refine Rob.yg (v:=?_) rfl rfl (fun w1 hx hH=>?_) ?_;rotate_left
     ·go_simp;first | done | rfl | exact (Bool.not_not _).symm
     simp only [Act.put,slA,slB,slC]
     refine Rob.yg (v:=?_) rfl rfl (fun w1 hx hH=>?_) ?_;rotate_left
     ·(have hE : Ext wf w1:=(by first | exact hx | exact hx.1 | exact hx.1.1 | exact hx.1.1.1);obtain ⟨z3,zf3⟩:=cellsK (keep_ext hE G3);obtain ⟨z5,zf5⟩:=cellsK (keep_ext hE G5);obtain ⟨z6,zf6⟩:=cellsK (keep_ext hE G6));go_simp;first | done | rfl
     simp only [Act.put,slA,slB,slC]
     refine Rob.yg (v:=.bool false) rfl rfl (fun w1 hx hH=>?_) ?_
     ·(have hE : Ext wf w1:=(by first | exact hx | exact hx.1 | exact hx.1.1 | exact hx.1.1.1);obtain ⟨z3,zf3⟩:=cellsK (keep_ext hE G3);obtain ⟨z5,zf5⟩:=cellsK (keep_ext hE G5));go_simp;simp [H0.out]
     simp only [Act.put,slA,slB,slC]
     iterate 2
      refine Rob.y (v:=?_) rfl rfl (fun w1 hx hH=>?_) ?_;rotate_left
      ·go_simp;first | done | rfl | exact (Bool.not_not _).symm
      simp only [Act.put,slA,slB,slC]
     iterate 2
      refine Rob.yg (v:=?_) rfl rfl (fun w1 hx hH=>?_) ?_;rotate_left
      ·(have hE : Ext wf w1:=(by first | exact hx | exact hx.1 | exact hx.1.1 | exact hx.1.1.1);obtain ⟨z3,zf3⟩:=cellsK (keep_ext hE G3);obtain ⟨z5,zf5⟩:=cellsK (keep_ext hE G5);obtain ⟨z6,zf6⟩:=cellsK (keep_ext hE G6));go_simp;first | done | rfl
      simp only [Act.put,slA,slB,slC]
     refine Rob.cv (.bool true) rfl rfl rfl (fun _ _=>(by intro h k;revert h;(repeat' (first | exact fun h=>ext_trans h k | exact fun h=>Ints.ext h k | exact fun h=>PairR.ext h k | exact fun h=>h.ext k | refine And.imp ?_ ?_)))) (fun w1 hx hH=>?_) (fun lo10 hi10 hlo10 hhi10=>?_)
     ·unfold RunTo;go_simp;exact (lqPair_t (HQ.out.ext hx) (HQP.out.symm ▸ HP.out.ext hx)).mono fun e w' h=>h.to
     simp only [Act.put,slA,slB,slC]
     iterate 2
      refine Rob.y (v:=?_) rfl rfl (fun w1 hx hH=>?_) ?_;rotate_left
      ·go_simp;first | done | rfl | exact (Bool.not_not _).symm
      simp only [Act.put,slA,slB,slC]
     iterate 2
      refine Rob.yg (v:=?_) rfl rfl (fun w1 hx hH=>?_) ?_;rotate_left
      ·(have hE : Ext wf w1:=(by first | exact hx | exact hx.1 | exact hx.1.1 | exact hx.1.1.1);obtain ⟨z3,zf3⟩:=cellsK (keep_ext hE G3);obtain ⟨z5,zf5⟩:=cellsK (keep_ext hE G5);obtain ⟨z6,zf6⟩:=cellsK (keep_ext hE G6));go_simp;first | done | rfl
      simp only [Act.put,slA,slB,slC]
     refine Rob.c (fun _ _ v w'=>PairR w' v ⟨p.A,p.A,0⟩) rfl rfl rfl (fun _ _=>(by intro h k;revert h;(repeat' (first | exact fun h=>ext_trans h k | exact fun h=>Ints.ext h k | exact fun h=>PairR.ext h k | exact fun h=>h.ext k | refine And.imp ?_ ?_)))) (fun _ _ _ _ _=>fun hh hx=>by first | exact Ints.ext hh hx | exact PairR.ext hh hx | exact hh.ext hx) (fun w1 hx hH=>?_) (fun lo14 hi14 v14 hlo14 hhi14 hv14=>?_)
     ·unfold RunTo;go_simp;exact (HYM.out _ _ (HY.out.ext hx)).mono fun e w' h=>h.to
     simp only [Act.put,slA,slB,slC]
     refine Rob.cv (.bool true) rfl rfl rfl (fun _ _=>(by intro h k;revert h;(repeat' (first | exact fun h=>ext_trans h k | exact fun h=>Ints.ext h k | exact fun h=>PairR.ext h k | exact fun h=>h.ext k | refine And.imp ?_ ?_)))) (fun w1 hx hH=>?_) (fun lo16 hi16 hlo16 hhi16=>?_)
     ·unfold RunTo;go_simp;exact (lqPair_t hx.2 (HY.out.ext hx.1)).mono fun e w' h=>h.to
     simp only [Act.put,slA,slB,slC]
     iterate 2
      refine Rob.y (v:=?_) rfl rfl (fun w1 hx hH=>?_) ?_;rotate_left
      ·go_simp;first | done | rfl | exact (Bool.not_not _).symm
      simp only [Act.put,slA,slB,slC]
     refine Rob.yg (v:=?_) rfl rfl (fun w1 hx hH=>?_) ?_;rotate_left
     ·go_simp;first | done | rfl | exact (Bool.not_not _).symm
     simp only [Act.put,slA,slB,slC]
     refine Rob.yg (v:=?_) rfl rfl (fun w1 hx hH=>?_) ?_;rotate_left
     ·(have hE : Ext wf w1:=(by first | exact hx | exact hx.1 | exact hx.1.1 | exact hx.1.1.1);obtain ⟨z3,zf3⟩:=cellsK (keep_ext hE G3);obtain ⟨z5,zf5⟩:=cellsK (keep_ext hE G5);obtain ⟨z6,zf6⟩:=cellsK (keep_ext hE G6));go_simp;first | done | rfl
     simp only [Act.put,slA,slB,slC]
     refine Rob.yg (v:=?_) rfl rfl (fun w1 hx hH=>?_) ?_;rotate_left
     ·go_simp;first | done | rfl | exact (Bool.not_not _).symm
     simp only [Act.put,slA,slB,slC]
     refine Rob.yg (v:=?_) rfl rfl (fun w1 hx hH=>?_) ?_;rotate_left
     ·(have hE : Ext wf w1:=(by first | exact hx | exact hx.1 | exact hx.1.1 | exact hx.1.1.1);obtain ⟨z3,zf3⟩:=cellsK (keep_ext hE G3);obtain ⟨z5,zf5⟩:=cellsK (keep_ext hE G5);obtain ⟨z6,zf6⟩:=cellsK (keep_ext hE G6));go_simp;first | done | rfl
     simp only [Act.put,slA,slB,slC]
     refine Rob.cv (.bool true) rfl rfl rfl (fun _ _=>(by intro h k;revert h;(repeat' (first | exact fun h=>ext_trans h k | exact fun h=>Ints.ext h k | exact fun h=>PairR.ext h k | exact fun h=>h.ext k | refine And.imp ?_ ?_)))) (fun w1 hx hH=>?_) (fun lo23 hi23 hlo23 hhi23=>?_)
     ·unfold RunTo;go_simp;exact (lqStore_R (HQA.out.ext hx.1) (HP.out.a.ext hx.1)).mono fun e w' h=>h.to
     simp only [Act.put,slA,slB,slC]
     iterate 2
      refine Rob.y (v:=?_) rfl rfl (fun w1 hx hH=>?_) ?_;rotate_left
      ·go_simp;first | done | rfl | exact (Bool.not_not _).symm
      simp only [Act.put,slA,slB,slC]
     refine fin_nil (fun wh hxh _=>?_)
     replace hxh:=hxh.1
     go_wp2_with fail
     go_ret
     exact ⟨rfl,ext_trans X0 hxh⟩
  ·rw [Bool.not_eq_true] at hok
   refine wp_region_ext [2,3,7] [0,1,2,3,4,5,6,7,8,9] [] [] (by kernel_rfl) (by kernel_rfl) ?late ?_
   case late=>exact fun f hf=>absurd hf List.not_mem_nil
   iterate 2
    refine Rob.y (v:=?_) rfl rfl (fun w1 hx hH=>?_) ?_;rotate_left
    ·(have hE : Ext wc w1:=(by first | exact hx | exact hx.1 | exact hx.1.1);obtain ⟨z3,zf3⟩:=cellsK (keep_ext hE G3);obtain ⟨z5,zf5⟩:=cellsK (keep_ext hE G5));go_simp;first | done | rfl
    simp only [Act.put,slA,slB,slC]
   refine Rob.c (fun _ _ v w'=>PairR w' v q) rfl rfl rfl (fun _ _=>(by intro h k;revert h;(repeat' (first | exact fun h=>ext_trans h k | exact fun h=>Ints.ext h k | exact fun h=>PairR.ext h k | exact fun h=>h.ext k | refine And.imp ?_ ?_)))) (fun _ _ _ _ _=>fun hh hx=>by first | exact Ints.ext hh hx | exact PairR.ext hh hx | exact hh.ext hx) (fun w1 hx hH=>?_) (fun lo2 hi2 v2 hlo2 hhi2 hv2=>?_)
   ·unfold RunTo;go_simp;exact (HV.out ▸ specPairMend_r (HP.out.ext hx)).mono fun e w' h=>h.to
   simp only [Act.put,slA,slB,slC]
   refine Rob.cv (.bool true) rfl rfl rfl (fun _ _=>(by intro h k;revert h;(repeat' (first | exact fun h=>ext_trans h k | exact fun h=>Ints.ext h k | exact fun h=>PairR.ext h k | exact fun h=>h.ext k | refine And.imp ?_ ?_)))) (fun w1 hx hH=>?_) (fun lo3 hi3 hlo3 hhi3=>?_)
   ·unfold RunTo;go_simp;exact (lqPair_t (HQ.out.ext hx.1) hx.2).mono fun e w' h=>h.to
   simp only [Act.put,slA,slB,slC]
   iterate 2
    refine Rob.y (v:=?_) rfl rfl (fun w1 hx hH=>?_) ?_;rotate_left
    ·go_simp;first | done | rfl | exact (Bool.not_not _).symm
    simp only [Act.put,slA,slB,slC]
   refine Rob.yg (v:=?_) rfl rfl (fun w1 hx hH=>?_) ?_;rotate_left
   ·(have hE : Ext wc w1:=(by first | exact hx | exact hx.1 | exact hx.1.1);obtain ⟨z3,zf3⟩:=cellsK (keep_ext hE G3);obtain ⟨z5,zf5⟩:=cellsK (keep_ext hE G5));go_simp;first | done | rfl
   simp only [Act.put,slA,slB,slC]
   refine Rob.cv (.bool false) rfl rfl rfl (fun _ _=>(by intro h k;revert h;(repeat' (first | exact fun h=>ext_trans h k | exact fun h=>Ints.ext h k | exact fun h=>PairR.ext h k | exact fun h=>h.ext k | refine And.imp ?_ ?_)))) (fun w1 hx hH=>?_) (fun lo7 hi7 hlo7 hhi7=>?_)
   ·unfold RunTo;go_simp;exact (hok ▸ specPairOk_r (HP.out.ext hx.1)).mono fun e w' h=>h.to
   simp only [Act.put,slA,slB,slC]
   refine Rob.yg (v:=?_) rfl rfl (fun w1 hx hH=>?_) ?_;rotate_left
   ·go_simp;first | done | rfl | exact (Bool.not_not _).symm
   simp only [Act.put,slA,slB,slC]
   refine Rob.y (v:=?_) rfl rfl (fun w1 hx hH=>?_) ?_;rotate_left
   ·go_simp;first | done | rfl | exact (Bool.not_not _).symm
   simp only [Act.put,slA,slB,slC]
   refine fin_nil (fun wd hxd _=>?_)
   replace hxd:=hxd.1
   replace HP:=Lib.hid (HP.out.ext hxd)
   replace HQ:=Lib.hid (HQ.out.ext hxd)
   replace G3:=keep_ext hxd G3
   replace G5:=keep_ext hxd G5
   replace X0:=ext_trans X0 hxd
   clear hxd
   (try clear g3 gf3 g5 gf5 l3 l5)
   obtain ⟨g3,gf3⟩:=cellsK G3
   obtain ⟨g5,gf5⟩:=cellsK G5
   have l3:=heap_lt G3
   have l5:=heap_lt G5
   go_wp2_with fail
   refine wp_region_ext [2,3] [0,1,2,3,4] [] [] (by kernel_rfl) (by kernel_rfl) ?late ?_
   case late=>exact fun f hf=>absurd hf List.not_mem_nil
   iterate 2
    refine Rob.y (v:=?_) rfl rfl (fun w1 hx hH=>?_) ?_;rotate_left
    ·(have hE : Ext wd w1:=(by first | exact hx | exact hx.1 | exact hx.1.1);obtain ⟨z3,zf3⟩:=cellsK (keep_ext hE G3);obtain ⟨z5,zf5⟩:=cellsK (keep_ext hE G5));go_simp;first | done | rfl
    simp only [Act.put,slA,slB,slC]
   refine Rob.c (fun _ _ v w'=>PairR w' v q) rfl rfl rfl (fun _ _=>(by intro h k;revert h;(repeat' (first | exact fun h=>ext_trans h k | exact fun h=>Ints.ext h k | exact fun h=>PairR.ext h k | exact fun h=>h.ext k | refine And.imp ?_ ?_)))) (fun _ _ _ _ _=>fun hh hx=>by first | exact Ints.ext hh hx | exact PairR.ext hh hx | exact hh.ext hx) (fun w1 hx hH=>?_) (fun lo2 hi2 v2 hlo2 hhi2 hv2=>?_)
   ·unfold RunTo;go_simp;exact (HV.out ▸ specPairMend_r (HP.out.ext hx)).mono fun e w' h=>h.to
   simp only [Act.put,slA,slB,slC]
   refine Rob.cv (.bool true) rfl rfl rfl (fun _ _=>(by intro h k;revert h;(repeat' (first | exact fun h=>ext_trans h k | exact fun h=>Ints.ext h k | exact fun h=>PairR.ext h k | exact fun h=>h.ext k | refine And.imp ?_ ?_)))) (fun w1 hx hH=>?_) (fun lo3 hi3 hlo3 hhi3=>?_)
   ·unfold RunTo;go_simp;exact (lqPair_t (HQ.out.ext hx.1) hx.2).mono fun e w' h=>h.to
   simp only [Act.put,slA,slB,slC]
   refine Rob.y (v:=?_) rfl rfl (fun w1 hx hH=>?_) ?_;rotate_left
   ·go_simp;first | done | rfl | exact (Bool.not_not _).symm
   simp only [Act.put,slA,slB,slC]
   refine fin_nil (fun we hxe _=>?_)
   replace hxe:=hxe.1
   go_wp2_with fail
   go_ret
   exact ⟨rfl,ext_trans X0 hxe⟩
 ·go_enter Tryz.func8,Tryz.ntmps8
  go_wp2_with fail
  all_goals
   go_ret
   exact ⟨rfl,ext_refl _⟩
end Go.Bu