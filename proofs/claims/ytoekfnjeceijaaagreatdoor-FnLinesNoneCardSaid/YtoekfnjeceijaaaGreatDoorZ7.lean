/- The program's PlaySteps, playAll, playBegun and PlayDo. append of rows of steps that may be empty. The program's playAll, playBegun and PlayDo. What steps cost: CostOf of both sides. What steps cost, plain. The program's cost of events: what it sends over a channel of its own, summed. The reference's cost of events. Readers with enough left: what the laws' draws ask of them; drawn events and records. PlayDo of both sides; stores that calls return: read, compared, marked, held. The law FnCostRun holds of every input. What a whole write leaves, and what it costs: plain. What events cost: plain. What puts cost; what is flushed twice: plain. -/import Derived.Test.YtoekfnjeceijaaaGreatDoorZ6
import Derived.Test.YtoekfnjeceijaaaGreatDoorZ3
import Derived.Test.YtoekfnjeceijaaaGreatDoorZ2
import Derived.Test.YtoekfnjeceijaaaGreatDoorZ5
set_option maxHeartbeats 2000000
set_option linter.unusedVariables false
set_option linter.unusedSimpArgs false
namespace Go.Bu
open Go Go.RowKit Go.Plan Go.Proofs
theorem StoreV.small {w : World} {f d : Value} {s : Store} (h : storeOkB s = true) : Small s:=⟨by have:=(storeOk_shape h).flash;omega,pages_short (storeOk_flash h),by have:=storeOk_disk h;omega⟩
theorem playerPut_c (fv dv : Value) (s : Store) (e : Event) (w : World) (h : StoreV w fv dv s) (hok : storeOkB s = true) :
  Calls Tryz.prog 135 #[.agg #[fv,dv],eventA e] w (RetS w (writeSteps s.flash 1 e.a e.b)):=by
 have hP:=fun (w' : World) (hx : Ext w w')=>implStepsPut_c fv dv s e.a e.b w' (h.ext hx) (StoreV.small (w:=w) (f:=fv) (d:=dv) hok)
 rw [show putSteps2 s e.a e.b = writeSteps s.flash 1 e.a e.b by unfold putSteps2;rw [if_pos hok]] at hP
 obtain ⟨a1,n1,rfl⟩:=h.1.form
 obtain ⟨a2,n2,rfl⟩:=h.2.form
 obtain ⟨k,ea,eb,ec,et⟩:=e
 dsimp only at hP ⊢
 clear h hok
 go_enter Tryz.func135,Tryz.ntmps135
 go_wp2_with fail
 refine (hP _ (ext_alloc (ext_alloc (ext_refl _) _) _)).mono ?_;rintro e2 w2 ⟨v,rfl,hx2,hS,hl⟩
 go_wp2_with fail
 go_ret
 exact ⟨_,rfl,ext_of2 hx2,hS.base size_of2,hl⟩
theorem playerFlush_c (fv dv : Value) (s : Store) (e : Event) (w : World) (h : StoreV w fv dv s) (hok : storeOkB s = true) :
  Calls Tryz.prog 136 #[.agg #[fv,dv],eventA e] w (RetS w (addrStep (flushSteps s) e.a)):=by
 have hP:=fun (w' : World) (hx : Ext w w')=>implStepsFlush_c fv dv s e.a w' (h.ext hx) hok
 obtain ⟨a1,n1,rfl⟩:=h.1.form
 obtain ⟨a2,n2,rfl⟩:=h.2.form
 obtain ⟨k,ea,eb,ec,et⟩:=e
 dsimp only at hP ⊢
 clear h hok
 go_enter Tryz.func136,Tryz.ntmps136
 go_wp2_with fail
 refine (hP _ (ext_alloc (ext_alloc (ext_refl _) _) _)).mono ?_;rintro e2 w2 ⟨v,rfl,hx2,hS,hl⟩
 go_wp2_with fail
 go_ret
 exact ⟨_,rfl,ext_of2 hx2,hS.base size_of2,hl⟩
theorem playerFill_c (fv dv : Value) (s : Store) (e : Event) (w : World) (h : StoreV w fv dv s) (hok : storeOkB s = true) :
  Calls Tryz.prog 137 #[.agg #[fv,dv],eventA e] w (RetS w (addrStep (fillSteps s) e.a)):=by
 have hP:=fun (w' : World) (hx : Ext w w')=>implStepsFill_c fv dv s e.a w' (h.ext hx) hok
 obtain ⟨a1,n1,rfl⟩:=h.1.form
 obtain ⟨a2,n2,rfl⟩:=h.2.form
 obtain ⟨k,ea,eb,ec,et⟩:=e
 dsimp only at hP ⊢
 clear h hok
 go_enter Tryz.func137,Tryz.ntmps137
 go_wp2_with fail
 refine (hP _ (ext_alloc (ext_alloc (ext_refl _) _) _)).mono ?_;rintro e2 w2 ⟨v,rfl,hx2,hS,hl⟩
 go_wp2_with fail
 go_ret
 exact ⟨_,rfl,ext_of2 hx2,hS.base size_of2,hl⟩
set_option maxRecDepth 20000 in
set_option maxHeartbeats 4000000 in
theorem implPlaySteps_c (fv dv : Value) (s : Store) (e : Event) (w : World) (h : StoreV w fv dv s) (hok : storeOkB s = true) :
  Calls Tryz.prog 119 #[.agg #[fv,dv],eventA e] w (RetS w (playSteps s e)):=by
 have hmf : ∀ (fn : Fn) (first cap : Array Value) (w : World),(Instr.makeFunc fn first cap).run Tryz.prog w = .ok (.func fn first cap) w:=fun _ _ _ _=>rfl
 have hP:=fun (w' : World) (hx : Ext w w')=>playerPut_c fv dv s e w' (h.ext hx) hok
 have hF:=fun (w' : World) (hx : Ext w w')=>playerFlush_c fv dv s e w' (h.ext hx) hok
 have hL:=fun (w' : World) (hx : Ext w w')=>playerFill_c fv dv s e w' (h.ext hx) hok
 have HQ : Hid (playSteps s e = if e.kind = 1 then writeSteps s.flash 1 e.a e.b else if e.kind = 2 then addrStep (flushSteps s) e.a else if e.kind = 3 then addrStep (fillSteps s) e.a else []):=Lib.hid rfl
 obtain ⟨a1,n1,rfl⟩:=h.1.form
 obtain ⟨a2,n2,rfl⟩:=h.2.form
 generalize playSteps s e = PS at *
 generalize writeSteps s.flash 1 e.a e.b = W1 at *
 generalize addrStep (flushSteps s) e.a = W2 at *
 generalize addrStep (fillSteps s) e.a = W3 at *
 obtain ⟨k,ea,eb,ec,et⟩:=e
 dsimp only [eventA] at *
 clear h hok
 obtain ⟨W4,hW4⟩ : ∃ W4,((((w.alloc (.cells #[.slice a1 s.flash.length n1,.slice a2 s.disk.length n2] 42)).alloc (.cells #[.int .i64 k,.int .i64 ea,.int .i64 eb,.int .i64 ec,.bool et] 83)).alloc (.cells #[.slice a1 s.flash.length n1,.slice a2 s.disk.length n2] 187)).alloc (.cells #[.nilFunc,.nilFunc,.nilFunc,.nilFunc] 189)) = W4:=⟨_,rfl⟩
 have X4 : Ext w W4:=by rw [← hW4];exact ext_alloc (ext_alloc (ext_alloc (ext_alloc (ext_refl _) _) _) _) _
 have G3 : W4.heap[w.heap.size + 1]? = some (.cells #[.int .i64 k,.int .i64 ea,.int .i64 eb,.int .i64 ec,.bool et] 83 (0,0)):=by rw [← hW4];exact hg_alloc (hg_alloc (hg_new (by simp)))
 have G6 : W4.heap[w.heap.size + 1 + 1 + 1]? = some (.cells #[.nilFunc,.nilFunc,.nilFunc,.nilFunc] 189 (0,0)):=by rw [← hW4];exact hg_new (by simp)
 have hth : W4.there (w.heap.size + 1 + 1 + 1) 0 4:=fun j hj=>by
  rw [Nat.zero_add,cell_block G6,frozen_block G6,Array.getElem?_eq_getElem (by simpa using hj)];exact ⟨rfl,rfl⟩
 obtain ⟨W5,hW5⟩ : ∃ W5,setAll W4 (w.heap.size + 1 + 1 + 1) 0 [.nilFunc,.func (.func 135) #[.agg #[.slice a1 s.flash.length n1,.slice a2 s.disk.length n2]] #[],.func (.func 136) #[.agg #[.slice a1 s.flash.length n1,.slice a2 s.disk.length n2]] #[],.func (.func 137) #[.agg #[.slice a1 s.flash.length n1,.slice a2 s.disk.length n2]] #[]] = W5:=⟨_,rfl⟩
 obtain ⟨c6,hc6,hc6s,hc6g⟩:=setAll_block [.nilFunc,.func (.func 135) #[.agg #[.slice a1 s.flash.length n1,.slice a2 s.disk.length n2]] #[],.func (.func 136) #[.agg #[.slice a1 s.flash.length n1,.slice a2 s.disk.length n2]] #[],.func (.func 137) #[.agg #[.slice a1 s.flash.length n1,.slice a2 s.disk.length n2]] #[]] W4 0 _ G6 (by simp)
 have G65 : W5.heap[w.heap.size + 1 + 1 + 1]? = some (.cells c6 189 (0,0)):=by rw [← hW5];exact hc6
 have G35 : W5.heap[w.heap.size + 1]? = some (.cells #[.int .i64 k,.int .i64 ea,.int .i64 eb,.int .i64 ec,.bool et] 83 (0,0)):=by rw [← hW5,setAll_other _ (by omega)];exact G3
 have X5 : Ext w W5:=by rw [← hW5];exact ext_trans (ext_refl w) (by
  have hb:=setAll_below (w.heap.size + 1 + 1 + 1) w.heap.size (by omega) [.nilFunc,.func (.func 135) #[.agg #[.slice a1 s.flash.length n1,.slice a2 s.disk.length n2]] #[],.func (.func 136) #[.agg #[.slice a1 s.flash.length n1,.slice a2 s.disk.length n2]] #[],.func (.func 137) #[.agg #[.slice a1 s.flash.length n1,.slice a2 s.disk.length n2]] #[]] W4 0
  exact ⟨hb.os.trans X4.os,hb.tape.trans X4.tape,hb.output.trans X4.output,Nat.le_trans X4.size hb.size,fun b hb'=>(hb.block b hb').trans (X4.block b hb')⟩)
 have HC6:=Lib.hid hc6g
 have HW5:=Lib.hid hW5
 have HW4:=Lib.hid hW4
 clear hW5 hc6 hc6s hc6g
 clear hW4
 by_cases h1 : k = 1
 ·subst h1
  have hq : PS = W1:=by rw [HQ.out,if_pos rfl]
  subst hq
  have C6 : W5.cell? ⟨w.heap.size + 1 + 1 + 1,1,none⟩ = some (.func (.func 135) #[.agg #[.slice a1 s.flash.length n1,.slice a2 s.disk.length n2]] #[]):=by rw [cell_block G65,HC6.out 1];rfl
  clear hF hL HQ
  go_enter Tryz.func119,Tryz.ntmps119
  go_wp2_with (rw [HW4.out];refine wpList_store_mid rfl 189 _ _ rfl (w.heap.size + 1 + 1 + 1) 0 #[.nilFunc,.func (.func 135) #[.agg #[.slice a1 s.flash.length n1,.slice a2 s.disk.length n2]] #[],.func (.func 136) #[.agg #[.slice a1 s.flash.length n1,.slice a2 s.disk.length n2]] #[],.func (.func 137) #[.agg #[.slice a1 s.flash.length n1,.slice a2 s.disk.length n2]] #[]] rfl rfl hth (by kernel_rfl) (by simp [Value.oneCell']) ?_;change wpList _ _ _ _ _ (setAll W4 (w.heap.size + 1 + 1 + 1) 0 [.nilFunc,.func (.func 135) #[.agg #[.slice a1 s.flash.length n1,.slice a2 s.disk.length n2]] #[],.func (.func 136) #[.agg #[.slice a1 s.flash.length n1,.slice a2 s.disk.length n2]] #[],.func (.func 137) #[.agg #[.slice a1 s.flash.length n1,.slice a2 s.disk.length n2]] #[]]);rw [HW5.out];clear G3 G6 hth;obtain ⟨q3,qf3⟩:=cellsK G35)
  refine wp_region_ext [5] [0,1,2,3,4,5,6] [] [] (by kernel_rfl) (by kernel_rfl) ?late ?_
  case late=>exact fun f hf=>absurd hf List.not_mem_nil
  refine Rob.y (v:=?_) rfl rfl (fun w1 hx hH=>?_) ?_;rotate_left
  ·go_simp;first | done | rfl | exact (Bool.not_not _).symm
  simp only [Act.put,slA,slB,slC]
  iterate 4
   refine Rob.y (v:=?_) rfl rfl (fun w1 hx hH=>?_) ?_;rotate_left
   ·(obtain ⟨z3,zf3⟩:=cellsK (keep_ext hx G35);have zc:=cell_ext hx C6);go_simp;first | done | rfl
   simp only [Act.put,slA,slB,slC]
  refine Rob.c ((fun lo hi v w'=>SRow lo w' v PS ∧ PS.length ≤ 7)) rfl rfl rfl (fun _ _=>ext_trans) (fun _ _ _ _ _=>fun h hx=>⟨h.1.ext hx,h.2⟩) (fun w1 hx hH=>?_) (fun lo5 hi5 v5 hlo5 hhi5 hv5=>?_)
  ·unfold RunTo;go_simp;exact ((hP _ (ext_trans X5 hx))).mono fun e w' h=>h.to
  simp only [Act.put,slA,slB,slC]
  obtain ⟨_,hv5⟩:=hv5
  obtain ⟨a5,c5,rfl⟩:=hv5.1.form
  refine Rob.y (v:=?_) rfl rfl (fun w1 hx hH=>?_) ?_;rotate_left
  ·go_simp;first | done | rfl | exact (Bool.not_not _).symm
  simp only [Act.put,slA,slB,slC]
  refine fin_nil (fun w6 hx6 _=>?_)
  obtain ⟨hx6,hS,hl⟩:=hx6
  have s5:=X5.size
  have X6:=ext_trans X5 hx6
  have HS:=Lib.hid hS
  clear hS hv5 q3 qf3
  go_wp2_with fail
  go_ret
  exact ⟨_,rfl,X6,HS.out.base (by omega),hl⟩
 by_cases h2 : k = 2
 ·subst h2
  have hq : PS = W2:=by rw [HQ.out,if_neg (by decide),if_pos rfl]
  subst hq
  have C6 : W5.cell? ⟨w.heap.size + 1 + 1 + 1,2,none⟩ = some (.func (.func 136) #[.agg #[.slice a1 s.flash.length n1,.slice a2 s.disk.length n2]] #[]):=by rw [cell_block G65,HC6.out 2];rfl
  clear hP hL HQ
  go_enter Tryz.func119,Tryz.ntmps119
  go_wp2_with (rw [HW4.out];refine wpList_store_mid rfl 189 _ _ rfl (w.heap.size + 1 + 1 + 1) 0 #[.nilFunc,.func (.func 135) #[.agg #[.slice a1 s.flash.length n1,.slice a2 s.disk.length n2]] #[],.func (.func 136) #[.agg #[.slice a1 s.flash.length n1,.slice a2 s.disk.length n2]] #[],.func (.func 137) #[.agg #[.slice a1 s.flash.length n1,.slice a2 s.disk.length n2]] #[]] rfl rfl hth (by kernel_rfl) (by simp [Value.oneCell']) ?_;change wpList _ _ _ _ _ (setAll W4 (w.heap.size + 1 + 1 + 1) 0 [.nilFunc,.func (.func 135) #[.agg #[.slice a1 s.flash.length n1,.slice a2 s.disk.length n2]] #[],.func (.func 136) #[.agg #[.slice a1 s.flash.length n1,.slice a2 s.disk.length n2]] #[],.func (.func 137) #[.agg #[.slice a1 s.flash.length n1,.slice a2 s.disk.length n2]] #[]]);rw [HW5.out];clear G3 G6 hth;obtain ⟨q3,qf3⟩:=cellsK G35)
  refine wp_region_ext [5] [0,1,2,3,4,5,6] [] [] (by kernel_rfl) (by kernel_rfl) ?late ?_
  case late=>exact fun f hf=>absurd hf List.not_mem_nil
  refine Rob.y (v:=?_) rfl rfl (fun w1 hx hH=>?_) ?_;rotate_left
  ·go_simp;first | done | rfl | exact (Bool.not_not _).symm
  simp only [Act.put,slA,slB,slC]
  iterate 4
   refine Rob.y (v:=?_) rfl rfl (fun w1 hx hH=>?_) ?_;rotate_left
   ·(obtain ⟨z3,zf3⟩:=cellsK (keep_ext hx G35);have zc:=cell_ext hx C6);go_simp;first | done | rfl
   simp only [Act.put,slA,slB,slC]
  refine Rob.c ((fun lo hi v w'=>SRow lo w' v PS ∧ PS.length ≤ 7)) rfl rfl rfl (fun _ _=>ext_trans) (fun _ _ _ _ _=>fun h hx=>⟨h.1.ext hx,h.2⟩) (fun w1 hx hH=>?_) (fun lo5 hi5 v5 hlo5 hhi5 hv5=>?_)
  ·unfold RunTo;go_simp;exact ((hF _ (ext_trans X5 hx))).mono fun e w' h=>h.to
  simp only [Act.put,slA,slB,slC]
  obtain ⟨_,hv5⟩:=hv5
  obtain ⟨a5,c5,rfl⟩:=hv5.1.form
  refine Rob.y (v:=?_) rfl rfl (fun w1 hx hH=>?_) ?_;rotate_left
  ·go_simp;first | done | rfl | exact (Bool.not_not _).symm
  simp only [Act.put,slA,slB,slC]
  refine fin_nil (fun w6 hx6 _=>?_)
  obtain ⟨hx6,hS,hl⟩:=hx6
  have s5:=X5.size
  have X6:=ext_trans X5 hx6
  have HS:=Lib.hid hS
  clear hS hv5 q3 qf3
  go_wp2_with fail
  go_ret
  exact ⟨_,rfl,X6,HS.out.base (by omega),hl⟩
 by_cases h3 : k = 3
 ·subst h3
  have hq : PS = W3:=by rw [HQ.out,if_neg (by decide),if_neg (by decide),if_pos rfl]
  subst hq
  have C6 : W5.cell? ⟨w.heap.size + 1 + 1 + 1,3,none⟩ = some (.func (.func 137) #[.agg #[.slice a1 s.flash.length n1,.slice a2 s.disk.length n2]] #[]):=by rw [cell_block G65,HC6.out 3];rfl
  clear hP hF HQ
  go_enter Tryz.func119,Tryz.ntmps119
  go_wp2_with (rw [HW4.out];refine wpList_store_mid rfl 189 _ _ rfl (w.heap.size + 1 + 1 + 1) 0 #[.nilFunc,.func (.func 135) #[.agg #[.slice a1 s.flash.length n1,.slice a2 s.disk.length n2]] #[],.func (.func 136) #[.agg #[.slice a1 s.flash.length n1,.slice a2 s.disk.length n2]] #[],.func (.func 137) #[.agg #[.slice a1 s.flash.length n1,.slice a2 s.disk.length n2]] #[]] rfl rfl hth (by kernel_rfl) (by simp [Value.oneCell']) ?_;change wpList _ _ _ _ _ (setAll W4 (w.heap.size + 1 + 1 + 1) 0 [.nilFunc,.func (.func 135) #[.agg #[.slice a1 s.flash.length n1,.slice a2 s.disk.length n2]] #[],.func (.func 136) #[.agg #[.slice a1 s.flash.length n1,.slice a2 s.disk.length n2]] #[],.func (.func 137) #[.agg #[.slice a1 s.flash.length n1,.slice a2 s.disk.length n2]] #[]]);rw [HW5.out];clear G3 G6 hth;obtain ⟨q3,qf3⟩:=cellsK G35)
  refine wp_region_ext [5] [0,1,2,3,4,5,6] [] [] (by kernel_rfl) (by kernel_rfl) ?late ?_
  case late=>exact fun f hf=>absurd hf List.not_mem_nil
  refine Rob.y (v:=?_) rfl rfl (fun w1 hx hH=>?_) ?_;rotate_left
  ·go_simp;first | done | rfl | exact (Bool.not_not _).symm
  simp only [Act.put,slA,slB,slC]
  iterate 4
   refine Rob.y (v:=?_) rfl rfl (fun w1 hx hH=>?_) ?_;rotate_left
   ·(obtain ⟨z3,zf3⟩:=cellsK (keep_ext hx G35);have zc:=cell_ext hx C6);go_simp;first | done | rfl
   simp only [Act.put,slA,slB,slC]
  refine Rob.c ((fun lo hi v w'=>SRow lo w' v PS ∧ PS.length ≤ 7)) rfl rfl rfl (fun _ _=>ext_trans) (fun _ _ _ _ _=>fun h hx=>⟨h.1.ext hx,h.2⟩) (fun w1 hx hH=>?_) (fun lo5 hi5 v5 hlo5 hhi5 hv5=>?_)
  ·unfold RunTo;go_simp;exact ((hL _ (ext_trans X5 hx))).mono fun e w' h=>h.to
  simp only [Act.put,slA,slB,slC]
  obtain ⟨_,hv5⟩:=hv5
  obtain ⟨a5,c5,rfl⟩:=hv5.1.form
  refine Rob.y (v:=?_) rfl rfl (fun w1 hx hH=>?_) ?_;rotate_left
  ·go_simp;first | done | rfl | exact (Bool.not_not _).symm
  simp only [Act.put,slA,slB,slC]
  refine fin_nil (fun w6 hx6 _=>?_)
  obtain ⟨hx6,hS,hl⟩:=hx6
  have s5:=X5.size
  have X6:=ext_trans X5 hx6
  have HS:=Lib.hid hS
  clear hS hv5 q3 qf3
  go_wp2_with fail
  go_ret
  exact ⟨_,rfl,X6,HS.out.base (by omega),hl⟩
 ·have hq : PS = []:=by rw [HQ.out,if_neg h1,if_neg h2,if_neg h3]
  subst hq
  clear hP hF hL HQ
  by_cases hk : k < 1
  ·go_enter Tryz.func119,Tryz.ntmps119
   go_wp2_with (rw [HW4.out];refine wpList_store_mid rfl 189 _ _ rfl (w.heap.size + 1 + 1 + 1) 0 #[.nilFunc,.func (.func 135) #[.agg #[.slice a1 s.flash.length n1,.slice a2 s.disk.length n2]] #[],.func (.func 136) #[.agg #[.slice a1 s.flash.length n1,.slice a2 s.disk.length n2]] #[],.func (.func 137) #[.agg #[.slice a1 s.flash.length n1,.slice a2 s.disk.length n2]] #[]] rfl rfl hth (by kernel_rfl) (by simp [Value.oneCell']) ?_;change wpList _ _ _ _ _ (setAll W4 (w.heap.size + 1 + 1 + 1) 0 [.nilFunc,.func (.func 135) #[.agg #[.slice a1 s.flash.length n1,.slice a2 s.disk.length n2]] #[],.func (.func 136) #[.agg #[.slice a1 s.flash.length n1,.slice a2 s.disk.length n2]] #[],.func (.func 137) #[.agg #[.slice a1 s.flash.length n1,.slice a2 s.disk.length n2]] #[]]);rw [HW5.out];clear G3 G6 hth;obtain ⟨q3,qf3⟩:=cellsK G35)
   go_ret
   exact ⟨_,rfl,X5,SRow.nil _ _,by simp⟩
  ·have hk3 : 3 < k:=by omega
   clear h1 h2 h3
   go_enter Tryz.func119,Tryz.ntmps119
   go_wp2_with (rw [HW4.out];refine wpList_store_mid rfl 189 _ _ rfl (w.heap.size + 1 + 1 + 1) 0 #[.nilFunc,.func (.func 135) #[.agg #[.slice a1 s.flash.length n1,.slice a2 s.disk.length n2]] #[],.func (.func 136) #[.agg #[.slice a1 s.flash.length n1,.slice a2 s.disk.length n2]] #[],.func (.func 137) #[.agg #[.slice a1 s.flash.length n1,.slice a2 s.disk.length n2]] #[]] rfl rfl hth (by kernel_rfl) (by simp [Value.oneCell']) ?_;change wpList _ _ _ _ _ (setAll W4 (w.heap.size + 1 + 1 + 1) 0 [.nilFunc,.func (.func 135) #[.agg #[.slice a1 s.flash.length n1,.slice a2 s.disk.length n2]] #[],.func (.func 136) #[.agg #[.slice a1 s.flash.length n1,.slice a2 s.disk.length n2]] #[],.func (.func 137) #[.agg #[.slice a1 s.flash.length n1,.slice a2 s.disk.length n2]] #[]]);rw [HW5.out];clear G3 G6 hth;obtain ⟨q3,qf3⟩:=cellsK G35)
   go_ret
   exact ⟨_,rfl,X5,SRow.nil _ _,by simp⟩
end Go.Bu
namespace Go.Bu
open Go Go.RowKit Go.Plan Go.Proofs
theorem run_append_zero {P : Program} (w : World) (t ty e : TypeId) (i : TypeInfo) (ht : P.underlying t = some (.slice e)) (hi : P.info? e = some i) (b : Option Addr) (n cap : Nat) (hnc : n ≤ cap) (x : Option Addr) (c : Nat) :
  (Builtin.append_ #[t,t] ty #[.slice b n cap,.slice x 0 c]).run P w = .ok (.slice b n cap) w:=by
 cases x with
 | none=>cases b <;> simp [Builtin.append_,run_underlying ht,sizeOf,typeInfo,hi,Builtin.lenOf,Builtin.firstCells,hnc,storeCells]
 | some a =>
  have hfc:=run_firstCells_some (P:=P) w i.size 0 a 0 c [] (by simp) (by simp)
  cases b <;> simp [Builtin.append_,run_underlying ht,sizeOf,typeInfo,hi,Builtin.lenOf,hfc,hnc,storeCells]
theorem wpList_appStepsA {w : World} {ops : Array Oper} {rest : List Oper} {o : Oper} {a : Act} {Q : Exit → Act → World → Prop} (hgd : o.guard = none) (s x : Operand)
  (ho : o.op = .call { callee:=.builtin .append,args:=#[s,x],argTypes:=#[119,119] }) {base base2 : Nat} {v u : Value} {xs ys : List Step} (hs : a.eval s = v) (hown : SRow base w v xs)
  (hx : a.eval x = u) (hu : SRow base2 w u ys) (hlen : xs.length + ys.length ≤ 1000000) (hbase : base ≤ w.heap.size)
  (h : ∀ v' w',SRow base w' v' (xs ++ ys) → w.grownBy w' v.ownBlock → wpList Tryz.prog ops Q rest (a.put o.dst v') w') : wpList Tryz.prog ops Q (o :: rest) a w:=by
 by_cases hne : ys = []
 ·subst hne
  obtain ⟨ua,uc,rfl⟩:=hu.form
  have hinfo : ∃ i,Tryz.prog.info? 142 = some i:=by
   have : ((Tryz.prog.info? 142).isSome) = true:=by kernel_rfl
   exact Option.isSome_iff_exists.1 this
  obtain ⟨i,hi⟩:=hinfo
  have hfin:=h v w (by rw [List.append_nil];exact hown) ⟨rfl,rfl,rfl,Nat.le_refl _,fun _ _ _=>rfl⟩
  have hv : ∃ b n cap,v = .slice b n cap ∧ n ≤ cap:=by
   rcases hown.2 with ⟨rfl,h0⟩ | ⟨g,cap,cur,rfl,_,_,hc,_⟩
   ·exact ⟨none,0,0,rfl,Nat.le_refl _⟩
   ·exact ⟨_,_,cap,rfl,hc⟩
  obtain ⟨b,n,cap,rfl,hnc⟩:=hv
  refine wpList_plain hgd fun K hK'=>?_
  unfold Oper.wp
  simp [execOp,ho,resolve,invoke,builtin,hs,hx,run_append_zero w 119 o.type 142 i Tryz.underlying119 hi b n cap hnc ua uc,Result.andThen]
  exact hK' _ _ hfin
 ·exact wpList_appSteps hgd s x ho hs hown hx hu hne hlen hbase h
end Go.Bu
namespace Go.Bu
open Go Go.RowKit Go.Plan Go.Proofs
def allPairStep (a : Store × List Step) (n : Nat) : Store × List Step:=(allStep a.1 n,a.2 ++ flushSteps a.1 n)
def allPair (s : Store) : Store × List Step:=addrs6.foldl allPairStep (s,[])
theorem allPair_fst (s : Store) : (allPair s).1 = playAllS s:=by
 have : ∀ (xs : List Nat) (a : Store × List Step),(xs.foldl allPairStep a).1 = xs.foldl allStep a.1:=by
  intro xs
  induction xs with
  | nil=>exact fun _=>rfl
  | cons x xs ih=>intro a;rw [List.foldl_cons,List.foldl_cons,ih];rfl
 exact this addrs6 (s,[])
def PlayAllΦ (w : World) (s : Store) (e : Ending) (w' : World) : Prop:=∃ f d L v,e = .returned (.tuple #[.agg #[f,d],v]) ∧ Ext w w' ∧ OwnStore w' f d (playAllS s) L ∧ L.Nodup ∧ (∀ b ∈ L,w.heap.size ≤ b) ∧ SRow w.heap.size w' v (allPair s).2 ∧ (allPair s).2.length ≤ 42
set_option maxRecDepth 20000 in
set_option maxHeartbeats 4000000 in
theorem playAll_c (g e : Value) (s : Store) (w : World) (hB : StoreV w g e s) (hok : storeOkB s = true) :
  Calls Tryz.prog 118 #[.agg #[g,e]] w (PlayAllΦ w s):=by
 have hsh:=storeOk_shape hok
 have hSC:=fun (w' : World) (hx : Ext w w')=>storeCopy_c g e s w' (hB.ext hx) hsh.flash hsh.pages hsh.disk
 have HOK:=Lib.hid hok
 obtain ⟨a3,n3,rfl⟩:=hB.1.form
 obtain ⟨a4,n4,rfl⟩:=hB.2.form
 have HR0 : Hid ((addrs6.drop 0).foldl allPairStep (s,[]) = allPair s):=Lib.hid rfl
 have HF:=Lib.hid (allPair_fst s)
 clear hB hsh hok
 go_enter Tryz.func118,Tryz.ntmps118
 go_wp2_with fail
 refine (hSC _ (ext_alloc (ext_alloc (ext_refl _) _) _)).mono ?_;rintro e1 w1 ⟨f1,d1,L1,rfl,hx1,hO1,hn1,hb1⟩
 have X1:=ext_trans (ext_alloc (ext_alloc (ext_refl w) _) _) hx1
 have G2:=keep_ext hx1 (hg_new (b:=w.heap.size + 1) (by simp))
 have s1:=hx1.size
 simp at s1
 have hb1' : Hid (∀ b ∈ L1,w.heap.size + 2 ≤ b):=Lib.hid fun b hb=>by have:=hb1 b hb;simp at this;omega
 obtain ⟨q1,m1,c1,q2,m2,c2,rfl,rfl⟩:=hO1.forms
 have hlL:=hO1.lt
 have XA : Ext w1 (w1.alloc (.cells #[.slice q1 m1 c1,.slice q2 m2 c2] 42)):=ext_alloc (ext_refl _) _
 have GP : (w1.alloc (.cells #[.slice q1 m1 c1,.slice q2 m2 c2] 42)).heap[w1.heap.size]? = some (.cells #[.slice q1 m1 c1,.slice q2 m2 c2] 42 (0,0)):=hg_new rfl
 have X2:=ext_trans X1 XA
 replace G2:=keep_ext XA G2
 have HO:=Lib.hid (hO1.ext XA)
 have HN:=Lib.hid hn1
 have HLL : Hid (∀ b ∈ L1,w.heap.size + 2 ≤ b):=hb1'
 clear hSC hx1 hb1 XA hO1 hn1 hlL hb1' X1
 obtain ⟨P,hP⟩ : ∃ P,w1.heap.size = P:=⟨_,rfl⟩
 have hPw : w.heap.size + 2 ≤ P:=by omega
 go_wp2_with fail
 rw [hP] at GP
 clear hP s1
 go_loopw [5,6] (fun v y wr=>∃ (k : Nat) (t : Store) (acc : List Step) (f d : Value) (L : List Nat),k ≤ 6 ∧ y = .int .i64 ((k : Int) + 1) ∧ Ext w wr ∧ wr.heap[P]? = some (.cells #[f,d] 42 (0,0)) ∧ Hid (OwnStore wr f d t L) ∧ Hid L.Nodup ∧ Hid (∀ b ∈ L,w.heap.size + 2 ≤ b) ∧ Hid (storeOkB t = true) ∧
  Hid (SRow w.heap.size wr v acc) ∧ acc.length ≤ 7 * k ∧ Hid ((addrs6.drop k).foldl allPairStep (t,acc) = allPair s) ∧ wr.heap[w.heap.size + 1]? = some (.cells #[.slice none 0 0,.slice none 0 0] 42 (0,0))) (fun _ y _=>7 - (intOf y).toNat)
 case atStart=>exact ⟨0,s,[],_,_,L1,by omega,rfl,X2,GP,HO,HN,HLL,HOK,Lib.hid (SRow.nil _ _),by simp,HR0,G2⟩
 case round =>
  clear HO HN HOK HR0 G2 GP X2 HLL
  obtain ⟨k,t,acc,f,d,L,hk,rfl,hX,GP,HO,HN,HB,HST,HS,hal,HR,G2⟩:=hrel
  obtain ⟨b1,k1,j1,b2,k2,j2,rfl,rfl⟩:=HO.out.forms
  obtain ⟨va,vc,rfl⟩:=HS.out.form
  obtain ⟨gp,gpf⟩:=cellsK GP
  have lP:=heap_lt GP
  by_cases hlt : k < 6
  ·rw [foldl_drop _ _ _ _ (show k < addrs6.length from hlt),addrs6_get] at HR
   have hfl:=fun (w' : World) (hx : Ext wr w')=>implStepsFlush_c _ _ t ((k : Int) + 1) w' (HO.out.ext hx).v HST.out
   rw [addrStep_at (flushSteps t) k hlt] at hfl
   have hto:=fun (sv : Value) (w' : World) (hx : Ext wr w') (hS : Steps' (Old w') w' sv (flushSteps t k)) (hl : (flushSteps t k).length ≤ 7)=>implStepsTo_c _ _ t sv _ ((flushSteps t k).length : Nat) false w' (HO.out.ext hx).v HST.out hS (flush_V (flashOk_iff.1 (storeOk_flash HST.out)) hlt) (by omega) ⟨by omega,by omega⟩
   rw [toSteps_all] at hto
   have HST2:=Lib.hid (storeOk_flush HST.out hlt)
   rw [show allPairStep (t,acc) k = (allStep t k,acc ++ flushSteps t k) from rfl] at HR
   rw [show allStep t k = doAll t (flushSteps t k) from rfl] at HR HST2
   generalize doAll t (flushSteps t k) = t2 at *
   generalize flushSteps t k = fs at *
   have hk1 : (k : Int) + 1 ≤ 6:=by omega
   go_wp2_with fail
   refine (hfl _ (ext_refl _)).mono ?_;rintro e4 w4 ⟨sv,rfl,hx4,hS,hwl⟩
   obtain ⟨sa,sc,rfl⟩:=hS.form
   replace GP:=keep_ext hx4 GP
   have HSS:=Lib.hid hS
   clear gp gpf hfl hS
   obtain ⟨gp,gpf⟩:=cellsK GP
   have lP:=heap_lt GP
   go_wp2_with fail
   refine (hto _ _ hx4 HSS.out.steps hwl).mono ?_;rintro e5 w5 ⟨f5,d5,M,rfl,hx5,hOM,hnM,hbM⟩
   have X5:=ext_trans hx4 hx5
   obtain ⟨q3,m3,c3,q4,m4,c4,rfl,rfl⟩:=hOM.forms
   replace GP:=keep_ext hx5 GP
   have G2':=keep_ext X5 G2
   have lP5:=heap_lt GP
   have hX5:=ext_trans hX X5
   have HOM:=Lib.hid hOM
   have HNM:=Lib.hid hnM
   have s4:=hx4.size
   have sX:=hX.size
   have s5:=hX5.size
   have HBM : Hid (∀ b ∈ M,w4.heap.size ≤ b):=Lib.hid hbM
   have hneP : ¬ (w5.heap.size = P):=by omega
   have hvl : ∀ gq,(Value.slice va acc.length vc).ownBlock = some gq → gq < wr.heap.size:=fun gq hq=>(HS.out.lt gq hq).2
   have HVL:=Lib.hid hvl
   have HS5:=Lib.hid (HS.out.ext X5)
   have HSF:=Lib.hid (HSS.out.ext hx5)
   have hC : Chg [P] w5 (((w5.setCell ⟨P,0,none⟩ (.slice q3 m3 c3)).setCell ⟨P,1,none⟩ (.slice q4 m4 c4)).alloc (.cells #[.slice q3 m3 c3,.slice q4 m4 c4] 42)):=
    (((Chg.refl _ _).set (p:=⟨P,0,none⟩) (.inl (by simp)) _).set (p:=⟨P,1,none⟩) (.inl (by simp)) _).alloc' _
   have hne1:=own_ne HS5.out GP (by decide)
   have hne2:=own_ne HSF.out GP (by decide)
   have XW : Ext ((w5.setCell ⟨P,0,none⟩ (.slice q3 m3 c3)).setCell ⟨P,1,none⟩ (.slice q4 m4 c4)) (((w5.setCell ⟨P,0,none⟩ (.slice q3 m3 c3)).setCell ⟨P,1,none⟩ (.slice q4 m4 c4)).alloc (.cells #[.slice q3 m3 c3,.slice q4 m4 c4] 42)):=ext_alloc (ext_refl _) _
   have HS6:=Lib.hid (SRow.ext (ownsRow_setCell_other (ownsRow_setCell_other HS5.out hne1 (.slice q3 m3 c3)) hne1 (.slice q4 m4 c4)) XW)
   have HSF6:=Lib.hid (SRow.ext (ownsRow_setCell_other (ownsRow_setCell_other HSF.out hne2 (.slice q3 m3 c3)) hne2 (.slice q4 m4 c4)) XW)
   have GP6 : (((w5.setCell ⟨P,0,none⟩ (.slice q3 m3 c3)).setCell ⟨P,1,none⟩ (.slice q4 m4 c4)).alloc (.cells #[.slice q3 m3 c3,.slice q4 m4 c4] 42)).heap[P]? = some (.cells #[.slice q3 m3 c3,.slice q4 m4 c4] 42 (0,0)):=hg_alloc (hgo (hg_here (hg_here GP)) rfl)
   have HOM6:=Lib.hid (HOM.out.chg hC fun b hb hm=>by have:=HBM.out b hb;simp at hm;omega)
   have G26:=hC.keep G2' (by simp;omega)
   have X6:=hC.ext hX5 (by simp;omega)
   have sC:=hC.size
   have HX6:=Lib.hid X6
   have HG26:=Lib.hid G26
   have HGP6:=Lib.hid GP6
   clear gp gpf hto HSS hx5 hOM hnM hbM HS HO hvl hx4 X5 hne1 hne2 XW HS5 HSF HOM hC GP6 G26 X6 G2'
   obtain ⟨gp,gpf⟩:=cellsK GP
   go_wp2_with (refine wpList_appStepsA rfl _ _ rfl rfl HS6.out rfl HSF6.out (by omega) (by omega) (fun v' w' hS' hg=>?_))
   have hOM7 : OwnStore w' (.slice q3 m3 c3) (.slice q4 m4 c4) t2 M:=HOM6.out.keep fun b hb=>hg.block b (HOM6.out.lt b hb) fun e=>by
    have:=HVL.out b e.symm
    have:=HBM.out b hb
    omega
   refine ⟨⟨k + 1,t2,acc ++ fs,_,_,M,by omega,by go_num,ext_grown HX6.out HS6.out hg,keep_grown HGP6.out (by decide) HS6.out hg,Lib.hid hOM7,HNM,Lib.hid fun b hb=>by have:=HBM.out b hb;omega,HST2,Lib.hid hS',by simp;omega,HR,keep_grown HG26.out (by decide) HS6.out hg⟩,by simp [intOf];omega⟩
  ·obtain rfl : k = 6:=by omega
   have hr:=HR.out
   rw [List.drop_eq_nil_of_le (by simp [addrs6])] at hr
   have hr : (t,acc) = allPair s:=hr
   obtain ⟨g2,gf2⟩:=cellsK G2
   have l2:=heap_lt G2
   have HT : Hid (t = playAllS s ∧ acc = (allPair s).2):=Lib.hid ⟨by rw [← HF.out,← hr],by rw [← hr]⟩
   go_wp2_with fail
   refine bodyPost_ret (v:=.tuple #[.agg #[.slice b1 k1 j1,.slice b2 k2 j2],.slice va acc.length vc]) (by simp [results,Tryz.results118,go_sem,g2,gf2]) rfl ⟨_,_,L,_,rfl,?_,?_,HN.out,fun b hb=>by have:=HB.out b hb;omega,?_,?_⟩
   ·((repeat (first | with_reducible (refine ext_set2 ?_ ?_);focus (first | exact Nat.le_refl _ | (dsimp only;omega) | (simp;omega)) | with_reducible refine ext_alloc2 ?_));with_reducible exact hX)
   ·rw [← HT.out.1]
    refine HO.out.keep fun b hb=>?_
    have:=HB.out b hb
    iterate 2 rw [setCell_other (by omega)]
   ·have hne:=own_ne HS.out G2 (by decide)
    rw [← HT.out.2]
    exact ownsRow_setCell_other (ownsRow_setCell_other HS.out hne _) hne _
   ·rw [← HT.out.2];omega
set_option maxRecDepth 20000 in
set_option maxHeartbeats 4000000 in
theorem implStepsTo_neg (fv dv : Value) (s : Store) (sv : Value) (xs : List Step) (cut : Int) (torn : Bool) (w : World) (h : StoreV w fv dv s) (hx : Steps' (Old w) w sv xs) (hcut : cut < 0) :
  Calls Tryz.prog 120 #[.agg #[fv,dv],sv,.int .i64 cut,.bool torn] w (Ret w (.tuple #[.agg #[.slice none 0 0,.slice none 0 0],.bool false])):=by
 obtain ⟨a1,n1,rfl⟩:=h.1.form
 obtain ⟨a2,n2,rfl⟩:=h.2.form
 obtain ⟨sa,sc,rfl⟩:=hx.form
 clear h hx
 have G8:=hg_new (w:=w.alloc (.cells #[.slice a1 s.flash.length n1,.slice a2 s.disk.length n2] 42)) (b:=w.heap.size + 1) (x:=.cells #[.slice none 0 0,.slice none 0 0] 42) (by simp)
 obtain ⟨g8,gf8⟩:=cellsK G8
 go_enter Tryz.func120,Tryz.ntmps120
 go_wp2_with fail
 refine bodyPost_ret (v:=.tuple #[.agg #[.slice none 0 0,.slice none 0 0],.bool false]) (by simp [results,Tryz.results120,go_sem,g8,gf8]) rfl ⟨rfl,?_⟩
 exact ext_alloc (ext_alloc (ext_refl _) _) _
def begunN (n : Nat) (c : Int) (torn : Bool) : Int:=if torn = true ∧ min c n < n then min c n + 1 else min c n
def begunS (s : Store) (e : Event) : List Step:=if e.kind = 4 then (allPair s).2 else if e.c < 0 then [] else (playSteps s e).take (begunN (playSteps s e).length e.c e.torn).toNat
def BegunΦ (w : World) (s : Store) (e : Event) (en : Ending) (w' : World) : Prop:=∃ f d L v,en = .returned (.tuple #[.agg #[f,d],v]) ∧ Ext w w' ∧ OwnStore w' f d (playDoS s e) L ∧ L.Nodup ∧ (∀ b ∈ L,w.heap.size ≤ b) ∧ Steps' (Old w') w' v (begunS s e) ∧ (begunS s e).length ≤ 42
theorem srow_chg {L : List Nat} {w w' : World} {base : Nat} {e : TypeId} {size n : Nat} {v : Value} {xs : List Value} (h : w.ownsRow base e size v n xs) (hx : Chg L w w') (hL : ∀ b ∈ L,b < base) : w'.ownsRow base e size v n xs:=by
 obtain ⟨h1,h2⟩:=h
 refine ⟨h1,h2.imp id fun ⟨g,cap,cur,hv,hb,hh,hr⟩=>⟨g,cap,cur,hv,hb,hx.keep hh fun hm=>by have:=hL g hm;omega,hr⟩⟩
theorem Sl.take' {w : World} {a : Option Addr} {len cap : Nat} {xs : List Step} (h : Steps' (Old w) w (.slice a len cap) xs) (n : Nat) (hn : n ≤ xs.length) : Steps' (Old w) w (.slice a n cap) (xs.take n):=by
 obtain ⟨a',c',he,hc⟩:=h
 injection he with h1 h2 h3
 subst h1;subst h3
 refine ⟨a,cap,by rw [List.length_take,Nat.min_eq_left hn],fun i x hi=>hc i x ?_⟩
 rw [List.getElem?_take] at hi
 split at hi
 ·exact hi
 ·cases hi
set_option maxRecDepth 20000 in
set_option maxHeartbeats 4000000 in
theorem playBegun_c (g e : Value) (s : Store) (ev : Event) (w : World) (hB : StoreV w g e s) (hok : storeOkB s = true) (hc : -9223372036854775808 ≤ ev.c ∧ ev.c ≤ 9223372036854775807) :
  Calls Tryz.prog 99 #[.agg #[g,e],eventA ev] w (BegunΦ w s ev):=by
 have hsh:=storeOk_shape hok
 have hSC:=fun (w' : World) (hx : Ext w w')=>storeCopy_c g e s w' (hB.ext hx) hsh.flash hsh.pages hsh.disk
 have hPA:=fun (w' : World) (hx : Ext w w')=>playAll_c g e s w' (hB.ext hx) hok
 have hPS:=fun (w' : World) (hx : Ext w w')=>implPlaySteps_c g e s ev w' (hB.ext hx) hok
 have hTO:=fun (sv : Value) (w' : World) (hx : Ext w w') (hS : Steps' (Old w') w' sv (playSteps s ev)) (hl : (playSteps s ev).length ≤ 7) (h0 : 0 ≤ ev.c)=>implStepsTo_c g e s sv _ ev.c ev.torn w' (hB.ext hx) hok hS (play_V (flashOk_iff.1 (storeOk_flash hok)) ev) (by omega) ⟨h0,hc.2⟩
 have hTN:=fun (sv : Value) (w' : World) (hx : Ext w w') (hS : Steps' (Old w') w' sv (playSteps s ev)) (h0 : ev.c < 0)=>implStepsTo_neg g e s sv _ ev.c ev.torn w' (hB.ext hx) hS h0
 have HD : Hid (playDoS s ev = if ev.kind = 4 then playAllS s else if ev.c < 0 then s else toSteps s (playSteps s ev) ev.c ev.torn):=Lib.hid rfl
 have HBG : Hid (begunS s ev = if ev.kind = 4 then (allPair s).2 else if ev.c < 0 then [] else (playSteps s ev).take (begunN (playSteps s ev).length ev.c ev.torn).toNat):=Lib.hid rfl
 unfold BegunΦ
 obtain ⟨a3,n3,rfl⟩:=hB.1.form
 obtain ⟨a4,n4,rfl⟩:=hB.2.form
 generalize playDoS s ev = DO at *
 generalize begunS s ev = BG at *
 generalize playSteps s ev = PS at *
 obtain ⟨k,ea,eb,ec,et⟩:=ev
 dsimp only [eventA] at *
 clear hB hok hsh
 by_cases h4 : k = 4
 ·subst h4
  have hd : DO = playAllS s:=by rw [HD.out,if_pos rfl]
  have hb : BG = (allPair s).2:=by rw [HBG.out,if_pos rfl]
  subst hd;subst hb
  clear hSC hPS hTO hTN HD HBG
  go_enter Tryz.func99,Tryz.ntmps99
  go_wp2_with fail
  refine (hPA _ (ext_alloc (ext_alloc (ext_alloc (ext_refl _) _) _) _)).mono ?_;rintro e1 w1 ⟨f,d,L,v,rfl,hx1,hO,hn,hb,hS,hl⟩
  have X1:=ext_trans (ext_alloc (ext_alloc (ext_alloc (ext_refl w) _) _) _) hx1
  have G4:=keep_ext hx1 (hg_new (b:=w.heap.size + 1 + 1) (by simp))
  obtain ⟨b1,k1,j1,b2,k2,j2,rfl,rfl⟩:=hO.forms
  obtain ⟨va,vc,rfl⟩:=hS.form
  have HO:=Lib.hid hO
  have HN:=Lib.hid hn
  have HB : Hid (∀ b ∈ L,w.heap.size + 3 ≤ b):=Lib.hid fun b hm=>by have:=hb b hm;simp at this;omega
  have HS:=Lib.hid hS
  obtain ⟨g4,gf4⟩:=cellsK G4
  clear hPA hx1 hO hn hb hS
  have s1:=X1.size
  go_wp2_with fail
  refine bodyPost_ret (v:=.tuple #[.agg #[.slice b1 k1 j1,.slice b2 k2 j2],.slice va (allPair s).2.length vc]) (by simp [results,Tryz.results99,go_sem,g4,gf4]) rfl ⟨_,_,L,_,rfl,?_,?_,HN.out,fun b hb=>by have:=HB.out b hb;omega,?_,?_⟩
  ·((repeat (first | with_reducible (refine ext_set2 ?_ ?_);focus (first | exact Nat.le_refl _ | (dsimp only;omega) | (simp;omega)) | with_reducible refine ext_alloc2 ?_));with_reducible exact X1)
  ·refine HO.out.keep fun b hb=>?_
   have:=HB.out b hb
   iterate 2 rw [setCell_other (by omega)]
  ·have hne:=own_ne HS.out G4 (by decide)
   refine SRow.steps (base:=w.heap.size + 3) ?_
   exact ownsRow_setCell_other (ownsRow_setCell_other (HS.out.base (by simp)) hne _) hne _
  ·exact hl
 ·have hd : DO = if ec < 0 then s else toSteps s PS ec et:=by rw [HD.out,if_neg h4]
  have hb : BG = if ec < 0 then [] else PS.take (begunN PS.length ec et).toNat:=by rw [HBG.out,if_neg h4]
  clear hPA HD HBG
  go_enter Tryz.func99,Tryz.ntmps99
  go_wp2_with fail
  refine (hPS _ (ext_alloc (ext_alloc (ext_alloc (ext_refl _) _) _) _)).mono ?_;rintro e1 w1 ⟨sv,rfl,hx1,hS,hl⟩
  have X1:=ext_trans (ext_alloc (ext_alloc (ext_alloc (ext_refl w) _) _) _) hx1
  have G2:=keep_ext hx1 (hg_alloc (hg_alloc (hg_new (w:=w) (b:=w.heap.size) (x:=.cells #[.slice a3 s.flash.length n3,.slice a4 s.disk.length n4] 42) rfl)))
  have G3:=keep_ext hx1 (hg_alloc (hg_new (b:=w.heap.size + 1) (by simp)))
  have G4:=keep_ext hx1 (hg_new (b:=w.heap.size + 1 + 1) (by simp))
  obtain ⟨va,vc,rfl⟩:=hS.form
  have hcap : PS.length ≤ vc:=by
   rcases hS.2 with ⟨h1,h2⟩ | ⟨g,cap,cur,h1,h2,h3,h4,h5,h6⟩
   ·omega
   ·injection h1 with e1 e2 e3
    subst e3
    omega
  have HS:=Lib.hid hS.steps
  have HR : Hid (SRow (w.heap.size + 3) w1 (.slice va PS.length vc) PS):=Lib.hid (hS.base (by simp))
  obtain ⟨g2,gf2⟩:=cellsK G2
  obtain ⟨g3,gf3⟩:=cellsK G3
  obtain ⟨g4,gf4⟩:=cellsK G4
  clear hPS hS
  have s1:=hx1.size
  simp at s1
  clear hx1
  by_cases hneg : ec < 0
  ·rw [if_pos hneg] at hd hb
   subst hd;subst hb
   clear hTO
   go_wp2_with fail
   refine (hTN _ _ X1 HS.out hneg).mono ?_;rintro e2 w2 ⟨rfl,hx2⟩
   have X2:=ext_trans X1 hx2
   have s2:=hx2.size
   have XA : Ext w2 (w2.alloc (.cells #[.slice none 0 0,.slice none 0 0] 42)):=ext_alloc (ext_refl _) _
   have X3:=ext_trans X2 XA
   replace G2:=keep_ext XA (keep_ext hx2 G2)
   replace G4:=keep_ext XA (keep_ext hx2 G4)
   clear g2 gf2 g3 gf3 g4 gf4 hTN hx2 XA
   obtain ⟨g2,gf2⟩:=cellsK G2
   obtain ⟨g4,gf4⟩:=cellsK G4
   go_wp2_with fail
   refine (hSC _ X3).mono ?_;rintro e4 w4 ⟨f,d,L,rfl,hx4,hO,hn,hbb⟩
   have X4:=ext_trans X3 hx4
   replace G4:=keep_ext hx4 G4
   obtain ⟨b1,k1,j1,b2,k2,j2,rfl,rfl⟩:=hO.forms
   have s3:=X3.size
   have HN:=Lib.hid hn
   have HO:=Lib.hid hO
   have HB : Hid (∀ b ∈ L,w.heap.size + 3 ≤ b):=Lib.hid fun b hm=>by have:=hbb b hm;simp at this;have:=X2.size;omega
   clear g2 gf2 g4 gf4 hSC hx4 G2 hn hO hbb
   obtain ⟨g4,gf4⟩:=cellsK G4
   have s4:=X4.size
   go_wp2_with fail
   refine bodyPost_ret (v:=.tuple #[.agg #[.slice b1 k1 j1,.slice b2 k2 j2],.slice none 0 0]) (by simp [results,Tryz.results99,go_sem,g4,gf4]) rfl ⟨_,_,L,_,rfl,?_,?_,HN.out,fun b hb=>by have:=HB.out b hb;omega,⟨none,0,rfl,fun i x hi=>by cases hi⟩,by simp⟩
   ·((repeat (first | with_reducible (refine ext_set2 ?_ ?_);focus (first | exact Nat.le_refl _ | (dsimp only;omega) | (simp;omega)) | with_reducible refine ext_alloc2 ?_));with_reducible exact X4)
   ·refine HO.out.keep fun b hb=>?_
    have:=HB.out b hb
    iterate 2 rw [setCell_other (by omega)]
  ·rw [if_neg hneg] at hd hb
   subst hd
   clear hTN hSC
   go_wp2_with fail
   refine (hTO _ _ X1 HS.out hl (by omega)).mono ?_;rintro e2 w2 ⟨f,d,L,rfl,hx2,hO,hn,hbb⟩
   have X2:=ext_trans X1 hx2
   have s2:=hx2.size
   replace G3:=keep_ext hx2 G3
   replace G4:=keep_ext hx2 G4
   obtain ⟨b1,k1,j1,b2,k2,j2,rfl,rfl⟩:=hO.forms
   have HN:=Lib.hid hn
   have HB : Hid (∀ b ∈ L,w.heap.size + 3 ≤ b):=Lib.hid fun b hm=>by have:=hbb b hm;omega
   have hlO:=hO.lt
   have XA : Ext w2 (w2.alloc (.cells #[.slice b1 k1 j1,.slice b2 k2 j2] 42)):=ext_alloc (ext_refl _) _
   have G7 : (w2.alloc (.cells #[.slice b1 k1 j1,.slice b2 k2 j2] 42)).heap[w2.heap.size]? = some (.cells #[.slice b1 k1 j1,.slice b2 k2 j2] 42 (0,0)):=hg_new rfl
   have HO:=Lib.hid (hO.ext XA)
   have X3:=ext_trans X2 XA
   have HS3:=Lib.hid (HR.out.ext (ext_trans hx2 XA))
   replace G3:=keep_ext XA G3
   replace G4:=keep_ext XA G4
   clear g2 gf2 g3 gf3 g4 gf4 hTO hx2 G2 hO hn hbb XA hlO
   obtain ⟨g3,gf3⟩:=cellsK G3
   obtain ⟨g4,gf4⟩:=cellsK G4
   have s3:=X3.size
   have H7:=Lib.hid G7
   have lP:=heap_lt G7
   obtain ⟨P,hP⟩ : ∃ P,w2.heap.size = P:=⟨_,rfl⟩
   have hPw : w.heap.size + 3 ≤ P:=by omega
   generalize hW : w2.alloc (.cells #[.slice b1 k1 j1,.slice b2 k2 j2] 42) = w3 at *
   rw [hP] at G7 H7 lP
   have hc1 : ∀ (w' : World) (Z : Int) (M : Nat),Z = M → M ≤ PS.length → (Instr.slice 119 (.slice va PS.length vc) none (some (.int .i64 Z)) none).run Tryz.prog w' = .ok (.slice va M vc) w':=fun w' Z M hZ hM=>by
    subst hZ
    rw [run_slice_h w' 119 va PS.length vc (by kernel_rfl) .i64 M (by omega) (by omega)]
    rw [show (sizeOf (Tryz.prog.elem 119)).run Tryz.prog w' = .ok 8 w' by kernel_rfl]
    simp only [Result.andThen,sliced,Int.toNat_natCast,Nat.sub_zero]
    first | done | (split <;> simp [Addr.add])
   have HC1:=Lib.hid hc1
   clear hc1
   by_cases c1 : (PS.length : Int) < ec
   ·have hnl : ¬ ((PS.length : Int) < PS.length):=by omega
    cases et
    all_goals
     have hc:=fun w'=>HC1.out w' (PS.length : Int) PS.length (by omega) (by omega)
     have hb2 : Hid (BG = PS.take PS.length):=Lib.hid (by rw [hb];congr 1;unfold begunN;rw [if_neg (by omega)];omega)
     clear hb
     go_wp2_with fail
     try rw [hP]
     try rw [hW]
     clear g3 gf3
     refine wp_region_st [4] G4 [0,1,2,3,4,5] [] [] (by kernel_rfl) (by kernel_rfl) ?late ?_
     case late=>exact fun f hf=>absurd hf List.not_mem_nil
     refine Rob.y (v:=?_) rfl rfl (fun w1 hx hH=>?_) ?_;rotate_left
     ·(obtain ⟨q7,qf7⟩:=cellsK (hx.1.keep G7 (by simp;omega)));go_simp;first | done | rfl
     simp only [Act.put,slA,slB,slC]
     iterate 2
      refine Rob.y (v:=?_) rfl rfl (fun w1 hx hH=>?_) ?_;rotate_left
      ·go_simp;first | done | rfl | exact (Bool.not_not _).symm
      simp only [Act.put,slA,slB,slC]
     refine Rob.y (v:=?_) rfl rfl (fun w1 hx hH=>?_) ?_;rotate_left
     ·(obtain ⟨q7,qf7⟩:=cellsK (hx.1.keep G7 (by simp;omega)));go_simp;first | done | rfl
     simp only [Act.put,slA,slB,slC]
     refine Rob.st rfl rfl rfl rfl rfl rfl (by kernel_rfl) (by kernel_rfl) rfl (by omega) (fun lo4 hi4 hlo4 hhi4=>?_)
     simp only [Act.put,slA,slB,slC]
     refine Rob.y (v:=?_) rfl rfl (fun w1 hx hH=>?_) ?_;rotate_left
     ·go_simp;first | done | rfl | exact (Bool.not_not _).symm
     simp only [Act.put,slA,slB,slC]
     refine fin_nil (fun w5 hx5 _=>?_)
     obtain ⟨⟨hC,-⟩,G⟩:=hx5
     have X5:=hC.ext X3 (by simp;omega)
     replace HO:=Lib.hid (HO.out.chg hC (fun b hb hm=>by have:=HB.out b hb;simp at hm;omega))
     have HS5:=Lib.hid (SRow.steps (srow_chg HS3.out hC (by simp)))
     clear g4 gf4
     obtain ⟨g4,gf4⟩:=cellsK G
     go_wp2_with fail
     refine bodyPost_ret (v:=.tuple #[.agg #[.slice b1 k1 j1,.slice b2 k2 j2],.slice va PS.length vc]) (by simp [results,Tryz.results99,go_sem,g4,gf4]) rfl ⟨_,_,L,_,rfl,X5,HO.out,HN.out,fun b hb=>by have:=HB.out b hb;omega,?_,?_⟩
     ·rw [hb2.out]
      exact Sl.take' HS5.out _ (by omega)
     ·rw [hb2.out,List.length_take]
      omega
   by_cases c2 : (PS.length : Int) = ec
   ·subst c2
    clear c1
    cases et
    all_goals
     have hc:=fun w'=>HC1.out w' (PS.length : Int) PS.length (by omega) (by omega)
     have hb2 : Hid (BG = PS.take PS.length):=Lib.hid (by rw [hb];congr 1;unfold begunN;rw [if_neg (by omega)];omega)
     clear hb
     go_wp2_with fail
     try rw [hP]
     try rw [hW]
     clear g3 gf3
     refine wp_region_st [4] G4 [0,1,2,3,4,5] [] [] (by kernel_rfl) (by kernel_rfl) ?late ?_
     case late=>exact fun f hf=>absurd hf List.not_mem_nil
     refine Rob.y (v:=?_) rfl rfl (fun w1 hx hH=>?_) ?_;rotate_left
     ·(obtain ⟨q7,qf7⟩:=cellsK (hx.1.keep G7 (by simp;omega)));go_simp;first | done | rfl
     simp only [Act.put,slA,slB,slC]
     iterate 2
      refine Rob.y (v:=?_) rfl rfl (fun w1 hx hH=>?_) ?_;rotate_left
      ·go_simp;first | done | rfl | exact (Bool.not_not _).symm
      simp only [Act.put,slA,slB,slC]
     refine Rob.y (v:=?_) rfl rfl (fun w1 hx hH=>?_) ?_;rotate_left
     ·(obtain ⟨q7,qf7⟩:=cellsK (hx.1.keep G7 (by simp;omega)));go_simp;first | done | rfl
     simp only [Act.put,slA,slB,slC]
     refine Rob.st rfl rfl rfl rfl rfl rfl (by kernel_rfl) (by kernel_rfl) rfl (by omega) (fun lo4 hi4 hlo4 hhi4=>?_)
     simp only [Act.put,slA,slB,slC]
     refine Rob.y (v:=?_) rfl rfl (fun w1 hx hH=>?_) ?_;rotate_left
     ·go_simp;first | done | rfl | exact (Bool.not_not _).symm
     simp only [Act.put,slA,slB,slC]
     refine fin_nil (fun w5 hx5 _=>?_)
     obtain ⟨⟨hC,-⟩,G⟩:=hx5
     have X5:=hC.ext X3 (by simp;omega)
     replace HO:=Lib.hid (HO.out.chg hC (fun b hb hm=>by have:=HB.out b hb;simp at hm;omega))
     have HS5:=Lib.hid (SRow.steps (srow_chg HS3.out hC (by simp)))
     clear g4 gf4
     obtain ⟨g4,gf4⟩:=cellsK G
     go_wp2_with fail
     refine bodyPost_ret (v:=.tuple #[.agg #[.slice b1 k1 j1,.slice b2 k2 j2],.slice va PS.length vc]) (by simp [results,Tryz.results99,go_sem,g4,gf4]) rfl ⟨_,_,L,_,rfl,X5,HO.out,HN.out,fun b hb=>by have:=HB.out b hb;omega,?_,?_⟩
     ·rw [hb2.out]
      exact Sl.take' HS5.out _ (by omega)
     ·rw [hb2.out,List.length_take]
      omega
   obtain ⟨m,rfl⟩ : ∃ m : Nat,ec = m:=⟨ec.toNat,by omega⟩
   by_cases ct : et = true
   ·subst ct
    have hc:=fun w'=>HC1.out w' ((m : Int) + 1) (m + 1) (by omega) (by omega)
    have hb2 : Hid (BG = PS.take (m + 1)):=Lib.hid (by rw [hb];congr 1;unfold begunN;rw [if_pos ⟨rfl,by omega⟩];omega)
    clear hb
    go_wp2_with fail
    try rw [hP]
    try rw [hW]
    clear g3 gf3
    refine wp_region_st [4] G4 [0,1,2,3,4,5] [] [] (by kernel_rfl) (by kernel_rfl) ?late ?_
    case late=>exact fun f hf=>absurd hf List.not_mem_nil
    refine Rob.y (v:=?_) rfl rfl (fun w1 hx hH=>?_) ?_;rotate_left
    ·(obtain ⟨q7,qf7⟩:=cellsK (hx.1.keep G7 (by simp;omega)));go_simp;first | done | rfl
    simp only [Act.put,slA,slB,slC]
    iterate 2
     refine Rob.y (v:=?_) rfl rfl (fun w1 hx hH=>?_) ?_;rotate_left
     ·go_simp;first | done | rfl | exact (Bool.not_not _).symm
     simp only [Act.put,slA,slB,slC]
    refine Rob.y (v:=?_) rfl rfl (fun w1 hx hH=>?_) ?_;rotate_left
    ·(obtain ⟨q7,qf7⟩:=cellsK (hx.1.keep G7 (by simp;omega)));go_simp;first | done | rfl
    simp only [Act.put,slA,slB,slC]
    refine Rob.st rfl rfl rfl rfl rfl rfl (by kernel_rfl) (by kernel_rfl) rfl (by omega) (fun lo4 hi4 hlo4 hhi4=>?_)
    simp only [Act.put,slA,slB,slC]
    refine Rob.y (v:=?_) rfl rfl (fun w1 hx hH=>?_) ?_;rotate_left
    ·go_simp;first | done | rfl | exact (Bool.not_not _).symm
    simp only [Act.put,slA,slB,slC]
    refine fin_nil (fun w5 hx5 _=>?_)
    obtain ⟨⟨hC,-⟩,G⟩:=hx5
    have X5:=hC.ext X3 (by simp;omega)
    replace HO:=Lib.hid (HO.out.chg hC (fun b hb hm=>by have:=HB.out b hb;simp at hm;omega))
    have HS5:=Lib.hid (SRow.steps (srow_chg HS3.out hC (by simp)))
    clear g4 gf4
    obtain ⟨g4,gf4⟩:=cellsK G
    go_wp2_with fail
    refine bodyPost_ret (v:=.tuple #[.agg #[.slice b1 k1 j1,.slice b2 k2 j2],.slice va (m + 1) vc]) (by simp [results,Tryz.results99,go_sem,g4,gf4]) rfl ⟨_,_,L,_,rfl,X5,HO.out,HN.out,fun b hb=>by have:=HB.out b hb;omega,?_,?_⟩
    ·rw [hb2.out]
     exact Sl.take' HS5.out _ (by omega)
    ·rw [hb2.out,List.length_take]
     omega
   ·obtain rfl : et = false:=by simpa using ct
    clear ct
    have hc:=fun w'=>HC1.out w' (m : Int) m (by omega) (by omega)
    have hb2 : Hid (BG = PS.take m):=Lib.hid (by rw [hb];congr 1;unfold begunN;rw [if_neg (by simp)];omega)
    clear hb
    go_wp2_with fail
    try rw [hP]
    try rw [hW]
    clear g3 gf3
    refine wp_region_st [4] G4 [0,1,2,3,4,5] [] [] (by kernel_rfl) (by kernel_rfl) ?late ?_
    case late=>exact fun f hf=>absurd hf List.not_mem_nil
    refine Rob.y (v:=?_) rfl rfl (fun w1 hx hH=>?_) ?_;rotate_left
    ·(obtain ⟨q7,qf7⟩:=cellsK (hx.1.keep G7 (by simp;omega)));go_simp;first | done | rfl
    simp only [Act.put,slA,slB,slC]
    iterate 2
     refine Rob.y (v:=?_) rfl rfl (fun w1 hx hH=>?_) ?_;rotate_left
     ·go_simp;first | done | rfl | exact (Bool.not_not _).symm
     simp only [Act.put,slA,slB,slC]
    refine Rob.y (v:=?_) rfl rfl (fun w1 hx hH=>?_) ?_;rotate_left
    ·(obtain ⟨q7,qf7⟩:=cellsK (hx.1.keep G7 (by simp;omega)));go_simp;first | done | rfl
    simp only [Act.put,slA,slB,slC]
    refine Rob.st rfl rfl rfl rfl rfl rfl (by kernel_rfl) (by kernel_rfl) rfl (by omega) (fun lo4 hi4 hlo4 hhi4=>?_)
    simp only [Act.put,slA,slB,slC]
    refine Rob.y (v:=?_) rfl rfl (fun w1 hx hH=>?_) ?_;rotate_left
    ·go_simp;first | done | rfl | exact (Bool.not_not _).symm
    simp only [Act.put,slA,slB,slC]
    refine fin_nil (fun w5 hx5 _=>?_)
    obtain ⟨⟨hC,-⟩,G⟩:=hx5
    have X5:=hC.ext X3 (by simp;omega)
    replace HO:=Lib.hid (HO.out.chg hC (fun b hb hm=>by have:=HB.out b hb;simp at hm;omega))
    have HS5:=Lib.hid (SRow.steps (srow_chg HS3.out hC (by simp)))
    clear g4 gf4
    obtain ⟨g4,gf4⟩:=cellsK G
    go_wp2_with fail
    refine bodyPost_ret (v:=.tuple #[.agg #[.slice b1 k1 j1,.slice b2 k2 j2],.slice va m vc]) (by simp [results,Tryz.results99,go_sem,g4,gf4]) rfl ⟨_,_,L,_,rfl,X5,HO.out,HN.out,fun b hb=>by have:=HB.out b hb;omega,?_,?_⟩
    ·rw [hb2.out]
     exact Sl.take' HS5.out _ (by omega)
    ·rw [hb2.out,List.length_take]
     omega
end Go.Bu
namespace Go.Bu
open Go Go.RowKit Go.Plan Go.Proofs
def costStep (c : Cost) (s : Step) : Cost:=
 if s.kind = 3 then ⟨c.writes + 1,c.wipes,c.disks⟩ else if s.kind = 2 then ⟨c.writes,c.wipes + 1,c.disks⟩ else if s.kind = 1 then ⟨c.writes,c.wipes,c.disks + 1⟩ else c
def costOf (xs : List Step) : Cost:=xs.foldl costStep cost0
end Go.Bu
namespace Go.Bu
open Go Go.RowKit Go.Plan Go.Proofs
theorem costFold_add : ∀ (xs : List Step) (c : Cost),xs.foldl costStep c = costSum c (xs.foldl costStep cost0)
 | [],c=>by simp [costSum,cost0]
 | x :: xs,c=>by
  rw [List.foldl_cons,List.foldl_cons,costFold_add xs (costStep c x),costFold_add xs (costStep cost0 x)]
  unfold costStep costSum cost0
  split
  ·simp;omega
  ·split
   ·simp;omega
   ·split <;> simp
    omega
theorem costOf_app (a b : List Step) : costOf (a ++ b) = costSum (costOf a) (costOf b):=by
 unfold costOf;rw [List.foldl_append,costFold_add b]
end Go.Bu
namespace Go.Bu
open Go Go.RowKit Go.Plan Go.Proofs
def evCost (s : Store) (e : Event) : Cost:=costOf (begunS s e)
theorem setsS {w : World} {B : Nat} {f d : Value} {T : TypeId} (h : w.heap[B]? = some (.cells #[f,d] T (0,0))) (f' d' : Value) : ∃ w',(w.setCell ⟨B,0,none⟩ f').setCell ⟨B,1,none⟩ d' = w' ∧ w'.heap[B]? = some (.cells #[f',d'] T (0,0)) ∧ Chg [B] w w':=
 ⟨_,rfl,hgo (hg_here (hg_here h)) rfl,((Chg.refl _ _).set (p:=⟨B,0,none⟩) (.inl (by simp)) _).set (p:=⟨B,1,none⟩) (.inl (by simp)) _⟩
end Go.Bu
namespace Go.Bu
open Go Go.RowKit Go.Plan Go.Proofs
theorem begun_take (s : Store) (e : Event) (h4 : e.kind ≠ 4) : begunS s e = (playSteps s e).take (if e.c < 0 then 0 else (begunN (playSteps s e).length e.c e.torn).toNat):=by
 unfold begunS
 rw [if_neg h4]
 split <;> simp
end Go.Bu
namespace Go.Bu
open Go Go.RowKit Go.Plan Go.Proofs
def Rk (w : World) (R K : Nat) : Prop:=∃ bv xs p,Rd w R bv xs p ∧ p + K ≤ 1000000
theorem Rk.lt {w : World} {R K : Nat} (h : Rk w R K) : R < w.heap.size:=by obtain ⟨bv,xs,p,h,_⟩:=h;exact h.lt
theorem Rk.ext {w w' : World} {R K : Nat} (h : Rk w R K) (hx : Ext w w') : Rk w' R K:=by obtain ⟨bv,xs,p,h,hp⟩:=h;exact ⟨bv,xs,p,h.ext hx,hp⟩
theorem Rk.less {w : World} {R K K' : Nat} (h : Rk w R K) (hk : K' ≤ K) : Rk w R K':=by obtain ⟨bv,xs,p,h,hp⟩:=h;exact ⟨bv,xs,p,h,by omega⟩
theorem Rk.alloc2 {w : World} {R K : Nat} {o : Obj} (h : Rk w R K) : Rk (w.alloc o) R K:=h.ext (ext_alloc (ext_refl _) _)
def Pick (R K : Nat) (m : Int) (w : World) (e : Ending) (w' : World) : Prop:=∃ r : Int,e = .returned (.int .i64 r) ∧ 0 ≤ r ∧ (0 < m → r < m) ∧ Chg [R] w w' ∧ Rk w' R K
theorem pick_k (R : Nat) {K : Nat} (m : Int) (w : World) (h : Rk w R (K + 1)) (hm : m ≤ 1000:=by omega) : Calls Tryz.prog 19 #[.pointer (some ⟨R,0,none⟩),.int .i64 m] w (Pick R K m w):=by
 obtain ⟨bv,xs,p,h,hp⟩:=h
 exact (pick_c R bv xs p m w h (by omega) (by omega)).mono fun e w' ⟨r,he,h0,h1,hc,hr⟩=>⟨r,he,h0,h1,hc,bv,xs,p + 1,hr,by omega⟩
end Go.Bu
namespace Go.Bu
open Go Go.RowKit Go.Plan Go.Proofs
def nilStore : Value:=.agg #[.slice none 0 0,.slice none 0 0]
def store0 : Store:=⟨[],[]⟩
def StoreL (w : World) (v : Value) (s : Store) (M : List Nat) : Prop:=(v = nilStore ∧ s = store0 ∧ M = []) ∨ ∃ f d,v = .agg #[f,d] ∧ OwnStore w f d s M ∧ M.Nodup ∧ Shape4 s
section
variable {w w' : World} {v : Value} {s : Store} {M N : List Nat} {base : Nat}
end
def doV (s : Store) (e : Event) : Store:=if storeOkB s = true then playDoS s e else store0
def StoreΦ (w : World) (s : Store) (e : Ending) (w' : World) : Prop:=∃ v M,e = .returned v ∧ Ext w w' ∧ StoreL w' v s M ∧ ∀ b ∈ M,w.heap.size ≤ b
set_option maxRecDepth 20000 in
set_option maxHeartbeats 4000000 in
theorem implPlayDo_c (g e : Value) (s : Store) (ev : Event) (w : World) (hB : StoreV w g e s) (hs : Small s) (hc : -9223372036854775808 ≤ ev.c ∧ ev.c ≤ 9223372036854775807) :
  Calls Tryz.prog 80 #[.agg #[g,e],eventA ev] w (StoreΦ w (doV s ev)):=by
 have hSO:=fun (w' : World) (hx : Ext w w')=>implStoreOk_c g e s w' (hB.ext hx) hs.2.1 hs.2.2
 have hBG:=fun (w' : World) (hx : Ext w w') (hok : storeOkB s = true)=>playBegun_c g e s ev w' (hB.ext hx) hok hc
 have HD : Hid (doV s ev = if storeOkB s = true then playDoS s ev else store0):=Lib.hid rfl
 have HP : Hid (storeOkB s = true → StoreP (playDoS s ev)):=Lib.hid fun h=>(storeOk_P h).play ev
 unfold BegunΦ at hBG
 obtain ⟨a3,n3,rfl⟩:=hB.1.form
 obtain ⟨a4,n4,rfl⟩:=hB.2.form
 generalize doV s ev = DO at *
 generalize playDoS s ev = PO at *
 generalize begunS s ev = BG at *
 obtain ⟨k,ea,eb,ec,et⟩:=ev
 dsimp only [eventA] at *
 clear hB hs
 by_cases hok : storeOkB s = true
 ·have hd : DO = PO:=by rw [HD.out,if_pos hok]
  subst hd
  have HPP:=Lib.hid (HP.out hok)
  have hBg:=fun (w' : World) (hx : Ext w w')=>hBG w' hx hok
  rw [hok] at hSO
  clear hBG hok HP HD
  go_enter Tryz.func80,Tryz.ntmps80
  go_wp2_with fail
  refine (hSO _ (ext_alloc (ext_alloc (ext_alloc (ext_refl _) _) _) _)).mono ?_;rintro e1 w1 ⟨rfl,hx1⟩
  have X1:=ext_trans (ext_alloc (ext_alloc (ext_alloc (ext_refl w) _) _) _) hx1
  have G2:=keep_ext hx1 (hg_alloc (hg_alloc (hg_new (w:=w) (b:=w.heap.size) (x:=.cells #[.slice a3 s.flash.length n3,.slice a4 s.disk.length n4] 42) rfl)))
  have G3:=keep_ext hx1 (hg_alloc (hg_new (b:=w.heap.size + 1) (by simp)))
  have G4:=keep_ext hx1 (hg_new (b:=w.heap.size + 1 + 1) (by simp))
  have s1:=hx1.size
  simp at s1
  clear hSO hx1
  obtain ⟨g2,gf2⟩:=cellsK G2
  obtain ⟨g3,gf3⟩:=cellsK G3
  go_wp2_with fail
  refine (hBg _ X1).mono ?_;rintro e2 w2 ⟨f,d,L,v,rfl,hx2,hO,hn,hb,hS,hl⟩
  have X2:=ext_trans X1 hx2
  obtain ⟨va,vc,rfl⟩:=hS.form
  obtain ⟨b1,k1,j1,b2,k2,j2,rfl,rfl⟩:=hO.forms
  replace G4:=keep_ext hx2 G4
  have s2:=hx2.size
  have HN:=Lib.hid hn
  have HB : Hid (∀ b ∈ L,w.heap.size + 3 ≤ b):=Lib.hid fun b hm=>by have:=hb b hm;omega
  have XA : Ext w2 (w2.alloc (.cells #[.slice b1 k1 j1,.slice b2 k2 j2] 42)):=ext_alloc (ext_refl _) _
  have G5 : (w2.alloc (.cells #[.slice b1 k1 j1,.slice b2 k2 j2] 42)).heap[w2.heap.size]? = some (.cells #[.slice b1 k1 j1,.slice b2 k2 j2] 42 (0,0)):=hg_new rfl
  have X3:=ext_trans X2 XA
  have HO:=Lib.hid (hO.ext XA)
  replace G4:=keep_ext XA G4
  clear g2 gf2 g3 gf3 hBg hx2 hO hn hb hS XA G2 G3
  obtain ⟨g4,gf4⟩:=cellsK G4
  obtain ⟨g5,gf5⟩:=cellsK G5
  have l4:=heap_lt G4
  go_wp2_with fail
  refine bodyPost_ret (v:=.agg #[.slice b1 k1 j1,.slice b2 k2 j2]) (by simp [results,Tryz.results80,go_sem,g4,gf4]) rfl ⟨_,L,rfl,?_,.inr ⟨_,_,rfl,?_,HN.out,HPP.out.shape4⟩,fun b hb=>by have:=HB.out b hb;omega⟩
  ·have s3:=X3.size
   ((repeat (first | with_reducible (refine ext_set2 ?_ ?_);focus (first | exact Nat.le_refl _ | (dsimp only;omega) | (simp;omega)) | with_reducible refine ext_alloc2 ?_));with_reducible exact X2)
  ·refine HO.out.keep fun b hb=>?_
   have:=HB.out b hb
   iterate 2 rw [setCell_other (by omega)]
 ·have hd : DO = store0:=by rw [HD.out,if_neg hok]
  subst hd
  rw [show storeOkB s = false by simpa using hok] at hSO
  clear hBG hok HP HD
  go_enter Tryz.func80,Tryz.ntmps80
  go_wp2_with fail
  refine (hSO _ (ext_alloc (ext_alloc (ext_alloc (ext_refl _) _) _) _)).mono ?_;rintro e1 w1 ⟨rfl,hx1⟩
  have X1:=ext_trans (ext_alloc (ext_alloc (ext_alloc (ext_refl w) _) _) _) hx1
  have G2:=keep_ext hx1 (hg_alloc (hg_alloc (hg_new (w:=w) (b:=w.heap.size) (x:=.cells #[.slice a3 s.flash.length n3,.slice a4 s.disk.length n4] 42) rfl)))
  have G3:=keep_ext hx1 (hg_alloc (hg_new (b:=w.heap.size + 1) (by simp)))
  have G4:=keep_ext hx1 (hg_new (b:=w.heap.size + 1 + 1) (by simp))
  have s1:=hx1.size
  simp at s1
  clear hSO hx1
  obtain ⟨g4,gf4⟩:=cellsK G4
  go_wp2_with fail
  refine bodyPost_ret (v:=nilStore) (by simp [results,Tryz.results80,go_sem,g4,gf4,nilStore]) rfl ⟨_,_,rfl,?_,.inl ⟨rfl,rfl,rfl⟩,fun b hb=>by cases hb⟩
  ((repeat (first | with_reducible (refine ext_set2 ?_ ?_);focus (first | exact Nat.le_refl _ | (dsimp only;omega) | (simp;omega)) | with_reducible refine ext_alloc2 ?_));with_reducible exact X1)
end Go.Bu
namespace Go.Bu
open Go Go.RowKit Go.Plan Go.Proofs
def wholeE (e : Event) : Event:=⟨e.kind,e.a,e.b,60,false⟩
theorem whole_cost {s : Store} (h : storeOkB s = true) (e : Event) (h4 : e.kind ≠ 4) : evCost s (wholeE e) = costOf (playSteps s (wholeE e)):=by
 unfold evCost
 rw [begun_take s (wholeE e) h4]
 have h7:=play_le (storeOk_P h).flash (wholeE e)
 have hb : begunN (playSteps s (wholeE e)).length (wholeE e).c (wholeE e).torn = (playSteps s (wholeE e)).length:=by
  unfold begunN wholeE
  dsimp only
  rw [if_neg (by simp)]
  unfold wholeE at h7
  omega
 rw [hb,if_neg (by unfold wholeE;dsimp only;omega),Int.toNat_natCast,List.take_length]
end Go.Bu
namespace Go.Bu
open Go
def roomF (f : List Block) : List Block:=if (openB f).2 then f else wipeF f (old f) false
def dirtyF (f : List Block) (a : Int) : Bool:=decide (0 < (last f a).seq) && (last f a).kind == 1
def dirtyN (f : List Block) : Nat:=addrs6.countP fun (n : Nat)=>dirtyF f ((n : Int) + 1)
def goneN (f : List Block) : Nat:=addrs6.countP fun (n : Nat)=>dirtyF f ((n : Int) + 1) && !dirtyF (roomF f) ((n : Int) + 1)
def cleanF (f : List Block) : Int:=(f.map fun b=>cleanN b.pages).sum
theorem countP_split {α : Type} (p q : α → Bool) : ∀ (L : List α),(∀ n ∈ L,q n = true → p n = true) → L.countP p = L.countP (fun n=>p n && !q n) + L.countP q
 | [],_=>rfl
 | x :: L,h=>by
  have ih:=countP_split p q L fun n hn=>h n (by simp [hn])
  have hx:=h x (by simp)
  simp only [List.countP_cons]
  cases hp : p x <;> cases hq : q x <;> simp [hp,hq] at hx ⊢ <;> omega
theorem len_le_of_nodup {α : Type} [DecidableEq α] : ∀ (xs ys : List α),xs.Nodup → (∀ x ∈ xs,x ∈ ys) → xs.length ≤ ys.length
 | [],_,_,_=>by simp
 | x :: xs,ys,hn,h=>by
  have hx:=h x (by simp)
  rw [List.nodup_cons] at hn
  have:=len_le_of_nodup xs (ys.erase x) hn.2 fun y hy=>(List.mem_erase_of_ne (fun e=>hn.1 (by rw [← e];exact hy))).2 (h y (by simp [hy]))
  rw [List.length_erase_of_mem hx] at this
  have : 0 < ys.length:=List.length_pos_of_mem hx
  simp only [List.length_cons];omega
theorem maxSeq_le {f : List Block} (h : FlashOk f) {m : Int} (h0 : 0 ≤ m) (hm : ∀ n ∈ seqs f,n ≤ m) : maxSeq f ≤ m:=by
 have hb : ∀ b ∈ f,most b.pages ≤ m:=fun b hb=>by
  have:=most_spec (h.pg hb)
  by_cases h1 : 0 < most b.pages
  ·obtain ⟨p,hp,q1,q2⟩:=mem_pseqs.1 (this.2.1 h1)
   rw [← q2]
   exact hm _ (mem_seqs.2 ⟨b,hb,p,hp,q1,rfl⟩)
  ·omega
 have key : ∀ (bs : List Block) (n : Int),n ≤ m → (∀ b ∈ bs,most b.pages ≤ m) → bs.foldl nextStep n ≤ m:=by
  intro bs
  induction bs with
  | nil=>exact fun n h _=>h
  | cons b bs ih =>
   intro n hn hb
   rw [List.foldl_cons]
   refine ih _ ?_ fun c hc=>hb c (by simp [hc])
   have:=hb b (by simp)
   unfold nextStep;split <;> omega
 exact key f 0 h0 hb
theorem seq_next {f : List Block} (h : FlashOk f) : ∀ n ∈ seqs f,n < next f:=by
 intro n hn
 obtain ⟨b,hb,p,hp,h1,rfl⟩:=mem_seqs.1 hn
 have:=maxSeq_ge h ⟨b,hb,p,hp,h1,rfl⟩
 unfold next;omega
structure Roomy (f : List Block) : Prop where
 ord : Ord (roomF f)
 opn : Openable (roomF f) (room f).2.1.toNat
 pos : 0 ≤ (room f).2.1
 sub : ∀ n ∈ seqs (roomF f),n ∈ seqs f
theorem old4 {f : List Block} (h : Ord f) : old f < f.length:=old_lt (by have:=h.ok.len;omega)
theorem shut {f : List Block} (h : Ord f) (ho : (openB f).2 = false) : ∀ b ∈ f,partB b.pages = false:=fun b hb=>part_no (openB_no h.ok ho b hb)
theorem room_worn {f : List Block} (ho : (openB f).2 = false) (hc : (room f).2.2 = true) : (blockAt f (old f)).worn < 200:=by
 unfold room at hc
 rw [ho] at hc
 simpa using hc
theorem roomy {f : List Block} (h : Ord f) (hc : (room f).2.2 = true) : Roomy f:=by
 by_cases ho : (openB f).2 = true
 ·have e : roomF f = f:=by unfold roomF;rw [if_pos ho]
  have e2 : (room f).2.1 = (openB f).1:=by unfold room;rw [if_pos ho]
  exact ⟨by rw [e];exact h,by rw [e,e2];exact openB_yes h ho,by rw [e2];exact (openB_lt ho).1,by rw [e];exact fun _ h=>h⟩
 ·have ho' : (openB f).2 = false:=by simpa using ho
  have e : roomF f = wipeF f (old f) false:=by unfold roomF;rw [if_neg ho]
  have e2 : (room f).2.1 = (old f : Int):=by unfold room;rw [if_neg ho]
  have hp:=shut h ho'
  have hol:=old4 h
  obtain ⟨b',eb,h1,h2,h3,h4⟩:=wipe_get (f:=f) hol (room_worn ho' hc) false
  refine ⟨by rw [e];exact h.wipe hol hp false,?_,by rw [e2];omega,fun n hn=>?_⟩
  ·rw [e,e2,eb,Int.toNat_natCast]
   refine ⟨⟨b',by rw [List.getElem?_set_self hol],h4 rfl⟩,fun k c hk hkc=>?_⟩
   rw [List.getElem?_set_ne (Ne.symm hk)] at hkc
   exact hp c (List.mem_of_getElem? hkc)
  ·rw [e,eb] at hn
   obtain ⟨c,hcm,hcn⟩:=mem_seqs.1 hn
   rcases mem_set hcm with hcm | rfl
   ·exact mem_seqs.2 ⟨c,hcm,hcn⟩
   ·obtain ⟨p,hp,q1,q2⟩:=hcn
    exact absurd ⟨p,hp,q1,rfl⟩ (h2 p.r)
theorem room_last {f : List Block} (h : Ord f) (hc : (room f).2.2 = true) (a : Int) : last (roomF f) a = last f a ∨ ((openB f).2 = false ∧ W (blockAt f (old f)) (last f a) ∧ last (roomF f) a = rec0):=by
 by_cases ho : (openB f).2 = true
 ·exact .inl (by unfold roomF;rw [if_pos ho])
 ·have ho' : (openB f).2 = false:=by simpa using ho
  have e : roomF f = wipeF f (old f) false:=by unfold roomF;rw [if_neg ho]
  rw [e]
  rcases last_wipe h (shut h ho') (room_worn ho' hc) false a with ⟨h1,h2⟩ | ⟨_,h2⟩
  ·exact .inr ⟨ho',h1,h2⟩
  ·exact .inl h2
theorem room_in {f : List Block} (h : Ord f) (ho : (openB f).2 = false) (hc : (room f).2.2 = true) (a : Int) (hW : W (blockAt f (old f)) (last f a)) : last (roomF f) a = rec0:=by
 have e : roomF f = wipeF f (old f) false:=by unfold roomF;rw [if_neg (by simp [ho])]
 rw [e]
 rcases last_wipe h (shut h ho) (room_worn ho hc) false a with ⟨_,h2⟩ | ⟨h1,_⟩
 ·exact h2
 ·exact absurd hW h1
theorem dirty_room {f : List Block} (h : Ord f) (hc : (room f).2.2 = true) (a : Int) (hd : dirtyF (roomF f) a = true) : dirtyF f a = true:=by
 rcases room_last h hc a with e | ⟨_,_,e⟩
 ·unfold dirtyF at hd ⊢;rwa [e] at hd
 ·unfold dirtyF at hd;rw [e] at hd;cases hd
theorem dirty_split {f : List Block} (h : Ord f) (hc : (room f).2.2 = true) : dirtyN f = goneN f + dirtyN (roomF f):=
 countP_split _ _ _ fun n _ hd=>dirty_room h hc _ hd
theorem told_gone {f : List Block} (h : Ord f) (ho : (openB f).2 = false) (hc : (room f).2.2 = true) : (roomSteps f (blockAt f (old f)).pages).length ≤ goneN f:=by
 have hol:=old4 h
 have hmem:=blockAt_mem hol
 have hnd : (pseqs (blockAt f (old f)).pages).Nodup:=by
  have:=h.ok.nd
  rw [seqs_at f (old f) hol,← blockAt_get hol] at this
  exact (List.nodup_append.1 (List.nodup_append.1 this).2.1).1
 have hok : ∀ p ∈ (blockAt f (old f)).pages,p.state = 1 → recOkB p.r = true:=fun p hp h1=>liveP_ok h.ok hmem hp h1
 have hin : ∀ p ∈ (blockAt f (old f)).pages,liveP f p = true ∧ p.r.kind = 1 → p.state = 1 ∧ last f p.r.addr = p.r:=by
  intro p _ hl
  have:=hl.1
  simp only [liveP,Bool.and_eq_true,beq_iff_eq,recEq_iff] at this
  exact this
 have key : ∀ ps : List Page,(∀ p ∈ ps,p ∈ (blockAt f (old f)).pages) → (pseqs ps).Nodup →
   ((roomSteps f ps).map fun x=>(x.addr - 1).toNat).Nodup ∧ ∀ n : Nat,n ∈ (roomSteps f ps).map (fun x=>(x.addr - 1).toNat) → ∃ p ∈ ps,(p.state = 1 ∧ last f p.r.addr = p.r ∧ p.r.kind = 1) ∧ p.r.addr = (n : Int) + 1 ∧ n < 6:=by
  intro ps
  induction ps with
  | nil=>exact fun _ _=>⟨List.nodup_nil,fun n hn=>by cases hn⟩
  | cons p ps ih =>
   intro hsub hn
   rw [pseqs_cons] at hn
   obtain ⟨i1,i2⟩:=ih (fun q hq=>hsub q (by simp [hq])) (List.nodup_append.1 hn).2.1
   by_cases hl : liveP f p = true ∧ p.r.kind = 1
   ·have hp:=hsub p (by simp)
    obtain ⟨q1,q2⟩:=hin p hp hl
    have hr:=recOkB_iff.1 (hok p hp q1)
    have e : roomSteps f (p :: ps) = diskStepOf p :: roomSteps f ps:=by
     unfold roomSteps;rw [List.flatMap_cons];unfold roomOne;rw [if_pos hl];rfl
    rw [e,List.map_cons]
    refine ⟨List.nodup_cons.2 ⟨fun hm=>?_,i1⟩,fun n hn'=>?_⟩
    ·obtain ⟨q,hq,⟨s1,s2,_⟩,s3,_⟩:=i2 _ hm
     have ea : q.r.addr = p.r.addr:=by
      rw [s3];unfold diskStepOf;dsimp only;omega
     have er : q.r = p.r:=by rw [← s2,ea,q2]
     have h3 : p.r.seq ∈ pseqs ps:=mem_pseqs.2 ⟨q,hq,s1,by rw [er]⟩
     have h4 : p.r.seq ∈ (seqOf p).toList:=by unfold seqOf;rw [if_pos q1];simp
     exact (List.nodup_append.1 hn).2.2 _ h4 _ h3 rfl
    ·rcases List.mem_cons.1 hn' with rfl | hn'
     ·exact ⟨p,by simp,⟨q1,q2,hl.2⟩,by unfold diskStepOf;dsimp only;omega,by unfold diskStepOf;dsimp only;omega⟩
     ·obtain ⟨q,hq,hh⟩:=i2 n hn'
      exact ⟨q,by simp [hq],hh⟩
   ·have e : roomSteps f (p :: ps) = roomSteps f ps:=by
     unfold roomSteps;rw [List.flatMap_cons];unfold roomOne;rw [if_neg hl];rfl
    rw [e]
    exact ⟨i1,fun n hn'=>by obtain ⟨q,hq,hh⟩:=i2 n hn';exact ⟨q,by simp [hq],hh⟩⟩
 obtain ⟨k1,k2⟩:=key _ (fun _ h=>h) hnd
 unfold goneN
 rw [List.countP_eq_length_filter]
 have:=len_le_of_nodup _ (addrs6.filter fun (n : Nat)=>dirtyF f ((n : Int) + 1) && !dirtyF (roomF f) ((n : Int) + 1)) k1 fun n hn=>by
  obtain ⟨p,hp,⟨s1,s2,s4⟩,s3,h6⟩:=k2 n hn
  have hr:=recOkB_iff.1 (hok p hp s1)
  have h0:=room_in h ho hc p.r.addr (by rw [s2];exact ⟨p,hp,s1,rfl⟩)
  rw [s3] at s2 h0
  rw [List.mem_filter]
  refine ⟨?_,?_⟩
  ·rcases (show n = 0 ∨ n = 1 ∨ n = 2 ∨ n = 3 ∨ n = 4 ∨ n = 5 by omega) with rfl | rfl | rfl | rfl | rfl | rfl <;> decide
  ·unfold dirtyF
   rw [h0,s2,s4,decide_eq_true (show 0 < p.r.seq by omega)]
   rfl
 simpa using this
theorem doAll_app (s : Store) (a b : List Step) : doAll s (a ++ b) = doAll (doAll s a) b:=by unfold doAll;rw [List.foldl_append]
theorem doAll_disks : ∀ (xs : List Step) (s : Store),(∀ x ∈ xs,x.kind = 1) → (doAll s xs).flash = s.flash
 | [],s,_=>rfl
 | x :: xs,s,h=>by
  show (doAll (doStep s x false) xs).flash = _
  rw [doAll_disks xs _ fun y hy=>h y (by simp [hy])]
  unfold doStep;rw [if_pos (h x (by simp))];rfl
theorem room_kinds (f : List Block) (ps : List Page) : ∀ x ∈ roomSteps f ps,x.kind = 1:=by
 intro x hx
 obtain ⟨p,hp,hm⟩:=List.mem_flatMap.1 hx
 unfold roomOne at hm
 split at hm
 ·obtain rfl:=List.mem_singleton.1 hm;rfl
 ·cases hm
theorem cost_disks : ∀ (xs : List Step),(∀ x ∈ xs,x.kind = 1) → costOf xs = ⟨0,0,xs.length⟩
 | [],_=>rfl
 | x :: xs,h=>by
  have e : x :: xs = [x] ++ xs:=rfl
  rw [e,costOf_app,cost_disks xs fun y hy=>h y (by simp [hy])]
  have : costOf [x] = ⟨0,0,1⟩:=by
   show costStep cost0 x = _
   unfold costStep;rw [h x (by simp)];rfl
  rw [this]
  unfold costSum
  simp only [List.length_append,List.length_singleton]
  congr 1
def wroteF (f : List Block) (k a v : Int) : List Block:=writeF (roomF f) (room f).2.1.toNat ⟨k,next f,a,v⟩ false
theorem write_some {f : List Block} {k a v : Int} (hne : writeSteps f k a v ≠ []) : (room f).2.2 = true ∧ recOkB ⟨k,next f,a,v⟩ = true ∧ writeSteps f k a v = (room f).1 ++ [⟨3,0,0,(room f).2.1,⟨k,next f,a,v⟩⟩]:=by
 unfold writeSteps at hne ⊢
 split
 ·rename_i hc
  rw [Bool.and_eq_true] at hc
  exact ⟨hc.1,hc.2,rfl⟩
 ·rename_i hc
  rw [if_neg hc] at hne
  exact absurd rfl hne
theorem room_do (s : Store) : (doAll s (room s.flash).1).flash = roomF s.flash:=by
 unfold room roomF
 by_cases ho : (openB s.flash).2 = true
 ·rw [if_pos ho,if_pos ho];rfl
 ·rw [if_neg ho,if_neg ho]
  rw [doAll_app]
  have h1:=doAll_disks _ s (room_kinds s.flash (blockAt s.flash (old s.flash)).pages)
  generalize doAll s (roomSteps s.flash (blockAt s.flash (old s.flash)).pages) = t at *
  show (doStep t ⟨2,0,0,(old s.flash : Int),rec0⟩ false).flash = _
  unfold doStep
  dsimp only
  rw [if_neg (by decide),if_pos rfl,Int.toNat_natCast,h1]
theorem write_do {s : Store} {k a v : Int} (hne : writeSteps s.flash k a v ≠ []) : (doAll s (writeSteps s.flash k a v)).flash = wroteF s.flash k a v:=by
 obtain ⟨_,_,e⟩:=write_some hne
 rw [e,doAll_app]
 have h1:=room_do s
 generalize doAll s (room s.flash).1 = t at *
 show (doStep t ⟨3,0,0,(room s.flash).2.1,⟨k,next s.flash,a,v⟩⟩ false).flash = _
 unfold doStep
 dsimp only
 rw [if_neg (by decide),if_neg (by decide),if_pos rfl,h1]
 rfl
theorem wrote_last {f : List Block} (h : Ord f) {k a v : Int} (hne : writeSteps f k a v ≠ []) (a' : Int) : last (wroteF f k a v) a' = if a' = a then ⟨k,next f,a,v⟩ else last (roomF f) a':=by
 obtain ⟨hc,hr,_⟩:=write_some hne
 have hR:=roomy h hc
 obtain ⟨b,hb,hb0⟩:=hR.opn.at_
 exact (last_write hR.ord.ok hb hb0 hr (fun n hn=>seq_next h.ok n (hR.sub n hn)) a').2
theorem wrote_ord {f : List Block} (h : Ord f) {k a v : Int} (hne : writeSteps f k a v ≠ []) : Ord (wroteF f k a v):=by
 obtain ⟨hc,hr,_⟩:=write_some hne
 have hR:=roomy h hc
 exact hR.ord.write hR.opn hr (fun n hn=>seq_next h.ok n (hR.sub n hn)) false
theorem wrote_next {f : List Block} (h : Ord f) {k a v : Int} (hne : writeSteps f k a v ≠ []) : next (wroteF f k a v) ≤ next f + 1:=by
 obtain ⟨hc,hr,_⟩:=write_some hne
 have hR:=roomy h hc
 obtain ⟨b,hb,hb0⟩:=hR.opn.at_
 have hrr:=recOkB_iff.1 hr
 dsimp only at hrr
 have : maxSeq (wroteF f k a v) ≤ next f:=by
  refine maxSeq_le (wrote_ord h hne).ok (by omega) fun n hn=>?_
  obtain ⟨b',e,hs,_⟩:=write_get (r:=⟨k,next f,a,v⟩) hR.ord.ok hb hb0 (fun hs=>by have:=seq_next h.ok _ (hR.sub _ hs);dsimp only at this;omega) false
  unfold wroteF at hn
  rw [e] at hn
  obtain ⟨hl,rfl⟩:=List.getElem?_eq_some_iff.1 hb
  rw [seqs_set _ _ hl] at hn
  have hn' : n ∈ seqs (roomF f) ∨ n = next f:=by
   rw [seqs_at _ _ hl]
   simp only [List.mem_append] at hn ⊢
   rcases hn with hn | hn | hn
   ·exact .inl (.inl hn)
   ·rcases (hs n).1 hn with hn | ⟨_,hn⟩
    ·exact .inl (.inr (.inl hn))
    ·exact .inr hn
   ·exact .inl (.inr (.inr hn))
  rcases hn' with hn' | rfl
  ·have:=seq_next h.ok n (hR.sub n hn');omega
  ·exact Int.le_refl _
 show maxSeq _ + 1 ≤ _
 omega
theorem cost_write {f : List Block} (h : Ord f) {k a v : Int} (hne : writeSteps f k a v ≠ []) :
  (costOf (writeSteps f k a v)).writes = 1 ∧ (costOf (writeSteps f k a v)).wipes = (if (openB f).2 then 0 else 1) ∧ 0 ≤ (costOf (writeSteps f k a v)).disks ∧ (costOf (writeSteps f k a v)).disks ≤ goneN f:=by
 obtain ⟨hc,hr,e⟩:=write_some hne
 rw [e,costOf_app]
 have e3 : costOf [⟨3,0,0,(room f).2.1,⟨k,next f,a,v⟩⟩] = ⟨1,0,0⟩:=rfl
 rw [e3]
 by_cases ho : (openB f).2 = true
 ·have : (room f).1 = []:=by unfold room;rw [if_pos ho]
  rw [this,if_pos ho]
  refine ⟨rfl,rfl,Int.le_refl _,?_⟩
  show (0 : Int) ≤ _
  omega
 ·have ho' : (openB f).2 = false:=by simpa using ho
  have : (room f).1 = roomSteps f (blockAt f (old f)).pages ++ [⟨2,0,0,(old f : Int),rec0⟩]:=by unfold room;rw [if_neg ho]
  have e2 : costOf [⟨2,0,0,(old f : Int),rec0⟩] = ⟨0,1,0⟩:=rfl
  rw [this,if_neg ho,costOf_app,cost_disks _ (room_kinds f _),e2]
  have:=told_gone h ho' hc
  unfold costSum
  dsimp only
  refine ⟨rfl,rfl,?_,?_⟩ <;> omega
end Go.Bu
namespace Go.Bu
open Go
theorem countP_one {α : Type} (p q : α → Bool) (m : α) : ∀ (L : List α),L.Nodup → (∀ n ∈ L,n ≠ m → p n = q n) → L.countP p ≤ L.countP q + 1
 | [],_,_=>by simp
 | x :: L,hn,h=>by
  rw [List.nodup_cons] at hn
  by_cases hx : x = m
  ·subst hx
   have : L.countP p = L.countP q:=List.countP_congr fun n hm=>by rw [h n (by simp [hm]) fun e=>hn.1 (by rw [← e];exact hm)]
   simp only [List.countP_cons,this]
   split <;> split <;> omega
  ·have ih:=countP_one p q m L hn.2 fun n hm=>h n (by simp [hm])
   simp only [List.countP_cons,h x (by simp) hx]
   omega
theorem wrote_dirty {f : List Block} (h : Ord f) {k a v : Int} (hne : writeSteps f k a v ≠ []) (a' : Int) : dirtyF (wroteF f k a v) a' = if a' = a then k == 1 else dirtyF (roomF f) a':=by
 have hr:=recOkB_iff.1 (write_some hne).2.1
 dsimp only at hr
 unfold dirtyF
 rw [wrote_last h hne]
 by_cases ha : a' = a
 ·rw [if_pos ha,if_pos ha]
  dsimp only
  rw [decide_eq_true (by omega)];rfl
 ·rw [if_neg ha,if_neg ha]
theorem dirty_put {f : List Block} (h : Ord f) {k a v : Int} (hne : writeSteps f k a v ≠ []) : dirtyN (wroteF f k a v) ≤ dirtyN (roomF f) + 1:=by
 refine countP_one _ _ (a - 1).toNat addrs6 (by decide) fun n hn hna=>?_
 rw [wrote_dirty h hne,if_neg (by omega)]
theorem dirty_clean {f : List Block} (h : Ord f) {k a v : Int} (hne : writeSteps f k a v ≠ []) (hk : k ≠ 1) : dirtyN (wroteF f k a v) + (if dirtyF (roomF f) a then 1 else 0) ≤ dirtyN (roomF f):=by
 have hr:=recOkB_iff.1 (write_some hne).2.1
 dsimp only at hr
 have hs:=countP_split (fun n : Nat=>dirtyF (roomF f) ((n : Int) + 1)) (fun n : Nat=>dirtyF (wroteF f k a v) ((n : Int) + 1)) addrs6 fun n _ hd=>by
  rw [wrote_dirty h hne] at hd
  split at hd
  ·simp at hd;exact absurd hd hk
  ·exact hd
 unfold dirtyN
 rw [hs]
 split
 ·rename_i hd
  have : 0 < addrs6.countP (fun n : Nat=>dirtyF (roomF f) ((n : Int) + 1) && !dirtyF (wroteF f k a v) ((n : Int) + 1)):=by
   rw [List.countP_pos_iff]
   refine ⟨(a - 1).toNat,?_,?_⟩
   ·have : (a - 1).toNat < 6:=by omega
    generalize (a - 1).toNat = n at *
    rcases (show n = 0 ∨ n = 1 ∨ n = 2 ∨ n = 3 ∨ n = 4 ∨ n = 5 by omega) with rfl | rfl | rfl | rfl | rfl | rfl <;> decide
   ·rw [show (((a - 1).toNat : Nat) : Int) + 1 = a by omega,hd,wrote_dirty h hne,if_pos rfl]
    simpa using hk
  omega
 ·omega
theorem tell_flash (s : Store) (x : Step) (t : Bool) (h : x.kind = 1) : (doStep s x t).flash = s.flash:=by
 unfold doStep;rw [if_pos h];split <;> rfl
theorem flush_paid {s : Store} (h : Ord s.flash) (n : Nat) : 0 ≤ (costOf (flushSteps s n)).disks ∧ (costOf (flushSteps s n)).disks + 2 * dirtyN (allStep s n).flash ≤ 2 * dirtyN s.flash:=by
 unfold allStep flushSteps
 by_cases hd : dirtyB s ((n : Int) + 1) = true
 ·rw [if_pos hd]
  by_cases hne : writeSteps s.flash 2 ((n : Int) + 1) (readN s n) = []
  ·rw [if_pos hne]
   exact ⟨by decide,by show (0 : Int) + _ ≤ _;show (0 : Int) + 2 * ((dirtyN s.flash : Nat) : Int) ≤ _;omega⟩
  ·rw [if_neg hne]
   generalize readN s n = v at *
   have hsd : (doStep s ⟨1,(n : Int) + 1,v,0,rec0⟩ false).flash = s.flash:=tell_flash s _ _ rfl
   have hfl : (doAll s (⟨1,(n : Int) + 1,v,0,rec0⟩ :: writeSteps s.flash 2 ((n : Int) + 1) v)).flash = wroteF s.flash 2 ((n : Int) + 1) v:=by
    show (doAll (doStep s ⟨1,(n : Int) + 1,v,0,rec0⟩ false) _).flash = _
    have hw:=write_do (s:=doStep s ⟨1,(n : Int) + 1,v,0,rec0⟩ false) (k:=2) (a:=(n : Int) + 1) (v:=v) (by rw [hsd];exact hne)
    rw [hsd] at hw
    exact hw
   rw [hfl]
   obtain ⟨c1,c2,c3,c4⟩:=cost_write h hne
   have hc:=(write_some hne).1
   have d1:=dirty_split h hc
   have d2:=dirty_clean h hne (by decide)
   have e : costOf (⟨1,(n : Int) + 1,v,0,rec0⟩ :: writeSteps s.flash 2 ((n : Int) + 1) v) = costSum ⟨0,0,1⟩ (costOf (writeSteps s.flash 2 ((n : Int) + 1) v)):=
    costOf_app [⟨1,(n : Int) + 1,v,0,rec0⟩] _
   rw [e]
   unfold costSum
   dsimp only
   have hg : dirtyF (roomF s.flash) ((n : Int) + 1) = false → 0 < goneN s.flash:=fun h0=>by
    unfold goneN
    rw [List.countP_pos_iff]
    refine ⟨n,?_,?_⟩
    ·have hr:=recOkB_iff.1 (write_some hne).2.1
     dsimp only at hr
     rcases (show n = 0 ∨ n = 1 ∨ n = 2 ∨ n = 3 ∨ n = 4 ∨ n = 5 by omega) with rfl | rfl | rfl | rfl | rfl | rfl <;> decide
    ·have hd' : dirtyF s.flash ((n : Int) + 1) = true:=hd
     rw [h0,hd'];rfl
   cases hq : dirtyF (roomF s.flash) ((n : Int) + 1) with
   | true=>rw [hq] at d2;simp only [if_true] at d2;omega
   | false=>have:=hg hq;rw [hq] at d2;simp at d2;omega
 ·rw [if_neg hd]
  exact ⟨by decide,by show (0 : Int) + 2 * ((dirtyN s.flash : Nat) : Int) ≤ _;omega⟩
theorem toSteps_whole (s : Store) (xs : List Step) (h : xs.length ≤ 60) : toSteps s xs 60 false = doAll s xs:=by
 unfold toSteps
 rw [if_neg (by simp),List.take_of_length_le (by simpa using h)]
theorem do_whole {s : Store} (h : storeOkB s = true) (e : Event) (h4 : e.kind ≠ 4) : playDoS s (wholeE e) = doAll s (playSteps s (wholeE e)):=by
 unfold playDoS
 have:=play_le (storeOk_P h).flash (wholeE e)
 rw [if_neg (show ¬ (wholeE e).kind = 4 from h4),if_neg (by unfold wholeE;dsimp only;omega)]
 show toSteps s _ 60 false = _
 exact toSteps_whole s _ (by omega)
end Go.Bu
namespace Go.Bu
open Go
theorem flush_none {s : Store} (h : Ord s.flash) (n : Nat) : flushSteps (allStep s n) n = []:=by
 by_cases hd : dirtyB s ((n : Int) + 1) = true
 ·by_cases hne : writeSteps s.flash 2 ((n : Int) + 1) (readN s n) = []
  ·have e : flushSteps s n = []:=by unfold flushSteps;rw [if_pos hd,if_pos hne]
   have : allStep s n = s:=by unfold allStep;rw [e];rfl
   rw [this,e]
  ·have e : flushSteps s n = ⟨1,(n : Int) + 1,readN s n,0,rec0⟩ :: writeSteps s.flash 2 ((n : Int) + 1) (readN s n):=by unfold flushSteps;rw [if_pos hd,if_neg hne]
   have hsd : (doStep s ⟨1,(n : Int) + 1,readN s n,0,rec0⟩ false).flash = s.flash:=tell_flash s _ _ rfl
   have hfl : (allStep s n).flash = wroteF s.flash 2 ((n : Int) + 1) (readN s n):=by
    unfold allStep
    rw [e]
    show (doAll (doStep s ⟨1,(n : Int) + 1,readN s n,0,rec0⟩ false) _).flash = _
    have hw:=write_do (s:=doStep s ⟨1,(n : Int) + 1,readN s n,0,rec0⟩ false) (k:=2) (a:=(n : Int) + 1) (v:=readN s n) (by rw [hsd];exact hne)
    rw [hsd] at hw
    exact hw
   have hq : dirtyB (allStep s n) ((n : Int) + 1) = false:=by
    show dirtyF (allStep s n).flash ((n : Int) + 1) = false
    rw [hfl,wrote_dirty h hne,if_pos rfl];rfl
   unfold flushSteps
   rw [if_neg (by rw [hq];decide)]
 ·have e : flushSteps s n = []:=by unfold flushSteps;rw [if_neg hd]
  have : allStep s n = s:=by unfold allStep;rw [e];rfl
  rw [this,e]
theorem flush_again {s : Store} (h : storeOkB s = true) (e : Event) (h2 : e.kind = 2) : playSteps (playDoS s (wholeE e)) (wholeE e) = []:=by
 rw [do_whole h e (by omega)]
 have e2 : ∀ t,playSteps t (wholeE e) = addrStep (flushSteps t) e.a:=fun t=>by
  unfold playSteps
  rw [if_neg (show ¬ (wholeE e).kind = 1 by show ¬ e.kind = 1;omega),if_pos (show (wholeE e).kind = 2 from h2)];rfl
 rw [e2,e2]
 unfold addrStep
 split
 ·exact flush_none (storeOk_iff.1 h).ord _
 ·rfl
theorem again_cost {s : Store} (h : storeOkB s = true) (e : Event) (h2 : e.kind = 2) : evCost (playDoS s (wholeE e)) (wholeE e) = cost0 ∧ playDoS (playDoS s (wholeE e)) (wholeE e) = playDoS s (wholeE e):=by
 have hs:=storeOk_play h (wholeE e)
 rw [whole_cost hs e (by omega),do_whole hs e (by omega),flush_again h e h2]
 exact ⟨rfl,rfl⟩
theorem cleanF_set : ∀ (f : List Block) (i : Nat) (hi : i < f.length) (b : Block),cleanF (f.set i b) + cleanN f[i].pages = cleanF f + cleanN b.pages
 | [],_,hi,_=>by simp at hi
 | x :: f,0,_,b=>by unfold cleanF;simp;omega
 | x :: f,i + 1,hi,b=>by
  have:=cleanF_set f i (by simpa using hi) b
  unfold cleanF at this ⊢
  simp only [List.set_cons_succ,List.map_cons,List.sum_cons,List.getElem_cons_succ] at this ⊢
  omega
theorem cleanF_le : ∀ (f : List Block),(∀ b ∈ f,cleanN b.pages ≤ 4) → cleanF f ≤ 4 * f.length
 | [],_=>by decide
 | x :: f,h=>by
  have:=cleanF_le f fun b hb=>h b (by simp [hb])
  have:=h x (by simp)
  unfold cleanF at *
  simp only [List.map_cons,List.sum_cons,List.length_cons]
  push_cast
  omega
theorem cleanN_one (p : Page) : cleanN [p] = if p.state = 0 then 1 else 0:=by
 show cleanStep 0 p = _
 unfold cleanStep;split <;> rfl
theorem write_block {f : List Block} (h : FlashOk f) {i : Nat} (hi : i < f.length) (hc : cleanN f[i].pages ≠ 0) {r : Rec} (hs : r.seq ∉ seqs f) :
  ∃ b',writeF f i r false = f.set i b' ∧ b'.worn = f[i].worn ∧ cleanN b'.pages + 1 = cleanN f[i].pages:=by
 have hbl:=h.blocks _ (List.getElem_mem hi)
 obtain ⟨f1,f2,f3,f4⟩:=blockB_free hbl
 have h4:=(blockB_iff.1 hbl).1
 have hu : seqUsed f r.seq = false:=by
  cases e : seqUsed f r.seq with
  | false=>rfl
  | true=>exact absurd (seqUsed_iff.1 e) hs
 unfold writeF writeOk
 rw [blockAt_get hi,hu,decide_eq_false hc]
 refine ⟨_,if_pos rfl,rfl,?_⟩
 have hk : 4 - (cleanN f[i].pages).toNat < f[i].pages.length:=by omega
 generalize hK : 4 - (cleanN f[i].pages).toNat = k at *
 have h0 : (f[i].pages[k]).state = 0:=f2 _ (by rw [List.drop_eq_getElem_cons hk];exact List.mem_cons_self)
 dsimp only
 rw [set_at _ _ hk,cleanN_append,show pageW r false :: f[i].pages.drop (k + 1) = [pageW r false] ++ f[i].pages.drop (k + 1) from rfl,cleanN_append,cleanN_one]
 have e2:=split_at f[i].pages k hk
 have e3 : cleanN f[i].pages = cleanN (f[i].pages.take k) + (1 + cleanN (f[i].pages.drop (k + 1))):=by
  conv=>lhs;rw [e2]
  rw [cleanN_append,show f[i].pages[k] :: f[i].pages.drop (k + 1) = [f[i].pages[k]] ++ f[i].pages.drop (k + 1) from rfl,cleanN_append,cleanN_one,if_pos h0]
 rw [e3]
 have : (pageW r false).state = 1:=rfl
 rw [if_neg (by rw [this];decide)]
 omega
theorem wrote_clean {f : List Block} (h : Ord f) {k a v : Int} (hne : writeSteps f k a v ≠ []) : cleanF (wroteF f k a v) + 1 = cleanF f + 4 * (if (openB f).2 then 0 else 1):=by
 obtain ⟨hc,hr,_⟩:=write_some hne
 have hR:=roomy h hc
 obtain ⟨b,hb,hb0⟩:=hR.opn.at_
 obtain ⟨hl,rfl⟩:=List.getElem?_eq_some_iff.1 hb
 obtain ⟨b',e,_,e2⟩:=write_block (r:=⟨k,next f,a,v⟩) hR.ord.ok hl hb0 (fun hs=>by have:=seq_next h.ok _ (hR.sub _ hs);dsimp only at this;omega)
 have e1 : cleanF (roomF f) = cleanF f + 4 * (if (openB f).2 then 0 else 1):=by
  by_cases ho : (openB f).2 = true
  ·rw [if_pos ho];unfold roomF;rw [if_pos ho];omega
  ·rw [if_neg ho]
   have ho' : (openB f).2 = false:=by simpa using ho
   have hol:=old4 h
   have:=cleanF_set f (old f) hol ⟨List.replicate 4 (blank (tornSt false)),(blockAt f (old f)).worn + 1⟩
   have h0:=openB_no h.ok ho' _ (List.getElem_mem hol)
   have h4 : cleanN (List.replicate 4 (blank (tornSt false))) = 4:=by decide
   unfold roomF
   rw [if_neg ho]
   unfold wipeF
   rw [if_neg (by have:=room_worn ho' hc;omega)]
   dsimp only at this
   omega
 unfold wroteF
 rw [e]
 have:=cleanF_set (roomF f) _ hl b'
 omega
theorem wrote_worn {f : List Block} (h : Ord f) {k a v : Int} (hne : writeSteps f k a v ≠ []) {m : Int} (hm : ∀ b ∈ f,b.worn ≤ m) : ∀ b ∈ wroteF f k a v,b.worn ≤ m + 1:=by
 obtain ⟨hc,hr,_⟩:=write_some hne
 have hR:=roomy h hc
 obtain ⟨b,hb,hb0⟩:=hR.opn.at_
 obtain ⟨hl,rfl⟩:=List.getElem?_eq_some_iff.1 hb
 obtain ⟨b',e,e1,e2⟩:=write_block (r:=⟨k,next f,a,v⟩) hR.ord.ok hl hb0 (fun hs=>by have:=seq_next h.ok _ (hR.sub _ hs);dsimp only at this;omega)
 have hroom : ∀ b ∈ roomF f,b.worn ≤ m + 1:=by
  unfold roomF
  split
  ·exact fun b hb=>by have:=hm b hb;omega
  ·unfold wipeF
   split
   ·exact fun b hb=>by have:=hm b hb;omega
   ·intro b hb
    rcases mem_set hb with hb | rfl
    ·have:=hm b hb;omega
    ·have:=hm _ (blockAt_mem (old4 h));dsimp only;omega
 unfold wroteF
 rw [e]
 intro b hb
 rcases mem_set hb with hb | rfl
 ·exact hroom b hb
 ·rw [e1];exact hroom _ (List.getElem_mem hl)
theorem cleanF_16 {s : Store} (h : storeOkB s = true) : cleanF s.flash ≤ 16:=by
 have ho:=(storeOk_iff.1 h).ord
 have:=cleanF_le s.flash fun b hb=>(blockB_free (ho.ok.blocks b hb)).2.2.2
 have:=ho.ok.len
 omega
end Go.Bu