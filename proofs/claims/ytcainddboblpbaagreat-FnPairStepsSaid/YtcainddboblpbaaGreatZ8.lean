/- Picking a number makes no memory; regions with a table in which numbers are picked. The draw of a pair and of what is put into it. How the program finds the next number, the open block and the eldest one: the reference's answers. The program's FindNext, FindLast, FindLive, FindOpen and FindOld. The program's FindOpen and FindOld. By which steps the program writes a record: stepsWrite, StepsPut, StepsFlush, StepsFill. The program's FlashWipe and FlashWrite: each leaves a flash of its own. The program's actions: what each closure does to a store, and the queue that holds them. What each of the program's closures does to a store. The program's queue of actions. -/import Derived.Test.YtcainddboblpbaaGreatZ7
import Derived.Test.YtcainddboblpbaaGreatZ5
import Derived.Test.YtcainddboblpbaaGreatZ6
set_option maxHeartbeats 2000000
set_option linter.unusedVariables false
set_option linter.unusedSimpArgs false
namespace Go.Bu
open Go Go.RowKit Go.Plan Go.Proofs
set_option maxHeartbeats 1000000 in
theorem pickn_c (R : Nat) (bv : Value) (xs : List Nat) (p : Nat) (m : Int) (w : World) (h : Rd w R bv xs p) (hp : p ≤ 1000000) (hm : m ≤ 1000000) :
  Calls Tryz.prog 36 #[.pointer (some ⟨R,0,none⟩),.int .i64 m] w (fun e w'=>∃ r : Int,e = .returned (.int .i64 r) ∧ 0 ≤ r ∧ (0 < m → r < m) ∧ Chg [R] w w' ∧ Rd w' R bv xs (p + 1) ∧ w'.heap.size = w.heap.size):=by
 have hRd : ∀ w',Ext (w.setCell ⟨R,1,none⟩ (.int .i64 ((p : Int) + 1))) w' ∧ w'.heap.size = (w.setCell ⟨R,1,none⟩ (.int .i64 ((p : Int) + 1))).heap.size → Chg [R] w w' ∧ Rd w' R bv xs (p + 1) ∧ w'.heap.size = w.heap.size:=fun w' hx=>⟨(h.next hx.1).1,(h.next hx.1).2,by rw [hx.2,setCell_size]⟩
 have HRD:=Lib.hid hRd;clear hRd
 obtain ⟨hR,hB,hS,hL⟩:=h
 obtain ⟨a,cap,rfl⟩:=hB.form
 have c0 : w.cell? ⟨R,0,none⟩ = some (.slice a xs.length cap):=by rw [cell_block hR];rfl
 have c1 : w.cell? ⟨R,1,none⟩ = some (.int .i64 p):=by rw [cell_block hR];rfl
 have f1:=frozen_block hR 1
 by_cases hm1 : m < 1
 ·go_enter Tryz.func36,Tryz.ntmps36
  set_option maxRecDepth 20000 in
  go_wp2_with fail
  go_ret
  exact ⟨0,rfl,by omega,by omega,HRD.out _ ⟨ext_refl _,rfl⟩⟩
 by_cases hl : xs.length = 0
 ·have hlb : (((xs.length : Nat) : Int) == 0) = true:=by simp [hl]
  clear hl
  go_enter Tryz.func36,Tryz.ntmps36
  set_option maxRecDepth 20000 in
  go_wp2_with fail
  go_ret
  exact ⟨0,rfl,by omega,fun h=>h,HRD.out _ ⟨ext_refl _,rfl⟩⟩
 have hlb : (((xs.length : Nat) : Int) == 0) = false:=by simp only [beq_eq_false_iff_ne];omega
 have hby0 : ∃ b o,a = some ⟨b,o,none⟩ ∧ b ≠ R ∧ ∀ (k : Nat) (hk : k < xs.length),w.cell? ⟨b,o + k,none⟩ = some (.int .u8 xs[k]):=by
  obtain ⟨b,o,ha,hb,_⟩:=Sl.at hB (k:=0) (by omega)
  refine ⟨b,o,ha,Nat.ne_of_lt hb,fun k hk=>?_⟩
  obtain ⟨b',o',ha',hb',hc'⟩:=Sl.at hB hk
  rw [ha] at ha'
  simp only [Option.some.injEq,Addr.mk.injEq] at ha'
  obtain ⟨rfl,rfl,-⟩:=ha'
  have:=hc' 0 _ rfl
  simpa using this
 obtain ⟨b,o,rfl,hbR,hby⟩:=hby0
 have HB:=Lib.hid hby;clear hby hB
 by_cases hpl : p < xs.length
 ·have hx:=HB.out p hpl
  have hxs:=hS _ (List.getElem_mem hpl)
  have HS:=Lib.hid hS;clear hS
  go_enter Tryz.func36,Tryz.ntmps36
  set_option maxRecDepth 20000 in
  go_wp2_with fail
  go_ret
  exact ⟨_,rfl,Int.emod_nonneg _ (by omega),fun h=>Int.emod_lt_of_pos _ h,HRD.out _ ⟨ext_refl _,rfl⟩⟩
 ·obtain ⟨n,hn⟩ : ∃ n,n = xs.length:=⟨_,rfl⟩
  obtain ⟨i1,hi1⟩ : ∃ i,i = p % xs.length:=⟨_,rfl⟩
  obtain ⟨i2,hi2⟩ : ∃ i,i = (p * 7 + 3) % xs.length:=⟨_,rfl⟩
  obtain ⟨q,hq⟩ : ∃ i,i = p / xs.length:=⟨_,rfl⟩
  have hl1 : i1 < xs.length:=by rw [hi1];exact Nat.mod_lt _ (by omega)
  have hl2 : i2 < xs.length:=by rw [hi2];exact Nat.mod_lt _ (by omega)
  have hqp : q ≤ p:=by rw [hq];exact Nat.div_le_self _ _
  have hx1:=HB.out i1 hl1
  have hx2:=HB.out i2 hl2
  have hs1:=hS _ (List.getElem_mem hl1)
  have hs2:=hS _ (List.getElem_mem hl2)
  have HS:=Lib.hid hS;clear hS
  have H1:=Lib.hid hi1;have H2:=Lib.hid hi2;have HQ:=Lib.hid hq
  clear hi1 hi2 hq
  have E1 : Hid ((p : Int).tmod (xs.length : Int) = (i1 : Int)):=Lib.hid (by rw [H1.out];simp [Int.tmod_eq_emod_of_nonneg])
  have E2 : Hid (((p : Int) * 7 + 3).tmod (xs.length : Int) = (i2 : Int)):=Lib.hid (by rw [H2.out,Int.tmod_eq_emod_of_nonneg (by omega)];simp)
  have E3 : Hid ((p : Int) / (xs.length : Int) = (q : Int)):=Lib.hid (by rw [HQ.out];simp)
  have C0 : (w.setCell ⟨R,1,none⟩ (.int .i64 ((p : Int) + 1))).cell? ⟨R,0,none⟩ = some (.slice (some ⟨b,o,none⟩) xs.length cap):=by rw [cell_block (setCell_block hR)];rfl
  have C1 : (w.setCell ⟨R,1,none⟩ (.int .i64 ((p : Int) + 1))).cell? ⟨b,o + i1,none⟩ = some (.int .u8 xs[i1]):=by rw [← hx1];unfold World.cell?;rw [setCell_other hbR]
  have C2 : (w.setCell ⟨R,1,none⟩ (.int .i64 ((p : Int) + 1))).cell? ⟨b,o + i2,none⟩ = some (.int .u8 xs[i2]):=by rw [← hx2];unfold World.cell?;rw [setCell_other hbR]
  go_enter Tryz.func36,Tryz.ntmps36
  set_option maxRecDepth 20000 in
  go_wp2_with fail
  refine wp_region_pure [0,1,2,3,4,5,6,7,8,9,10,11,12,13,14,15,16,17,18,19,20,21,22,23,24,25,26,27,28,29,30,31,32,33,34,35,36,37,38,39,40,41,42,43,44,45] (by kernel_rfl) (by kernel_rfl) ?_
  refine Rob.y (v:=?_) rfl rfl (fun w1 hx hH=>?_) ?_;rotate_left
  ·go_simp;first | done | rfl | exact (Bool.not_not _).symm
  simp only [Act.put,slA,slB,slC]
  refine Rob.y (v:=?_) rfl rfl (fun w1 hx hH=>?_) ?_;rotate_left
  ·(have d0:=cell_ext hx.1 C0;have d1:=cell_ext hx.1 C1;have d2:=cell_ext hx.1 C2);go_simp;first | done | rfl
  simp only [Act.put,slA,slB,slC]
  refine Rob.y (v:=?_) rfl rfl (fun w1 hx hH=>?_) ?_;rotate_left
  ·go_simp;first | done | rfl | exact (Bool.not_not _).symm
  simp only [Act.put,slA,slB,slC]
  refine Rob.y (v:=?_) rfl rfl (fun w1 hx hH=>?_) ?_;rotate_left
  ·(have d0:=cell_ext hx.1 C0;have d1:=cell_ext hx.1 C1;have d2:=cell_ext hx.1 C2);go_simp;first | done | rfl
  simp only [Act.put,slA,slB,slC]
  iterate 2
   refine Rob.y (v:=?_) rfl rfl (fun w1 hx hH=>?_) ?_;rotate_left
   ·go_simp;first | done | rfl | exact (Bool.not_not _).symm
   simp only [Act.put,slA,slB,slC]
  refine Rob.y (v:=?_) rfl rfl (fun w1 hx hH=>?_) ?_;rotate_left
  ·(have d0:=cell_ext hx.1 C0;have d1:=cell_ext hx.1 C1;have d2:=cell_ext hx.1 C2);go_simp;first | done | rfl
  simp only [Act.put,slA,slB,slC]
  refine Rob.y (v:=?_) rfl rfl (fun w1 hx hH=>?_) ?_;rotate_left
  ·go_simp;first | done | rfl | exact (Bool.not_not _).symm
  simp only [Act.put,slA,slB,slC]
  refine Rob.y (v:=?_) rfl rfl (fun w1 hx hH=>?_) ?_;rotate_left
  ·(have d0:=cell_ext hx.1 C0;have d1:=cell_ext hx.1 C1;have d2:=cell_ext hx.1 C2);go_simp;first | done | rfl
  simp only [Act.put,slA,slB,slC]
  refine Rob.y (v:=?_) rfl rfl (fun w1 hx hH=>?_) ?_;rotate_left
  ·go_simp;first | done | rfl | exact (Bool.not_not _).symm
  simp only [Act.put,slA,slB,slC]
  refine Rob.y (v:=.int .i64 (i1 : Int)) rfl rfl (fun w1 hx hH=>?_) ?_
  ·(go_simp;rw [E1.out])
  simp only [Act.put,slA,slB,slC]
  iterate 2
   refine Rob.y (v:=?_) rfl rfl (fun w1 hx hH=>?_) ?_;rotate_left
   ·(have d0:=cell_ext hx.1 C0;have d1:=cell_ext hx.1 C1;have d2:=cell_ext hx.1 C2);go_simp;first | done | rfl
   simp only [Act.put,slA,slB,slC]
  refine Rob.y (v:=.int .i64 (xs[i1] : Int)) rfl rfl (fun w1 hx hH=>?_) ?_
  ·(go_simp;rw [IntKind.wrap_i64];omega)
  simp only [Act.put,slA,slB,slC]
  refine Rob.y (v:=.int .i64 ((xs[i1] * 131 : Nat) : Int)) rfl rfl (fun w1 hx hH=>?_) ?_
  ·(go_simp;rw [IntKind.wrap_i64];omega)
  simp only [Act.put,slA,slB,slC]
  refine Rob.y (v:=?_) rfl rfl (fun w1 hx hH=>?_) ?_;rotate_left
  ·go_simp;first | done | rfl | exact (Bool.not_not _).symm
  simp only [Act.put,slA,slB,slC]
  refine Rob.y (v:=?_) rfl rfl (fun w1 hx hH=>?_) ?_;rotate_left
  ·(have d0:=cell_ext hx.1 C0;have d1:=cell_ext hx.1 C1;have d2:=cell_ext hx.1 C2);go_simp;first | done | rfl
  simp only [Act.put,slA,slB,slC]
  refine Rob.y (v:=?_) rfl rfl (fun w1 hx hH=>?_) ?_;rotate_left
  ·go_simp;first | done | rfl | exact (Bool.not_not _).symm
  simp only [Act.put,slA,slB,slC]
  refine Rob.y (v:=?_) rfl rfl (fun w1 hx hH=>?_) ?_;rotate_left
  ·(have d0:=cell_ext hx.1 C0;have d1:=cell_ext hx.1 C1;have d2:=cell_ext hx.1 C2);go_simp;first | done | rfl
  simp only [Act.put,slA,slB,slC]
  refine Rob.y (v:=?_) rfl rfl (fun w1 hx hH=>?_) ?_;rotate_left
  ·go_simp;first | done | rfl | exact (Bool.not_not _).symm
  simp only [Act.put,slA,slB,slC]
  refine Rob.y (v:=.int .i64 ((p * 7 : Nat) : Int)) rfl rfl (fun w1 hx hH=>?_) ?_
  ·(go_simp;rw [IntKind.wrap_i64];omega)
  simp only [Act.put,slA,slB,slC]
  refine Rob.y (v:=.int .i64 ((p * 7 + 3 : Nat) : Int)) rfl rfl (fun w1 hx hH=>?_) ?_
  ·(go_simp;rw [IntKind.wrap_i64];omega)
  simp only [Act.put,slA,slB,slC]
  refine Rob.y (v:=?_) rfl rfl (fun w1 hx hH=>?_) ?_;rotate_left
  ·go_simp;first | done | rfl | exact (Bool.not_not _).symm
  simp only [Act.put,slA,slB,slC]
  refine Rob.y (v:=?_) rfl rfl (fun w1 hx hH=>?_) ?_;rotate_left
  ·(have d0:=cell_ext hx.1 C0;have d1:=cell_ext hx.1 C1;have d2:=cell_ext hx.1 C2);go_simp;first | done | rfl
  simp only [Act.put,slA,slB,slC]
  refine Rob.y (v:=?_) rfl rfl (fun w1 hx hH=>?_) ?_;rotate_left
  ·go_simp;first | done | rfl | exact (Bool.not_not _).symm
  simp only [Act.put,slA,slB,slC]
  refine Rob.y (v:=?_) rfl rfl (fun w1 hx hH=>?_) ?_;rotate_left
  ·(have d0:=cell_ext hx.1 C0;have d1:=cell_ext hx.1 C1;have d2:=cell_ext hx.1 C2);go_simp;first | done | rfl
  simp only [Act.put,slA,slB,slC]
  refine Rob.y (v:=?_) rfl rfl (fun w1 hx hH=>?_) ?_;rotate_left
  ·go_simp;first | done | rfl | exact (Bool.not_not _).symm
  simp only [Act.put,slA,slB,slC]
  refine Rob.y (v:=.int .i64 (i2 : Int)) rfl rfl (fun w1 hx hH=>?_) ?_
  ·(go_simp;rw [E2.out])
  simp only [Act.put,slA,slB,slC]
  iterate 2
   refine Rob.y (v:=?_) rfl rfl (fun w1 hx hH=>?_) ?_;rotate_left
   ·(have d0:=cell_ext hx.1 C0;have d1:=cell_ext hx.1 C1;have d2:=cell_ext hx.1 C2);go_simp;first | done | rfl
   simp only [Act.put,slA,slB,slC]
  refine Rob.y (v:=.int .i64 (xs[i2] : Int)) rfl rfl (fun w1 hx hH=>?_) ?_
  ·(go_simp;rw [IntKind.wrap_i64];omega)
  simp only [Act.put,slA,slB,slC]
  refine Rob.y (v:=.int .i64 ((xs[i2] * 1117 : Nat) : Int)) rfl rfl (fun w1 hx hH=>?_) ?_
  ·(go_simp;rw [IntKind.wrap_i64];omega)
  simp only [Act.put,slA,slB,slC]
  refine Rob.y (v:=.int .i64 ((xs[i1] * 131 + xs[i2] * 1117 : Nat) : Int)) rfl rfl (fun w1 hx hH=>?_) ?_
  ·(go_simp;rw [IntKind.wrap_i64];omega)
  simp only [Act.put,slA,slB,slC]
  refine Rob.y (v:=?_) rfl rfl (fun w1 hx hH=>?_) ?_;rotate_left
  ·go_simp;first | done | rfl | exact (Bool.not_not _).symm
  simp only [Act.put,slA,slB,slC]
  refine Rob.y (v:=.int .i64 ((p * 29 : Nat) : Int)) rfl rfl (fun w1 hx hH=>?_) ?_
  ·(go_simp;rw [IntKind.wrap_i64];omega)
  simp only [Act.put,slA,slB,slC]
  refine Rob.y (v:=.int .i64 ((xs[i1] * 131 + xs[i2] * 1117 + p * 29 : Nat) : Int)) rfl rfl (fun w1 hx hH=>?_) ?_
  ·(go_simp;rw [IntKind.wrap_i64];omega)
  simp only [Act.put,slA,slB,slC]
  iterate 2
   refine Rob.y (v:=?_) rfl rfl (fun w1 hx hH=>?_) ?_;rotate_left
   ·go_simp;first | done | rfl | exact (Bool.not_not _).symm
   simp only [Act.put,slA,slB,slC]
  refine Rob.y (v:=?_) rfl rfl (fun w1 hx hH=>?_) ?_;rotate_left
  ·(have d0:=cell_ext hx.1 C0;have d1:=cell_ext hx.1 C1;have d2:=cell_ext hx.1 C2);go_simp;first | done | rfl
  simp only [Act.put,slA,slB,slC]
  refine Rob.y (v:=?_) rfl rfl (fun w1 hx hH=>?_) ?_;rotate_left
  ·go_simp;first | done | rfl | exact (Bool.not_not _).symm
  simp only [Act.put,slA,slB,slC]
  refine Rob.y (v:=?_) rfl rfl (fun w1 hx hH=>?_) ?_;rotate_left
  ·(have d0:=cell_ext hx.1 C0;have d1:=cell_ext hx.1 C1;have d2:=cell_ext hx.1 C2);go_simp;first | done | rfl
  simp only [Act.put,slA,slB,slC]
  refine Rob.y (v:=?_) rfl rfl (fun w1 hx hH=>?_) ?_;rotate_left
  ·go_simp;first | done | rfl | exact (Bool.not_not _).symm
  simp only [Act.put,slA,slB,slC]
  refine Rob.y (v:=.int .i64 (q : Int)) rfl rfl (fun w1 hx hH=>?_) ?_
  ·(go_simp;rw [E3.out,IntKind.wrap_i64];omega)
  simp only [Act.put,slA,slB,slC]
  refine Rob.y (v:=.int .i64 ((q * 53 : Nat) : Int)) rfl rfl (fun w1 hx hH=>?_) ?_
  ·(go_simp;rw [IntKind.wrap_i64];omega)
  simp only [Act.put,slA,slB,slC]
  refine Rob.y (v:=.int .i64 ((xs[i1] * 131 + xs[i2] * 1117 + p * 29 + q * 53 : Nat) : Int)) rfl rfl (fun w1 hx hH=>?_) ?_
  ·(go_simp;rw [IntKind.wrap_i64];omega)
  simp only [Act.put,slA,slB,slC]
  refine Rob.y (v:=?_) rfl rfl (fun w1 hx hH=>?_) ?_;rotate_left
  ·go_simp;first | done | rfl | exact (Bool.not_not _).symm
  simp only [Act.put,slA,slB,slC]
  refine fin_nil (fun w1 hx1 _=>?_)
  obtain ⟨t,ht⟩ : ∃ t,t = xs[i1] * 131 + xs[i2] * 1117 + p * 29 + q * 53:=⟨_,rfl⟩
  have ht1 : t < 4611686018427387904:=by omega
  have htz : ((xs[i1] : Int) * 131 + (xs[i2] : Int) * 1117 + (p : Int) * 29 + (q : Int) * 53) = (t : Int):=by omega
  have hxr : bits .xor .i64 ((xs[i1] : Int) * 131 + (xs[i2] : Int) * 1117 + (p : Int) * 29 + (q : Int) * 53) (((xs[i1] : Int) * 131 + (xs[i2] : Int) * 1117 + (p : Int) * 29 + (q : Int) * 53) / 64) = ((t ^^^ (t / 64) : Nat) : Int):=by
   rw [htz,show ((t : Int) / 64) = ((t / 64 : Nat) : Int) by omega,xor_i64_nat _ _ ht1 (by omega)]
  clear htz
  have HT:=Lib.hid ht;clear ht
  go_wp2
  go_ret
  refine ⟨_,rfl,?_,fun h=>?_,HRD.out _ hx1⟩
  ·exact Int.emod_nonneg _ (by omega)
  ·exact Int.emod_lt_of_pos _ h
theorem pick_n (R : Nat) {K : Nat} (m : Int) (w : World) (h : Rk w R (K + 1)) (hm : m ≤ 1000:=by omega) : Calls Tryz.prog 36 #[.pointer (some ⟨R,0,none⟩),.int .i64 m] w (fun e w'=>Pick R K m w e w' ∧ w'.heap.size = w.heap.size):=by
 obtain ⟨bv,xs,p,h,hp⟩:=h
 exact (pickn_c R bv xs p m w h (by omega) (by omega)).mono fun e w' ⟨r,he,h0,h1,hc,hr,hs⟩=>⟨⟨r,he,h0,h1,hc,bv,xs,p + 1,hr,by omega⟩,hs⟩
section
variable {P : Program} {l : List Oper} {Q : Exit → Act → World → Prop} {ch L heads : List Nat} {tab B0 B T n : Nat} {obj : Obj} {a : Act} {fin : (World → Prop) → Act → Prop} {R K : Nat} {W : World}
theorem pick_runT {m : Int} {w w' : World} {e : Ending} (h : Pick R K m w e w' ∧ w'.heap.size = w.heap.size) : ∃ v,e = .returned v ∧ (DrawR R K w (PickΦ m) v w' ∧ w'.heap.size = w.heap.size):=by
 obtain ⟨h,hs⟩:=h
 obtain ⟨v,h1,h2⟩:=h.run
 exact ⟨v,h1,h2,hs⟩
def CellB (B T n : Nat) (w : World) : Prop:=∃ c,w.heap[B]? = some (.cells c T (0,0)) ∧ c.size = n
theorem wp_region_tabrd (hk : Rk W R K) {c : Array Value} (hB : W.heap[B]? = some (.cells c T (0,0))) (tab : Nat) (obj : Obj) (val : Nat → Value) (ch heads : List Nat) {id : Nat} {a : Act} (hm : P.follows .mixedOrders = true)
  (hok : okPlanM l ch (tab :: heads) [] [] [] = true) (hct : ch.contains tab = false)
  (htab : ∃ o,l[tab]? = some o ∧ o.guard = none ∧ ∀ (a : Act) (w : World),(execOp a.eval o).run P w = .ok (.value (val w.heap.size)) (w.alloc obj))
  (h : RobT P l ch tab W.heap.size obj (FinT P l Q W.heap.size obj) heads (Chg [R,B] W) (fun w=>Rk w R K ∧ CellB B T c.size w) (a.put (dstOf l tab) (val W.heap.size))) : (Code.region id l.toArray true).wp P Q a W:=
 wp_region_tab tab obj val ch heads hm hok hct htab _ (Chg.of_ext (ext_drew W)) (fun _ _ h1 h2=>h1.trans (Chg.of_ext h2)) _ ⟨hk.ext (ext_drew W),c,keep_ext (ext_drew W) hB,rfl⟩ (fun _ _ h1 h2=>⟨h1.1.ext h2,h1.2.imp fun c h=>⟨keep_ext h2 h.1,h.2⟩⟩) h
theorem RobT.pick {i : Nat} {o : Oper} {m : Int} (ho : l[i]? = some o) (hc : ch.contains i = true) (hg : Region.wanted o (yielded l.toArray a.tmps) = true) (hR : R < B0) (hRB : R ≠ B)
  (hrun : ∀ w1,Chg [R,B] W w1 → Rk w1 R (K + 1) → RunTo P o a.eval w1 (fun v w'=>DrawR R K w1 (PickΦ m) v w' ∧ w'.heap.size = w1.heap.size))
  (h : ∀ r : Int,0 ≤ r → (0 < m → r < m) → RobT P l ch tab B0 obj fin L (Chg [R,B] W) (fun w=>Rk w R K ∧ CellB B T n w) (a.put o.dst (.int .i64 r))) :
  RobT P l ch tab B0 obj fin (i :: L) (Chg [R,B] W) (fun w=>Rk w R (K + 1) ∧ CellB B T n w) a:=by
 refine RobT.w (PickΦ m) (fun w=>Rk w R K ∧ CellB B T n w) ho hc hg (fun _ _ h1 h2=>⟨h1.1.ext h2,h1.2.imp fun c h=>⟨keep_ext h2 h.1,h.2⟩⟩) (fun w1 hs hcw hh=>?_) fun v ⟨r,hv,h0,h1⟩=>hv ▸ h r h0 h1
 have hfin : ∀ v w',DrawR R K w1 (PickΦ m) v w' ∧ w'.heap.size = w1.heap.size → w'.heap.size = w1.heap.size ∧ (B0 < w1.heap.size → w'.heap[B0]? = w1.heap[B0]?) ∧ Chg [R,B] W w' ∧ PickΦ m v ∧ (Rk w' R K ∧ CellB B T n w'):=fun v w' ⟨⟨h1,h2,h3⟩,h4⟩ =>
  ⟨h4,fun hl=>h1.block B0 hl (by simp;omega),hs.trans (h1.mono (by simp)),h3,h2,hcw.2.imp fun c h=>⟨by rw [h1.block B (heap_lt h.1) (by simpa using Ne.symm hRB)];exact h.1,h.2⟩⟩
 have:=hrun w1 hs hcw.1
 unfold RunTo at *
 revert this
 generalize (execOp a.eval o).run P w1 = r
 cases r with
 | ok nx w' =>
  cases nx <;> intro this
  case value v=>exact hfin _ _ this
  case skip=>exact hfin _ _ this
  case enter f args=>exact Calls.mono this fun e w'' ⟨v,he,h1⟩=>⟨v,he,hfin _ _ h1⟩
  case row row args=>exact Rows.mono this fun v w'' h1=>hfin _ _ h1
  all_goals exact this
 | halt x w'=>exact fun h=>h
theorem RobT.st {i : Nat} {o : Oper} {ty : TypeId} {x y : Operand} {cells : Array Value} (ho : l[i]? = some o) (hc : ch.contains i = true) (hg : Region.wanted o (yielded l.toArray a.tmps) = true)
  (hop : o.op = .store ty x y) (hx : a.eval x = .pointer (some ⟨B,0,none⟩)) (hy : a.eval y = .agg cells) (hi : (P.info? ty).map (·.size) = some cells.size) (h1 : cells.all (·.oneCell') = true) (hn : cells.size = n) (hB : B < B0) (hRB : R ≠ B)
  (h : RobT P l ch tab B0 obj fin L (Chg [R,B] W) (fun w=>w.heap[B]? = some (.cells cells T (0,0))) (a.put o.dst undef)) :
  RobT P l ch tab B0 obj fin (i :: L) (Chg [R,B] W) (fun w=>Rk w R K ∧ CellB B T n w) a:=by
 refine RobT.w (fun v=>v = undef) (fun w=>w.heap[B]? = some (.cells cells T (0,0))) ho hc hg (fun _ _ h1 h2=>keep_ext h2 h1) (fun w1 hs hcw hh=>?_) fun v hv=>hv ▸ h
 obtain ⟨hK,c,hb,hcs⟩:=hcw
 have hth : w1.there B 0 cells.size:=fun j hj=>by
  rw [Nat.zero_add,cell_block hb,frozen_block hb,Array.getElem?_eq_getElem (by omega)];exact ⟨rfl,rfl⟩
 unfold RunTo execOp
 simp only [hop,hx,hy,Sem.run_bind,Sem.run_pure,run_storeAt_mid w1 B 0 ty cells hth hi h1,Result.andThen_ok]
 obtain ⟨c',g1,g2,g3⟩:=setAll_block cells.toList w1 0 c hb (by simp;omega)
 have hcc : c' = cells:=by
  apply Array.ext_getElem?
  intro j
  rw [g3 j,if_pos (Nat.zero_le _)];simp
 have hs2 : (w1.setCells B 0 cells.toList).heap[B]? = some (.cells cells T (0,0)):=by subst hcc;exact g1
 have hbl:=setAll_below B 0 (Nat.zero_le _) cells.toList w1 0
 have hC8 : Chg [B] w1 (w1.setCells B 0 cells.toList):=⟨hbl.os,hbl.tape,hbl.output,hbl.size,fun k hk hn=>setAll_other B (by simpa using hn) _ _ _⟩
 refine ⟨setAll_size _ _ _ _,fun hl=>hC8.block B0 hl (by simp;omega),hs.trans (hC8.mono (by simp)),?_,hs2⟩
 first | rfl | trivial
end
end Go.Bu
namespace Go.Bu
open Go Go.RowKit Go.Plan Go.Proofs
theorem tab_bound (r : Int) (h0 : 0 ≤ r) (h1 : r < 7) : ∃ tv : Int,([0,1,2,3,5,20,20] : List Int).getD r.toNat 0 = tv ∧ 0 ≤ tv ∧ tv ≤ 20:=by
 rcases (show r = 0 ∨ r = 1 ∨ r = 2 ∨ r = 3 ∨ r = 4 ∨ r = 5 ∨ r = 6 by omega) with rfl | rfl | rfl | rfl | rfl | rfl | rfl <;> exact ⟨_,rfl,by decide,by decide⟩
set_option maxRecDepth 20000 in
set_option maxHeartbeats 4000000 in
theorem drawPairPut_c (v : Value) (xs : List Nat) (w : World) (h : Bytes (Old w) w v xs) (hs : ∀ x ∈ xs,x < 256) (hn : xs.length ≤ 1048576) (hcap : ∀ a n c,v = .slice a n c → n ≤ c) :
  Calls Tryz.prog 10 #[v] w (DrawnP w fun v u=>∃ (addr val cut : Int) (torn : Bool),1 ≤ addr ∧ addr ≤ 12 ∧ 0 ≤ val ∧ val ≤ 19 ∧ -21 ≤ cut ∧ cut ≤ 20 ∧ u = .tuple #[v,.int .i64 addr,.int .i64 val,.int .i64 cut,.bool torn]):=by
 have HB:=Lib.hid h
 go_enter Tryz.func10,Tryz.ntmps10
 go_wp2_with fail
 refine (l6Open_c v xs _ (HB.out.ext (ext_alloc (ext_refl _) _)) hs hn hcap).mono ?_;rintro e1 w1 ⟨R,bv,ys,rfl,hRw,hx1,hr⟩
 have hR:=hr.lt
 have HK : Rk w1 R (100 + (420 + 1 + 1 + 57 * 7) + 1 + 8 * 36 + 1):=⟨bv,ys,0,hr,by omega⟩
 have G2:=keep_ext hx1 (hg_new (b:=w.heap.size) rfl)
 have X1:=ext_trans (ext_alloc (ext_refl w) _) hx1
 have sR : w.heap.size < R:=by simp at hRw;omega
 clear hx1 hr HB
 go_wp2_with fail
 refine (l72Pair_c R 100 _ HK).mono ?_;rintro e2 w2 ⟨v2,rfl,C,HK2,HP⟩
 replace G2:=C.keep G2 (by simp;omega)
 have X2 : Ext w w2:=C.ext X1 (by simp;omega)
 clear HK
 obtain ⟨p,hp⟩:=HP.r
 obtain ⟨a,n,c,b,m,k,a',n',c',b',m',k',rfl⟩:=hp.forms
 have l2:=heap_lt G2
 go_wp2_with fail
 have HK8:=HK2.alloc2 (o:=.cells #[.slice a n c,.slice b m k,.slice a' n' c',.slice b' m' k',.int .i64 p.lost] 28)
 have G8:=hg_new (w:=w2) (x:=.cells #[.slice a n c,.slice b m k,.slice a' n' c',.slice b' m' k',.int .i64 p.lost] 28) (b:=w2.heap.size) rfl
 replace G2:=hg_alloc (x:=.cells #[.slice a n c,.slice b m k,.slice a' n' c',.slice b' m' k',.int .i64 p.lost] 28) G2
 have X8:=ext_alloc X2 (.cells #[.slice a n c,.slice b m k,.slice a' n' c',.slice b' m' k',.int .i64 p.lost] 28)
 have HD:=HP.chg (Chg.alloc (Chg.refl [] _) (.cells #[.slice a n c,.slice b m k,.slice a' n' c',.slice b' m' k',.int .i64 p.lost] 28)) (by simp)
 have l8:=heap_lt G8
 have s1:=C.size
 clear C HK2 HP hp X2
 generalize w2.alloc (.cells #[.slice a n c,.slice b m k,.slice a' n' c',.slice b' m' k',.int .i64 p.lost] 28) = w8 at *
 have hne : R ≠ w.heap.size:=by omega
 have hR8 : R < w8.heap.size:=by omega
 have hb8 : w.heap.size < w8.heap.size:=by omega
 have HDD:=Lib.hid HD
 clear HD
 refine wp_region_tabrd (K:=93 + 1 + 1 + 1 + 1 + 1 + 1 + 1) HK8 G2 16 (.cells #[.int .i64 0,.int .i64 1,.int .i64 2,.int .i64 3,.int .i64 5,.int .i64 20,.int .i64 20] 3) (fun b=>.slice (some ⟨b,0,none⟩) 7 7) [2,5,10,12,18,22,27,29] [0,1,4,9,11,17,21,26,2,3,5,6,7,8,10,12,13,14,15,18,19,20,22,23,24,25,27,28,29,30,31,32,33] (by kernel_rfl) (by kernel_rfl) (by kernel_rfl) ⟨_,rfl,rfl,fun a w=>?tab⟩ ?_
 case tab=>go_simp
 simp only [dstOf,List.getElem?_cons_succ,List.getElem?_cons_zero,Option.bind_some,Act.put,slA,slB,slC]
 refine RobT.y (v:=?_) rfl rfl (fun w1 hx hT=>?_) ?_;rotate_left
 ·(obtain ⟨z8,zf8⟩:=cellsK (hx.keep G8 (by simp;omega)));go_simp;first | done | rfl
 simp only [Act.put,slA,slB,slC]
 iterate 7
  refine RobT.y (v:=?_) rfl rfl (fun w1 hx hT=>?_) ?_;rotate_left
  ·go_simp;first | done | rfl | exact (Bool.not_not _).symm
  simp only [Act.put,slA,slB,slC]
 refine RobT.pick (m:=6) rfl rfl rfl (by omega) (by omega) (fun w1 hx HK=>?_) (fun r2 hrl2 hru2=>?_)
 ·unfold RunTo;go_simp;exact (pick_n R _ _ HK).mono fun e w' h=>pick_runT h
 simp only [Act.put,slA,slB,slC]
 have b2:=hru2 (by omega)
 refine RobT.y (v:=?_) rfl rfl (fun w1 hx hT=>?_) ?_;rotate_left
 ·go_simp;first | done | rfl | exact (Bool.not_not _).symm
 simp only [Act.put,slA,slB,slC]
 refine RobT.pick (m:=24) rfl rfl rfl (by omega) (by omega) (fun w1 hx HK=>?_) (fun r5 hrl5 hru5=>?_)
 ·unfold RunTo;go_simp;exact (pick_n R _ _ HK).mono fun e w' h=>pick_runT h
 simp only [Act.put,slA,slB,slC]
 have b5:=hru5 (by omega)
 refine RobT.y (v:=?_) rfl rfl (fun w1 hx hT=>?_) ?_;rotate_left
 ·go_simp;first | done | rfl | exact (Bool.not_not _).symm
 simp only [Act.put,slA,slB,slC]
 iterate 2
  refine RobT.y (v:=?_) rfl rfl (fun w1 hx hT=>?_) ?_;rotate_left
  ·go_simp;first | done | rfl | exact (Bool.not_not _).symm
  simp only [Act.put,slA,slB,slC]
 refine RobT.pick (m:=10) rfl rfl rfl (by omega) (by omega) (fun w1 hx HK=>?_) (fun r10 hrl10 hru10=>?_)
 ·unfold RunTo;go_simp;exact (pick_n R _ _ HK).mono fun e w' h=>pick_runT h
 simp only [Act.put,slA,slB,slC]
 have b10:=hru10 (by omega)
 refine RobT.pick (m:=24) rfl rfl rfl (by omega) (by omega) (fun w1 hx HK=>?_) (fun r12 hrl12 hru12=>?_)
 ·unfold RunTo;go_simp;exact (pick_n R _ _ HK).mono fun e w' h=>pick_runT h
 simp only [Act.put,slA,slB,slC]
 have b12:=hru12 (by omega)
 refine RobT.y (v:=?_) rfl rfl (fun w1 hx hT=>?_) ?_;rotate_left
 ·go_simp;first | done | rfl | exact (Bool.not_not _).symm
 simp only [Act.put,slA,slB,slC]
 iterate 2
  refine RobT.y (v:=?_) rfl rfl (fun w1 hx hT=>?_) ?_;rotate_left
  ·go_simp;first | done | rfl | exact (Bool.not_not _).symm
  simp only [Act.put,slA,slB,slC]
 refine RobT.pick (m:=7) rfl rfl rfl (by omega) (by omega) (fun w1 hx HK=>?_) (fun r18 hrl18 hru18=>?_)
 ·unfold RunTo;go_simp;exact (pick_n R _ _ HK).mono fun e w' h=>pick_runT h
 simp only [Act.put,slA,slB,slC]
 obtain ⟨tv,htv,tv0,tv1⟩:=tab_bound r18 hrl18 (hru18 (by omega))
 refine RobT.y (v:=?_) rfl rfl (fun w1 hx hT=>?_) ?_;rotate_left
 ·(obtain ⟨z8,zf8⟩:=cellsK (hx.keep G8 (by simp;omega)));go_simp;first | done | rfl
 simp only [Act.put,slA,slB,slC]
 refine RobT.y (v:=.int .i64 tv) rfl rfl (fun w1 hx hT=>?_) ?_
 ·rw [← htv];have hb:=hru18 (by omega);obtain ⟨y8,yf8⟩:=cellsK (hT (by kernel_rfl));rcases (show r18 = 0 ∨ r18 = 1 ∨ r18 = 2 ∨ r18 = 3 ∨ r18 = 4 ∨ r18 = 5 ∨ r18 = 6 by omega) with rfl | rfl | rfl | rfl | rfl | rfl | rfl <;> go_simp <;> (first | done | rfl)
 simp only [Act.put,slA,slB,slC]
 refine RobT.pick (m:=24) rfl rfl rfl (by omega) (by omega) (fun w1 hx HK=>?_) (fun r22 hrl22 hru22=>?_)
 ·unfold RunTo;go_simp;exact (pick_n R _ _ HK).mono fun e w' h=>pick_runT h
 simp only [Act.put,slA,slB,slC]
 have b22:=hru22 (by omega)
 refine RobT.y (v:=?_) rfl rfl (fun w1 hx hT=>?_) ?_;rotate_left
 ·go_simp;first | done | rfl | exact (Bool.not_not _).symm
 simp only [Act.put,slA,slB,slC]
 iterate 2
  refine RobT.y (v:=?_) rfl rfl (fun w1 hx hT=>?_) ?_;rotate_left
  ·go_simp;first | done | rfl | exact (Bool.not_not _).symm
  simp only [Act.put,slA,slB,slC]
 refine RobT.pick (m:=2) rfl rfl rfl (by omega) (by omega) (fun w1 hx HK=>?_) (fun r27 hrl27 hru27=>?_)
 ·unfold RunTo;go_simp;exact (pick_n R _ _ HK).mono fun e w' h=>pick_runT h
 simp only [Act.put,slA,slB,slC]
 refine RobT.y (v:=?_) rfl rfl (fun w1 hx hT=>?_) ?_;rotate_left
 ·go_simp;first | done | rfl | exact (Bool.not_not _).symm
 simp only [Act.put,slA,slB,slC]
 refine RobT.st rfl rfl rfl rfl rfl rfl (by kernel_rfl) (by kernel_rfl) rfl (by omega) (by omega) ?_
 simp only [Act.put,slA,slB,slC]
 iterate 4
  refine RobT.y (v:=?_) rfl rfl (fun w1 hx hT=>?_) ?_;rotate_left
  ·go_simp;first | done | rfl | exact (Bool.not_not _).symm
  simp only [Act.put,slA,slB,slC]
 rintro w9 ⟨hx9,G9⟩ -
 have X9 : Ext w w9:=hx9.ext X8 (by simp;omega)
 have HD9:=HDD.out.chg hx9 (by simp;omega)
 obtain ⟨q,hq⟩:=HD9.r
 obtain ⟨g2,gf2⟩:=cellsK G9
 have e1 : IntKind.i64.wrap (IntKind.i64.wrap (1 + r2) + IntKind.i64.wrap (IntKind.i64.wrap (r5.tdiv 23) * 6)) = 1 + r2 + r5 / 23 * 6:=by rw [Int.tdiv_eq_ediv_of_nonneg hrl5];simp only [IntKind.wrap_i64];omega
 have e2 : IntKind.i64.wrap (r10 + IntKind.i64.wrap (IntKind.i64.wrap (r12.tdiv 23) * 10)) = r10 + r12 / 23 * 10:=by rw [Int.tdiv_eq_ediv_of_nonneg hrl12];simp only [IntKind.wrap_i64];omega
 have e3 : IntKind.i64.wrap (tv - IntKind.i64.wrap (IntKind.i64.wrap (r22.tdiv 23) * 21)) = tv - r22 / 23 * 21:=by rw [Int.tdiv_eq_ediv_of_nonneg hrl22];simp only [IntKind.wrap_i64];omega
 rw [e1,e2,e3]
 go_wp2_with fail
 exact bodyPost_ret (v:=.tuple #[.agg #[.slice a n c,.slice b m k,.slice a' n' c',.slice b' m' k',.int .i64 p.lost],.int .i64 (1 + r2 + r5 / 23 * 6),.int .i64 (r10 + r12 / 23 * 10),.int .i64 (tv - r22 / 23 * 21),.bool (r27 == 0)]) (by simp [results,Tryz.results10,go_sem,g2,gf2]) rfl ⟨_,_,q,rfl,X9,hq,1 + r2 + r5 / 23 * 6,r10 + r12 / 23 * 10,tv - r22 / 23 * 21,r27 == 0,by omega,by omega,by omega,by omega,by omega,by omega,rfl⟩
end Go.Bu
namespace Go.Bu
open Go
def nextPg (n : Int) (p : Page) : Int:=if p.state = 1 then (if n < p.r.seq then p.r.seq else n) else n
def nextL (xs : List Spot) : Int:=xs.foldl (fun n x=>nextPg n x.2.2) 0
theorem nextL_snoc (xs : List Spot) (x : Spot) : nextL (xs ++ [x]) = nextPg (nextL xs) x.2.2:=by unfold nextL;rw [List.foldl_append];rfl
theorem nextFold : ∀ (ps : List Page) (n : Int),(∀ p ∈ ps,pageOkB p = true) → 0 ≤ n → ps.foldl nextPg n = (if n < most ps then most ps else n) ∧ 0 ≤ ps.foldl nextPg n:=by
 have key : ∀ (ps : List Page) (n : Int),(∀ p ∈ ps,pageOkB p = true) → 0 ≤ n → ps.foldl nextPg n = ps.foldl mostStep n ∧ n ≤ ps.foldl mostStep n:=by
  intro ps
  induction ps with
  | nil=>exact fun n _ _=>⟨rfl,Int.le_refl _⟩
  | cons p ps ih =>
   intro n h hn
   have h1:=pageOk_one (h p (by simp))
   have e : nextPg n p = mostStep n p:=by
    unfold nextPg mostStep
    by_cases hs : p.state = 1
    ·rw [if_pos hs]
    ·rw [if_neg hs,if_neg (by have:=h1.2 hs;omega)]
   have e2 : n ≤ mostStep n p:=by unfold mostStep;split <;> omega
   rw [List.foldl_cons,List.foldl_cons,e]
   obtain ⟨i1,i2⟩:=ih (mostStep n p) (fun q hq=>h q (by simp [hq])) (by omega)
   exact ⟨i1,by omega⟩
 have mx : ∀ (ps : List Page) (n m : Int),ps.foldl mostStep (if n < m then m else n) = if n < ps.foldl mostStep m then ps.foldl mostStep m else (if ps.foldl mostStep m ≤ n then n else ps.foldl mostStep m):=by
  intro ps
  induction ps with
  | nil=>intro n m;simp only [List.foldl_nil];split <;> (try split) <;> omega
  | cons p ps ih =>
   intro n m
   rw [List.foldl_cons,List.foldl_cons]
   have e : mostStep (if n < m then m else n) p = if n < mostStep m p then mostStep m p else n:=by unfold mostStep;split <;> split <;> (try split) <;> omega
   rw [e,ih]
 intro ps n h hn
 obtain ⟨k1,k2⟩:=key ps n h hn
 have:=mx ps n 0
 have hm : (if n < 0 then 0 else n) = n:=by rw [if_neg (by omega)]
 rw [hm] at this
 refine ⟨?_,by omega⟩
 rw [k1,this]
 unfold most
 split <;> (try split) <;> omega
theorem nextL_all {f : List Block} (h : FlashOk f) : nextL (spF f f.length) = maxSeq f:=by
 have e1 : nextL (spF f f.length) = ((spF f f.length).map (·.2.2)).foldl nextPg 0:=by unfold nextL;rw [List.foldl_map]
 have e2:=spF_pages f f.length (Nat.le_refl _)
 rw [List.take_length] at e2
 rw [e1,e2,List.foldl_flatMap]
 have : ∀ (bs : List Block) (n : Int),(∀ b ∈ bs,∀ p ∈ b.pages,pageOkB p = true) → 0 ≤ n → bs.foldl (fun n b=>b.pages.foldl nextPg n) n = bs.foldl nextStep n:=by
  intro bs
  induction bs with
  | nil=>exact fun _ _ _=>rfl
  | cons b bs ih =>
   intro n hp hn
   obtain ⟨k1,k2⟩:=nextFold b.pages n (hp b (by simp)) hn
   rw [List.foldl_cons,List.foldl_cons,ih _ (fun c hc=>hp c (by simp [hc])) k2,k1]
   rfl
 exact this f 0 (fun b hb=>h.pg hb) (Int.le_refl _)
def partScan : Nat → List Block → Option Nat
 | _,[]=>none
 | i,b :: rest=>if partB b.pages = true then some i else partScan (i + 1) rest
def bestScan (f : List Block) : Nat → Nat → Bool → List Block → Nat × Bool
 | _,m,fd,[]=>(m,fd)
 | i,m,fd,b :: rest=>if cleanN b.pages = 4 ∧ (fd = false ∨ b.worn < (blockAt f m).worn) then bestScan f (i + 1) i true rest else bestScan f (i + 1) m fd rest
theorem partScan_drop (f : List Block) (k : Nat) (h : k < f.length) : partScan k (f.drop k) = if partB f[k].pages = true then some k else partScan (k + 1) (f.drop (k + 1)):=by
 rw [List.drop_eq_getElem_cons h];rfl
theorem bestScan_drop (f : List Block) (k m : Nat) (fd : Bool) (h : k < f.length) : bestScan f k m fd (f.drop k) = if cleanN f[k].pages = 4 ∧ (fd = false ∨ f[k].worn < (blockAt f m).worn) then bestScan f (k + 1) k true (f.drop (k + 1)) else bestScan f (k + 1) m fd (f.drop (k + 1)):=by
 rw [List.drop_eq_getElem_cons h];rfl
def openI (f : List Block) : Int × Bool:=match partScan 0 f with
 | some i=>((i : Int),true)
 | none=>(((bestScan f 0 0 false f).1 : Int),(bestScan f 0 0 false f).2)
theorem openI_eq {f : List Block} (h : ∀ b ∈ f,b.pages.length = 4) : openB f = openI f:=by
 have key : ∀ (rest : List Block) (i : Nat) (out : Int) (m : Nat) (fd : Bool),(∀ b ∈ rest,b.pages.length = 4) → (fd = true → out = m) → (fd = false → out = -1 ∧ m = 0) →
   openScan f i out rest = match partScan i rest with | some j=>((j : Int),true) | none=>(((bestScan f i m fd rest).1 : Int),(bestScan f i m fd rest).2):=by
  intro rest
  induction rest with
  | nil =>
   intro i out m fd _ h1 h2
   simp only [openScan,partScan,bestScan]
   cases fd
   ·obtain ⟨rfl,rfl⟩:=h2 rfl;rfl
   ·obtain rfl:=h1 rfl
    refine Prod.ext ?_ (by simp)
    show (if (0 : Int) < m then (m : Int) else 0) = m
    split <;> omega
  | cons b rest ih =>
   intro i out m fd hp h1 h2
   have h4:=hp b (by simp)
   have hb:=cleanN_bd b.pages 0
   have hb' : cleanN b.pages ≤ 4:=by unfold cleanN;omega
   simp only [openScan,partScan,bestScan]
   by_cases hc : 0 < cleanN b.pages ∧ cleanN b.pages < 4
   ·rw [if_pos hc,if_pos (by unfold partB;simp [hc.1,hc.2])]
   ·rw [if_neg hc,if_neg (by unfold partB;simpa using hc)]
    unfold openStep
    cases fd
    ·obtain ⟨rfl,rfl⟩:=h2 rfl
     by_cases h0 : 0 < cleanN b.pages
     ·rw [if_pos ⟨h0,.inl (by omega)⟩,if_pos ⟨by omega,.inl rfl⟩]
      exact ih _ _ _ true (fun c hc=>hp c (by simp [hc])) (fun _=>rfl) (fun e=>by cases e)
     ·rw [if_neg (fun e=>h0 e.1),if_neg (by omega)]
      exact ih _ _ _ false (fun c hc=>hp c (by simp [hc])) (fun e=>by cases e) (fun _=>⟨rfl,rfl⟩)
    ·obtain rfl:=h1 rfl
     have e : (f[(m : Int).toNat]?.map (·.worn)).getD 0 = (blockAt f m).worn:=by
      unfold blockAt
      rw [Int.toNat_natCast]
      cases f[m]? <;> rfl
     rw [e]
     by_cases h0 : 0 < cleanN b.pages ∧ b.worn < (blockAt f m).worn
     ·rw [if_pos ⟨h0.1,.inr h0.2⟩,if_pos ⟨by omega,.inr h0.2⟩]
      exact ih _ _ _ true (fun c hc=>hp c (by simp [hc])) (fun _=>rfl) (fun e=>by cases e)
     ·rw [if_neg (by omega),if_neg (by simp;omega)]
      exact ih _ _ _ true (fun c hc=>hp c (by simp [hc])) (fun _=>rfl) (fun e=>by cases e)
 exact key f 0 (-1) 0 false h (fun e=>by cases e) (fun _=>⟨rfl,rfl⟩)
end Go.Bu
namespace Go.Bu
open Go Go.RowKit Go.Plan Go.Proofs Go.Shelf
attribute [local go_sem] Oper.semAt_some
set_option maxRecDepth 20000 in
set_option maxHeartbeats 4000000 in
theorem implFindNext_c (v : Value) (f : List Block) (w : World) (h : Flash (Old w) w v f) (hok : flashOkB f = true) :
  Calls Tryz.prog 75 #[v] w (Ret w (.int .i64 (next f))):=by
 have hp:=pages_short hok
 have hFO:=fun (w' : World) (hx : Ext w w')=>implFlashOk_c v f w' (h.ext hx) hp
 rw [hok] at hFO
 have hF:=flashOk_iff.1 hok
 have h4:=hF.len
 have HN:=Lib.hid (nextL_all hF)
 have HS : Hid (∀ b ∈ f,∀ p ∈ b.pages,0 ≤ p.r.seq ∧ p.r.seq ≤ 600):=Lib.hid fun b hb p hp=>pageOk_seq (hF.pg hb p hp)
 have HM:=Lib.hid (maxSeq_bd hok)
 obtain ⟨a,cap,rfl⟩:=h.form
 rw [h4] at h hFO ⊢
 have H4:=Lib.hid h4
 have HP:=Lib.hid hp
 clear hp h4 hF hok
 refine (callsIn_wide (n:=9)).1 ?_
 refine callsIn_of_wp_marks Tryz.func75 rfl trivial ?_ rfl
 simp only [Tryz.ntmps75,List.size_toArray,List.length_cons,List.length_nil,Nat.reduceAdd,Nat.reduceSub,Array.replicate_succ,Array.replicate_zero,List.push_toArray,List.append_toArray,List.nil_append,List.cons_append]
 gi_wp2_with (refine ⟨trivial,?_⟩;gi_at_call 117;refine (callsIn_wide.2 (hFO _ (ext_refl _))).mono ?_;rintro e1 w1 ⟨rfl,hx1⟩)
 clear hFO
 gi_wp2_with (refine ⟨trivial,?_⟩;gi_at_call 90;refine (callsIn_wide.2 (eachPage_c _ _ _ _)).mono ?_;rintro e w' ⟨rfl,rfl⟩)
 have XW : Ext w ((w1.alloc (.cells #[.int .i64 0] 3)).alloc (.cells #[.slice a 4 cap] 23)):=ext_trans hx1 (ext_alloc (ext_alloc (ext_refl _) _) _)
 obtain ⟨W0,hW0⟩ : ∃ W0,((w1.alloc (.cells #[.int .i64 0] 3)).alloc (.cells #[.slice a 4 cap] 23)) = W0:=⟨_,rfl⟩
 have G1 : W0.heap[w1.heap.size]? = some (.cells #[.int .i64 0] 3 (0,0)):=by rw [← hW0];exact hg_alloc (hg_new rfl)
 have G2 : W0.heap[w1.heap.size + 1]? = some (.cells #[.slice a 4 cap] 23 (0,0)):=by rw [← hW0];exact hg_new (by simp)
 have hs0 : W0.heap.size = w1.heap.size + 2:=by rw [← hW0];simp
 have hs1:=hx1.size
 rw [hW0] at XW ⊢
 have HD : ∀ i,(i < w.heap.size ∨ i = w1.heap.size + 1) → i < W0.heap.size:=fun i hi=>by omega
 have HS0:=Lib.hid hs0
 clear hs0 hW0 hx1
 refine wpIn_rangeFunc_ownH rfl (by omega) (gf:=125) (lb:=#[.pointer (some ⟨w1.heap.size + 1,0,none⟩)]) rfl trivial (enters_of Tryz.func125 (by kernel_rfl) rfl)
  (each_stops 8 (by omega) (fun i=>i < w.heap.size ∨ i = w1.heap.size + 1) (w1.heap.size + 1) (.slice a 4 cap) f W0 (cell_block G2 0) (.inr rfl) HD (Sl.same blockE_kept h (same_old XW) (fun b hb=>.inl hb)) (by rw [H4.out];omega) HP.out)
  (fun h k=>h.trans k) (fun W l o o' hl _ _ _=>KpD.put HD W l o o' hl) (Below.refl _ _) (fun _=>rfl)
  (fun pre W=>W.heap[w1.heap.size]? = some (.cells #[.int .i64 (nextL (pre.map (·.1)))] 3 (0,0)) ∧ Ext w W ∧ W0.heap.size ≤ W.heap.size)
  (fun _ _ _=>False) ?hI (fun _ _ _ _ _ h _ _=>h.elim) ?h0
  (fun x a' W=>∃ By,W0.heap.size ≤ By ∧ W.heap[By]? = some (.cells (pageC x.1.2.2).toArray 116 (0,0)) ∧
   a' = { tmps:=#[.slice a 4 cap,undef,.int .i64 0,.pointer (some ⟨w1.heap.size,0,none⟩),undef,.pointer (some ⟨By,0,none⟩),.slice a 4 cap,.bool true,.bool false,.slice a 4 cap,.func (.func 125) #[] #[.pointer (some ⟨w1.heap.size + 1,0,none⟩)],.agg #[.int .i64 x.1.1,.int .i64 x.1.2.1],pageA x.1.2.2,undef,undef,undef,undef,undef,undef,undef,undef,undef,undef],defers:=[] })
  ?hAx ?assign ?body ?done ?stop
 case hI =>
  rintro s X Y row ⟨h2,h3,h4⟩ hg hr
  have hx:=grown_ext h3 (fun g hg'=>by have:=(hr g hg').1;have:=XW.size;omega) hg
  exact ⟨cells_own h2 hg hr,hx,Nat.le_trans h4 hg.size⟩
 case h0=>exact ⟨G1,XW,Nat.le_refl _⟩
 case hAx =>
  rintro x a' s X Y row ⟨By,h2,h4,h5⟩ hg hr
  exact ⟨By,h2,cells_own h4 hg hr,h5⟩
 case stop=>rintro D c pre W _ _ h;exact h.elim
 case assign =>
  rintro l pre ⟨⟨i,j,p⟩,hin⟩ W K ⟨h2,h3,h4⟩ hK
  simp only [encS]
  gi_wp2
  have hx : Ext W (W.alloc (.cells (pageC p).toArray 116)):=ext_alloc (ext_refl _) _
  exact hK _ _ ((KeepsOthers.alloc _ _).from _) (KpD.of_below hx fun b hb=>Nat.lt_of_lt_of_le (HD b hb) h4) ⟨keep_ext hx h2,ext_trans h3 hx,Nat.le_trans h4 hx.size⟩
   ⟨W.heap.size,h4,hg_new rfl,rfl⟩
 case done =>
  rintro D xs W hD hS ⟨h2,h3,h4⟩ hK
  obtain ⟨g3,gf3⟩:=cellsK h2
  have hbd : nextL (xs.map (·.1)) = maxSeq f:=by rw [hS];exact HN.out
  rw [hbd] at g3
  have hb:=HM.out
  have hnx : maxSeq f + 1 = next f:=rfl
  generalize maxSeq f = m at *
  gi_wp2
  refine ⟨by simp,.inl ⟨_,_,rfl,run_takeDeferred hK,?_⟩⟩
  refine ⟨_,results_tmp rfl _ _ _,rfl,?_⟩
  exact grown_ext h3 (fun g hg=>by cases hg;have:=HS0.out;omega) (grownBy_putObj' W D _)
 case body =>
  rintro l pre ⟨⟨i,j,p⟩,hin⟩ a' W hl ⟨r,hr⟩ ⟨h2,h3,h4⟩ ⟨By,hB2,g5,rfl⟩ hlt
  have hsq : 0 ≤ p.r.seq ∧ p.r.seq ≤ 600:=by
   obtain ⟨b,hb,hp⟩:=hin
   exact HS.out b (List.mem_of_getElem? hb) p (List.mem_of_getElem? hp)
  have HX : Hid (nextL ((pre ++ [⟨(i,j,p),hin⟩] : List (SpotIn f)).map (·.1)) = nextPg (nextL (pre.map (·.1))) p):=Lib.hid (by rw [List.map_append];exact nextL_snoc _ _)
  generalize nextL (pre.map (·.1)) = n at *
  dsimp only at g5
  obtain ⟨q5,qf5⟩:=cellsK g5
  obtain ⟨q3,qf3⟩:=cellsK h2
  have hC:=fun v : Value=>(Chg.of_ext (ext_refl W)).set (L:=[w1.heap.size]) (p:=⟨w1.heap.size,0,none⟩) (.inl (by simp)) v
  have hk:=fun v : Value=>hg_here (k:=0) (v:=v) h2
  by_cases hst : p.state = 1
  ·by_cases hgt : n < p.r.seq
   ·gi_wp2
    refine ⟨KeepsFrom.of_chg (hC _) (by have:=HS0.out;simp;omega),KpD.of_chg (hC _) (fun b hb=>⟨Nat.lt_of_lt_of_le (HD b hb) h4,by simp;omega⟩),hgo (hk _) ?_,Chg.ext h3 (hC _) (by simp;omega),Nat.le_trans h4 (hC _).size⟩
    rw [HX.out];unfold nextPg;rw [if_pos hst,if_pos hgt];rfl
   ·gi_wp2
    refine ⟨KeepsFrom.of_chg (hC _) (by have:=HS0.out;simp;omega),KpD.of_chg (hC _) (fun b hb=>⟨Nat.lt_of_lt_of_le (HD b hb) h4,by simp;omega⟩),hgo (hk _) ?_,Chg.ext h3 (hC _) (by simp;omega),Nat.le_trans h4 (hC _).size⟩
    rw [HX.out];unfold nextPg;rw [if_pos hst,if_neg (by omega)];rfl
  ·gi_wp2
   refine ⟨(KeepsOthers.refl _).from _,⟨Nat.le_refl _,fun _ _=>rfl⟩,hgo h2 ?_,h3,h4⟩
   rw [HX.out];unfold nextPg;rw [if_neg hst]
theorem last_out {f : List Block} (h : flashOkB f = true) {a : Int} (ha : inB a 1 6 = false) : last f a = rec0:=by
 rcases last_spec (flashOk_iff.1 h) a with ⟨h1,_⟩ | ⟨h1,h2,_⟩
 ·exact h1
 ·have:=recOkB_iff.1 (h1.ok (flashOk_iff.1 h))
  have:=inB_no.1 ha
  omega
set_option maxRecDepth 20000 in
set_option maxHeartbeats 4000000 in
theorem implFindLast_c (v : Value) (f : List Block) (addr : Int) (w : World) (h : Flash (Old w) w v f) (hok : flashOkB f = true) :
  Calls Tryz.prog 122 #[v,.int .i64 addr] w (Ret w (.tuple #[recA (last f addr),.bool (decide (0 < (last f addr).seq))])):=by
 have hp:=pages_short hok
 have hFO:=fun (w' : World) (hx : Ext w w')=>implFlashOk_c v f w' (h.ext hx) hp
 rw [hok] at hFO
 have hF:=flashOk_iff.1 hok
 have h4:=hF.len
 have HS : Hid (∀ b ∈ f,∀ p ∈ b.pages,pageOkB p = true):=Lib.hid fun b hb p hp=>hF.pg hb p hp
 obtain ⟨a,cap,rfl⟩:=h.form
 rw [h4] at h hFO ⊢
 cases hin : inB addr 1 6
 ·rw [last_out hok hin]
  clear hp h4 hF hok
  go_enter Tryz.func122,Tryz.ntmps122
  go_wp2_with (go_at_call 81;refine (addrOk_c _ _).mono ?_;rw [hin];rintro e w' ⟨rfl,rfl⟩)
  have G1:=hg_new (w:=w.alloc (.cells #[.int .i64 addr] 3)) (b:=w.heap.size + 1) (x:=.cells #[.int .i64 0,.int .i64 0,.int .i64 0,.int .i64 0] 77) (by simp)
  obtain ⟨g1,gf1⟩:=cellsK G1
  refine bodyPost_ret (v:=.tuple #[recA rec0,.bool false]) (by simp [results,Tryz.results122,go_sem,g1,gf1,rec0]) rfl ⟨rfl,?_⟩
  exact ext_alloc (ext_alloc (ext_refl _) _) _
 ·have H4:=Lib.hid h4
  have HP:=Lib.hid hp
  clear hp h4 hF hok
  refine (callsIn_wide (n:=9)).1 ?_
  refine callsIn_of_wp_marks Tryz.func122 rfl trivial ?_ rfl
  simp only [Tryz.ntmps122,List.size_toArray,List.length_cons,List.length_nil,Nat.reduceAdd,Nat.reduceSub,Array.replicate_succ,Array.replicate_zero,List.push_toArray,List.append_toArray,List.nil_append,List.cons_append]
  gi_wp2_with (refine ⟨trivial,?_⟩;gi_at_call 81;refine (callsIn_wide.2 (addrOk_c _ _)).mono ?_;rw [hin];rintro e1 w1 ⟨rfl,rfl⟩)
  gi_wp2_with (refine ⟨trivial,?_⟩;gi_at_call 117;refine (callsIn_wide.2 (hFO _ (ext_alloc (ext_alloc (ext_refl _) _) _))).mono ?_;rintro e1 w1 ⟨rfl,hx1⟩)
  have B0:=keep_ext hx1 (hg_alloc (hg_new (b:=w.heap.size) rfl))
  have B1:=keep_ext hx1 (hg_new (b:=w.heap.size + 1) (by simp))
  gi_wp2_with (refine ⟨trivial,?_⟩;gi_at_call 90;refine (callsIn_wide.2 (eachPage_c _ _ _ _)).mono ?_;rintro e w' ⟨rfl,rfl⟩)
  have XW : Ext w ((w1.alloc (.cells #[.int .i64 0,.int .i64 0,.int .i64 0,.int .i64 0] 77)).alloc (.cells #[.slice a 4 cap] 23)):=ext_trans (ext_of2 hx1) (ext_alloc (ext_alloc (ext_refl _) _) _)
  obtain ⟨W0,hW0⟩ : ∃ W0,((w1.alloc (.cells #[.int .i64 0,.int .i64 0,.int .i64 0,.int .i64 0] 77)).alloc (.cells #[.slice a 4 cap] 23)) = W0:=⟨_,rfl⟩
  have G1 : W0.heap[w1.heap.size]? = some (.cells #[.int .i64 0,.int .i64 0,.int .i64 0,.int .i64 0] 77 (0,0)):=by rw [← hW0];exact hg_alloc (hg_new rfl)
  have G2 : W0.heap[w1.heap.size + 1]? = some (.cells #[.slice a 4 cap] 23 (0,0)):=by rw [← hW0];exact hg_new (by simp)
  replace B0 : W0.heap[w.heap.size]? = some (.cells #[.int .i64 addr] 3 (0,0)):=by rw [← hW0];exact hg_alloc (hg_alloc B0)
  replace B1 : W0.heap[w.heap.size + 1]? = some (.cells #[.int .i64 0,.int .i64 0,.int .i64 0,.int .i64 0] 77 (0,0)):=by rw [← hW0];exact hg_alloc (hg_alloc B1)
  have hs0 : W0.heap.size = w1.heap.size + 2:=by rw [← hW0];simp
  have hs1:=hx1.size
  simp at hs1
  rw [hW0] at XW ⊢
  have HD : ∀ i,(i < w.heap.size ∨ i = w1.heap.size + 1) → i < W0.heap.size:=fun i hi=>by omega
  have HS0:=Lib.hid hs0
  have HS1:=Lib.hid hs1
  clear hs0 hW0 hx1 hs1
  refine wpIn_rangeFunc_ownH rfl (by omega) (gf:=125) (lb:=#[.pointer (some ⟨w1.heap.size + 1,0,none⟩)]) rfl trivial (enters_of Tryz.func125 (by kernel_rfl) rfl)
   (each_stops 8 (by omega) (fun i=>i < w.heap.size ∨ i = w1.heap.size + 1) (w1.heap.size + 1) (.slice a 4 cap) f W0 (cell_block G2 0) (.inr rfl) HD (Sl.same blockE_kept h (same_old XW) (fun b hb=>.inl hb)) (by rw [H4.out];omega) HP.out)
   (fun h k=>h.trans k) (fun W l o o' hl _ _ _=>KpD.put HD W l o o' hl) (Below.refl _ _) (fun _=>rfl)
   (fun pre W=>W.heap[w.heap.size]? = some (.cells #[.int .i64 addr] 3 (0,0)) ∧ W.heap[w.heap.size + 1]? = some (.cells #[.int .i64 0,.int .i64 0,.int .i64 0,.int .i64 0] 77 (0,0)) ∧ W.heap[w1.heap.size]? = some (.cells (recC (lastL (pre.map (·.1)) addr)).toArray 77 (0,0)) ∧ Ext w W ∧ W0.heap.size ≤ W.heap.size)
   (fun _ _ _=>False) ?hI (fun _ _ _ _ _ h _ _=>h.elim) ?h0
   (fun x a' W=>∃ By,W0.heap.size ≤ By ∧ W.heap[By]? = some (.cells (pageC x.1.2.2).toArray 116 (0,0)) ∧
    a' = { tmps:=#[.slice a 4 cap,.int .i64 addr,undef,.pointer (some ⟨w.heap.size,0,none⟩),.pointer (some ⟨w.heap.size + 1,0,none⟩),.bool false,.pointer (some ⟨w1.heap.size,0,none⟩),undef,.pointer (some ⟨By,0,none⟩),.int .i64 addr,.bool true,.bool false,.bool false,.slice a 4 cap,.bool true,.bool false,.bool false,undef,.slice a 4 cap,.func (.func 125) #[] #[.pointer (some ⟨w1.heap.size + 1,0,none⟩)],.agg #[.int .i64 x.1.1,.int .i64 x.1.2.1],pageA x.1.2.2,undef,undef,undef,undef,undef,undef,undef,undef,undef,undef,undef,undef,undef,undef,undef,undef,undef,undef,undef,undef,undef,undef,undef,undef],defers:=[] })
   ?hAx ?assign ?body ?done ?stop
  case hI =>
   rintro s X Y row ⟨h0,h1,h2,h3,h4⟩ hg hr
   have hx:=grown_ext h3 (fun g hg'=>by have:=(hr g hg').1;have:=XW.size;omega) hg
   exact ⟨cells_own h0 hg hr,cells_own h1 hg hr,cells_own h2 hg hr,hx,Nat.le_trans h4 hg.size⟩
  case h0=>exact ⟨B0,B1,G1,XW,Nat.le_refl _⟩
  case hAx =>
   rintro x a' s X Y row ⟨By,h2,h4,h5⟩ hg hr
   exact ⟨By,h2,cells_own h4 hg hr,h5⟩
  case stop=>rintro D c pre W _ _ h;exact h.elim
  case assign =>
   rintro l pre ⟨⟨i,j,p⟩,hin⟩ W K ⟨h0,h1,h2,h3,h4⟩ hK
   simp only [encS]
   gi_wp2
   have hx : Ext W (W.alloc (.cells (pageC p).toArray 116)):=ext_alloc (ext_refl _) _
   exact hK _ _ ((KeepsOthers.alloc _ _).from _) (KpD.of_below hx fun b hb=>Nat.lt_of_lt_of_le (HD b hb) h4) ⟨keep_ext hx h0,keep_ext hx h1,keep_ext hx h2,ext_trans h3 hx,Nat.le_trans h4 hx.size⟩
    ⟨W.heap.size,h4,hg_new rfl,rfl⟩
  case done =>
   rintro D xs W hD hS ⟨h0,h1,h2,h3,h4⟩ hK
   have hbd : lastL (xs.map (·.1)) addr = last f addr:=by rw [hS];exact lastL_all f addr
   rw [hbd] at h2
   generalize last f addr = r at *
   obtain ⟨g0,gf0⟩:=cellsK h0
   obtain ⟨g1,gf1⟩:=cellsK h1
   obtain ⟨g2,gf2⟩:=cellsK h2
   have l1:=heap_lt h1
   have l2:=heap_lt h2
   dsimp only [recA]
   gi_wp2
   refine wpIn_wide.2 ?_
   refine wp_region_st [4] h1 [0,1,2,3,4,5] [] [] (by kernel_rfl) (by kernel_rfl) ?late ?_
   case late=>exact fun f hf=>absurd hf List.not_mem_nil
   refine Rob.y (v:=?_) rfl rfl (fun w1 hx hH=>?_) ?_;rotate_left
   ·(obtain ⟨q2,qf2⟩:=cellsK (hx.1.keep h2 (by have:=HS1.out;simp;omega)));go_simp;first | done | rfl
   simp only [Act.put,slA,slB,slC]
   refine Rob.y (v:=?_) rfl rfl (fun w1 hx hH=>?_) ?_;rotate_left
   ·go_simp;first | done | rfl | exact (Bool.not_not _).symm
   simp only [Act.put,slA,slB,slC]
   refine Rob.y (v:=?_) rfl rfl (fun w1 hx hH=>?_) ?_;rotate_left
   ·(obtain ⟨q2,qf2⟩:=cellsK (hx.1.keep h2 (by have:=HS1.out;simp;omega)));go_simp;first | done | rfl
   simp only [Act.put,slA,slB,slC]
   refine Rob.y (v:=?_) rfl rfl (fun w1 hx hH=>?_) ?_;rotate_left
   ·go_simp;first | done | rfl | exact (Bool.not_not _).symm
   simp only [Act.put,slA,slB,slC]
   refine Rob.st rfl rfl rfl rfl rfl rfl (by kernel_rfl) (by kernel_rfl) rfl (by omega) (fun lo4 hi4 hlo4 hhi4=>?_)
   simp only [Act.put,slA,slB,slC]
   refine Rob.y (v:=?_) rfl rfl (fun w1 hx hH=>?_) ?_;rotate_left
   ·go_simp;first | done | rfl | exact (Bool.not_not _).symm
   simp only [Act.put,slA,slB,slC]
   refine fin_nil (fun w3 hx3 _=>?_)
   obtain ⟨⟨hC,-⟩,G⟩:=hx3
   obtain ⟨d0,e0⟩:=cellsK G
   gi_wp2
   have hs:=HS0.out
   have hs1:=HS1.out
   have hK3 : w3.heap[D]? = some (.deferred (some [])):=(hC.block D (Array.getElem?_eq_some_iff.1 hK).1 (by simp;omega)).trans hK
   have G' : (w3.putObj D (.deferred none)).heap[w.heap.size + 1]? = _:=(World.putObj_heap_other (by omega)).trans G
   obtain ⟨y0,y1⟩:=cellsK G'
   have X3 : Ext w (w3.putObj D (.deferred none)):=grown_ext (hC.ext h3 (by simp)) (fun g hg=>by cases hg;omega) (grownBy_putObj' w3 D _)
   refine ⟨by simp,.inl ⟨_,_,rfl,run_takeDeferred hK3,?_⟩⟩
   exact ⟨.tuple #[recA r,.bool (decide (0 < r.seq))],by simp [results,Tryz.results122,go_sem,y0,y1],rfl,X3⟩
  case body =>
   rintro l pre ⟨⟨i,j,p⟩,hin⟩ a' W hl ⟨r,hr⟩ ⟨h0,h1,h2,h3,h4⟩ ⟨By,hB2,g5,rfl⟩ hlt
   have hpo : pageOkB p = true:=by
    obtain ⟨b,hb,hp⟩:=hin
    exact HS.out b (List.mem_of_getElem? hb) p (List.mem_of_getElem? hp)
   have hsq:=pageOk_seq hpo
   have HX : Hid (lastL ((pre ++ [⟨(i,j,p),hin⟩] : List (SpotIn f)).map (·.1)) addr = lastStep addr (lastL (pre.map (·.1)) addr) p):=Lib.hid (by rw [List.map_append];exact lastL_snoc _ _ _)
   generalize lastL (pre.map (·.1)) addr = q at *
   dsimp only at g5
   obtain ⟨q5,qf5⟩:=cellsK g5
   obtain ⟨q0,qf0⟩:=cellsK h0
   obtain ⟨q2,qf2⟩:=cellsK h2
   by_cases hst : p.state = 1
   ·by_cases had : p.r.addr = addr
    ·by_cases hgt : q.seq < p.r.seq
     ·gi_wp2
      have hC : Chg [w1.heap.size] W ((((W.setCell ⟨w1.heap.size,0,none⟩ (.int .i64 p.r.kind)).setCell ⟨w1.heap.size,1,none⟩ (.int .i64 p.r.seq)).setCell ⟨w1.heap.size,2,none⟩ (.int .i64 addr)).setCell ⟨w1.heap.size,3,none⟩ (.int .i64 p.r.val)):=
       ((((Chg.of_ext (ext_refl W)).set (p:=⟨w1.heap.size,0,none⟩) (.inl (by simp)) _).set (p:=⟨w1.heap.size,1,none⟩) (.inl (by simp)) _).set (p:=⟨w1.heap.size,2,none⟩) (.inl (by simp)) _).set (p:=⟨w1.heap.size,3,none⟩) (.inl (by simp)) _
      have hs:=HS0.out
      have hs1:=HS1.out
      refine ⟨KeepsFrom.of_chg hC (by simp;omega),KpD.of_chg hC (fun b hb=>⟨Nat.lt_of_lt_of_le (HD b hb) h4,by simp;omega⟩),hC.keep h0 (by simp;omega),hC.keep h1 (by simp;omega),hgo (hg_here (hg_here (hg_here (hg_here h2)))) ?_,Chg.ext h3 hC (by simp;omega),Nat.le_trans h4 hC.size⟩
      rw [HX.out];unfold lastStep;rw [if_pos ⟨hst,had,hgt⟩,← had];rfl
     ·gi_wp2
      refine ⟨(KeepsOthers.refl _).from _,⟨Nat.le_refl _,fun _ _=>rfl⟩,h0,h1,hgo h2 ?_,h3,h4⟩
      rw [HX.out];unfold lastStep;rw [if_neg]
      omega
    ·gi_wp2
     refine ⟨(KeepsOthers.refl _).from _,⟨Nat.le_refl _,fun _ _=>rfl⟩,h0,h1,hgo h2 ?_,h3,h4⟩
     rw [HX.out];unfold lastStep;rw [if_neg]
     omega
   ·gi_wp2
    refine ⟨(KeepsOthers.refl _).from _,⟨Nat.le_refl _,fun _ _=>rfl⟩,h0,h1,hgo h2 ?_,h3,h4⟩
    rw [HX.out];unfold lastStep;rw [if_neg]
    omega
theorem blockOk_c (n : Int) (w : World) : Calls Tryz.prog 82 #[.int .i64 n] w (RetSame w (.bool (inB n 0 3))):=by
 go_enter Tryz.func82,Tryz.ntmps82
 go_wp2
 all_goals
  go_ret
  refine ⟨?_,rfl⟩
  simp_all [inB]
  try omega
set_option maxRecDepth 20000 in
set_option maxHeartbeats 4000000 in
theorem implFindLive_c (v : Value) (f : List Block) (i j : Nat) (x : Block) (p : Page) (w : World) (h : Flash (Old w) w v f) (hok : flashOkB f = true) (hx : f[i]? = some x) (hj : x.pages[j]? = some p) :
  Calls Tryz.prog 79 #[v,.int .i64 i,.int .i64 j] w (Ret w (.bool (liveP f p))):=by
 have hps:=pages_short hok
 have hFO:=fun (w' : World) (hx : Ext w w')=>implFlashOk_c v f w' (h.ext hx) hps
 rw [hok] at hFO
 have hFL:=fun (a : Int) (w' : World) (hx : Ext w w')=>implFindLast_c v f a w' (h.ext hx) hok
 have hF:=flashOk_iff.1 hok
 have h4:=hF.len
 obtain ⟨hil,rfl⟩:=List.getElem?_eq_some_iff.1 hx
 obtain ⟨hjl,rfl⟩:=List.getElem?_eq_some_iff.1 hj
 have hp4:=(blockB_iff.1 (hF.blocks _ (List.getElem_mem hil))).1
 have hpo:=hF.pg (List.getElem_mem hil) _ (List.getElem_mem hjl)
 obtain ⟨a,cap,rfl⟩:=h.form
 obtain ⟨b,o,pv,rfl,hb,hpp,c0,c1⟩:=h.at2 hil
 obtain ⟨a2,cap2,rfl⟩:=hpp.form
 obtain ⟨b2,o2,rfl,hb2,d0,d1,d2,d3,d4⟩:=hpp.at5 hjl
 have hq : liveP f f[i].pages[j] = (f[i].pages[j].state == 1 && recEq (last f f[i].pages[j].r.addr) f[i].pages[j].r):=rfl
 have hpos : f[i].pages[j].state = 1 → 1 ≤ f[i].pages[j].r.seq:=(pageOk_one hpo).1
 have HQ:=Lib.hid hq
 rw [hp4] at c0
 rw [h4] at hFO hFL ⊢
 clear hq hps hF hpo hx hj
 generalize f[i].pages[j] = p at *
 have hb' : b < w.heap.size:=hb
 have hb2' : b2 < w.heap.size:=hb2
 go_enter Tryz.func79,Tryz.ntmps79
 go_wp2_with fail
 refine (hFO _ (ext_refl _)).mono ?_;rintro e1 w1 ⟨rfl,hx1⟩
 obtain ⟨hc1,hf1⟩:=bcell hx1
 have hj4 : (j : Int) < 4:=by omega
 have hj0 : ¬ (j : Int) < 0:=by omega
 by_cases hst : p.state = 1
 ·go_wp2_with (go_at_call 82;refine (blockOk_c _ _).mono ?_;rw [inB_iff.2 (by omega)];rintro e w' ⟨rfl,rfl⟩)
  refine (hFL _ _ (ext_trans hx1 (ext_alloc (ext_refl _) _))).mono ?_;rintro e2 w2 ⟨rfl,hx2⟩
  have G1:=keep_ext hx2 (hg_new (b:=w1.heap.size) rfl)
  obtain ⟨g1,gf1⟩:=cellsK G1
  have l1:=heap_lt G1
  have hsq:=hpos hst
  have X2:=ext_trans hx1 (ext_trans (ext_alloc (ext_refl _) _) hx2)
  have hL : liveP f p = (decide (0 < (last f p.r.addr).seq) && recEq (last f p.r.addr) p.r):=by
   rw [HQ.out,hst]
   cases hr : recEq (last f p.r.addr) p.r
   ·simp
   ·rw [recEq_iff.1 hr];simp;omega
  have HL:=Lib.hid hL
  clear hL HQ
  generalize last f p.r.addr = r at *
  clear hc1 hf1 hFO hFL c0 c1 d0 d1 d2 d3 d4
  go_wp2_with fail
  all_goals
   go_ret
   try simp only [beq_iff_eq,Bool.not_eq_true,beq_eq_false_iff_ne,ne_eq,bne_iff_ne,bne_eq_false_iff_eq,decide_eq_true_eq,decide_eq_false_iff_not] at *
   refine ⟨by rw [HL.out];simp [recEq, *];try omega,?_⟩
   first | exact X2 | exact ext_alloc X2 _
 ·have hL : liveP f p = false:=by rw [HQ.out,show (p.state == 1) = false by simpa using hst];rfl
  have HL:=Lib.hid hL
  go_wp2_with (go_at_call 82;refine (blockOk_c _ _).mono ?_;rw [inB_iff.2 (by omega)];rintro e w' ⟨rfl,rfl⟩)
  go_ret
  refine ⟨by rw [HL.out];rfl,ext_trans hx1 (ext_alloc (ext_refl _) _)⟩
end Go.Bu
namespace Go.Bu
open Go Go.RowKit Go.Plan Go.Proofs
set_option maxRecDepth 20000 in
set_option maxHeartbeats 4000000 in
theorem implFindOpen_c (v : Value) (f : List Block) (w : World) (h : Flash (Old w) w v f) (hok : flashOkB f = true) :
  Calls Tryz.prog 77 #[v] w (Ret w (.tuple #[.int .i64 (openB f).1,.bool (openB f).2])):=by
 have hps:=pages_short hok
 have hFO:=fun (w' : World) (hx : Ext w w')=>implFlashOk_c v f w' (h.ext hx) hps
 rw [hok] at hFO
 have hF:=flashOk_iff.1 hok
 have h4:=hF.len
 have hp4 : Hid (∀ b ∈ f,b.pages.length = 4):=Lib.hid fun b hb=>(blockB_iff.1 (hF.blocks b hb)).1
 obtain ⟨A,hA⟩ : ∃ A,openB f = A:=⟨_,rfl⟩
 rw [hA]
 rw [openI_eq hp4.out] at hA
 have HA:=Lib.hid hA
 have HP:=Lib.hid hps
 have HCB : Hid (∀ b ∈ f,0 ≤ cleanN b.pages ∧ cleanN b.pages ≤ 4):=Lib.hid fun b hb=>(blockB_free (hF.blocks b hb)).2.2
 obtain ⟨a,cap,rfl⟩:=h.form
 rw [h4] at h hFO ⊢
 clear hps hF hA hok
 go_enter Tryz.func77,Tryz.ntmps77
 go_wp2_with fail
 refine (hFO _ (ext_refl _)).mono ?_;rintro e1 w1 ⟨rfl,hx1⟩
 clear hFO
 go_wp2_with fail
 go_loopw [15] (fun y wr=>∃ k : Nat,k ≤ 4 ∧ y = .int .i64 k ∧ Ext w wr ∧ Hid (partScan k (f.drop k) = partScan 0 f)) (fun y _=>4 - (intOf y).toNat)
 case atStart=>exact ⟨0,by omega,rfl,hx1,Lib.hid rfl⟩
 case round =>
  obtain ⟨k,hk,rfl,hX,HR⟩:=hrel
  by_cases hlt : k < 4
  ·have hkl : k < f.length:=by omega
   obtain ⟨b,o,pv,heq,hb,hpp,c0,c1⟩:=h.at2 hkl
   have hb' : b < w.heap.size:=hb
   have hm:=List.getElem_mem hkl
   rw [partScan_drop _ _ hkl] at HR
   obtain rfl:=heq
   obtain ⟨hc1,hf1⟩:=bcell hX
   have hpu:=fun (w' : World) (hx : Ext w w')=>partlyUsed_c pv f[k].pages f[k].worn w' (hpp.ext hx) (HP.out _ hm)
   obtain ⟨a2,cap2,rfl⟩:=hpp.form
   generalize partB f[k].pages = u at *
   generalize f[k] = x at *
   obtain ⟨xs,xw⟩:=x
   dsimp only at hpu c0 c1 ⊢
   go_wp2_with fail
   refine (hpu _ (ext_trans hX (ext_alloc (ext_refl _) _))).mono ?_;rintro e2 w2 ⟨rfl,hx2⟩
   have X2:=ext_trans hX (ext_trans (ext_alloc (ext_refl _) _) hx2)
   clear hc1 hf1 hpu c0 c1
   cases u
   ·have HR2 : Hid (partScan (k + 1) (f.drop (k + 1)) = partScan 0 f):=Lib.hid (by have:=HR.out;rwa [if_neg (by simp)] at this)
    go_wp2_with fail
    go_roundw
    case rel=>exact ⟨k + 1,by omega,by go_num,X2,HR2⟩
    case measure=>simp [intOf];omega
   ·have hA : A = ((k : Int),true):=by
     have h1:=HR.out
     rw [if_pos rfl] at h1
     rw [← HA.out];unfold openI;rw [← h1]
    subst hA
    go_wp2_with fail
    go_ret2
    exact ⟨rfl,X2⟩
  ·obtain rfl : k = 4:=by omega
   have hA : A = (((bestScan f 0 0 false f).1 : Int),(bestScan f 0 0 false f).2):=by
    have h1:=HR.out
    rw [List.drop_eq_nil_of_le (by omega)] at h1
    rw [← HA.out];unfold openI;rw [← h1];rfl
   have HB0 : Hid ((((bestScan f 0 0 false (f.drop 0)).1 : Int),(bestScan f 0 0 false (f.drop 0)).2) = A):=Lib.hid hA.symm
   clear HR HA hA
   rw [show ((4 : Nat) : Int) = 4 from rfl]
   go_wp2_with fail
   go_loopw [6,7,26] (fun n fd y wr=>∃ (k m : Nat) (u : Bool),k ≤ 4 ∧ m < 4 ∧ y = .int .i64 k ∧ n = .int .i64 m ∧ fd = .bool u ∧ Ext w wr ∧ Hid ((((bestScan f k m u (f.drop k)).1 : Int),(bestScan f k m u (f.drop k)).2) = A)) (fun _ _ y _=>4 - (intOf y).toNat)
   case atStart=>exact ⟨0,0,false,by omega,by omega,rfl,rfl,rfl,hX,HB0⟩
   case round =>
    clear HB0
    obtain ⟨k,m,u,hk,hm4,rfl,rfl,rfl,hX,HR⟩:=hrel
    by_cases hlt : k < 4
    ·have hkl : k < f.length:=by omega
     have hml : m < f.length:=by omega
     obtain ⟨b,o,pv,heq,hb,hpp,c0,c1⟩:=h.at2 hkl
     obtain ⟨b2,o2,pv2,heq2,hb2,hpp2,d0,d1⟩:=h.at2 hml
     obtain rfl:=heq
     simp only [Option.some.injEq,Addr.mk.injEq,and_true] at heq2
     obtain ⟨rfl,rfl⟩:=heq2
     have hb' : b < w.heap.size:=hb
     have hm:=List.getElem_mem hkl
     rw [bestScan_drop _ _ _ _ hkl,blockAt_get hml] at HR
     have hfp:=fun (w' : World) (hx : Ext w w')=>freePages_c pv f[k].pages f[k].worn w' (hpp.ext hx) (HP.out _ hm)
     have hcb:=HCB.out _ hm
     obtain ⟨a2,cap2,rfl⟩:=hpp.form
     obtain ⟨hc1,hf1⟩:=bcell hX
     obtain ⟨cn,hcn⟩ : ∃ cn,cleanN f[k].pages = cn:=⟨_,rfl⟩
     obtain ⟨xw,hxw⟩ : ∃ xw,f[k].worn = xw:=⟨_,rfl⟩
     obtain ⟨mw,hmw⟩ : ∃ mw,f[m].worn = mw:=⟨_,rfl⟩
     rw [hcn] at hfp hcb HR
     rw [hxw] at hfp c1 HR
     rw [hmw] at d1 HR
     have G9 : (wr.alloc (.cells #[.slice a2 f[k].pages.length cap2,.int .i64 xw] 114)).heap[wr.heap.size]? = some (.cells #[.slice a2 f[k].pages.length cap2,.int .i64 xw] 114 (0,0)):=hg_new rfl
     clear hcn hxw hmw hpp hpp2
     generalize f[k].pages.length = pn at *
     have XB : Ext w (wr.alloc (.cells #[.slice a2 pn cap2,.int .i64 xw] 114)):=ext_alloc hX _
     by_cases hc4 : cn = 4
     ·subst hc4
      have hm4' : (m : Int) < 4:=by omega
      have hm0' : ¬ (m : Int) < 0:=by omega
      cases u
      ·have hcond : (4 : Int) = 4 ∧ (false = false ∨ xw < mw):=⟨rfl,.inl rfl⟩
       go_wp2_with fail
       refine wp_region_ext [1] [0,1,2,3,4,5,6,7,8,9,10,11,12,13,14,15,16] [] [] (by kernel_rfl) (by kernel_rfl) ?late ?_
       case late=>exact fun f hf=>absurd hf List.not_mem_nil
       refine Rob.y (v:=?_) rfl rfl (fun w1 hx hH=>?_) ?_;rotate_left
       ·(obtain ⟨q9,qf9⟩:=cellsK (keep_ext hx G9));go_simp;first | done | rfl
       simp only [Act.put,slA,slB,slC]
       refine Rob.cv (.int .i64 4) rfl rfl rfl (fun _ _=>ext_trans) (fun w1 hx hH=>?_) (fun lo1 hi1 hlo1 hhi1=>?_)
       ·unfold RunTo;go_simp;exact (hfp _ (ext_trans XB hx)).mono fun e w' h=>h.to
       simp only [Act.put,slA,slB,slC]
       iterate 2
        refine Rob.y (v:=?_) rfl rfl (fun w1 hx hH=>?_) ?_;rotate_left
        ·go_simp;first | done | rfl | exact (Bool.not_not _).symm
        simp only [Act.put,slA,slB,slC]
       iterate 3
        refine Rob.yg (v:=?_) rfl rfl (fun w1 hx hH=>?_) ?_;rotate_left
        ·go_simp;first | done | rfl | exact (Bool.not_not _).symm
        simp only [Act.put,slA,slB,slC]
       iterate 8
        refine Rob.no rfl rfl ?_
        simp only [Act.put,slA,slB,slC]
       refine Rob.yg (v:=?_) rfl rfl (fun w1 hx hH=>?_) ?_;rotate_left
       ·go_simp;first | done | rfl | exact (Bool.not_not _).symm
       simp only [Act.put,slA,slB,slC]
       refine Rob.y (v:=?_) rfl rfl (fun w1 hx hH=>?_) ?_;rotate_left
       ·go_simp;first | done | rfl | exact (Bool.not_not _).symm
       simp only [Act.put,slA,slB,slC]
       have HR2 : Hid ((((bestScan f (k + 1) k true (f.drop (k + 1))).1 : Int),(bestScan f (k + 1) k true (f.drop (k + 1))).2) = A):=Lib.hid (by have:=HR.out;rwa [if_pos hcond] at this)
       clear hcond HR
       refine fin_nil (fun w3 hx3 _=>?_)
       have X3:=ext_trans XB hx3
       clear c0 c1 d0 d1 hc1 hf1
       go_wp2_with fail
       go_roundw
       case rel=>exact ⟨k + 1,k,true,by omega,by omega,by go_num,rfl,rfl,X3,HR2⟩
       case measure=>simp [intOf];omega
      ·by_cases hwn : xw < mw
       ·have hcond : (4 : Int) = 4 ∧ (true = false ∨ xw < mw):=⟨rfl,.inr hwn⟩
        go_wp2_with fail
        refine wp_region_ext [1] [0,1,2,3,4,5,6,7,8,9,10,11,12,13,14,15,16] [] [] (by kernel_rfl) (by kernel_rfl) ?late ?_
        case late=>exact fun f hf=>absurd hf List.not_mem_nil
        refine Rob.y (v:=?_) rfl rfl (fun w1 hx hH=>?_) ?_;rotate_left
        ·(obtain ⟨q9,qf9⟩:=cellsK (keep_ext hx G9);obtain ⟨hcx,hfx⟩:=bcell (ext_trans XB hx));go_simp;first | done | rfl
        simp only [Act.put,slA,slB,slC]
        refine Rob.cv (.int .i64 4) rfl rfl rfl (fun _ _=>ext_trans) (fun w1 hx hH=>?_) (fun lo1 hi1 hlo1 hhi1=>?_)
        ·unfold RunTo;go_simp;exact (hfp _ (ext_trans XB hx)).mono fun e w' h=>h.to
        simp only [Act.put,slA,slB,slC]
        iterate 2
         refine Rob.y (v:=?_) rfl rfl (fun w1 hx hH=>?_) ?_;rotate_left
         ·go_simp;first | done | rfl | exact (Bool.not_not _).symm
         simp only [Act.put,slA,slB,slC]
        iterate 4
         refine Rob.yg (v:=?_) rfl rfl (fun w1 hx hH=>?_) ?_;rotate_left
         ·go_simp;first | done | rfl | exact (Bool.not_not _).symm
         simp only [Act.put,slA,slB,slC]
        refine Rob.yg (v:=?_) rfl rfl (fun w1 hx hH=>?_) ?_;rotate_left
        ·(obtain ⟨q9,qf9⟩:=cellsK (keep_ext hx G9);obtain ⟨hcx,hfx⟩:=bcell (ext_trans XB hx));go_simp;first | done | rfl
        simp only [Act.put,slA,slB,slC]
        iterate 2
         refine Rob.yg (v:=?_) rfl rfl (fun w1 hx hH=>?_) ?_;rotate_left
         ·go_simp;first | done | rfl | exact (Bool.not_not _).symm
         simp only [Act.put,slA,slB,slC]
        refine Rob.yg (v:=?_) rfl rfl (fun w1 hx hH=>?_) ?_;rotate_left
        ·(obtain ⟨q9,qf9⟩:=cellsK (keep_ext hx G9);obtain ⟨hcx,hfx⟩:=bcell (ext_trans XB hx));go_simp;first | done | rfl
        simp only [Act.put,slA,slB,slC]
        refine Rob.yg (v:=?_) rfl rfl (fun w1 hx hH=>?_) ?_;rotate_left
        ·go_simp;first | done | rfl | exact (Bool.not_not _).symm
        simp only [Act.put,slA,slB,slC]
        refine Rob.yg (v:=?_) rfl rfl (fun w1 hx hH=>?_) ?_;rotate_left
        ·(obtain ⟨q9,qf9⟩:=cellsK (keep_ext hx G9);obtain ⟨hcx,hfx⟩:=bcell (ext_trans XB hx));go_simp;first | done | rfl
        simp only [Act.put,slA,slB,slC]
        iterate 2
         refine Rob.yg (v:=?_) rfl rfl (fun w1 hx hH=>?_) ?_;rotate_left
         ·go_simp;first | done | rfl | exact (Bool.not_not _).symm
         simp only [Act.put,slA,slB,slC]
        refine Rob.y (v:=?_) rfl rfl (fun w1 hx hH=>?_) ?_;rotate_left
        ·go_simp;first | done | rfl | exact (Bool.not_not _).symm
        simp only [Act.put,slA,slB,slC]
        have HR2 : Hid ((((bestScan f (k + 1) k true (f.drop (k + 1))).1 : Int),(bestScan f (k + 1) k true (f.drop (k + 1))).2) = A):=Lib.hid (by have:=HR.out;rwa [if_pos hcond] at this)
        clear hcond HR
        refine fin_nil (fun w3 hx3 _=>?_)
        have X3:=ext_trans XB hx3
        clear c0 c1 d0 d1 hc1 hf1
        go_wp2_with fail
        go_roundw
        case rel=>exact ⟨k + 1,k,true,by omega,by omega,by go_num,rfl,rfl,X3,HR2⟩
        case measure=>simp [intOf];omega
       ·have hcond : ¬ ((4 : Int) = 4 ∧ (true = false ∨ xw < mw)):=fun h=>h.2.elim (fun e=>by cases e) hwn
        go_wp2_with fail
        refine wp_region_ext [1] [0,1,2,3,4,5,6,7,8,9,10,11,12,13,14,15,16] [] [] (by kernel_rfl) (by kernel_rfl) ?late ?_
        case late=>exact fun f hf=>absurd hf List.not_mem_nil
        refine Rob.y (v:=?_) rfl rfl (fun w1 hx hH=>?_) ?_;rotate_left
        ·(obtain ⟨q9,qf9⟩:=cellsK (keep_ext hx G9);obtain ⟨hcx,hfx⟩:=bcell (ext_trans XB hx));go_simp;first | done | rfl
        simp only [Act.put,slA,slB,slC]
        refine Rob.cv (.int .i64 4) rfl rfl rfl (fun _ _=>ext_trans) (fun w1 hx hH=>?_) (fun lo1 hi1 hlo1 hhi1=>?_)
        ·unfold RunTo;go_simp;exact (hfp _ (ext_trans XB hx)).mono fun e w' h=>h.to
        simp only [Act.put,slA,slB,slC]
        iterate 2
         refine Rob.y (v:=?_) rfl rfl (fun w1 hx hH=>?_) ?_;rotate_left
         ·go_simp;first | done | rfl | exact (Bool.not_not _).symm
         simp only [Act.put,slA,slB,slC]
        iterate 4
         refine Rob.yg (v:=?_) rfl rfl (fun w1 hx hH=>?_) ?_;rotate_left
         ·go_simp;first | done | rfl | exact (Bool.not_not _).symm
         simp only [Act.put,slA,slB,slC]
        refine Rob.yg (v:=?_) rfl rfl (fun w1 hx hH=>?_) ?_;rotate_left
        ·(obtain ⟨q9,qf9⟩:=cellsK (keep_ext hx G9);obtain ⟨hcx,hfx⟩:=bcell (ext_trans XB hx));go_simp;first | done | rfl
        simp only [Act.put,slA,slB,slC]
        iterate 2
         refine Rob.yg (v:=?_) rfl rfl (fun w1 hx hH=>?_) ?_;rotate_left
         ·go_simp;first | done | rfl | exact (Bool.not_not _).symm
         simp only [Act.put,slA,slB,slC]
        refine Rob.yg (v:=?_) rfl rfl (fun w1 hx hH=>?_) ?_;rotate_left
        ·(obtain ⟨q9,qf9⟩:=cellsK (keep_ext hx G9);obtain ⟨hcx,hfx⟩:=bcell (ext_trans XB hx));go_simp;first | done | rfl
        simp only [Act.put,slA,slB,slC]
        refine Rob.yg (v:=?_) rfl rfl (fun w1 hx hH=>?_) ?_;rotate_left
        ·go_simp;first | done | rfl | exact (Bool.not_not _).symm
        simp only [Act.put,slA,slB,slC]
        refine Rob.yg (v:=?_) rfl rfl (fun w1 hx hH=>?_) ?_;rotate_left
        ·(obtain ⟨q9,qf9⟩:=cellsK (keep_ext hx G9);obtain ⟨hcx,hfx⟩:=bcell (ext_trans XB hx));go_simp;first | done | rfl
        simp only [Act.put,slA,slB,slC]
        iterate 2
         refine Rob.yg (v:=?_) rfl rfl (fun w1 hx hH=>?_) ?_;rotate_left
         ·go_simp;first | done | rfl | exact (Bool.not_not _).symm
         simp only [Act.put,slA,slB,slC]
        refine Rob.y (v:=?_) rfl rfl (fun w1 hx hH=>?_) ?_;rotate_left
        ·go_simp;first | done | rfl | exact (Bool.not_not _).symm
        simp only [Act.put,slA,slB,slC]
        have HR2 : Hid ((((bestScan f (k + 1) m true (f.drop (k + 1))).1 : Int),(bestScan f (k + 1) m true (f.drop (k + 1))).2) = A):=Lib.hid (by have:=HR.out;rwa [if_neg hcond] at this)
        clear hcond HR
        refine fin_nil (fun w3 hx3 _=>?_)
        have X3:=ext_trans XB hx3
        clear c0 c1 d0 d1 hc1 hf1
        go_wp2_with fail
        go_roundw
        case rel=>exact ⟨k + 1,m,_,by omega,hm4,by go_num,rfl,rfl,X3,HR2⟩
        case measure=>simp [intOf];omega
     ·have hcond : ¬ (cn = 4 ∧ (u = false ∨ xw < mw)):=fun h=>hc4 h.1
      go_wp2_with fail
      refine wp_region_ext [1] [0,1,2,3,4,5,6,7,8,9,10,11,12,13,14,15,16] [] [] (by kernel_rfl) (by kernel_rfl) ?late ?_
      case late=>exact fun f hf=>absurd hf List.not_mem_nil
      refine Rob.y (v:=?_) rfl rfl (fun w1 hx hH=>?_) ?_;rotate_left
      ·(obtain ⟨q9,qf9⟩:=cellsK (keep_ext hx G9));go_simp;first | done | rfl
      simp only [Act.put,slA,slB,slC]
      refine Rob.cv (.int .i64 cn) rfl rfl rfl (fun _ _=>ext_trans) (fun w1 hx hH=>?_) (fun lo1 hi1 hlo1 hhi1=>?_)
      ·unfold RunTo;go_simp;exact (hfp _ (ext_trans XB hx)).mono fun e w' h=>h.to
      simp only [Act.put,slA,slB,slC]
      refine Rob.y (v:=.bool false) rfl rfl (fun w1 hx hH=>?_) ?_
      ·(go_simp;try simp [hc4])
      simp only [Act.put,slA,slB,slC]
      refine Rob.y (v:=?_) rfl rfl (fun w1 hx hH=>?_) ?_;rotate_left
      ·go_simp;first | done | rfl | exact (Bool.not_not _).symm
      simp only [Act.put,slA,slB,slC]
      iterate 12
       refine Rob.no rfl rfl ?_
       simp only [Act.put,slA,slB,slC]
      refine Rob.y (v:=?_) rfl rfl (fun w1 hx hH=>?_) ?_;rotate_left
      ·go_simp;first | done | rfl | exact (Bool.not_not _).symm
      simp only [Act.put,slA,slB,slC]
      have HR2 : Hid ((((bestScan f (k + 1) m u (f.drop (k + 1))).1 : Int),(bestScan f (k + 1) m u (f.drop (k + 1))).2) = A):=Lib.hid (by have:=HR.out;rwa [if_neg hcond] at this)
      clear hcond HR
      refine fin_nil (fun w3 hx3 _=>?_)
      have X3:=ext_trans XB hx3
      clear c0 c1 d0 d1 hc1 hf1
      go_wp2_with fail
      go_roundw
      case rel=>exact ⟨k + 1,m,_,by omega,hm4,by go_num,rfl,rfl,X3,HR2⟩
      case measure=>simp [intOf];omega
    ·obtain rfl : k = 4:=by omega
     have hr:=HR.out
     rw [List.drop_eq_nil_of_le (by omega),bestScan] at hr
     go_wp2_with fail
     go_ret2
     exact ⟨by rw [← hr];rfl,hX⟩
set_option maxRecDepth 20000 in
set_option maxHeartbeats 4000000 in
theorem implFindOld_c (v : Value) (f : List Block) (w : World) (h : Flash (Old w) w v f) (hok : flashOkB f = true) :
  Calls Tryz.prog 78 #[v] w (Ret w (.int .i64 (old f))):=by
 have hps:=pages_short hok
 have hFO:=fun (w' : World) (hx : Ext w w')=>implFlashOk_c v f w' (h.ext hx) hps
 rw [hok] at hFO
 have hF:=flashOk_iff.1 hok
 have h4:=hF.len
 have hSP:=fun (w' : World) (hx : Ext w w')=>spansOf_c v f w' (h.ext hx) h4 hps (fun b hb p hpp=>pageOk_seq (hF.pg hb p hpp))
 have hse:=spansOf_eq h4 fun b hb=>hF.pg hb
 have HSL : Hid (∀ (k : Nat) (hk : k < (spansOf f).length) (hf : k < f.length),(spansOf f)[k] = (least f[k].pages,most f[k].pages)):=Lib.hid (by rw [hse];intro k hk hf;simp)
 have HL : Hid ((spansOf f).length = 4):=Lib.hid (spansL_len _)
 obtain ⟨A,hA⟩ : ∃ A,old f = A:=⟨_,rfl⟩
 rw [hA]
 unfold old at hA
 have HA:=Lib.hid hA
 clear hse hA
 generalize spansOf f = ss at *
 obtain ⟨a,cap,rfl⟩:=h.form
 rw [h4] at h hFO hSP ⊢
 clear hps hF hok
 go_enter Tryz.func78,Tryz.ntmps78
 go_wp2_with fail
 refine (hFO _ (ext_refl _)).mono ?_;rintro e1 w1 ⟨rfl,hx1⟩
 clear hFO
 go_wp2_with fail
 refine (hSP _ hx1).mono ?_;rintro e2 w2 ⟨B,rfl,hx2,hB,hO⟩
 have X2:=ext_trans hx1 hx2
 have HO:=Lib.hid hO
 clear hSP hx1 hx2 hO hB
 go_wp2_with fail
 go_loopw [3,14] (fun n y wr=>∃ k m : Nat,k ≤ 4 ∧ m < 4 ∧ y = .int .i64 k ∧ n = .int .i64 m ∧ Ext w2 wr ∧ Hid (if k = 0 then m = 0 else oldScan f k m (f.drop k) = A)) (fun _ y _=>4 - (intOf y).toNat)
 case atStart=>exact ⟨0,0,by omega,by omega,rfl,rfl,ext_refl _,Lib.hid rfl⟩
 case round =>
  obtain ⟨k,m,hk,hm,rfl,rfl,hX,HR⟩:=hrel
  by_cases hlt : k < 4
  ·have hO:=HO.out.ext hX
   have hkl : k < ss.length:=by rw [HL.out];omega
   have hml : m < ss.length:=by rw [HL.out];omega
   have hkf : k < f.length:=by omega
   have hmf : m < f.length:=by omega
   obtain ⟨c0,c1⟩:=hO.two' hkl
   obtain ⟨d0,d1⟩:=hO.two' hml
   have cf:=hO.frozen
   have hBl:=hO.lt
   rw [Nat.zero_add,HSL.out k hkl hkf] at c0 c1
   rw [Nat.zero_add,HSL.out m hml hmf] at d0 d1
   dsimp only at c0 c1 d0 d1
   have hstep : ∀ m2 : Nat,m2 = (if most f[k].pages < most f[m].pages then k else m) → Hid (if k + 1 = 0 then m2 = 0 else oldScan f (k + 1) m2 (f.drop (k + 1)) = A):=fun m2 hm2=>Lib.hid (by
    rw [if_neg (by omega)]
    have h1:=HR.out
    by_cases hk0 : k = 0
    ·subst hk0
     rw [if_pos rfl] at h1
     subst h1
     rw [if_neg (by omega)] at hm2
     subst hm2
     exact HA.out
    ·rw [if_neg hk0,oldScan_drop _ _ _ hkf] at h1
     rw [← h1,hm2]
     congr 1
     rw [List.getElem?_eq_getElem hmf];rfl)
   have HST:=Lib.hid hstep
   clear HR hstep
   obtain ⟨lo,hlo⟩ : ∃ lo,least f[k].pages = lo:=⟨_,rfl⟩
   generalize most f[k].pages = mk at *
   generalize most f[m].pages = mm at *
   rw [hlo] at c0
   have G6 : (wr.alloc (.cells #[.int .i64 lo,.int .i64 mk] 148)).heap[wr.heap.size]? = some (.cells #[.int .i64 lo,.int .i64 mk] 148 (0,0)):=hg_new rfl
   have XB : Ext w2 (wr.alloc (.cells #[.int .i64 lo,.int .i64 mk] 148)):=ext_alloc hX _
   have hm4' : (m : Int) < 4:=by omega
   have hm0' : ¬ (m : Int) < 0:=by omega
   have D1:=fun (w' : World) (hx : Ext (wr.alloc (.cells #[.int .i64 lo,.int .i64 mk] 148)) w')=>cell_ext (ext_trans (ext_alloc (ext_refl _) _) hx) d1
   have DF:=fun (w' : World) (hx : Ext (wr.alloc (.cells #[.int .i64 lo,.int .i64 mk] 148)) w')=>fun j=>(frozen_ext (ext_trans (ext_alloc (ext_refl _) _) hx) hBl j).trans (cf j)
   by_cases hq : mk < mm
   ·go_wp2_with fail
    refine wp_region_ext [] [0,1,2,3,4,5,6,7] [] [] (by kernel_rfl) (by kernel_rfl) ?late ?_
    case late=>exact fun f hf=>absurd hf List.not_mem_nil
    refine Rob.y (v:=?_) rfl rfl (fun w1 hx hH=>?_) ?_;rotate_left
    ·go_simp;first | done | rfl | exact (Bool.not_not _).symm
    simp only [Act.put,slA,slB,slC]
    refine Rob.y (v:=?_) rfl rfl (fun w1 hx hH=>?_) ?_;rotate_left
    ·(obtain ⟨q6,qf6⟩:=cellsK (keep_ext hx G6);have e1:=D1 _ hx;have ef:=DF _ hx);go_simp;first | done | rfl
    simp only [Act.put,slA,slB,slC]
    iterate 2
     refine Rob.y (v:=?_) rfl rfl (fun w1 hx hH=>?_) ?_;rotate_left
     ·go_simp;first | done | rfl | exact (Bool.not_not _).symm
     simp only [Act.put,slA,slB,slC]
    refine Rob.y (v:=?_) rfl rfl (fun w1 hx hH=>?_) ?_;rotate_left
    ·(obtain ⟨q6,qf6⟩:=cellsK (keep_ext hx G6);have e1:=D1 _ hx;have ef:=DF _ hx);go_simp;first | done | rfl
    simp only [Act.put,slA,slB,slC]
    refine Rob.y (v:=?_) rfl rfl (fun w1 hx hH=>?_) ?_;rotate_left
    ·go_simp;first | done | rfl | exact (Bool.not_not _).symm
    simp only [Act.put,slA,slB,slC]
    refine Rob.y (v:=?_) rfl rfl (fun w1 hx hH=>?_) ?_;rotate_left
    ·(obtain ⟨q6,qf6⟩:=cellsK (keep_ext hx G6);have e1:=D1 _ hx;have ef:=DF _ hx);go_simp;first | done | rfl
    simp only [Act.put,slA,slB,slC]
    refine Rob.y (v:=?_) rfl rfl (fun w1 hx hH=>?_) ?_;rotate_left
    ·go_simp;first | done | rfl | exact (Bool.not_not _).symm
    simp only [Act.put,slA,slB,slC]
    refine fin_nil (fun w3 hx3 _=>?_)
    have X3:=ext_trans XB hx3
    clear c0 c1 d0 d1 cf hO D1 DF
    go_wp2_with fail
    go_roundw
    case rel=>exact ⟨k + 1,k,by omega,by omega,by go_num,rfl,X3,HST.out k (by rw [if_pos hq])⟩
    case measure=>simp [intOf];omega
   ·go_wp2_with fail
    refine wp_region_ext [] [0,1,2,3,4,5,6,7] [] [] (by kernel_rfl) (by kernel_rfl) ?late ?_
    case late=>exact fun f hf=>absurd hf List.not_mem_nil
    refine Rob.y (v:=?_) rfl rfl (fun w1 hx hH=>?_) ?_;rotate_left
    ·go_simp;first | done | rfl | exact (Bool.not_not _).symm
    simp only [Act.put,slA,slB,slC]
    refine Rob.y (v:=?_) rfl rfl (fun w1 hx hH=>?_) ?_;rotate_left
    ·(obtain ⟨q6,qf6⟩:=cellsK (keep_ext hx G6);have e1:=D1 _ hx;have ef:=DF _ hx);go_simp;first | done | rfl
    simp only [Act.put,slA,slB,slC]
    iterate 2
     refine Rob.y (v:=?_) rfl rfl (fun w1 hx hH=>?_) ?_;rotate_left
     ·go_simp;first | done | rfl | exact (Bool.not_not _).symm
     simp only [Act.put,slA,slB,slC]
    refine Rob.y (v:=?_) rfl rfl (fun w1 hx hH=>?_) ?_;rotate_left
    ·(obtain ⟨q6,qf6⟩:=cellsK (keep_ext hx G6);have e1:=D1 _ hx;have ef:=DF _ hx);go_simp;first | done | rfl
    simp only [Act.put,slA,slB,slC]
    refine Rob.y (v:=?_) rfl rfl (fun w1 hx hH=>?_) ?_;rotate_left
    ·go_simp;first | done | rfl | exact (Bool.not_not _).symm
    simp only [Act.put,slA,slB,slC]
    refine Rob.y (v:=?_) rfl rfl (fun w1 hx hH=>?_) ?_;rotate_left
    ·(obtain ⟨q6,qf6⟩:=cellsK (keep_ext hx G6);have e1:=D1 _ hx;have ef:=DF _ hx);go_simp;first | done | rfl
    simp only [Act.put,slA,slB,slC]
    refine Rob.y (v:=?_) rfl rfl (fun w1 hx hH=>?_) ?_;rotate_left
    ·go_simp;first | done | rfl | exact (Bool.not_not _).symm
    simp only [Act.put,slA,slB,slC]
    refine fin_nil (fun w3 hx3 _=>?_)
    have X3:=ext_trans XB hx3
    clear c0 c1 d0 d1 cf hO D1 DF
    go_wp2_with fail
    go_roundw
    case rel=>exact ⟨k + 1,m,by omega,by omega,by go_num,rfl,X3,HST.out m (by rw [if_neg (by omega)])⟩
    case measure=>simp [intOf];omega
  ·obtain rfl : k = 4:=by omega
   have hr:=HR.out
   rw [if_neg (by omega),List.drop_eq_nil_of_le (by omega),oldScan] at hr
   subst hr
   go_wp2_with fail
   go_ret
   exact ⟨rfl,ext_trans X2 hX⟩
end Go.Bu
namespace Go.Bu
open Go Go.RowKit Go.Plan Go.Proofs
theorem diskStep_c (r : Rec) (w : World) : Calls Tryz.prog 80 #[recA r] w (Ret w (stepA ⟨1,r.addr,r.val,0,rec0⟩)):=by
 go_enter Tryz.func80,Tryz.ntmps80
 go_wp2
 refine bodyPost_ret (v:=stepA ⟨1,r.addr,r.val,0,rec0⟩) (by simp [results,Tryz.results80,go_sem,rec0]) rfl ⟨rfl,?_⟩
 have X:=ext_refl w
 ((repeat (first | with_reducible (refine ext_set2 ?_ ?_);focus (first | exact Nat.le_refl _ | (dsimp only;omega) | (simp;omega)) | with_reducible refine ext_alloc2 ?_));with_reducible exact X)
theorem writeSteps_no {f : List Block} {kind addr val : Int} (h : recOkB ⟨kind,next f,addr,val⟩ = false) : writeSteps f kind addr val = []:=by
 unfold writeSteps;rw [h,if_neg (by simp)]
theorem writeSteps_open {f : List Block} {kind addr val : Int} (h : recOkB ⟨kind,next f,addr,val⟩ = true) (ho : (openB f).2 = true) : writeSteps f kind addr val = [⟨3,0,0,(openB f).1,⟨kind,next f,addr,val⟩⟩]:=by
 unfold writeSteps room;rw [h,if_pos ho];rfl
theorem writeSteps_worn {f : List Block} {kind addr val : Int} (ho : (openB f).2 = false) (hw : ¬ (blockAt f (old f)).worn < 200) : writeSteps f kind addr val = []:=by
 unfold writeSteps room;rw [ho,if_neg (show ¬ (false = true) by simp),decide_eq_false hw];rfl
theorem writeSteps_old {f : List Block} {kind addr val : Int} (h : recOkB ⟨kind,next f,addr,val⟩ = true) (ho : (openB f).2 = false) (hw : (blockAt f (old f)).worn < 200) :
  writeSteps f kind addr val = roomSteps f (blockAt f (old f)).pages ++ [⟨2,0,0,(old f : Int),rec0⟩] ++ [⟨3,0,0,(old f : Int),⟨kind,next f,addr,val⟩⟩]:=by
 unfold writeSteps room;rw [h,ho,if_neg (show ¬ (false = true) by simp),decide_eq_true hw];rfl
set_option maxRecDepth 20000 in
set_option maxHeartbeats 4000000 in
theorem stepsWrite_c (v : Value) (f : List Block) (kind addr val : Int) (w : World) (h : Flash (Old w) w v f) (hok : flashOkB f = true) :
  Calls Tryz.prog 46 #[v,.int .i64 kind,.int .i64 addr,.int .i64 val] w (RetS w (writeSteps f kind addr val)):=by
 have hFN:=fun (w' : World) (hx : Ext w w')=>implFindNext_c v f w' (h.ext hx) hok
 have hFO:=fun (w' : World) (hx : Ext w w')=>implFindOpen_c v f w' (h.ext hx) hok
 have hFD:=fun (w' : World) (hx : Ext w w')=>implFindOld_c v f w' (h.ext hx) hok
 have hFL:=fun (j : Nat) (x : Block) (p : Page) (w' : World) (hx : Ext w w') (h1 : f[old f]? = some x) (h2 : x.pages[j]? = some p)=>implFindLive_c v f (old f) j x p w' (h.ext hx) hok h1 h2
 have HLEN:=Lib.hid (write_le hok kind addr val)
 have hF:=flashOk_iff.1 hok
 have h4:=hF.len
 have hol : old f < f.length:=old_lt (by omega)
 have hb4 : f[old f].pages.length = 4:=(flashOk_block hok (List.getElem_mem _)).1
 have hbw:=(flashOk_block hok (List.getElem_mem hol)).2.2.1
 have e1:=writeSteps_no (f:=f) (kind:=kind) (addr:=addr) (val:=val)
 have e2:=writeSteps_open (f:=f) (kind:=kind) (addr:=addr) (val:=val)
 have e3:=writeSteps_worn (f:=f) (kind:=kind) (addr:=addr) (val:=val)
 have e4:=writeSteps_old (f:=f) (kind:=kind) (addr:=addr) (val:=val)
 rw [blockAt_get hol] at e3 e4
 have hms:=maxSeq_bd hok
 generalize writeSteps f kind addr val = WS at *
 generalize next f = nx at *
 generalize (openB f).1 = ob at *
 obtain ⟨a,cap,rfl⟩:=h.form
 rw [h4] at h hFN hFO hFD hFL ⊢
 cases hrok : recOkB ⟨kind,nx,addr,val⟩
 ·obtain rfl:=e1 hrok
  clear e2 e3 e4
  go_enter Tryz.func46,Tryz.ntmps46
  go_wp2_with fail
  refine (hFN _ (ext_refl _)).mono ?_;rintro e1 w1 ⟨rfl,hx1⟩
  clear hFN
  go_wp2_with fail
  refine (implRecOk_c ⟨kind,nx,addr,val⟩ _).mono ?_;rw [hrok];rintro e2 w2 ⟨rfl,hx2⟩
  have G9:=keep_ext hx2 (hg_new (b:=w1.heap.size) rfl)
  have X2 : Ext w w2:=ext_trans hx1 (ext_trans (ext_alloc (ext_refl _) _) hx2)
  have S9:=hx1.size
  clear hx1 hx2
  obtain ⟨g9,gf9⟩:=cellsK G9
  have l9:=heap_lt G9
  go_wp2_with fail
  go_ret
  exact ⟨_,rfl,X2,SRow.nil _ _,by simp⟩
 ·cases hop : (openB f).2
  ·rw [hop] at hFO
   obtain ⟨b,o,pv,rfl,hb,hpp,c0,c1⟩:=h.at2 hol
   obtain ⟨pa,pcap,rfl⟩:=hpp.form
   rw [hb4] at hpp c0
   have hb' : b < w.heap.size:=hb
   have hbo : f[old f]? = some f[old f]:=List.getElem?_eq_getElem hol
   have hFLV:=fun (j : Nat) (p : Page) (w' : World) (hx : Ext w w') (hp : f[old f].pages[j]? = some p)=>hFL j _ p w' hx hbo hp
   clear hFL hbo
   have hbf : old f < 4:=by omega
   by_cases hw : f[old f].worn < 200
   ·have hWS:=e4 hrok hop hw
    have HWS:=Lib.hid hWS
    clear e1 e2 e3 e4 hWS
    have hwn : (f[old f].worn == 200) = false:=by rw [beq_eq_false_iff_ne];omega
    generalize f[old f].worn = wn at *
    go_enter Tryz.func46,Tryz.ntmps46
    go_wp2_with fail
    refine (hFN _ (ext_refl _)).mono ?_;rintro e1 w1 ⟨rfl,hx1⟩
    clear hFN
    go_wp2_with fail
    refine (implRecOk_c ⟨kind,nx,addr,val⟩ _).mono ?_;rw [hrok];rintro e2 w2 ⟨rfl,hx2⟩
    have G9:=keep_ext hx2 (hg_new (b:=w1.heap.size) rfl)
    have X2 : Ext w w2:=ext_trans hx1 (ext_trans (ext_alloc (ext_refl _) _) hx2)
    have S9:=hx1.size
    clear hx1 hx2
    obtain ⟨g9,gf9⟩:=cellsK G9
    have l9:=heap_lt G9
    go_wp2_with fail
    refine (hFO _ X2).mono ?_;rintro e3 w3 ⟨rfl,hx3⟩
    have X3:=ext_trans X2 hx3
    replace G9:=keep_ext hx3 G9
    clear hFO hx3 g9 gf9 X2 l9
    go_wp2_with fail
    refine (hFD _ X3).mono ?_;rintro e4 w4 ⟨rfl,hx4⟩
    have X4:=ext_trans X3 hx4
    replace G9:=keep_ext hx4 G9
    clear hFD hx4 X3
    obtain ⟨hc4,hf4⟩:=bcell X4
    have hbi : (old f : Int) < 4:=by omega
    have hbi0 : ¬ (old f : Int) < 0:=by omega
    have S1 : w.heap.size ≤ w1.heap.size:=S9
    obtain ⟨RS,hRS⟩ : ∃ RS,roomSteps f f[old f].pages = RS:=⟨_,rfl⟩
    rw [hRS] at HWS
    have HR0 : Hid (([] : List Step) ++ roomSteps f (f[old f].pages.drop 0) = RS):=Lib.hid hRS
    have HPO : Hid (∀ p ∈ f[old f].pages,pageOkB p = true):=Lib.hid fun p hp=>hF.pg (List.getElem_mem _) p hp
    clear hRS
    go_wp2_with fail
    go_loopw [13,49] (fun v y wr=>∃ (k : Nat) (acc : List Step),k ≤ 4 ∧ y = .int .i64 k ∧ SRow w.heap.size wr v acc ∧ acc.length ≤ k ∧ Ext w wr ∧ Hid (acc ++ roomSteps f (f[old f].pages.drop k) = RS) ∧ wr.heap[w1.heap.size]? = some (.cells #[.int .i64 kind,.int .i64 nx,.int .i64 addr,.int .i64 val] 77 (0,0))) (fun _ y _=>4 - (intOf y).toNat)
    case atStart=>exact ⟨0,[],by omega,rfl,SRow.nil _ _,by simp,X4,HR0,G9⟩
    case round =>
     clear G9 X4 HR0 hc4 hf4 c0 c1
     obtain ⟨k,acc,hk,rfl,hS,hal,hX,HR,G9⟩:=hrel
     obtain ⟨sa,scap,rfl⟩:=hS.form
     have hs0:=heap_lt G9
     by_cases hlt : k < 4
     ·have hkl : k < f[old f].pages.length:=by omega
      obtain ⟨b2,o2,rfl,hb2,d0,d1,d2,d3,d4⟩:=hpp.at5 hkl
      have hb2' : b2 < w.heap.size:=hb2
      rw [roomSteps_drop _ _ _ hkl,← List.append_assoc] at HR
      have hlv:=fun (w' : World) (hx : Ext w w')=>hFLV k _ w' hx (List.getElem?_eq_getElem hkl)
      have hone : roomOne f f[old f].pages[k] = if liveP f f[old f].pages[k] = true ∧ f[old f].pages[k].r.kind = 1 then [diskStepOf f[old f].pages[k]] else []:=rfl
      have HONE:=Lib.hid hone
      obtain ⟨lv,hlvv⟩ : ∃ lv,liveP f f[old f].pages[k] = lv:=⟨_,rfl⟩
      rw [hlvv] at hlv HONE
      clear hone hlvv hFLV
      generalize f[old f].pages[k] = p at *
      obtain ⟨hc,hf⟩:=bcell hX
      have hdt:=fun w'=>isDirty_c p.r w'
      have hds:=fun w'=>diskStep_c p.r w'
      obtain ⟨kd,hkd⟩ : ∃ kd,(p.r.kind == 1) = kd:=⟨_,rfl⟩
      rw [hkd] at hdt
      dsimp only [recA] at hdt hds
      have HKD:=Lib.hid hkd
      clear hkd
      cases kd
      ·have hno : roomOne f p = []:=by rw [HONE.out,if_neg (fun h=>by have:=HKD.out;rw [h.2] at this;cases this)]
       have HR2 : Hid (acc ++ roomSteps f (f[old f].pages.drop (k + 1)) = RS):=Lib.hid (by have:=HR.out;rwa [hno,List.append_nil] at this)
       go_wp2_with fail
       refine (hdt _).mono ?_;rintro e5 w5 ⟨rfl,hx5⟩
       have X5:=ext_trans (ext_alloc hX _) hx5
       have hS5:=hS.ext (ext_trans (ext_alloc (ext_refl _) _) hx5)
       have G7:=keep_ext hx5 (hg_new (b:=wr.heap.size) rfl)
       have H5:=ext_trans (ext_alloc (ext_refl _) _) hx5
       replace G9:=keep_ext H5 G9
       clear hc hf d0 d1 d2 d3 d4 hdt
       go_wp2_with fail
       go_roundw
       case rel=>exact ⟨k + 1,acc,by omega,by go_num,hS5,by omega,X5,HR2,G9⟩
       case measure=>simp [intOf];omega
      ·cases lv
       ·have hno : roomOne f p = []:=by rw [HONE.out,if_neg (fun h=>by cases h.1)]
        have HR2 : Hid (acc ++ roomSteps f (f[old f].pages.drop (k + 1)) = RS):=Lib.hid (by have:=HR.out;rwa [hno,List.append_nil] at this)
        go_wp2_with fail
        refine (hdt _).mono ?_;rintro e5 w5 ⟨rfl,hx5⟩
        have X5:=ext_trans (ext_alloc hX _) hx5
        have hS5:=hS.ext (ext_trans (ext_alloc (ext_refl _) _) hx5)
        have G7:=keep_ext hx5 (hg_new (b:=wr.heap.size) rfl)
        have H5:=ext_trans (ext_alloc (ext_refl _) _) hx5
        replace G9:=keep_ext H5 G9
        clear hc hf d0 d1 d2 d3 d4 hdt
        go_wp2_with fail
        refine (hlv _ X5).mono ?_;rintro e6 w6 ⟨rfl,hx6⟩
        go_wp2_with fail
        go_roundw
        case rel=>exact ⟨k + 1,acc,by omega,by go_num,hS5.ext hx6,by omega,ext_trans X5 hx6,HR2,keep_ext hx6 G9⟩
        case measure=>simp [intOf];omega
       ·have hyes : roomOne f p = [diskStepOf p]:=by rw [HONE.out,if_pos ⟨rfl,by simpa using HKD.out⟩]
        have HR2 : Hid ((acc ++ [diskStepOf p]) ++ roomSteps f (f[old f].pages.drop (k + 1)) = RS):=Lib.hid (by have:=HR.out;rwa [hyes] at this)
        go_wp2_with fail
        refine (hdt _).mono ?_;rintro e5 w5 ⟨rfl,hx5⟩
        have X5:=ext_trans (ext_alloc hX _) hx5
        have hS5:=hS.ext (ext_trans (ext_alloc (ext_refl _) _) hx5)
        have G7:=keep_ext hx5 (hg_new (b:=wr.heap.size) rfl)
        have H5:=ext_trans (ext_alloc (ext_refl _) _) hx5
        replace G9:=keep_ext H5 G9
        clear hc hf d0 d1 d2 d3 d4 hdt
        go_wp2_with fail
        refine (hlv _ X5).mono ?_;rintro e6 w6 ⟨rfl,hx6⟩
        have X6:=ext_trans X5 hx6
        have hS6:=hS5.ext hx6
        replace G7:=keep_ext hx6 G7
        replace G9:=keep_ext hx6 G9
        obtain ⟨g7,gf7⟩:=cellsK G7
        have l7:=heap_lt G7
        go_wp2_with fail
        refine (hds _).mono ?_;rintro e7 w7 ⟨rfl,hx7⟩
        have X7:=ext_trans X6 hx7
        have hS7:=hS6.ext hx7
        replace G9:=keep_ext hx7 G9
        have HS7:=Lib.hid hS7
        have hwz:=X7.size
        clear hS hS5 hS6 hS7 g7 gf7
        go_wp2_with (refine wpList_appStep rfl _ _ rfl rfl (HS7.out.ext (ext_alloc (ext_refl _) _)) (y:=diskStepOf p) rfl (hg_new rfl) (by omega) (by simp;omega) (fun v' w' hS' hg=>?_))
        go_roundw
        case rel=>exact ⟨k + 1,acc ++ [diskStepOf p],by omega,by go_num,hS',by simp;omega,ext_grown (ext_alloc X7 _) (HS7.out.ext (ext_alloc (ext_refl _) _)) hg,HR2,keep_grown (hg_alloc G9) (by decide) (HS7.out.ext (ext_alloc (ext_refl _) _)) hg⟩
        case measure=>simp [intOf];omega
     ·obtain rfl : k = 4:=by omega
      have hr : acc = RS:=by have:=HR.out;rw [List.drop_eq_nil_of_le (by omega)] at this;simpa [roomSteps] using this
      subst hr
      clear HR
      have HS:=Lib.hid hS
      have hwz:=hX.size
      clear hS
      obtain ⟨g9,gf9⟩:=cellsK G9
      rw [show ((4 : Nat) : Int) = 4 from rfl]
      go_wp2_with (first
       | (refine wpList_appStep rfl _ _ rfl rfl (HS5.out.ext (ext_alloc (ext_refl _) _)) (y:=⟨3,0,0,(old f : Int),⟨kind,nx,addr,val⟩⟩) rfl (hg_new rfl) (by simp;omega) (by simp;omega) (fun v6 w6 hS6 hg6=>?_))
       | (refine wpList_appStep rfl _ _ rfl rfl (HS.out.ext (ext_alloc (ext_refl _) _)) (y:=⟨2,0,0,(old f : Int),rec0⟩) rfl (hg_new rfl) (by omega) (by simp;omega) (fun v5 w5 hS5 hg5=>?_);have X5:=ext_grown (ext_alloc hX _) (HS.out.ext (ext_alloc (ext_refl _) _)) hg5;replace G9:=keep_grown (hg_alloc G9) (by decide) (HS.out.ext (ext_alloc (ext_refl _) _)) hg5;clear g9 gf9;obtain ⟨g9,gf9⟩:=cellsK G9;have l9:=heap_lt G9;have HS5:=Lib.hid hS5;have hwz5:=X5.size;clear hS5;clear HS))
      go_ret
      refine ⟨_,rfl,ext_grown (ext_alloc X5 _) (HS5.out.ext (ext_alloc (ext_refl _) _)) hg6,?_,by have:=HLEN.out;omega⟩
      rw [HWS.out];exact hS6
   ·obtain rfl:=e3 hop hw
    have hwn : f[old f].worn = 200:=by omega
    rw [hwn] at c1
    clear e1 e2 e4 hw hwn
    go_enter Tryz.func46,Tryz.ntmps46
    go_wp2_with fail
    refine (hFN _ (ext_refl _)).mono ?_;rintro e1 w1 ⟨rfl,hx1⟩
    clear hFN
    go_wp2_with fail
    refine (implRecOk_c ⟨kind,nx,addr,val⟩ _).mono ?_;rw [hrok];rintro e2 w2 ⟨rfl,hx2⟩
    have G9:=keep_ext hx2 (hg_new (b:=w1.heap.size) rfl)
    have X2 : Ext w w2:=ext_trans hx1 (ext_trans (ext_alloc (ext_refl _) _) hx2)
    have S9:=hx1.size
    clear hx1 hx2
    obtain ⟨g9,gf9⟩:=cellsK G9
    have l9:=heap_lt G9
    go_wp2_with fail
    refine (hFO _ X2).mono ?_;rintro e3 w3 ⟨rfl,hx3⟩
    have X3:=ext_trans X2 hx3
    replace G9:=keep_ext hx3 G9
    clear hFO hx3 g9 gf9 X2 l9
    go_wp2_with fail
    refine (hFD _ X3).mono ?_;rintro e4 w4 ⟨rfl,hx4⟩
    have X4:=ext_trans X3 hx4
    replace G9:=keep_ext hx4 G9
    clear hFD hx4 X3
    obtain ⟨hc4,hf4⟩:=bcell X4
    have hbi : (old f : Int) < 4:=by omega
    have hbi0 : ¬ (old f : Int) < 0:=by omega
    go_wp2_with fail
    go_ret
    exact ⟨_,rfl,X4,SRow.nil _ _,by simp⟩
  ·obtain rfl:=e2 hrok hop
   rw [hop] at hFO
   clear e1 e3 e4
   go_enter Tryz.func46,Tryz.ntmps46
   go_wp2_with fail
   refine (hFN _ (ext_refl _)).mono ?_;rintro e1 w1 ⟨rfl,hx1⟩
   clear hFN
   go_wp2_with fail
   refine (implRecOk_c ⟨kind,nx,addr,val⟩ _).mono ?_;rw [hrok];rintro e2 w2 ⟨rfl,hx2⟩
   have G9:=keep_ext hx2 (hg_new (b:=w1.heap.size) rfl)
   have X2 : Ext w w2:=ext_trans hx1 (ext_trans (ext_alloc (ext_refl _) _) hx2)
   have S9:=hx1.size
   clear hx1 hx2
   obtain ⟨g9,gf9⟩:=cellsK G9
   have l9:=heap_lt G9
   go_wp2_with fail
   refine (hFO _ X2).mono ?_;rintro e3 w3 ⟨rfl,hx3⟩
   have X3:=ext_trans X2 hx3
   replace G9:=keep_ext hx3 G9
   clear hFO hx3 g9 gf9
   obtain ⟨g9,gf9⟩:=cellsK G9
   go_wp2_with fail
   go_ret
   refine ⟨_,rfl,ext_alloc X3 _,SRow.one (y:=⟨3,0,0,ob,⟨kind,nx,addr,val⟩⟩) (hg_new rfl) X3.size,by simp⟩
def putSteps2 (s : Store) (addr val : Int) : List Step:=if storeOkB s = true then writeSteps s.flash 1 addr val else []
set_option maxRecDepth 20000 in
set_option maxHeartbeats 4000000 in
theorem implStepsPut_c (fv dv : Value) (s : Store) (addr val : Int) (w : World) (h : StoreV w fv dv s) (hs : Small s) :
  Calls Tryz.prog 15 #[.agg #[fv,dv],.int .i64 addr,.int .i64 val] w (RetS w (putSteps2 s addr val)):=by
 have hSO:=fun (w' : World) (hx : Ext w w')=>implStoreOk_c fv dv s w' (h.ext hx) hs.2.1 hs.2.2
 have hSW:=fun (w' : World) (hx : Ext w w') (hok : flashOkB s.flash = true)=>stepsWrite_c fv s.flash 1 addr val w' (h.1.ext hx) hok
 unfold putSteps2
 obtain ⟨a1,n1,rfl⟩:=h.1.form
 obtain ⟨a2,n2,rfl⟩:=h.2.form
 clear h hs
 cases hok : storeOkB s
 ·rw [hok] at hSO
  rw [if_neg (by simp)]
  go_enter Tryz.func15,Tryz.ntmps15
  go_wp2_with fail
  refine (hSO _ (ext_alloc (ext_refl _) _)).mono ?_;rintro e1 w1 ⟨rfl,hx1⟩
  have G0:=keep_ext hx1 (hg_new (b:=w.heap.size) rfl)
  obtain ⟨g0,gf0⟩:=cellsK G0
  have l0:=heap_lt G0
  have X1:=ext_trans (ext_alloc (ext_refl w) _) hx1
  go_wp2_with fail
  go_ret
  exact ⟨_,rfl,X1,SRow.nil _ _,by simp⟩
 ·rw [hok] at hSO
  rw [if_pos rfl]
  have hsw:=fun (w' : World) (hx : Ext w w')=>hSW w' hx (storeOk_flash hok)
  clear hSW hok
  go_enter Tryz.func15,Tryz.ntmps15
  go_wp2_with fail
  refine (hSO _ (ext_alloc (ext_refl _) _)).mono ?_;rintro e1 w1 ⟨rfl,hx1⟩
  have G0:=keep_ext hx1 (hg_new (b:=w.heap.size) rfl)
  obtain ⟨g0,gf0⟩:=cellsK G0
  have l0:=heap_lt G0
  have X1:=ext_trans (ext_alloc (ext_refl w) _) hx1
  go_wp2_with fail
  refine (hsw _ X1).mono ?_;rintro e2 w2 ⟨v,rfl,hx2,hS,hl⟩
  go_wp2_with fail
  go_ret
  exact ⟨_,rfl,ext_trans X1 hx2,hS.base X1.size,hl⟩
end Go.Bu
namespace Go.Bu
open Go Go.RowKit Go.Plan Go.Proofs
set_option maxHeartbeats 1000000 in
theorem implSeqUsed_c (v : Value) (f : List Block) (n : Int) (w : World) (h : Flash (Old w) w v f) (hn : f.length ≤ 1048576) (hp : ∀ b ∈ f,b.pages.length ≤ 1048576) :
  Calls Tryz.prog 123 #[v,.int .i64 n] w (Ret w (.bool (seqUsed f n))):=by
 obtain ⟨a,cap,rfl⟩:=h.form
 obtain ⟨A,hA⟩ : ∃ A,seqUsed f n = A:=⟨_,rfl⟩
 rw [hA]
 unfold seqUsed at hA
 have HP:=Lib.hid hp;clear hp
 have HA:=Lib.hid hA;clear hA
 go_enter Tryz.func123,Tryz.ntmps123
 go_wp2
 go_loopw [11] (fun y wr=>∃ (i : Nat),i ≤ f.length ∧ y = .int .i64 i ∧ Ext w wr ∧ Hid ((f.drop i).any (fun b=>b.pages.any (isSeq n)) = A)) (fun y _=>f.length - (intOf y).toNat)
 case atStart=>exact ⟨0,by omega,rfl,ext_refl _,HA⟩
 case round =>
  obtain ⟨i,hi,rfl,hX,HR⟩:=hrel
  by_cases hlt : i < f.length
  ·obtain ⟨b,o,pv,rfl,hb,hpp,h0,h1⟩:=h.at2 hlt
   have hb' : b < w.heap.size:=hb
   obtain ⟨pa,pcap,rfl⟩:=hpp.form
   have hpl:=HP.out f[i] (List.getElem_mem _)
   rw [any_drop _ _ _ hlt] at HR
   obtain ⟨hc,hf⟩:=bcell hX
   have XB : Ext w (wr.alloc (.cells #[.slice pa f[i].pages.length pcap,.int .i64 f[i].worn] 114)):=ext_alloc hX _
   go_wp2
   clear hc hf h0 h1
   go_loopw [18] (fun y wr=>∃ (k : Nat),k ≤ f[i].pages.length ∧ y = .int .i64 k ∧ Ext w wr ∧ Hid (((f[i].pages.drop k).any (isSeq n) || (f.drop (i + 1)).any (fun b=>b.pages.any (isSeq n))) = A)) (fun y _=>f[i].pages.length - (intOf y).toNat)
   case atStart=>exact ⟨0,by omega,rfl,XB,HR⟩
   case round =>
    clear HR XB hX
    obtain ⟨k,hk,rfl,hX,HR⟩:=hrel
    by_cases hlk : k < f[i].pages.length
    ·obtain ⟨b2,o2,rfl,hb2,e0,e1,e2,e3,e4⟩:=hpp.at5 hlk
     have hb2' : b2 < w.heap.size:=hb2
     rw [any_drop _ _ _ hlk] at HR
     have hq : isSeq n f[i].pages[k] = (f[i].pages[k].state == 1 && f[i].pages[k].r.seq == n):=rfl
     have HQ:=Lib.hid hq;clear hq
     obtain ⟨hc,hf⟩:=bcell hX
     go_wp2
     all_goals try
      go_ret
      have hr:=HR.out
      try simp only [beq_iff_eq,Bool.not_eq_true,beq_eq_false_iff_ne,ne_eq,bne_iff_ne,bne_eq_false_iff_eq,decide_eq_true_eq,decide_eq_false_iff_not] at *
      rw [HQ.out,show (f[i].pages[k].state == 1 && f[i].pages[k].r.seq == n) = true from by simp [*]] at hr
      exact ⟨by rw [← hr];simp,ext_alloc hX _⟩
     all_goals
      have hr:=HR.out
      try simp only [beq_iff_eq,Bool.not_eq_true,beq_eq_false_iff_ne,ne_eq,bne_iff_ne,bne_eq_false_iff_eq,decide_eq_true_eq,decide_eq_false_iff_not] at *
      rw [HQ.out,show (f[i].pages[k].state == 1 && f[i].pages[k].r.seq == n) = false from by simp [*],Bool.false_or] at hr
      exact ⟨⟨k + 1,by omega,by go_num,ext_alloc hX _,Lib.hid hr⟩,by simp [intOf];omega⟩
    ·obtain rfl : k = f[i].pages.length:=by omega
     rw [List.drop_length,List.any_nil,Bool.false_or] at HR
     go_wp2
     exact ⟨⟨i + 1,by omega,by go_num,hX,HR⟩,by simp [intOf];omega⟩
  ·obtain rfl : i = f.length:=by omega
   rw [List.drop_length,List.any_nil] at HR
   have hr:=HR.out
   subst hr
   go_wp2
   go_ret
   exact ⟨rfl,hX⟩
theorem FlashAt.own {c : SC} {w : World} {f : List Block} (h : FlashAt c w f) : OwnFlash w (c.F.v f.length) f c.F.b (c.ps.map (·.b)):=by
 refine ⟨rowsOf f c.ps,⟨c.F.T,c.F.o,c.F.cap,?_,h.row⟩,rowsOf_len h.len,by simp [h.len],fun i x r b hx hr hb=>?_⟩
 ·show Value.slice _ _ _ = _;rw [rowsOf_len h.len]
 ·rw [List.getElem?_map] at hb
  obtain ⟨p,hp,rfl⟩:=Option.map_eq_some_iff.1 hb
  rw [rowsOf_get hx hp] at hr
  obtain rfl:=Option.some.inj hr
  exact ⟨rfl,p.T,p.o,p.cap,rfl,h.pages i x p hx hp⟩
theorem OwnFlash.at_ {w : World} {v : Value} {f : List Block} {B : Nat} {bs : List Nat} (h : OwnFlash w v f B bs) : ∃ c : SC,c.fl = B :: bs ∧ v = c.F.v f.length ∧ FlashAt c w f:=by
 obtain ⟨rows,⟨T,o,cap,rfl,hrow⟩,h2,h3,h4⟩:=h
 have hex : ∀ i : Fin bs.length,∃ p : At,p.b = bs[i] ∧ ∀ x r,f[i.1]? = some x → rows[i.1]? = some r → r = rowOf x p ∧ OwnAt 5 pageC p.T w p.b p.o x.pages:=by
  intro i
  have hi:=i.2
  have hif : i.1 < f.length:=by omega
  have hir : i.1 < rows.length:=by omega
  obtain ⟨h5,T',o',cap',hv,h6⟩:=h4 i.1 f[i.1] rows[i.1] bs[i.1] (List.getElem?_eq_getElem hif) (List.getElem?_eq_getElem hir) (List.getElem?_eq_getElem hi)
  refine ⟨⟨bs[i.1],o',cap',T'⟩,rfl,fun x r hx hr=>?_⟩
  rw [List.getElem?_eq_getElem hif] at hx;rw [List.getElem?_eq_getElem hir] at hr
  obtain rfl:=Option.some.inj hx;obtain rfl:=Option.some.inj hr
  exact ⟨Prod.ext hv h5,h6⟩
 obtain ⟨g,hg⟩:=Classical.axiomOfChoice hex
 have hps : (List.ofFn g).map (·.b) = bs:=by
  apply List.ext_getElem
  ·simp
  ·intro i h1 h2;simp;exact (hg ⟨i,by simpa using h1⟩).1
 refine ⟨⟨⟨B,o,cap,T⟩,List.ofFn g,⟨0,0,0,0⟩⟩,by simp [SC.fl,hps],?_,⟨?_,by simp;omega,fun i x p hx hp=>?_⟩⟩
 ·show Value.slice _ _ _ = _;rw [h2]
 ·have : rowsOf f (List.ofFn g) = rows:=by
   apply List.ext_getElem
   ·rw [rowsOf_len (by simp;omega)];omega
   ·intro i h1 h2'
    have hib : i < bs.length:=by omega
    have hif : i < f.length:=by omega
    have:=rowsOf_get (f:=f) (ps:=List.ofFn g) (List.getElem?_eq_getElem hif) (p:=g ⟨i,hib⟩) (by simp [hib])
    rw [List.getElem?_eq_getElem h1] at this
    rw [Option.some.inj this]
    exact ((hg ⟨i,hib⟩).2 f[i] rows[i] (List.getElem?_eq_getElem hif) (List.getElem?_eq_getElem h2')).1.symm
  rw [this];exact hrow
 ·have hip : i < bs.length:=by have:=(List.getElem?_eq_some_iff.1 hp).1;simpa using this
  have hpe : p = g ⟨i,hip⟩:=by
   have:=hp
   simp [hip] at this;exact this.symm
  subst hpe
  exact ((hg ⟨i,hip⟩).2 x rows[i] hx (List.getElem?_eq_getElem (by omega))).2
theorem nodup_set {α : Type} : ∀ (xs : List α) (i : Nat) (y : α),xs.Nodup → y ∉ xs → (xs.set i y).Nodup
 | [],_,_,h,_=>by simp
 | x :: xs,0,y,h,hy=>by
  rw [List.set_cons_zero,List.nodup_cons]
  exact ⟨fun hm=>hy (List.mem_cons_of_mem _ hm),(List.nodup_cons.1 h).2⟩
 | x :: xs,i + 1,y,h,hy=>by
  rw [List.set_cons_succ,List.nodup_cons]
  obtain ⟨h1,h2⟩:=List.nodup_cons.1 h
  refine ⟨fun hm=>?_,nodup_set xs i y h2 fun hm=>hy (List.mem_cons_of_mem _ hm)⟩
  rcases mem_set hm with hm | rfl
  ·exact h1 hm
  ·exact hy (by simp)
def FlashΦ (w : World) (b : Bool) (f : List Block) (e : Ending) (w' : World) : Prop:=∃ a cap B bs,e = .returned (.tuple #[.slice a 4 cap,.bool b]) ∧ Ext w w' ∧ OwnFlash w' (.slice a 4 cap) f B bs ∧ (B :: bs).Nodup ∧ ∀ x ∈ B :: bs,w.heap.size ≤ x
theorem FlashAt.renew {c : SC} {w w3 w4 : World} {f : List Block} (h : FlashAt c w f) (hnd : c.fl.Nodup) {i : Nat} (hi : i < f.length) {v4 : Value} {ps : List Page} {n : Int} {B1 : Nat} (hx : Ext w w3) (hB : w.heap.size ≤ B1) (hO : OwnPages w3 v4 ps B1)
  (h4 : w4 = setAll w3 c.F.b (c.F.o + i * 2) (rowC (v4,n))) : OwnFlash w4 (c.F.v f.length) (f.set i ⟨ps,n⟩) c.F.b ((c.ps.map (·.b)).set i B1) ∧ (c.F.b :: (c.ps.map (·.b)).set i B1).Nodup:=by
 subst h4
 have h3:=h.ext hx
 have hlt:=h.lt
 have hip : i < c.ps.length:=by rw [h.len];exact hi
 have hB1 : B1 ∉ c.fl:=fun hm=>by have:=hlt _ hm;omega
 have hbF : B1 ≠ c.F.b:=fun e=>hB1 (by rw [e];simp [SC.fl])
 refine ⟨⟨(rowsOf f c.ps).set i (v4,n),⟨c.F.T,c.F.o,c.F.cap,?_,OwnAt.set (n:=2) (enc:=rowC) (fun _=>rfl) (by omega) h3.row (by rw [rowsOf_len h.len];exact hi) (v4,n)⟩,by simp [rowsOf_len h.len],by simp [h.len],fun j x r b hx' hr hb=>?_⟩,?_⟩
 ·show Value.slice _ _ _ = _;rw [List.length_set,rowsOf_len h.len]
 ·by_cases hji : i = j
  ·subst hji
   rw [List.getElem?_set_self (by simpa using hi)] at hx'
   rw [List.getElem?_set_self (by rw [rowsOf_len h.len];exact hi)] at hr
   rw [List.getElem?_set_self (by simpa using hip)] at hb
   obtain rfl:=Option.some.inj hx';obtain rfl:=Option.some.inj hr;obtain rfl:=Option.some.inj hb
   exact ⟨rfl,hO.keep (setAll_other _ hbF _ _ _)⟩
  ·rw [List.getElem?_set_ne hji] at hx' hr hb
   rw [List.getElem?_map] at hb
   obtain ⟨p,hp,rfl⟩:=Option.map_eq_some_iff.1 hb
   rw [rowsOf_get hx' hp] at hr
   obtain rfl:=Option.some.inj hr
   exact ⟨rfl,p.T,p.o,p.cap,rfl,(h3.pages j x p hx' hp).keep (setAll_other _ (SC.F_ne hnd hp) _ _ _)⟩
 ·unfold SC.fl at hnd hB1
  obtain ⟨n1,n2⟩:=List.nodup_cons.1 hnd
  refine List.nodup_cons.2 ⟨fun hm=>?_,nodup_set _ _ _ n2 fun hm=>hB1 (List.mem_cons_of_mem _ hm)⟩
  rcases mem_set hm with hm | hm
  ·exact n1 hm
  ·exact hbF hm.symm
theorem CopyΦ.at_ {w w' : World} {f : List Block} {e : Ending} (h4 : f.length = 4) (h : CopyΦ w f e w') : ∃ c : SC,e = .returned (c.F.v 4) ∧ Ext w w' ∧ FlashAt c w' f ∧ c.fl.Nodup ∧ ∀ b ∈ c.fl,w.heap.size ≤ b:=by
 obtain ⟨B,bs,cap,rfl,hx,ho,hn,hb⟩:=h
 obtain ⟨c,h1,h2,h3⟩:=ho.at_
 exact ⟨c,by rw [h2,h4],hx,h3,by rw [h1];exact hn,by rw [h1];exact hb⟩
set_option maxRecDepth 20000 in
set_option maxHeartbeats 4000000 in
theorem implFlashWipe_c (v : Value) (f : List Block) (i : Nat) (torn : Bool) (w : World) (h : Flash (Old w) w v f) (hok : flashOkB f = true) (hi : i < 4) :
  Calls Tryz.prog 85 #[v,.int .i64 i,.bool torn] w (FlashΦ w (wipeOk f i) (wipeF f i torn)):=by
 have hps:=pages_short hok
 have hFO:=fun (w' : World) (hx : Ext w w')=>implFlashOk_c v f w' (h.ext hx) hps
 rw [hok] at hFO
 have hF:=flashOk_iff.1 hok
 have h4:=hF.len
 have hp4 : ∀ b ∈ f,b.pages.length = 4:=fun b hb=>(blockB_iff.1 (hF.blocks b hb)).1
 have hFC:=fun (w' : World) (hx : Ext w w')=>flashCopy_c v f w' (h.ext hx) h4 hp4
 have hil : i < f.length:=by omega
 have hwn:=(flashOk_block hok (List.getElem_mem hil)).2
 have hq : wipeF f i torn = if 200 ≤ f[i].worn then f else f.set i ⟨List.replicate 4 (blank (tornSt torn)),f[i].worn + 1⟩:=by unfold wipeF;rw [blockAt_get hil]
 have hq2 : wipeOk f i = !decide (200 ≤ f[i].worn):=by unfold wipeOk;rw [blockAt_get hil]
 have H4:=Lib.hid h4
 have hp4i:=hp4 f[i] (List.getElem_mem hil)
 obtain ⟨a,cap,rfl⟩:=h.form
 rw [h4] at h hFO hFC ⊢
 have hi4 : (i : Int) < 4:=by omega
 have hi0 : ¬ (i : Int) < 0:=by omega
 clear hF hok hps h4 hp4
 by_cases hw : f[i].worn = 200
 ·rw [hq,hq2,if_pos (by omega),decide_eq_true (by omega)]
  clear hq hq2
  rw [hw] at hwn
  go_enter Tryz.func85,Tryz.ntmps85
  go_wp2_with fail
  refine (hFO _ (ext_refl _)).mono ?_;rintro e1 w1 ⟨rfl,hx1⟩
  clear hFO
  go_wp2_with (go_at_call 82;refine (blockOk_c _ _).mono ?_;rw [inB_iff.2 (by omega)];rintro e w' ⟨rfl,rfl⟩)
  refine (hFC _ hx1).mono ?_;intro e2 w2 hcp
  obtain ⟨c,rfl,hx2,hA,hnd,hb⟩:=CopyΦ.at_ H4.out hcp
  have X2:=ext_trans hx1 hx2
  have hbs : ∀ b ∈ c.fl,w.heap.size ≤ b:=fun b hbm=>Nat.le_trans hx1.size (hb b hbm)
  have hip : i < c.ps.length:=by rw [hA.len];exact hil
  obtain ⟨p,hp⟩ : ∃ p,c.ps[i]? = some p:=⟨_,List.getElem?_eq_getElem hip⟩
  obtain ⟨t0,t1⟩:=hA.two hil hp
  have tf:=hA.row.frozen
  have lF:=hA.row.lt
  rw [hp4i] at t0
  clear hFC hcp hb hip
  rw [hw] at t1
  go_wp2_with fail
  refine bodyPost_ret (v:=.tuple #[c.F.v 4,.bool false]) (by simp [results,Tryz.results85,go_sem]) rfl ⟨_,_,c.F.b,c.ps.map (·.b),rfl,X2,?_,(by unfold SC.fl at hnd;exact hnd),(by unfold SC.fl at hbs;exact hbs)⟩
  have:=hA.own
  rwa [H4.out] at this
 ·rw [hq,hq2,if_neg (by omega),decide_eq_false (by omega)]
  clear hq hq2
  have hwb : (f[i].worn == 200) = false:=by rw [beq_eq_false_iff_ne];exact hw
  cases torn
  ·rw [show tornSt false = 0 from rfl]
   go_enter Tryz.func85,Tryz.ntmps85
   go_wp2_with fail
   refine (hFO _ (ext_refl _)).mono ?_;rintro e1 w1 ⟨rfl,hx1⟩
   clear hFO
   go_wp2_with (go_at_call 82;refine (blockOk_c _ _).mono ?_;rw [inB_iff.2 (by omega)];rintro e w' ⟨rfl,rfl⟩)
   refine (hFC _ hx1).mono ?_;intro e2 w2 hcp
   obtain ⟨c,rfl,hx2,hA,hnd,hb⟩:=CopyΦ.at_ H4.out hcp
   have X2:=ext_trans hx1 hx2
   have hbs : ∀ b ∈ c.fl,w.heap.size ≤ b:=fun b hbm=>Nat.le_trans hx1.size (hb b hbm)
   have hip : i < c.ps.length:=by rw [hA.len];exact hil
   obtain ⟨p,hp⟩ : ∃ p,c.ps[i]? = some p:=⟨_,List.getElem?_eq_getElem hip⟩
   obtain ⟨t0,t1⟩:=hA.two hil hp
   have tf:=hA.row.frozen
   have lF:=hA.row.lt
   rw [hp4i] at t0
   clear hFC hcp hb hip
   have hwn2:=hwn
   have HA:=Lib.hid hA
   clear hA hp
   have lF2 : c.F.b < w2.heap.size:=lF
   obtain ⟨wn,hwnd⟩ : ∃ wn,f[i].worn = wn:=⟨_,rfl⟩
   rw [hwnd] at t1 hwb hwn2
   have hw0 : 0 ≤ wn:=hwn2.1
   have hw1 : wn ≤ 200:=hwn2.2.1
   have hwrap : IntKind.i64.wrap (wn + 1) = wn + 1:=IntWalk.i64_in _ (by omega)
   clear hwn2
   go_wp2_with fail
   have HPG:=fun (w' : World)=>pagesOf_c (blank 0) w'
   dsimp only [blank,rec0] at HPG
   refine wp_region_ext [4] [0,1,2,3,5,6,7,8,9,10,4,11,12] [] [13] (by kernel_rfl) (by kernel_rfl) ?late ?_
   case late=>exact fun f hf=>absurd hf List.not_mem_nil
   iterate 6
    refine Rob.y (v:=?_) rfl rfl (fun w1 hx hH=>?_) ?_;rotate_left
    ·go_simp;first | done | rfl | exact (Bool.not_not _).symm
    simp only [Act.put,slA,slB,slC]
   refine Rob.y (v:=?_) rfl rfl (fun w1 hx hH=>?_) ?_;rotate_left
   ·(have hE : Ext _ w1:=(by first | exact hx | exact hx.1);obtain ⟨hcx,hfx⟩:=bcell hE);go_simp;first | done | rfl
   simp only [Act.put,slA,slB,slC]
   refine Rob.y (v:=?_) rfl rfl (fun w1 hx hH=>?_) ?_;rotate_left
   ·go_simp;first | done | rfl | exact (Bool.not_not _).symm
   simp only [Act.put,slA,slB,slC]
   refine Rob.y (v:=?_) rfl rfl (fun w1 hx hH=>?_) ?_;rotate_left
   ·(have hE : Ext _ w1:=(by first | exact hx | exact hx.1);obtain ⟨hcx,hfx⟩:=bcell hE);go_simp;first | done | rfl
   simp only [Act.put,slA,slB,slC]
   refine Rob.y (v:=?_) rfl rfl (fun w1 hx hH=>?_) ?_;rotate_left
   ·go_simp;first | done | rfl | exact (Bool.not_not _).symm
   simp only [Act.put,slA,slB,slC]
   refine Rob.c (fun lo hi v w'=>∃ B o cap,v = .slice (some ⟨B,o,none⟩) 4 (4 + cap) ∧ lo ≤ B ∧ B < hi ∧ OwnPages w' (.slice (some ⟨B,o,none⟩) 4 (4 + cap)) (List.replicate 4 (blank 0)) B) rfl rfl rfl (fun _ _=>ext_trans) (fun lo hi v w w' ⟨B,o,cp,e,h1,h2,h3⟩ hx=>⟨B,o,cp,e,h1,h2,h3.ext hx⟩) (fun w1 hx hH=>?_) (fun lo4 hi4 v4 hlo4 hhi4 hv4=>?_)
   ·unfold RunTo;go_simp;exact (HPG _).mono fun e w' ⟨v,B,he,hx',hB,hO⟩=>(by obtain ⟨T,o,cp,rfl,ha⟩:=hO;exact ⟨_,he,hx',B,o,cp,rfl,hB,ha.lt,T,o,cp,rfl,ha⟩)
   simp only [Act.put,slA,slB,slC]
   obtain ⟨_,b1,o1,cp1,rfl,hb1,hb2,_⟩:=hv4
   refine Rob.y (v:=?_) rfl rfl (fun w1 hx hH=>?_) ?_;rotate_left
   ·go_simp;first | done | rfl | exact (Bool.not_not _).symm
   simp only [Act.put,slA,slB,slC]
   refine Rob.y (v:=?_) rfl rfl (fun w1 hx hH=>?_) ?_;rotate_left
   ·(have hE : Ext _ w1:=(by first | exact hx | exact hx.1);obtain ⟨hcx,hfx⟩:=bcell hE);go_simp;first | done | rfl
   simp only [Act.put,slA,slB,slC]
   refine fin_tail (fun w3 hx3 _=>?_)
   simp only [dstOf,List.getElem?_cons_succ,List.getElem?_cons_zero,Option.bind_some,Act.put,slA,slB,slC,List.filterMap_cons,List.filterMap_nil]
   obtain ⟨hx3,B',o',cp',hB',-,-,hO1⟩:=hx3
   injection hB' with hB' _ hcp'
   injection hB' with hB'
   injection hB' with hB' hoo'
   subst hB';subst hoo'
   obtain rfl : cp1 = cp':=by omega
   have hth : w3.there c.F.b (c.F.o + i * 2) 2:=by
    intro j hj
    have h0:=cell_ext hx3 t0
    have h1:=cell_ext hx3 t1
    have hfr:=(frozen_ext hx3 lF2 (c.F.o + i * 2 + j)).trans (tf _)
    refine ⟨?_,hfr⟩
    match j,hj with
    | 0,_=>rw [Nat.add_zero,h0];rfl
    | 1,_=>rw [h1];rfl
   have hre:=fun w4 h4=>(HA.out.renew (w3:=w3) (w4:=w4) (v4:=.slice (some ⟨b1,o1,none⟩) 4 (4 + cp1)) (ps:=List.replicate 4 (blank 0)) (n:=wn + 1) hnd hil hx3 (Nat.le_trans hlo4 hb1) hO1 h4)
   rw [H4.out] at hre
   have hC:=setAll_chg (L:=[c.F.b]) (b:=c.F.b) (o:=c.F.o + i * 2) (Chg.of_ext hx3) (by simp) (rowC (.slice (some ⟨b1,o1,none⟩) 4 (4 + cp1),wn + 1))
   have HC:=Lib.hid hC
   have HRE:=Lib.hid hre
   clear hre hC t0 t1 tf lF hO1
   refine wpList_store_mid rfl 114 _ _ rfl c.F.b (c.F.o + i * 2) (rowC (.slice (some ⟨b1,o1,none⟩) 4 (4 + cp1),wn + 1)).toArray rfl rfl hth (by kernel_rfl) (by simp [Value.oneCell']) ?_
   change wpList _ _ _ _ _ (setAll w3 c.F.b (c.F.o + i * 2) (rowC (.slice (some ⟨b1,o1,none⟩) 4 (4 + cp1),wn + 1)))
   have hre:=HRE.out _ rfl
   have hC:=HC.out
   generalize setAll w3 c.F.b (c.F.o + i * 2) (rowC (.slice (some ⟨b1,o1,none⟩) 4 (4 + cp1),wn + 1)) = w4 at *
   refine wpList_nil ?_
   go_wp2_with fail
   have hFb : w.heap.size ≤ c.F.b:=hbs _ (by simp [SC.fl])
   refine bodyPost_ret (v:=.tuple #[c.F.v 4,.bool true]) (by simp [results,Tryz.results85,go_sem]) rfl ⟨_,_,c.F.b,(c.ps.map (·.b)).set i b1,rfl,hC.ext X2 (by simp;omega),?_,hre.2,?_⟩
   ·exact hre.1
   ·intro x hx
    rcases List.mem_cons.1 hx with rfl | hx
    ·exact hFb
    ·rcases mem_set hx with hx | rfl
     ·exact hbs _ (by unfold SC.fl;exact List.mem_cons_of_mem _ hx)
     ·have:=X2.size;omega
  ·rw [show tornSt true = 2 from rfl]
   go_enter Tryz.func85,Tryz.ntmps85
   go_wp2_with fail
   refine (hFO _ (ext_refl _)).mono ?_;rintro e1 w1 ⟨rfl,hx1⟩
   clear hFO
   go_wp2_with (go_at_call 82;refine (blockOk_c _ _).mono ?_;rw [inB_iff.2 (by omega)];rintro e w' ⟨rfl,rfl⟩)
   refine (hFC _ hx1).mono ?_;intro e2 w2 hcp
   obtain ⟨c,rfl,hx2,hA,hnd,hb⟩:=CopyΦ.at_ H4.out hcp
   have X2:=ext_trans hx1 hx2
   have hbs : ∀ b ∈ c.fl,w.heap.size ≤ b:=fun b hbm=>Nat.le_trans hx1.size (hb b hbm)
   have hip : i < c.ps.length:=by rw [hA.len];exact hil
   obtain ⟨p,hp⟩ : ∃ p,c.ps[i]? = some p:=⟨_,List.getElem?_eq_getElem hip⟩
   obtain ⟨t0,t1⟩:=hA.two hil hp
   have tf:=hA.row.frozen
   have lF:=hA.row.lt
   rw [hp4i] at t0
   clear hFC hcp hb hip
   have hwn2:=hwn
   have HA:=Lib.hid hA
   clear hA hp
   have lF2 : c.F.b < w2.heap.size:=lF
   obtain ⟨wn,hwnd⟩ : ∃ wn,f[i].worn = wn:=⟨_,rfl⟩
   rw [hwnd] at t1 hwb hwn2
   have hw0 : 0 ≤ wn:=hwn2.1
   have hw1 : wn ≤ 200:=hwn2.2.1
   have hwrap : IntKind.i64.wrap (wn + 1) = wn + 1:=IntWalk.i64_in _ (by omega)
   clear hwn2
   go_wp2_with fail
   have HPG:=fun (w' : World)=>pagesOf_c (blank 2) w'
   dsimp only [blank,rec0] at HPG
   refine wp_region_ext [4] [0,1,2,3,5,6,7,8,9,10,4,11,12] [] [13] (by kernel_rfl) (by kernel_rfl) ?late ?_
   case late=>exact fun f hf=>absurd hf List.not_mem_nil
   iterate 6
    refine Rob.y (v:=?_) rfl rfl (fun w1 hx hH=>?_) ?_;rotate_left
    ·go_simp;first | done | rfl | exact (Bool.not_not _).symm
    simp only [Act.put,slA,slB,slC]
   refine Rob.y (v:=?_) rfl rfl (fun w1 hx hH=>?_) ?_;rotate_left
   ·(have hE : Ext _ w1:=(by first | exact hx | exact hx.1);obtain ⟨hcx,hfx⟩:=bcell hE);go_simp;first | done | rfl
   simp only [Act.put,slA,slB,slC]
   refine Rob.y (v:=?_) rfl rfl (fun w1 hx hH=>?_) ?_;rotate_left
   ·go_simp;first | done | rfl | exact (Bool.not_not _).symm
   simp only [Act.put,slA,slB,slC]
   refine Rob.y (v:=?_) rfl rfl (fun w1 hx hH=>?_) ?_;rotate_left
   ·(have hE : Ext _ w1:=(by first | exact hx | exact hx.1);obtain ⟨hcx,hfx⟩:=bcell hE);go_simp;first | done | rfl
   simp only [Act.put,slA,slB,slC]
   refine Rob.y (v:=?_) rfl rfl (fun w1 hx hH=>?_) ?_;rotate_left
   ·go_simp;first | done | rfl | exact (Bool.not_not _).symm
   simp only [Act.put,slA,slB,slC]
   refine Rob.c (fun lo hi v w'=>∃ B o cap,v = .slice (some ⟨B,o,none⟩) 4 (4 + cap) ∧ lo ≤ B ∧ B < hi ∧ OwnPages w' (.slice (some ⟨B,o,none⟩) 4 (4 + cap)) (List.replicate 4 (blank 2)) B) rfl rfl rfl (fun _ _=>ext_trans) (fun lo hi v w w' ⟨B,o,cp,e,h1,h2,h3⟩ hx=>⟨B,o,cp,e,h1,h2,h3.ext hx⟩) (fun w1 hx hH=>?_) (fun lo4 hi4 v4 hlo4 hhi4 hv4=>?_)
   ·unfold RunTo;go_simp;exact (HPG _).mono fun e w' ⟨v,B,he,hx',hB,hO⟩=>(by obtain ⟨T,o,cp,rfl,ha⟩:=hO;exact ⟨_,he,hx',B,o,cp,rfl,hB,ha.lt,T,o,cp,rfl,ha⟩)
   simp only [Act.put,slA,slB,slC]
   obtain ⟨_,b1,o1,cp1,rfl,hb1,hb2,_⟩:=hv4
   refine Rob.y (v:=?_) rfl rfl (fun w1 hx hH=>?_) ?_;rotate_left
   ·go_simp;first | done | rfl | exact (Bool.not_not _).symm
   simp only [Act.put,slA,slB,slC]
   refine Rob.y (v:=?_) rfl rfl (fun w1 hx hH=>?_) ?_;rotate_left
   ·(have hE : Ext _ w1:=(by first | exact hx | exact hx.1);obtain ⟨hcx,hfx⟩:=bcell hE);go_simp;first | done | rfl
   simp only [Act.put,slA,slB,slC]
   refine fin_tail (fun w3 hx3 _=>?_)
   simp only [dstOf,List.getElem?_cons_succ,List.getElem?_cons_zero,Option.bind_some,Act.put,slA,slB,slC,List.filterMap_cons,List.filterMap_nil]
   obtain ⟨hx3,B',o',cp',hB',-,-,hO1⟩:=hx3
   injection hB' with hB' _ hcp'
   injection hB' with hB'
   injection hB' with hB' hoo'
   subst hB';subst hoo'
   obtain rfl : cp1 = cp':=by omega
   have hth : w3.there c.F.b (c.F.o + i * 2) 2:=by
    intro j hj
    have h0:=cell_ext hx3 t0
    have h1:=cell_ext hx3 t1
    have hfr:=(frozen_ext hx3 lF2 (c.F.o + i * 2 + j)).trans (tf _)
    refine ⟨?_,hfr⟩
    match j,hj with
    | 0,_=>rw [Nat.add_zero,h0];rfl
    | 1,_=>rw [h1];rfl
   have hre:=fun w4 h4=>(HA.out.renew (w3:=w3) (w4:=w4) (v4:=.slice (some ⟨b1,o1,none⟩) 4 (4 + cp1)) (ps:=List.replicate 4 (blank 2)) (n:=wn + 1) hnd hil hx3 (Nat.le_trans hlo4 hb1) hO1 h4)
   rw [H4.out] at hre
   have hC:=setAll_chg (L:=[c.F.b]) (b:=c.F.b) (o:=c.F.o + i * 2) (Chg.of_ext hx3) (by simp) (rowC (.slice (some ⟨b1,o1,none⟩) 4 (4 + cp1),wn + 1))
   have HC:=Lib.hid hC
   have HRE:=Lib.hid hre
   clear hre hC t0 t1 tf lF hO1
   refine wpList_store_mid rfl 114 _ _ rfl c.F.b (c.F.o + i * 2) (rowC (.slice (some ⟨b1,o1,none⟩) 4 (4 + cp1),wn + 1)).toArray rfl rfl hth (by kernel_rfl) (by simp [Value.oneCell']) ?_
   change wpList _ _ _ _ _ (setAll w3 c.F.b (c.F.o + i * 2) (rowC (.slice (some ⟨b1,o1,none⟩) 4 (4 + cp1),wn + 1)))
   have hre:=HRE.out _ rfl
   have hC:=HC.out
   generalize setAll w3 c.F.b (c.F.o + i * 2) (rowC (.slice (some ⟨b1,o1,none⟩) 4 (4 + cp1),wn + 1)) = w4 at *
   refine wpList_nil ?_
   go_wp2_with fail
   have hFb : w.heap.size ≤ c.F.b:=hbs _ (by simp [SC.fl])
   refine bodyPost_ret (v:=.tuple #[c.F.v 4,.bool true]) (by simp [results,Tryz.results85,go_sem]) rfl ⟨_,_,c.F.b,(c.ps.map (·.b)).set i b1,rfl,hC.ext X2 (by simp;omega),?_,hre.2,?_⟩
   ·exact hre.1
   ·intro x hx
    rcases List.mem_cons.1 hx with rfl | hx
    ·exact hFb
    ·rcases mem_set hx with hx | rfl
     ·exact hbs _ (by unfold SC.fl;exact List.mem_cons_of_mem _ hx)
     ·have:=X2.size;omega
set_option maxRecDepth 20000 in
set_option maxHeartbeats 4000000 in
theorem implFlashWrite_c (v : Value) (f : List Block) (i : Nat) (r : Rec) (torn : Bool) (w : World) (h : Flash (Old w) w v f) (hok : flashOkB f = true) (hi : i < 4) (hrec : recOkB r = true) :
  Calls Tryz.prog 87 #[v,.int .i64 i,recA r,.bool torn] w (FlashΦ w (writeOk f i r) (writeF f i r torn)):=by
 have hps:=pages_short hok
 have hFO:=fun (w' : World) (hx : Ext w w')=>implFlashOk_c v f w' (h.ext hx) hps
 rw [hok] at hFO
 have hRO:=fun (w' : World)=>implRecOk_c r w'
 rw [hrec] at hRO
 have hF:=flashOk_iff.1 hok
 have h4:=hF.len
 have hp4 : ∀ b ∈ f,b.pages.length = 4:=fun b hb=>(blockB_iff.1 (hF.blocks b hb)).1
 have hFC:=fun (w' : World) (hx : Ext w w')=>flashCopy_c v f w' (h.ext hx) h4 hp4
 have hil : i < f.length:=by omega
 have hq : writeF f i r torn = if writeOk f i r then f.set i ⟨f[i].pages.set (4 - (cleanN f[i].pages).toNat) (pageW r torn),f[i].worn⟩ else f:=by unfold writeF;rw [blockAt_get hil]
 have hq2 : writeOk f i r = !(decide (cleanN f[i].pages = 0) || seqUsed f r.seq):=by unfold writeOk;rw [blockAt_get hil]
 have hcb:=(blockB_free (hF.blocks _ (List.getElem_mem hil))).2.2
 have H4:=Lib.hid h4
 have HPS:=Lib.hid hps
 have hp4i:=hp4 f[i] (List.getElem_mem hil)
 obtain ⟨m,hm⟩ : ∃ m : Nat,cleanN f[i].pages = m:=⟨(cleanN f[i].pages).toNat,by omega⟩
 have hm4 : m ≤ 4:=by omega
 have HM:=Lib.hid hm
 rw [hm] at hq hq2
 have hfp:=fun (c : SC) (p : At) (w' : World) (hA : FlashAt c w' f) (hp : c.ps[i]? = some p)=>freePages_c (p.v 4) f[i].pages f[i].worn w' (by
  have h1:=(hA.pages i f[i] p (List.getElem?_eq_getElem hil) hp)
  have h2:=h1.of (D:=Old w') h1.lt (4 + p.cap)
  rwa [hp4i] at h2) (by omega)
 rw [hm] at hfp
 have hsq:=fun (c : SC) (w' : World) (hA : FlashAt c w' f)=>implSeqUsed_c (c.F.v f.length) f r.seq w' hA.flash (by omega) hps
 rw [h4] at hsq
 obtain ⟨su,hsu⟩ : ∃ su,seqUsed f r.seq = su:=⟨_,rfl⟩
 rw [hsu] at hsq hq2
 obtain ⟨a,cap,rfl⟩:=h.form
 rw [h4] at h hFO hFC ⊢
 have hi4 : (i : Int) < 4:=by omega
 have hi0 : ¬ (i : Int) < 0:=by omega
 have HQ:=Lib.hid hq
 have HQ2:=Lib.hid hq2
 have HFP:=Lib.hid hfp
 have HSQ:=Lib.hid hsq
 obtain ⟨rk,rs,ra,rv⟩:=r
 dsimp only [recA] at hRO ⊢
 clear hF hok hps h4 hp4 hq hq2 hcb hm hsu hfp hsq hrec
 by_cases hm0 : m = 0
 ·subst hm0
  have hw0 : writeOk f i ⟨rk,rs,ra,rv⟩ = false:=by rw [HQ2.out];simp
  rw [HQ.out,hw0,if_neg (by simp)]
  go_enter Tryz.func87,Tryz.ntmps87
  go_wp2_with fail
  refine (hFO _ (ext_alloc (ext_refl _) _)).mono ?_;rintro e1 w1 ⟨rfl,hx1⟩
  have X1:=ext_trans (ext_alloc (ext_refl w) _) hx1
  have G6:=keep_ext hx1 (hg_new (b:=w.heap.size) rfl)
  obtain ⟨g6,gf6⟩:=cellsK G6
  clear hFO hx1
  go_wp2_with (go_at_call 82;refine (blockOk_c _ _).mono ?_;rw [inB_iff.2 (by omega)];rintro e w' ⟨rfl,rfl⟩)
  refine (hRO _).mono ?_;rintro e2 w2 ⟨rfl,hx2⟩
  have X2:=ext_trans X1 hx2
  replace G6:=keep_ext hx2 G6
  clear hRO hx2 X1 g6 gf6
  go_wp2_with fail
  refine (hFC _ X2).mono ?_;intro e3 w3 hcp
  obtain ⟨c,rfl,hx3,hA,hnd,hb⟩:=CopyΦ.at_ H4.out hcp
  have X3:=ext_trans X2 hx3
  replace G6:=keep_ext hx3 G6
  have hbs : Hid (∀ b ∈ c.fl,w.heap.size ≤ b):=Lib.hid fun b hbm=>Nat.le_trans X2.size (hb b hbm)
  have hip : i < c.ps.length:=by rw [hA.len];exact hil
  obtain ⟨p,hp⟩ : ∃ p,c.ps[i]? = some p:=⟨_,List.getElem?_eq_getElem hip⟩
  obtain ⟨t0,t1⟩:=hA.two hil hp
  have tf:=hA.row.frozen
  have lF:=hA.row.lt
  rw [hp4i] at t0
  have HA:=Lib.hid hA
  have HP:=Lib.hid hp
  clear hFC hcp hb hip hx3 hA hp
  go_wp2_with fail
  refine (HFP.out c p _ HA.out HP.out).mono ?_;rintro e4 w4 ⟨rfl,hx4⟩
  have X4:=ext_trans X3 hx4
  replace G6:=keep_ext hx4 G6
  have HA4:=Lib.hid (HA.out.ext hx4)
  obtain ⟨g6,gf6⟩:=cellsK G6
  have l6:=heap_lt G6
  clear t0 t1 tf lF HA hx4
  go_wp2_with fail
  refine bodyPost_ret (v:=.tuple #[c.F.v 4,.bool false]) (by simp [results,Tryz.results87,go_sem]) rfl ⟨_,_,c.F.b,c.ps.map (·.b),rfl,X4,?_,(by unfold SC.fl at hnd;exact hnd),(by have:=hbs.out;unfold SC.fl at this;exact this)⟩
  have:=HA4.out.own
  rwa [H4.out] at this
 ·have hmf : (((m : Nat) : Int) == 0) = false:=by simp;omega
  cases su with
  | true =>
   have hw0 : writeOk f i ⟨rk,rs,ra,rv⟩ = false:=by rw [HQ2.out];simp
   rw [HQ.out,hw0,if_neg (by simp)]
   go_enter Tryz.func87,Tryz.ntmps87
   go_wp2_with fail
   refine (hFO _ (ext_alloc (ext_refl _) _)).mono ?_;rintro e1 w1 ⟨rfl,hx1⟩
   have X1:=ext_trans (ext_alloc (ext_refl w) _) hx1
   have G6:=keep_ext hx1 (hg_new (b:=w.heap.size) rfl)
   obtain ⟨g6,gf6⟩:=cellsK G6
   clear hFO hx1
   go_wp2_with (go_at_call 82;refine (blockOk_c _ _).mono ?_;rw [inB_iff.2 (by omega)];rintro e w' ⟨rfl,rfl⟩)
   refine (hRO _).mono ?_;rintro e2 w2 ⟨rfl,hx2⟩
   have X2:=ext_trans X1 hx2
   replace G6:=keep_ext hx2 G6
   clear hRO hx2 X1 g6 gf6
   go_wp2_with fail
   refine (hFC _ X2).mono ?_;intro e3 w3 hcp
   obtain ⟨c,rfl,hx3,hA,hnd,hb⟩:=CopyΦ.at_ H4.out hcp
   have X3:=ext_trans X2 hx3
   replace G6:=keep_ext hx3 G6
   have hbs : Hid (∀ b ∈ c.fl,w.heap.size ≤ b):=Lib.hid fun b hbm=>Nat.le_trans X2.size (hb b hbm)
   have hip : i < c.ps.length:=by rw [hA.len];exact hil
   obtain ⟨p,hp⟩ : ∃ p,c.ps[i]? = some p:=⟨_,List.getElem?_eq_getElem hip⟩
   obtain ⟨t0,t1⟩:=hA.two hil hp
   have tf:=hA.row.frozen
   have lF:=hA.row.lt
   rw [hp4i] at t0
   have HA:=Lib.hid hA
   have HP:=Lib.hid hp
   clear hFC hcp hb hip hx3 hA hp
   go_wp2_with fail
   refine (HFP.out c p _ HA.out HP.out).mono ?_;rintro e4 w4 ⟨rfl,hx4⟩
   have X4:=ext_trans X3 hx4
   replace G6:=keep_ext hx4 G6
   have HA4:=Lib.hid (HA.out.ext hx4)
   obtain ⟨g6,gf6⟩:=cellsK G6
   have l6:=heap_lt G6
   clear t0 t1 tf lF HA hx4
   go_wp2_with fail
   refine (HSQ.out c _ HA4.out).mono ?_;rintro e5 w5 ⟨rfl,hx5⟩
   go_wp2_with fail
   refine bodyPost_ret (v:=.tuple #[c.F.v 4,.bool false]) (by simp [results,Tryz.results87,go_sem]) rfl ⟨_,_,c.F.b,c.ps.map (·.b),rfl,ext_trans X4 hx5,?_,(by unfold SC.fl at hnd;exact hnd),(by have:=hbs.out;unfold SC.fl at this;exact this)⟩
   have:=(HA4.out.ext hx5).own
   rwa [H4.out] at this
  | false =>
   have hw0 : writeOk f i ⟨rk,rs,ra,rv⟩ = true:=by rw [HQ2.out];simp;omega
   rw [HQ.out,hw0,if_pos rfl,Int.toNat_natCast]
   have hkl : 4 - m < f[i].pages.length:=by omega
   have hk4 : ((4 : Int) - (m : Int)) = ((4 - m : Nat) : Int):=by omega
   generalize 4 - m = k at *
   have HK4:=Lib.hid hk4
   have hkw : IntKind.i64.wrap ((4 : Int) - (m : Int)) = (k : Int):=by rw [HK4.out];exact IntWalk.i64_in _ (by omega)
   have hk5 : (k : Int) < 4:=by omega
   have HKW:=Lib.hid hkw
   clear hk4 hkw hw0
   cases torn
   ·go_enter Tryz.func87,Tryz.ntmps87
    go_wp2_with fail
    refine (hFO _ (ext_alloc (ext_refl _) _)).mono ?_;rintro e1 w1 ⟨rfl,hx1⟩
    have X1:=ext_trans (ext_alloc (ext_refl w) _) hx1
    have G6:=keep_ext hx1 (hg_new (b:=w.heap.size) rfl)
    obtain ⟨g6,gf6⟩:=cellsK G6
    clear hFO hx1
    go_wp2_with (go_at_call 82;refine (blockOk_c _ _).mono ?_;rw [inB_iff.2 (by omega)];rintro e w' ⟨rfl,rfl⟩)
    refine (hRO _).mono ?_;rintro e2 w2 ⟨rfl,hx2⟩
    have X2:=ext_trans X1 hx2
    replace G6:=keep_ext hx2 G6
    clear hRO hx2 X1 g6 gf6
    go_wp2_with fail
    refine (hFC _ X2).mono ?_;intro e3 w3 hcp
    obtain ⟨c,rfl,hx3,hA,hnd,hb⟩:=CopyΦ.at_ H4.out hcp
    have X3:=ext_trans X2 hx3
    replace G6:=keep_ext hx3 G6
    have hbs : Hid (∀ b ∈ c.fl,w.heap.size ≤ b):=Lib.hid fun b hbm=>Nat.le_trans X2.size (hb b hbm)
    have hip : i < c.ps.length:=by rw [hA.len];exact hil
    obtain ⟨p,hp⟩ : ∃ p,c.ps[i]? = some p:=⟨_,List.getElem?_eq_getElem hip⟩
    obtain ⟨t0,t1⟩:=hA.two hil hp
    have tf:=hA.row.frozen
    have lF:=hA.row.lt
    rw [hp4i] at t0
    have HA:=Lib.hid hA
    have HP:=Lib.hid hp
    clear hFC hcp hb hip hx3 hA hp
    go_wp2_with fail
    refine (HFP.out c p _ HA.out HP.out).mono ?_;rintro e4 w4 ⟨rfl,hx4⟩
    have X4:=ext_trans X3 hx4
    replace G6:=keep_ext hx4 G6
    have HA4:=Lib.hid (HA.out.ext hx4)
    obtain ⟨g6,gf6⟩:=cellsK G6
    have l6:=heap_lt G6
    clear t0 t1 tf lF HA hx4
    go_wp2_with fail
    refine (HSQ.out c _ HA4.out).mono ?_;rintro e5 w5 ⟨rfl,hx5⟩
    have X5:=ext_trans X4 hx5
    replace G6:=keep_ext hx5 G6
    clear g6 gf6
    obtain ⟨g6,gf6⟩:=cellsK G6
    have l5:=heap_lt G6
    have HA5:=Lib.hid (HA4.out.ext hx5)
    obtain ⟨t0,t1⟩:=HA5.out.two hil HP.out
    have tf:=HA5.out.row.frozen
    have lF:=HA5.out.row.lt
    rw [hp4i] at t0
    clear HA4 hx5
    have hkw:=HKW.out
    go_wp2_with fail
    have XP : Ext w5 (w5.alloc (.cells #[.int .i64 1,.int .i64 rk,.int .i64 rs,.int .i64 ra,.int .i64 rv] 116)):=ext_alloc (ext_refl _) _
    have GP : (w5.alloc (.cells #[.int .i64 1,.int .i64 rk,.int .i64 rs,.int .i64 ra,.int .i64 rv] 116)).heap[w5.heap.size]? = some (.cells #[.int .i64 1,.int .i64 rk,.int .i64 rs,.int .i64 ra,.int .i64 rv] 116 (0,0)):=hg_new rfl
    have HD0:=fun (w' : World) (hx : Ext w5 w')=>cell_ext hx t0
    have HDF:=fun (w' : World) (hx : Ext w5 w') (j : Nat)=>(frozen_ext hx lF j).trans (tf j)
    clear t0 t1 g6 gf6
    refine wp_region_ext [] [0,1,2,3,4,5,6,7,8] [] [9] (by kernel_rfl) (by kernel_rfl) ?late ?_
    case late=>exact fun f hf=>absurd hf List.not_mem_nil
    iterate 2
     refine Rob.y (v:=?_) rfl rfl (fun w1 hx hH=>?_) ?_;rotate_left
     ·go_simp;first | done | rfl | exact (Bool.not_not _).symm
     simp only [Act.put,slA,slB,slC]
    refine Rob.y (v:=?_) rfl rfl (fun w1 hx hH=>?_) ?_;rotate_left
    ·(obtain ⟨gq,gqf⟩:=cellsK (keep_ext hx GP);have d0:=HD0 _ (ext_trans XP hx);have df:=HDF _ (ext_trans XP hx));go_simp;first | done | rfl
    simp only [Act.put,slA,slB,slC]
    refine Rob.y (v:=?_) rfl rfl (fun w1 hx hH=>?_) ?_;rotate_left
    ·go_simp;first | done | rfl | exact (Bool.not_not _).symm
    simp only [Act.put,slA,slB,slC]
    refine Rob.y (v:=?_) rfl rfl (fun w1 hx hH=>?_) ?_;rotate_left
    ·(obtain ⟨gq,gqf⟩:=cellsK (keep_ext hx GP);have d0:=HD0 _ (ext_trans XP hx);have df:=HDF _ (ext_trans XP hx));go_simp;first | done | rfl
    simp only [Act.put,slA,slB,slC]
    iterate 2
     refine Rob.y (v:=?_) rfl rfl (fun w1 hx hH=>?_) ?_;rotate_left
     ·go_simp;first | done | rfl | exact (Bool.not_not _).symm
     simp only [Act.put,slA,slB,slC]
    iterate 2
     refine Rob.y (v:=?_) rfl rfl (fun w1 hx hH=>?_) ?_;rotate_left
     ·(obtain ⟨gq,gqf⟩:=cellsK (keep_ext hx GP);have d0:=HD0 _ (ext_trans XP hx);have df:=HDF _ (ext_trans XP hx));go_simp;first | done | rfl
     simp only [Act.put,slA,slB,slC]
    refine fin_tail (fun w7 hx7 _=>?_)
    simp only [dstOf,List.getElem?_cons_succ,List.getElem?_cons_zero,Option.bind_some,Act.put,slA,slB,slC,List.filterMap_cons,List.filterMap_nil]
    have hX7 : Ext w5 w7:=ext_trans XP hx7
    have X7:=ext_trans X5 hX7
    have h7:=HA5.out.ext hX7
    have hth:=h7.there (List.getElem?_eq_getElem hil) HP.out hkl
    have hF:=h7.page' hnd (List.getElem?_eq_getElem hil) HP.out hkl (pageW ⟨rk,rs,ra,rv⟩ false)
    have hpl : p.b ∈ c.fl:=List.mem_cons_of_mem _ (List.mem_map.2 ⟨p,List.mem_of_getElem? HP.out,rfl⟩)
    have hC:=setAll_chg (o:=p.o + k * 5) (Chg.of_ext hX7) hpl (pageC (pageW ⟨rk,rs,ra,rv⟩ false))
    have HF:=Lib.hid hF;have HC3:=Lib.hid hC;clear hF hC h7 HD0 HDF
    refine wpList_store_mid rfl 116 _ _ rfl p.b (p.o + k * 5) (pageC (pageW ⟨rk,rs,ra,rv⟩ false)).toArray rfl rfl hth (by kernel_rfl) (by simp [Value.oneCell',pageW]) ?_
    change wpList _ _ _ _ _ (setAll w7 p.b (p.o + k * 5) (pageC (pageW ⟨rk,rs,ra,rv⟩ false)))
    have hC:=HC3.out
    have hF:=HF.out
    generalize setAll w7 p.b (p.o + k * 5) (pageC (pageW ⟨rk,rs,ra,rv⟩ false)) = w8 at *
    refine wpList_nil ?_
    go_wp2_with fail
    have hXE : Ext w w8:=(hC.ext X5 fun b hb=>hbs.out b hb)
    refine bodyPost_ret (v:=.tuple #[c.F.v 4,.bool true]) (by simp [results,Tryz.results87,go_sem]) rfl ⟨_,_,c.F.b,c.ps.map (·.b),rfl,hXE,?_,(by unfold SC.fl at hnd;exact hnd),(by have:=hbs.out;unfold SC.fl at this;exact this)⟩
    have:=hF.own
    rw [List.length_set,H4.out] at this
    exact this
   ·go_enter Tryz.func87,Tryz.ntmps87
    go_wp2_with fail
    refine (hFO _ (ext_alloc (ext_refl _) _)).mono ?_;rintro e1 w1 ⟨rfl,hx1⟩
    have X1:=ext_trans (ext_alloc (ext_refl w) _) hx1
    have G6:=keep_ext hx1 (hg_new (b:=w.heap.size) rfl)
    obtain ⟨g6,gf6⟩:=cellsK G6
    clear hFO hx1
    go_wp2_with (go_at_call 82;refine (blockOk_c _ _).mono ?_;rw [inB_iff.2 (by omega)];rintro e w' ⟨rfl,rfl⟩)
    refine (hRO _).mono ?_;rintro e2 w2 ⟨rfl,hx2⟩
    have X2:=ext_trans X1 hx2
    replace G6:=keep_ext hx2 G6
    clear hRO hx2 X1 g6 gf6
    go_wp2_with fail
    refine (hFC _ X2).mono ?_;intro e3 w3 hcp
    obtain ⟨c,rfl,hx3,hA,hnd,hb⟩:=CopyΦ.at_ H4.out hcp
    have X3:=ext_trans X2 hx3
    replace G6:=keep_ext hx3 G6
    have hbs : Hid (∀ b ∈ c.fl,w.heap.size ≤ b):=Lib.hid fun b hbm=>Nat.le_trans X2.size (hb b hbm)
    have hip : i < c.ps.length:=by rw [hA.len];exact hil
    obtain ⟨p,hp⟩ : ∃ p,c.ps[i]? = some p:=⟨_,List.getElem?_eq_getElem hip⟩
    obtain ⟨t0,t1⟩:=hA.two hil hp
    have tf:=hA.row.frozen
    have lF:=hA.row.lt
    rw [hp4i] at t0
    have HA:=Lib.hid hA
    have HP:=Lib.hid hp
    clear hFC hcp hb hip hx3 hA hp
    go_wp2_with fail
    refine (HFP.out c p _ HA.out HP.out).mono ?_;rintro e4 w4 ⟨rfl,hx4⟩
    have X4:=ext_trans X3 hx4
    replace G6:=keep_ext hx4 G6
    have HA4:=Lib.hid (HA.out.ext hx4)
    obtain ⟨g6,gf6⟩:=cellsK G6
    have l6:=heap_lt G6
    clear t0 t1 tf lF HA hx4
    go_wp2_with fail
    refine (HSQ.out c _ HA4.out).mono ?_;rintro e5 w5 ⟨rfl,hx5⟩
    have X5:=ext_trans X4 hx5
    replace G6:=keep_ext hx5 G6
    clear g6 gf6
    obtain ⟨g6,gf6⟩:=cellsK G6
    have l5:=heap_lt G6
    have HA5:=Lib.hid (HA4.out.ext hx5)
    obtain ⟨t0,t1⟩:=HA5.out.two hil HP.out
    have tf:=HA5.out.row.frozen
    have lF:=HA5.out.row.lt
    rw [hp4i] at t0
    clear HA4 hx5
    have hkw:=HKW.out
    go_wp2_with fail
    have XP : Ext w5 (w5.alloc (.cells #[.int .i64 2,.int .i64 0,.int .i64 0,.int .i64 0,.int .i64 0] 116)):=ext_alloc (ext_refl _) _
    have GP : (w5.alloc (.cells #[.int .i64 2,.int .i64 0,.int .i64 0,.int .i64 0,.int .i64 0] 116)).heap[w5.heap.size]? = some (.cells #[.int .i64 2,.int .i64 0,.int .i64 0,.int .i64 0,.int .i64 0] 116 (0,0)):=hg_new rfl
    have HD0:=fun (w' : World) (hx : Ext w5 w')=>cell_ext hx t0
    have HDF:=fun (w' : World) (hx : Ext w5 w') (j : Nat)=>(frozen_ext hx lF j).trans (tf j)
    clear t0 t1 g6 gf6
    refine wp_region_ext [] [0,1,2,3,4,5,6,7,8] [] [9] (by kernel_rfl) (by kernel_rfl) ?late ?_
    case late=>exact fun f hf=>absurd hf List.not_mem_nil
    iterate 2
     refine Rob.y (v:=?_) rfl rfl (fun w1 hx hH=>?_) ?_;rotate_left
     ·go_simp;first | done | rfl | exact (Bool.not_not _).symm
     simp only [Act.put,slA,slB,slC]
    refine Rob.y (v:=?_) rfl rfl (fun w1 hx hH=>?_) ?_;rotate_left
    ·(obtain ⟨gq,gqf⟩:=cellsK (keep_ext hx GP);have d0:=HD0 _ (ext_trans XP hx);have df:=HDF _ (ext_trans XP hx));go_simp;first | done | rfl
    simp only [Act.put,slA,slB,slC]
    refine Rob.y (v:=?_) rfl rfl (fun w1 hx hH=>?_) ?_;rotate_left
    ·go_simp;first | done | rfl | exact (Bool.not_not _).symm
    simp only [Act.put,slA,slB,slC]
    refine Rob.y (v:=?_) rfl rfl (fun w1 hx hH=>?_) ?_;rotate_left
    ·(obtain ⟨gq,gqf⟩:=cellsK (keep_ext hx GP);have d0:=HD0 _ (ext_trans XP hx);have df:=HDF _ (ext_trans XP hx));go_simp;first | done | rfl
    simp only [Act.put,slA,slB,slC]
    iterate 2
     refine Rob.y (v:=?_) rfl rfl (fun w1 hx hH=>?_) ?_;rotate_left
     ·go_simp;first | done | rfl | exact (Bool.not_not _).symm
     simp only [Act.put,slA,slB,slC]
    iterate 2
     refine Rob.y (v:=?_) rfl rfl (fun w1 hx hH=>?_) ?_;rotate_left
     ·(obtain ⟨gq,gqf⟩:=cellsK (keep_ext hx GP);have d0:=HD0 _ (ext_trans XP hx);have df:=HDF _ (ext_trans XP hx));go_simp;first | done | rfl
     simp only [Act.put,slA,slB,slC]
    refine fin_tail (fun w7 hx7 _=>?_)
    simp only [dstOf,List.getElem?_cons_succ,List.getElem?_cons_zero,Option.bind_some,Act.put,slA,slB,slC,List.filterMap_cons,List.filterMap_nil]
    have hX7 : Ext w5 w7:=ext_trans XP hx7
    have X7:=ext_trans X5 hX7
    have h7:=HA5.out.ext hX7
    have hth:=h7.there (List.getElem?_eq_getElem hil) HP.out hkl
    have hF:=h7.page' hnd (List.getElem?_eq_getElem hil) HP.out hkl (pageW ⟨rk,rs,ra,rv⟩ true)
    have hpl : p.b ∈ c.fl:=List.mem_cons_of_mem _ (List.mem_map.2 ⟨p,List.mem_of_getElem? HP.out,rfl⟩)
    have hC:=setAll_chg (o:=p.o + k * 5) (Chg.of_ext hX7) hpl (pageC (pageW ⟨rk,rs,ra,rv⟩ true))
    have HF:=Lib.hid hF;have HC3:=Lib.hid hC;clear hF hC h7 HD0 HDF
    refine wpList_store_mid rfl 116 _ _ rfl p.b (p.o + k * 5) (pageC (pageW ⟨rk,rs,ra,rv⟩ true)).toArray rfl rfl hth (by kernel_rfl) (by simp [Value.oneCell',pageW]) ?_
    change wpList _ _ _ _ _ (setAll w7 p.b (p.o + k * 5) (pageC (pageW ⟨rk,rs,ra,rv⟩ true)))
    have hC:=HC3.out
    have hF:=HF.out
    generalize setAll w7 p.b (p.o + k * 5) (pageC (pageW ⟨rk,rs,ra,rv⟩ true)) = w8 at *
    refine wpList_nil ?_
    go_wp2_with fail
    have hXE : Ext w w8:=(hC.ext X5 fun b hb=>hbs.out b hb)
    refine bodyPost_ret (v:=.tuple #[c.F.v 4,.bool true]) (by simp [results,Tryz.results87,go_sem]) rfl ⟨_,_,c.F.b,c.ps.map (·.b),rfl,hXE,?_,(by unfold SC.fl at hnd;exact hnd),(by have:=hbs.out;unfold SC.fl at this;exact this)⟩
    have:=hF.own
    rw [List.length_set,H4.out] at this
    exact this
end Go.Bu
namespace Go.Bu
open Go Go.RowKit Go.Plan Go.Proofs
inductive StepV : Step → Prop
 | disk (a v : Int) (ha : 1 ≤ a ∧ a ≤ 6) (hv : 0 ≤ v ∧ v ≤ 9) : StepV ⟨1,a,v,0,rec0⟩
 | wipe (i : Nat) (hi : i < 4) : StepV ⟨2,0,0,(i : Int),rec0⟩
 | write (i : Nat) (hi : i < 4) (r : Rec) (hr : recOkB r = true) : StepV ⟨3,0,0,(i : Int),r⟩
theorem StepV.ok {x : Step} (h : StepV x) : StepOk x:=by
 cases h with
 | disk a v ha hv=>exact ⟨⟨fun _=>ha,fun h=>absurd rfl h⟩,fun h=>by cases h⟩
 | wipe i hi=>exact ⟨⟨fun h=>(by cases h),fun _=>by dsimp only;omega⟩,fun h=>by cases h⟩
 | write i hi r hr=>exact ⟨⟨fun h=>(by cases h),fun _=>by dsimp only;omega⟩,fun _=>hr⟩
theorem write_V {f : List Block} (h : FlashOk f) (kind addr val : Int) : ∀ x ∈ writeSteps f kind addr val,StepV x:=by
 have h4:=h.len
 intro x hx
 unfold writeSteps at hx
 split at hx
 ·rename_i hc
  simp only [Bool.and_eq_true] at hc
  have hb:=room_block h
  rcases List.mem_append.1 hx with hx | hx
  ·unfold room at hx
   split at hx
   ·cases hx
   ·have ho:=old_lt (f:=f) (by omega)
    rcases List.mem_append.1 hx with hx | hx
    ·obtain ⟨p,hp,hm⟩:=List.mem_flatMap.1 hx
     unfold roomOne at hm
     split at hm
     ·rename_i hcc
      obtain rfl:=List.mem_singleton.1 hm
      have h1 : p.state = 1:=by have:=hcc.1;simp only [liveP,Bool.and_eq_true,beq_iff_eq] at this;exact this.1
      have hr:=recOkB_iff.1 (liveP_ok h (blockAt_mem ho) hp h1)
      exact .disk _ _ hr.2.2.1 hr.2.2.2
     ·cases hm
    ·obtain rfl:=List.mem_singleton.1 hx
     exact .wipe _ (by omega)
  ·obtain rfl:=List.mem_singleton.1 hx
   have:=StepV.write (room f).2.1.toNat (by omega) ⟨kind,next f,addr,val⟩ hc.2
   rwa [show (((room f).2.1.toNat : Nat) : Int) = (room f).2.1 by omega] at this
 ·cases hx
theorem flush_V {s : Store} (h : FlashOk s.flash) {n : Nat} (hn : n < 6) : ∀ x ∈ flushSteps s n,StepV x:=by
 unfold flushSteps
 split
 ·rename_i hd
  split
  ·intro x hx;cases hx
  ·intro x hx
   rcases List.mem_cons.1 hx with rfl | hx
   ·unfold dirtyB at hd
    rw [Bool.and_eq_true,decide_eq_true_eq] at hd
    have hv : readN s n = (last s.flash ((n : Int) + 1)).val:=by unfold readN;rw [if_pos hd.1]
    have hok : recOkB (last s.flash ((n : Int) + 1)) = true:=by
     rcases last_spec h ((n : Int) + 1) with ⟨e,_⟩ | ⟨hW,_⟩
     ·rw [e] at hd;exact absurd hd.1 (by decide)
     ·exact hW.ok h
    have hr:=recOkB_iff.1 hok
    exact .disk _ _ (by omega) (by rw [hv];exact hr.2.2.2)
   ·exact write_V h _ _ _ x hx
 ·intro x hx;cases hx
theorem fill_V {s : Store} (h : FlashOk s.flash) (n : Nat) : ∀ x ∈ fillSteps s n,StepV x:=by
 unfold fillSteps
 split
 ·intro x hx;cases hx
 ·exact write_V h _ _ _
theorem addrStep_V {g : Nat → List Step} (h : ∀ n,n < 6 → ∀ x ∈ g n,StepV x) (a : Int) : ∀ x ∈ addrStep g a,StepV x:=by
 unfold addrStep
 split
 ·rename_i hc;have:=inB_iff.1 hc;exact h _ (by omega)
 ·intro x hx;cases hx
theorem play_V {s : Store} (h : FlashOk s.flash) (e : Event) : ∀ x ∈ playSteps s e,StepV x:=by
 unfold playSteps putSteps
 split
 ·exact write_V h _ _ _
 ·split
  ·exact addrStep_V (fun n hn=>flush_V h hn) _
  ·split
   ·exact addrStep_V (fun n _=>fill_V h n) _
   ·intro x hx;cases hx
set_option maxRecDepth 20000 in
set_option maxHeartbeats 4000000 in
theorem stepOk_c (x : Step) (hx : StepV x) (w : World) : Calls Tryz.prog 47 #[stepA x] w (Ret w (.bool true)):=by
 have X:=ext_refl w
 cases hx with
 | disk a v ha hv =>
  dsimp only [stepA,rec0]
  go_enter Tryz.func47,Tryz.ntmps47
  go_wp2_with (first | (go_at_call 81;refine (addrOk_c _ _).mono ?_;rw [inB_iff.2 ha];rintro e w' ⟨rfl,rfl⟩) | (go_at_call 74;refine (valOk_c _ _).mono ?_;rw [inB_iff.2 hv];rintro e w' ⟨rfl,rfl⟩))
  go_ret
  exact ⟨rfl,ext_alloc X _⟩
 | wipe i hi =>
  dsimp only [stepA,rec0]
  go_enter Tryz.func47,Tryz.ntmps47
  go_wp2_with (go_at_call 82;refine (blockOk_c _ _).mono ?_;rw [inB_iff.2 (by omega)];rintro e w' ⟨rfl,rfl⟩)
  go_ret
  exact ⟨rfl,ext_alloc X _⟩
 | write i hi r hr =>
  have hro:=fun w'=>implRecOk_c r w'
  rw [hr] at hro
  obtain ⟨rk,rs,ra,rv⟩:=r
  dsimp only [stepA,recA] at hro ⊢
  go_enter Tryz.func47,Tryz.ntmps47
  go_wp2_with (go_at_call 82;refine (blockOk_c _ _).mono ?_;rw [inB_iff.2 (by omega)];rintro e w' ⟨rfl,rfl⟩)
  refine (hro _).mono ?_;rintro e w1 ⟨rfl,hx⟩
  go_wp2_with fail
  go_ret
  exact ⟨rfl,ext_trans (ext_alloc X _) hx⟩
def actFn (x : Step) : FuncId:=if x.kind = 1 then 83 else if x.kind = 2 then 84 else 86
def actV (x : Step) (B : Nat) : Value:=.func (.func (actFn x)) #[] #[.pointer (some ⟨B,0,none⟩)]
set_option maxRecDepth 20000 in
set_option maxHeartbeats 4000000 in
theorem actionOf_c (x : Step) (hx : StepV x) (w : World) : Calls Tryz.prog 48 #[stepA x] w (fun e w'=>e = .returned (actV x w.heap.size) ∧ w' = w.alloc (.cells (stepC x).toArray 79)):=by
 have hmf : ∀ (fn : Fn) (first cap : Array Value) (w : World),(Instr.makeFunc fn first cap).run Tryz.prog w = .ok (.func fn first cap) w:=fun _ _ _ _=>rfl
 cases hx with
 | disk a v ha hv =>
  dsimp only [stepA,rec0]
  go_enter Tryz.func48,Tryz.ntmps48
  go_wp2
  go_ret
  exact ⟨rfl,rfl⟩
 | wipe i hi =>
  dsimp only [stepA,rec0]
  go_enter Tryz.func48,Tryz.ntmps48
  go_wp2
  go_ret
  exact ⟨rfl,rfl⟩
 | write i hi r hr =>
  dsimp only [stepA,rec0]
  go_enter Tryz.func48,Tryz.ntmps48
  go_wp2
  go_ret
  exact ⟨rfl,rfl⟩
structure StAt (w : World) (P : Nat) (L : List Nat) (s : Store) (f d : Value) : Prop where
 var : w.heap[P]? = some (.cells #[f,d] 26 (0,0))
 own : OwnStore w f d s L
 nd : (P :: L).Nodup
theorem StAt.lt {w : World} {P : Nat} {L : List Nat} {s : Store} {f d : Value} (h : StAt w P L s f d) : ∀ b ∈ P :: L,b < w.heap.size:=by
 intro b hb
 rcases List.mem_cons.1 hb with rfl | hb
 ·exact heap_lt h.var
 ·exact h.own.lt b hb
theorem StAt.keep {w w' : World} {P : Nat} {L : List Nat} {s : Store} {f d : Value} (h : StAt w P L s f d) (hk : ∀ b ∈ P :: L,w'.heap[b]? = w.heap[b]?) : StAt w' P L s f d:=
 ⟨by rw [hk P (by simp)];exact h.var,h.own.keep fun b hb=>hk b (by simp [hb]),h.nd⟩
theorem StAt.ext {w w' : World} {P : Nat} {L : List Nat} {s : Store} {f d : Value} (h : StAt w P L s f d) (hx : Ext w w') : StAt w' P L s f d:=h.keep fun b hb=>hx.block b (h.lt b hb)
def ActΦ (w : World) (P : Nat) (L : List Nat) (s' : Store) (e : Ending) (w' : World) : Prop:=e = .returned (.tuple #[]) ∧ Chg (P :: L) w w' ∧ ∃ f d L',StAt w' P L' s' f d ∧ ∀ b ∈ L',b ∈ L ∨ w.heap.size ≤ b
def FlashN (b : Bool) (f : List Block) (lo hi : Nat) (v : Value) (w : World) : Prop:=∃ a cap B bs,v = .tuple #[.slice a 4 cap,.bool b] ∧ OwnFlash w (.slice a 4 cap) f B bs ∧ (B :: bs).Nodup ∧ ∀ x ∈ B :: bs,lo ≤ x ∧ x < hi
theorem FlashN.ext {b : Bool} {f : List Block} {lo hi : Nat} {v : Value} {w w' : World} (h : FlashN b f lo hi v w) (hx : Ext w w') : FlashN b f lo hi v w':=by
 obtain ⟨a,cap,B,bs,he,ho,hn,hb⟩:=h;exact ⟨a,cap,B,bs,he,ho.ext hx,hn,hb⟩
theorem FlashN.form {b : Bool} {f : List Block} {lo hi : Nat} {v : Value} {w : World} (h : FlashN b f lo hi v w) : ∃ a cap,v = .tuple #[.slice a 4 cap,.bool b]:=by
 obtain ⟨a,cap,B,bs,he,_⟩:=h;exact ⟨a,cap,he⟩
theorem FlashN.own {b : Bool} {f : List Block} {lo hi : Nat} {a : Option Addr} {cap : Nat} {w : World} (h : FlashN b f lo hi (.tuple #[.slice a 4 cap,.bool b]) w) : ∃ B bs,OwnFlash w (.slice a 4 cap) f B bs ∧ (B :: bs).Nodup ∧ ∀ x ∈ B :: bs,lo ≤ x ∧ x < hi:=by
 obtain ⟨a',cap',B,bs,he,ho,hn,hb⟩:=h
 simp at he
 obtain ⟨rfl,rfl⟩:=he
 exact ⟨B,bs,ho,hn,hb⟩
theorem FlashΦ.to {w w' : World} {b : Bool} {f : List Block} {e : Ending} (h : FlashΦ w b f e w') : ∃ v,e = .returned v ∧ RetC w (FlashN b f) v w':=by
 obtain ⟨a,cap,B,bs,he,hx,ho,hn,hb⟩:=h
 exact ⟨_,he,hx,a,cap,B,bs,rfl,ho,hn,fun x hm=>⟨hb x hm,ho.lt x hm⟩⟩
theorem StAt.flash {w w3 w4 : World} {P : Nat} {L : List Nat} {s : Store} {f d : Value} (h : StAt w P L s f d) (hx : Ext w w3) {g : List Block} {v : Value} {B : Nat} {bs : List Nat} {lo hi : Nat} (hO : OwnFlash w3 v g B bs) (hn : (B :: bs).Nodup)
  (hb : ∀ x ∈ B :: bs,lo ≤ x ∧ x < hi) (hlo : w.heap.size ≤ lo) (hw : w4 = w3.setCell ⟨P,0,none⟩ v) : Chg (P :: L) w w4 ∧ ∃ L',StAt w4 P L' ⟨g,s.disk⟩ v d ∧ ∀ b ∈ L',b ∈ L ∨ w.heap.size ≤ b:=by
 subst hw
 have hlt:=h.lt
 obtain ⟨B0,bs0,D,hL,hF,hD⟩:=h.own
 have hPD : D ≠ P:=fun e=>by
  have hnd:=h.nd
  rw [hL,e] at hnd
  exact (List.nodup_cons.1 hnd).1 (by simp)
 have hDl:=hlt D (by rw [hL];simp)
 have hPl:=hlt P (by simp)
 refine ⟨(Chg.of_ext hx).set (p:=⟨P,0,none⟩) (.inl (by simp)) _,B :: bs ++ [D],⟨?_,⟨B,bs,D,rfl,hO.keep fun b hm=>setCell_other (by have:=hb b hm;omega),?_⟩,?_⟩,fun b hm=>?_⟩
 ·exact hgo (hg_here (keep_ext hx h.var)) rfl
 ·exact (hD.ext hx).keep (setCell_other hPD)
 ·refine List.nodup_cons.2 ⟨fun hm=>?_,List.nodup_append.2 ⟨hn,by simp,fun x hx y hy e=>?_⟩⟩
  ·rcases List.mem_append.1 hm with hm | hm
   ·have:=hb P hm;omega
   ·rw [List.mem_singleton] at hm;exact hPD hm.symm
  ·rw [List.mem_singleton] at hy
   have:=hb x hx;omega
 ·rcases List.mem_append.1 hm with hm | hm
  ·right;have:=hb b hm;omega
  ·left;rw [List.mem_singleton] at hm;rw [hL,hm];simp
end Go.Bu
namespace Go.Bu
open Go Go.RowKit Go.Plan Go.Proofs
set_option maxRecDepth 20000 in
set_option maxHeartbeats 4000000 in
theorem actDisk_c (a v : Int) (ha : 1 ≤ a ∧ a ≤ 6) (P B : Nat) (L : List Nat) (s : Store) (f d : Value) (torn : Bool) (w : World) (h : StAt w P L s f d) (h6 : s.disk.length = 6)
  (hB : w.heap[B]? = some (.cells (stepC ⟨1,a,v,0,rec0⟩).toArray 79 (0,0))) :
  Calls Tryz.prog 83 #[.pointer (some ⟨P,0,none⟩),.bool torn,.pointer (some ⟨B,0,none⟩)] w (ActΦ w P L (doStep s ⟨1,a,v,0,rec0⟩ torn)):=by
 cases torn
 ·have hds : doStep s ⟨1,a,v,0,rec0⟩ false = ⟨s.flash,s.disk.set (a - 1).toNat v⟩:=rfl
  rw [hds]
  obtain ⟨n,hn,rfl⟩ : ∃ n : Nat,n < 6 ∧ a = (n : Int) + 1:=⟨(a - 1).toNat,by omega,by omega⟩
  rw [show ((n : Int) + 1 - 1).toNat = n by omega]
  have hO:=h.own
  have hnd:=h.nd
  obtain ⟨fa,fn,fc,da,dn,dc,rfl,rfl⟩:=hO.forms
  obtain ⟨B0,bs,D,hL,hF,TD,od,dcap,hdv,hd⟩:=hO
  injection hdv with e1 e2 e3
  subst e1
  rw [h6] at e2 e3
  subst e2;subst e3
  obtain ⟨gp,gpf⟩:=cellsK h.var
  have hG:=h.var
  have lP:=heap_lt hG
  have lB:=heap_lt hB
  have hC:=hd.cell (k:=n) (List.getElem?_eq_getElem (by omega)) (j:=0) rfl
  have hfr:=hd.frozen (od + n)
  rw [Nat.mul_one,Nat.add_zero] at hC
  have lD:=hd.lt
  have hwr : IntKind.i64.wrap (n : Int) = (n : Int):=IntWalk.i64_in _ (by omega)
  have hn6 : (n : Int) < 6:=by omega
  have H:=Lib.hid h
  have HF:=Lib.hid hF
  have HD:=Lib.hid hd
  have HL:=Lib.hid hL
  have HN:=Lib.hid hnd
  have H6:=Lib.hid h6
  obtain ⟨dv,hdvv⟩ : ∃ dv : Int,s.disk[n]'(by omega) = dv:=⟨_,rfl⟩
  rw [hdvv] at hC
  clear hdvv hF hd hL hnd h hds h6
  go_enter Tryz.func83,Tryz.ntmps83
  go_wp2_with fail
  refine wp_region_ext [] [0,1,2,3,4,5,6,7,8,9] [] [10] (by kernel_rfl) (by kernel_rfl) ?late ?_
  case late=>exact fun f hf=>absurd hf List.not_mem_nil
  refine Rob.y (v:=?_) rfl rfl (fun w1 hx hH=>?_) ?_;rotate_left
  ·go_simp;first | done | rfl | exact (Bool.not_not _).symm
  simp only [Act.put,slA,slB,slC]
  refine Rob.y (v:=?_) rfl rfl (fun w1 hx hH=>?_) ?_;rotate_left
  ·(obtain ⟨gq,gqf⟩:=cellsK (keep_ext hx hG);obtain ⟨gb,gbf⟩:=cellsK (keep_ext hx hB));go_simp;first | done | rfl
  simp only [Act.put,slA,slB,slC]
  refine Rob.y (v:=?_) rfl rfl (fun w1 hx hH=>?_) ?_;rotate_left
  ·go_simp;first | done | rfl | exact (Bool.not_not _).symm
  simp only [Act.put,slA,slB,slC]
  refine Rob.y (v:=?_) rfl rfl (fun w1 hx hH=>?_) ?_;rotate_left
  ·(obtain ⟨gq,gqf⟩:=cellsK (keep_ext hx hG);obtain ⟨gb,gbf⟩:=cellsK (keep_ext hx hB));go_simp;first | done | rfl
  simp only [Act.put,slA,slB,slC]
  refine Rob.y (v:=?_) rfl rfl (fun w1 hx hH=>?_) ?_;rotate_left
  ·go_simp;first | done | rfl | exact (Bool.not_not _).symm
  simp only [Act.put,slA,slB,slC]
  refine Rob.y (v:=?_) rfl rfl (fun w1 hx hH=>?_) ?_;rotate_left
  ·(obtain ⟨gq,gqf⟩:=cellsK (keep_ext hx hG);obtain ⟨gb,gbf⟩:=cellsK (keep_ext hx hB));go_simp;first | done | rfl
  simp only [Act.put,slA,slB,slC]
  iterate 2
   refine Rob.y (v:=?_) rfl rfl (fun w1 hx hH=>?_) ?_;rotate_left
   ·go_simp;first | done | rfl | exact (Bool.not_not _).symm
   simp only [Act.put,slA,slB,slC]
  iterate 2
   refine Rob.y (v:=?_) rfl rfl (fun w1 hx hH=>?_) ?_;rotate_left
   ·(obtain ⟨gq,gqf⟩:=cellsK (keep_ext hx hG);obtain ⟨gb,gbf⟩:=cellsK (keep_ext hx hB));go_simp;first | done | rfl
   simp only [Act.put,slA,slB,slC]
  refine fin_tail (fun w3 hx3 _=>?_)
  simp only [dstOf,List.getElem?_cons_succ,List.getElem?_cons_zero,Option.bind_some,Act.put,slA,slB,slC,List.filterMap_cons,List.filterMap_nil]
  have c3:=cell_ext hx3 hC
  have f3:=(frozen_ext hx3 lD (od + n)).trans hfr
  refine wpList_plain rfl (fun K hK=>?_)
  go_simp
  refine hK _ _ ?_
  clear hK K
  refine wpList_nil ?_
  have hC3 : Chg (P :: L) w (w3.setCell ⟨D,od + n,none⟩ (.int .i64 v)):=(Chg.of_ext hx3).set (p:=⟨D,od + n,none⟩) (.inl (by rw [HL.out];simp)) _
  have hset:=OwnAt.set1 (n:=1) (enc:=intC) (fun _=>rfl) (HD.out.ext hx3) (k:=n) (by rw [H6.out];omega) (j:=0) (by omega) (.int .i64 v) v (by simp)
  rw [Nat.mul_one,Nat.add_zero] at hset
  have hne : ∀ b ∈ P :: (B0 :: bs),b ≠ D:=fun b hb e=>by
   have hnd:=HN.out
   rw [HL.out,← List.cons_append] at hnd
   exact (List.nodup_append.1 hnd).2.2 b hb D (by simp) e
  have hF3 : OwnFlash (w3.setCell ⟨D,od + n,none⟩ (.int .i64 v)) (.slice fa fn fc) s.flash B0 bs:=(HF.out.ext hx3).keep fun b hb=>setCell_other (hne b (List.mem_cons_of_mem _ hb))
  have hV3 : (w3.setCell ⟨D,od + n,none⟩ (.int .i64 v)).heap[P]? = _:=(setCell_other (hne P (by simp))).trans (keep_ext hx3 hG)
  have hSt : StAt (w3.setCell ⟨D,od + n,none⟩ (.int .i64 v)) P L ⟨s.flash,s.disk.set n v⟩ (.slice fa fn fc) (.slice (some ⟨D,od,none⟩) 6 (6 + dcap)):=
   ⟨hV3,⟨B0,bs,D,HL.out,hF3,TD,od,dcap,by simp [H6.out],hset⟩,HN.out⟩
  go_end0
  go_wp2_with fail
  exact ⟨rfl,hC3,_,_,L,hSt,fun b hb=>.inl hb⟩
 ·have hds : doStep s ⟨1,a,v,0,rec0⟩ true = s:=rfl
  rw [hds]
  go_enter Tryz.func83,Tryz.ntmps83
  go_wp2_with fail
  go_end0
  go_wp2_with fail
  exact ⟨rfl,Chg.refl _ _,_,_,L,h,fun b hb=>.inl hb⟩
theorem wipe_same {f : List Block} {i : Nat} {t : Bool} (h : wipeOk f i = false) : wipeF f i t = f:=by
 unfold wipeOk at h;unfold wipeF
 rw [if_pos (by simpa using h)]
theorem writeF_same {f : List Block} {i : Nat} {r : Rec} {t : Bool} (h : writeOk f i r = false) : writeF f i r t = f:=by
 unfold writeF;rw [h,if_neg (by simp)]
set_option maxRecDepth 20000 in
set_option maxHeartbeats 4000000 in
theorem actWipe_c (i : Nat) (hi : i < 4) (P B : Nat) (L : List Nat) (s : Store) (f d : Value) (torn : Bool) (w : World) (h : StAt w P L s f d) (hok : flashOkB s.flash = true)
  (hB : w.heap[B]? = some (.cells (stepC ⟨2,0,0,(i : Int),rec0⟩).toArray 79 (0,0))) :
  Calls Tryz.prog 84 #[.pointer (some ⟨P,0,none⟩),.bool torn,.pointer (some ⟨B,0,none⟩)] w (ActΦ w P L (doStep s ⟨2,0,0,(i : Int),rec0⟩ torn)):=by
 have hds : doStep s ⟨2,0,0,(i : Int),rec0⟩ torn = ⟨wipeF s.flash i torn,s.disk⟩:=by
  show (⟨wipeF s.flash ((i : Int)).toNat torn,s.disk⟩ : Store) = _;rw [Int.toNat_natCast]
 rw [hds]
 have hCW:=fun (w' : World) (hx : Ext w w')=>implFlashWipe_c f s.flash i torn w' (h.own.flash.ext hx) hok hi
 have HSM:=fun h1=>Lib.hid (wipe_same (f:=s.flash) (i:=i) (t:=torn) h1)
 obtain ⟨fa,fn,fc,da,dn,dc,rfl,rfl⟩:=h.own.forms
 obtain ⟨g,hg⟩ : ∃ g,wipeF s.flash i torn = g:=⟨_,rfl⟩
 rw [hg] at hCW HSM ⊢
 obtain ⟨k,hk⟩ : ∃ k,wipeOk s.flash i = k:=⟨_,rfl⟩
 rw [hk] at hCW HSM
 have hG:=h.var
 obtain ⟨gp,gpf⟩:=cellsK hG
 have lP:=heap_lt hG
 have lB:=heap_lt hB
 have H:=Lib.hid h
 clear h hg hk hds hok
 go_enter Tryz.func84,Tryz.ntmps84
 go_wp2_with fail
 refine wp_region_ext [7] [0,1,2,3,4,5,6,7,8,9,10,11,12] [] [] (by kernel_rfl) (by kernel_rfl) ?late ?_
 case late=>exact fun f hf=>absurd hf List.not_mem_nil
 refine Rob.y (v:=?_) rfl rfl (fun w1 hx hH=>?_) ?_;rotate_left
 ·go_simp;first | done | rfl | exact (Bool.not_not _).symm
 simp only [Act.put,slA,slB,slC]
 refine Rob.y (v:=?_) rfl rfl (fun w1 hx hH=>?_) ?_;rotate_left
 ·(have hE : Ext _ w1:=(by first | exact hx | exact hx.1);obtain ⟨gq,gqf⟩:=cellsK (keep_ext hE hG);obtain ⟨gb,gbf⟩:=cellsK (keep_ext hE hB));go_simp;first | done | rfl
 simp only [Act.put,slA,slB,slC]
 refine Rob.y (v:=?_) rfl rfl (fun w1 hx hH=>?_) ?_;rotate_left
 ·go_simp;first | done | rfl | exact (Bool.not_not _).symm
 simp only [Act.put,slA,slB,slC]
 refine Rob.y (v:=?_) rfl rfl (fun w1 hx hH=>?_) ?_;rotate_left
 ·(have hE : Ext _ w1:=(by first | exact hx | exact hx.1);obtain ⟨gq,gqf⟩:=cellsK (keep_ext hE hG);obtain ⟨gb,gbf⟩:=cellsK (keep_ext hE hB));go_simp;first | done | rfl
 simp only [Act.put,slA,slB,slC]
 refine Rob.y (v:=?_) rfl rfl (fun w1 hx hH=>?_) ?_;rotate_left
 ·go_simp;first | done | rfl | exact (Bool.not_not _).symm
 simp only [Act.put,slA,slB,slC]
 refine Rob.y (v:=?_) rfl rfl (fun w1 hx hH=>?_) ?_;rotate_left
 ·(have hE : Ext _ w1:=(by first | exact hx | exact hx.1);obtain ⟨gq,gqf⟩:=cellsK (keep_ext hE hG);obtain ⟨gb,gbf⟩:=cellsK (keep_ext hE hB));go_simp;first | done | rfl
 simp only [Act.put,slA,slB,slC]
 refine Rob.y (v:=?_) rfl rfl (fun w1 hx hH=>?_) ?_;rotate_left
 ·go_simp;first | done | rfl | exact (Bool.not_not _).symm
 simp only [Act.put,slA,slB,slC]
 refine Rob.c (FlashN k g) rfl rfl rfl (fun _ _=>ext_trans) (fun _ _ _ _ _=>fun h hx=>h.ext hx) (fun w1 hx hH=>?_) (fun lo7 hi7 v7 hlo7 hhi7 hv7=>?_)
 ·unfold RunTo;go_simp;exact (hCW _ hx).mono fun e w' h=>h.to
 simp only [Act.put,slA,slB,slC]
 obtain ⟨_,hv7⟩:=hv7
 obtain ⟨a7,c7,rfl⟩:=hv7.form
 refine Rob.y (v:=?_) rfl rfl (fun w1 hx hH=>?_) ?_;rotate_left
 ·go_simp;first | done | rfl | exact (Bool.not_not _).symm
 simp only [Act.put,slA,slB,slC]
 iterate 4
  refine Rob.y (v:=?_) rfl rfl (fun w1 hx hH=>?_) ?_;rotate_left
  ·go_simp;first | done | rfl | exact (Bool.not_not _).symm
  simp only [Act.put,slA,slB,slC]
 have HLO:=hlo7
 refine fin_nil (fun w3 hx3 _=>?_)
 obtain ⟨hx3,hM⟩:=hx3
 obtain ⟨B7,bs7,hO7,hn7,hb7⟩:=hM.own
 obtain ⟨z0,z1⟩:=cellsK (keep_ext hx3 hG)
 have hfl:=fun (w4 : World) (h4 : w4 = w3.setCell ⟨P,0,none⟩ (.slice a7 4 c7))=>H.out.flash hx3 hO7 hn7 hb7 HLO h4
 have HFL:=Lib.hid hfl
 have H3:=Lib.hid (H.out.ext hx3)
 clear hM hO7 hn7 hb7 hfl gp gpf hv7
 cases k
 ·have hs:=(HSM rfl).out
  subst hs
  go_wp2_with fail
  go_end0
  go_wp2_with fail
  exact ⟨rfl,Chg.of_ext hx3,_,_,L,H3.out,fun b hb=>.inl hb⟩
 ·go_wp2_with fail
  obtain ⟨hC,L',hS,hL⟩:=HFL.out _ rfl
  go_end0
  go_wp2_with fail
  exact ⟨rfl,hC,_,_,L',hS,hL⟩
set_option maxRecDepth 20000 in
set_option maxHeartbeats 4000000 in
theorem actWrite_c (i : Nat) (hi : i < 4) (r : Rec) (hrec : recOkB r = true) (P B : Nat) (L : List Nat) (s : Store) (f d : Value) (torn : Bool) (w : World) (h : StAt w P L s f d) (hok : flashOkB s.flash = true)
  (hB : w.heap[B]? = some (.cells (stepC ⟨3,0,0,(i : Int),r⟩).toArray 79 (0,0))) :
  Calls Tryz.prog 86 #[.pointer (some ⟨P,0,none⟩),.bool torn,.pointer (some ⟨B,0,none⟩)] w (ActΦ w P L (doStep s ⟨3,0,0,(i : Int),r⟩ torn)):=by
 have hds : doStep s ⟨3,0,0,(i : Int),r⟩ torn = ⟨writeF s.flash i r torn,s.disk⟩:=by
  show (⟨writeF s.flash ((i : Int)).toNat r torn,s.disk⟩ : Store) = _;rw [Int.toNat_natCast]
 rw [hds]
 have hCW:=fun (w' : World) (hx : Ext w w')=>implFlashWrite_c f s.flash i r torn w' (h.own.flash.ext hx) hok hi hrec
 have HSM:=fun h1=>Lib.hid (writeF_same (f:=s.flash) (i:=i) (r:=r) (t:=torn) h1)
 obtain ⟨fa,fn,fc,da,dn,dc,rfl,rfl⟩:=h.own.forms
 obtain ⟨rk,rs,ra,rv⟩:=r
 dsimp only [recA] at hCW
 obtain ⟨g,hg⟩ : ∃ g,writeF s.flash i ⟨rk,rs,ra,rv⟩ torn = g:=⟨_,rfl⟩
 rw [hg] at hCW HSM ⊢
 obtain ⟨k,hk⟩ : ∃ k,writeOk s.flash i ⟨rk,rs,ra,rv⟩ = k:=⟨_,rfl⟩
 rw [hk] at hCW HSM
 have hG:=h.var
 obtain ⟨gp,gpf⟩:=cellsK hG
 have lP:=heap_lt hG
 have lB:=heap_lt hB
 have H:=Lib.hid h
 clear h hg hk hds hok
 go_enter Tryz.func86,Tryz.ntmps86
 go_wp2_with fail
 refine wp_region_ext [9] [0,1,2,3,4,5,6,7,8,9,10,11,12,13,14] [] [] (by kernel_rfl) (by kernel_rfl) ?late ?_
 case late=>exact fun f hf=>absurd hf List.not_mem_nil
 refine Rob.y (v:=?_) rfl rfl (fun w1 hx hH=>?_) ?_;rotate_left
 ·go_simp;first | done | rfl | exact (Bool.not_not _).symm
 simp only [Act.put,slA,slB,slC]
 refine Rob.y (v:=?_) rfl rfl (fun w1 hx hH=>?_) ?_;rotate_left
 ·(have hE : Ext _ w1:=(by first | exact hx | exact hx.1);obtain ⟨gq,gqf⟩:=cellsK (keep_ext hE hG);obtain ⟨gb,gbf⟩:=cellsK (keep_ext hE hB));go_simp;first | done | rfl
 simp only [Act.put,slA,slB,slC]
 refine Rob.y (v:=?_) rfl rfl (fun w1 hx hH=>?_) ?_;rotate_left
 ·go_simp;first | done | rfl | exact (Bool.not_not _).symm
 simp only [Act.put,slA,slB,slC]
 refine Rob.y (v:=?_) rfl rfl (fun w1 hx hH=>?_) ?_;rotate_left
 ·(have hE : Ext _ w1:=(by first | exact hx | exact hx.1);obtain ⟨gq,gqf⟩:=cellsK (keep_ext hE hG);obtain ⟨gb,gbf⟩:=cellsK (keep_ext hE hB));go_simp;first | done | rfl
 simp only [Act.put,slA,slB,slC]
 refine Rob.y (v:=?_) rfl rfl (fun w1 hx hH=>?_) ?_;rotate_left
 ·go_simp;first | done | rfl | exact (Bool.not_not _).symm
 simp only [Act.put,slA,slB,slC]
 refine Rob.y (v:=?_) rfl rfl (fun w1 hx hH=>?_) ?_;rotate_left
 ·(have hE : Ext _ w1:=(by first | exact hx | exact hx.1);obtain ⟨gq,gqf⟩:=cellsK (keep_ext hE hG);obtain ⟨gb,gbf⟩:=cellsK (keep_ext hE hB));go_simp;first | done | rfl
 simp only [Act.put,slA,slB,slC]
 refine Rob.y (v:=?_) rfl rfl (fun w1 hx hH=>?_) ?_;rotate_left
 ·go_simp;first | done | rfl | exact (Bool.not_not _).symm
 simp only [Act.put,slA,slB,slC]
 refine Rob.y (v:=?_) rfl rfl (fun w1 hx hH=>?_) ?_;rotate_left
 ·(have hE : Ext _ w1:=(by first | exact hx | exact hx.1);obtain ⟨gq,gqf⟩:=cellsK (keep_ext hE hG);obtain ⟨gb,gbf⟩:=cellsK (keep_ext hE hB));go_simp;first | done | rfl
 simp only [Act.put,slA,slB,slC]
 refine Rob.y (v:=?_) rfl rfl (fun w1 hx hH=>?_) ?_;rotate_left
 ·go_simp;first | done | rfl | exact (Bool.not_not _).symm
 simp only [Act.put,slA,slB,slC]
 refine Rob.c (FlashN k g) rfl rfl rfl (fun _ _=>ext_trans) (fun _ _ _ _ _=>fun h hx=>h.ext hx) (fun w1 hx hH=>?_) (fun lo9 hi9 v9 hlo9 hhi9 hv9=>?_)
 ·unfold RunTo;go_simp;exact (hCW _ hx).mono fun e w' h=>h.to
 simp only [Act.put,slA,slB,slC]
 obtain ⟨_,hv9⟩:=hv9
 obtain ⟨a7,c7,rfl⟩:=hv9.form
 refine Rob.y (v:=?_) rfl rfl (fun w1 hx hH=>?_) ?_;rotate_left
 ·go_simp;first | done | rfl | exact (Bool.not_not _).symm
 simp only [Act.put,slA,slB,slC]
 iterate 4
  refine Rob.y (v:=?_) rfl rfl (fun w1 hx hH=>?_) ?_;rotate_left
  ·go_simp;first | done | rfl | exact (Bool.not_not _).symm
  simp only [Act.put,slA,slB,slC]
 have HLO:=hlo9
 refine fin_nil (fun w3 hx3 _=>?_)
 obtain ⟨hx3,hM⟩:=hx3
 obtain ⟨B7,bs7,hO7,hn7,hb7⟩:=hM.own
 obtain ⟨z0,z1⟩:=cellsK (keep_ext hx3 hG)
 have hfl:=fun (w4 : World) (h4 : w4 = w3.setCell ⟨P,0,none⟩ (.slice a7 4 c7))=>H.out.flash hx3 hO7 hn7 hb7 HLO h4
 have HFL:=Lib.hid hfl
 have H3:=Lib.hid (H.out.ext hx3)
 clear hM hO7 hn7 hb7 hfl gp gpf hv9
 cases k
 ·have hs:=(HSM rfl).out
  subst hs
  go_wp2_with fail
  go_end0
  go_wp2_with fail
  exact ⟨rfl,Chg.of_ext hx3,_,_,L,H3.out,fun b hb=>.inl hb⟩
 ·go_wp2_with fail
  obtain ⟨hC,L',hS,hL⟩:=HFL.out _ rfl
  go_end0
  go_wp2_with fail
  exact ⟨rfl,hC,_,_,L',hS,hL⟩
end Go.Bu
namespace Go.Bu
open Go Go.RowKit Go.Plan Go.Proofs
structure QAt (w : World) (Q G : Nat) (vals : List Value) : Prop where
 ex : ∃ (a : Option Addr) (c : Nat),w.heap[Q]? = some (.cells #[.slice a vals.length c] 75 (0,0)) ∧ vals.length ≤ c ∧ (vals = [] ∨ ∃ o,a = some ⟨G,o,none⟩ ∧ ∀ (i : Nat) v,vals[i]? = some v → w.cell? ⟨G,o + i,none⟩ = some v)
theorem QAt.lt {w : World} {Q G : Nat} {vals : List Value} (h : QAt w Q G vals) : Q < w.heap.size ∧ (vals ≠ [] → G < w.heap.size):=by
 obtain ⟨a,c,h1,h2,h3⟩:=h.ex
 refine ⟨heap_lt h1,fun hne=>?_⟩
 rcases h3 with h3 | ⟨o,_,h4⟩
 ·exact absurd h3 hne
 ·cases vals with
  | nil=>exact absurd rfl hne
  | cons v vs=>exact cell_lt (h4 0 v rfl)
theorem QAt.keep {w w' : World} {Q G : Nat} {vals : List Value} (h : QAt w Q G vals) (h1 : w'.heap[Q]? = w.heap[Q]?) (h2 : vals ≠ [] → w'.heap[G]? = w.heap[G]?) : QAt w' Q G vals:=by
 obtain ⟨a,c,e1,e2,e3⟩:=h.ex
 refine ⟨a,c,by rw [h1];exact e1,e2,e3.imp id fun ⟨o,ha,hc⟩=>⟨o,ha,fun i v hi=>?_⟩⟩
 have hne : vals ≠ []:=by rintro rfl;simp at hi
 have hv:=hc i v hi
 unfold World.cell? at hv ⊢
 rw [h2 hne];exact hv
theorem QAt.chg {w w' : World} {Q G : Nat} {vals : List Value} {L : List Nat} (h : QAt w Q G vals) (hC : Chg L w w') (hQ : Q ∉ L) (hG : G ∉ L) : QAt w' Q G vals:=
 h.keep (hC.block Q h.lt.1 hQ) fun hne=>hC.block G (h.lt.2 hne) hG
set_option maxRecDepth 20000 in
set_option maxHeartbeats 4000000 in
theorem take0_c (Q G : Nat) (w : World) (h : QAt w Q G []) : Calls Tryz.prog 50 #[.pointer (some ⟨Q,0,none⟩)] w (RetSame w (.tuple #[.nilFunc,.bool false])):=by
 obtain ⟨a,c,h1,_⟩:=h.ex
 obtain ⟨g,gf⟩:=cellsK h1
 have l:=heap_lt h1
 rw [show ([] : List Value).length = 0 from rfl] at g
 go_enter Tryz.func50,Tryz.ntmps50
 go_wp2_with fail
 go_ret2
 exact ⟨rfl,rfl⟩
set_option maxRecDepth 20000 in
set_option maxHeartbeats 4000000 in
theorem take_c (Q G : Nat) (x : Step) (B : Nat) (rest : List Value) (w : World) (h : QAt w Q G (actV x B :: rest)) (hne : Q ≠ G) (hl : rest.length ≤ 1000) :
  Calls Tryz.prog 50 #[.pointer (some ⟨Q,0,none⟩)] w (fun e w'=>e = .returned (.tuple #[actV x B,.bool true]) ∧ Chg [Q] w w' ∧ QAt w' Q G rest):=by
 obtain ⟨a,c,h1,h2,h3⟩:=h.ex
 rcases h3 with h3 | ⟨o,rfl,h4⟩
 ·cases h3
 have hc0:=h4 0 _ rfl
 rw [Nat.add_zero] at hc0
 have hcut : ∀ w' : World,(Instr.slice 73 (.slice (some ⟨G,o,none⟩) (rest.length + 1) c) (some (.int .i64 1)) none none).run Tryz.prog w' = .ok (sliced (some ⟨G,o,none⟩) 1 (rest.length + 1) c 1) w':=fun w'=>by
  rw [run_slice_l w' 73 (some ⟨G,o,none⟩) (rest.length + 1) c (by kernel_rfl) .i64 1 (by omega) (by omega)]
  rw [show (sizeOf (Tryz.prog.elem 73)).run Tryz.prog w' = .ok 1 w' by kernel_rfl]
  rfl
 have hres : ∃ a' ,sliced (some ⟨G,o,none⟩) 1 (rest.length + 1) c 1 = .slice a' rest.length (c - 1) ∧ (c ≠ 1 → a' = some ⟨G,o + 1,none⟩):=by
  unfold sliced
  by_cases hc1 : c = 1
  ·exact ⟨_,by rw [if_pos hc1,Nat.add_sub_cancel],fun h=>absurd hc1 h⟩
  ·exact ⟨_,by rw [if_neg hc1,Nat.add_sub_cancel],fun _=>by simp [Addr.add]⟩
 obtain ⟨a',hsl,ha'⟩:=hres
 rw [hsl] at hcut
 obtain ⟨g,gf⟩:=cellsK h1
 have l:=heap_lt h1
 have lG:=cell_lt hc0
 have hQ' : QAt (w.setCell ⟨Q,0,none⟩ (.slice a' rest.length (c - 1))) Q G rest:=by
  refine ⟨a',c - 1,hgo (hg_here h1) rfl,by simp only [List.length_cons] at h2;omega,?_⟩
  cases rest with
  | nil=>exact .inl rfl
  | cons v vs =>
   refine .inr ⟨o + 1,ha' (by simp only [List.length_cons] at h2;omega),fun i u hu=>?_⟩
   have:=h4 (i + 1) u (by simpa using hu)
   rw [cell_same (D:=fun b=>b ≠ Q) (fun b hb=>setCell_other hb) (Ne.symm hne)]
   rw [show o + 1 + i = o + (i + 1) by omega];exact this
 have hC : Chg [Q] w (w.setCell ⟨Q,0,none⟩ (.slice a' rest.length (c - 1))):=(Chg.refl _ _).set (p:=⟨Q,0,none⟩) (.inl (by simp)) _
 have HQ:=Lib.hid hQ'
 have HC:=Lib.hid hC
 obtain ⟨fv,hfv⟩ : ∃ fv,actV x B = fv:=⟨_,rfl⟩
 rw [hfv] at hc0 ⊢
 obtain ⟨fn,fa,fb,rfl⟩ : ∃ fn fa fb,fv = .func fn fa fb:=⟨_,_,_,hfv.symm⟩
 simp only [List.length_cons] at g
 have hlen : ((rest.length : Int) + 1 == 0) = false:=by simp;omega
 clear h h1 h4 hQ' hC hsl ha' hfv
 go_enter Tryz.func50,Tryz.ntmps50
 go_wp2_with fail
 go_ret2
 exact ⟨rfl,HC.out,HQ.out⟩
theorem act_c (x : Step) (hx : StepV x) (P B : Nat) (L : List Nat) (s : Store) (f d : Value) (torn : Bool) (w : World) (h : StAt w P L s f d) (hs : StoreP s)
  (hB : w.heap[B]? = some (.cells (stepC x).toArray 79 (0,0))) :
  Calls Tryz.prog (actFn x) #[.pointer (some ⟨P,0,none⟩),.bool torn,.pointer (some ⟨B,0,none⟩)] w (ActΦ w P L (doStep s x torn)):=by
 cases hx with
 | disk a v ha hv=>exact actDisk_c a v ha P B L s f d torn w h hs.disk hB
 | wipe i hi=>exact actWipe_c i hi P B L s f d torn w h hs.flash hB
 | write i hi r hr=>exact actWrite_c i hi r hr P B L s f d torn w h hs.flash hB
end Go.Bu