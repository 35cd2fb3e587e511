/- errors.Is at the sentinel; the console's lines. The program's LinesRun. The draw of lines. The laws of the lines: the parts they share; FnExactLinesRun. -/import Derived.Test.YtoekfnjeceijaaaGreatDoorZ12
import Derived.LaidEql
import Derived.Stop.Asserts
import Derived.Test.YtoekfnjeceijaaaGreatDoorZ5
import Derived.Test.YtoekfnjeceijaaaGreatDoorZ9
set_option maxHeartbeats 2000000
set_option linter.unusedVariables false
set_option linter.unusedSimpArgs false
namespace Go.Bu
open Go Go.RowKit Go.Plan Go.Proofs
theorem isTypeOf (v : Value) (w : World) : (Extern.ReflectliteType.typeOf #[.iface 216 v]).run Tryz.prog w = .ok (.iface 89 (.agg #[.pointer (some ⟨7,216,none⟩)])) w:=by kernel_rfl
theorem isComparable (w : World) : (callFunc 182 #[.agg #[.pointer (some ⟨7,216,none⟩)]]).run Tryz.prog w = .ok (.value (.bool true)) w:=by kernel_rfl
theorem isComp : (Tryz.prog.info? 216).map (·.comparable) = some true:=by kernel_rfl
theorem isSize : (Tryz.prog.info? 240).map (·.size) = some 1:=by kernel_rfl
set_option maxRecDepth 20000 in
set_option maxHeartbeats 2000000 in
theorem is_same (a : Addr) (w : World) :
  Calls Tryz.prog 23 #[.iface 216 (.pointer (some a)),.iface 216 (.pointer (some a))] w fun e w'=>e = .returned (.bool true) ∧ w' = w:=by
 obtain ⟨i,hi,hcmp⟩:=Option.map_eq_some_iff.1 isComp
 obtain ⟨j,hj,hjs⟩:=Option.map_eq_some_iff.1 isSize
 have h8:=@run_callFunc_extern Tryz.prog 37 _ Extern.ReflectliteType.typeOf Tryz.func37 (by kernel_rfl) (by kernel_rfl) (by kernel_rfl) (by kernel_rfl)
 have tT:=isTypeOf
 have cT:=isComparable
 have heq:=run_eql_iface_ptr_same (P:=Tryz.prog) w a Tryz.underlying35 Tryz.underlying216 hi hcmp hj
 go_enter Tryz.func23,Tryz.ntmps23
 go_wp2
 refine wp_loop_rounds 1 ?_
 rw [rounds_succ]
 go_wp2
 go_ret
 exact ⟨rfl,rfl⟩
set_option maxRecDepth 20000 in
theorem is_nil (b : Addr) (w : World) :
  Calls Tryz.prog 23 #[.nilIface,.iface 216 (.pointer (some b))] w fun e w'=>e = .returned (.bool false) ∧ w' = w:=by
 have hn:=run_eql_iface_nil_left (P:=Tryz.prog) w 216 (.pointer (some b)) Tryz.underlying35
 go_enter Tryz.func23,Tryz.ntmps23
 go_wp2
 go_ret
 exact ⟨rfl,rfl⟩
theorem Sl.take1 {D : Nat → Prop} {w : World} {a : Option Addr} {cap : Nat} {xs : List Str} {y : Str} (h : Strs D w (.slice a (xs.length + 1) cap) (xs ++ [y])) : Strs D w (.slice a xs.length cap) xs:=by
 obtain ⟨a',cap',hv,hx⟩:=h
 injection hv with h1 h2 h3
 subst h1 h3
 exact ⟨a,cap,rfl,fun i x hi=>hx i x (by rw [List.getElem?_append_left (List.getElem?_eq_some_iff.1 hi).1];exact hi)⟩
def LinesQ (w : World) (ls : List Str) (e : Ending) (w' : World) : Prop:=∃ v,e = .returned (.tuple #[v,.nilIface]) ∧ Ext w w' ∧ Strs (fun b=>w.heap.size ≤ b ∧ b < w'.heap.size) w' v ls
set_option maxRecDepth 20000 in
set_option maxHeartbeats 2000000 in
theorem linesOf_long (t : Str) (a : Addr) (w : World) (h0 : w.cell? ⟨0,0,none⟩ = some (.iface 216 (.pointer (some a)))) (ht : 600 < t.length) (hl : t.length ≤ 2000000) :
  Calls Tryz.prog 22 #[strV t] w (Ret w (.tuple #[.slice none 0 0,.iface 216 (.pointer (some a))])):=by
 have h6 : (600 : Int) < (t.length : Int):=by omega
 have hd : w.drew.cell? ⟨0,0,none⟩ = some (.iface 216 (.pointer (some a))):=h0
 go_enter Tryz.func22,Tryz.ntmps22
 go_wp2_with fail
 go_region
 all_goals (go_wp2_with fail;exact bodyPost_ret (v:=.tuple #[.slice none 0 0,.iface 216 (.pointer (some a))]) (by simp [results,Tryz.results22,go_sem]) rfl ⟨rfl,ext_drew _⟩)
set_option maxRecDepth 20000 in
set_option maxHeartbeats 2000000 in
theorem linesOf_c (t : Str) (ls : List Str) (last : Str) (m : Int) (w : World) (hm : w.cell? ⟨1,0,none⟩ = some (.int .i64 m)) (ht : ¬ 600 < t.length) (hls : cut 10 t = ls ++ [last]) :
  Calls Tryz.prog 22 #[strV t] w (LinesQ w ls):=by
 have h6 : ¬ (600 : Int) < (t.length : Int):=by omega
 have hsp:=split_x t 10 (by omega) m w hm
 have hcl : (cut 10 t).length ≤ 1000000:=by have:=cut_len 10 t;omega
 rw [hls] at hsp hcl
 have hn : (ls ++ [last]).length = ls.length + 1:=by simp
 rw [hn] at hcl
 clear hls hm
 go_enter Tryz.func22,Tryz.ntmps22
 go_wp2_with fail
 refine hsp.mono ?_;rintro e1 w1 ⟨va,rfl,hx1,hS1⟩
 rw [hn] at hS1 ⊢
 have HS1:=Lib.hid (Sl.take1 hS1)
 obtain ⟨b,o,rfl,_⟩:=hS1.at1 (k:=0) (by simp)
 clear hS1 hsp
 go_wp2_with fail
 exact bodyPost_ret (v:=.tuple #[.slice (some ⟨b,o,none⟩) ls.length (ls.length + 1),.nilIface]) (by simp [results,Tryz.results22,go_sem]) rfl ⟨_,rfl,hx1,HS1.out⟩
end Go.Bu
namespace Go.Bu
open Go Go.RowKit Go.Plan Go.Proofs
theorem allS_tiny {s : Store} (h : storeOkB s = true) : ∀ n ∈ allS s,0 ≤ n ∧ n < 100:=fun n hn=>by
 obtain ⟨k,hk,rfl⟩:=List.mem_map.1 hn
 have hk6 : k < 6:=by simpa using hk
 have hF:=(storeOk_iff.1 h).ord.ok
 unfold readN
 split
 ·rename_i hq
  rcases last_ok hF ((k : Int) + 1) with h0 | ⟨h0,_⟩
  ·rw [h0] at hq;exact absurd hq (by decide)
  ·have:=recOkB_iff.1 h0
   exact ⟨by omega,by omega⟩
 ·have h6:=storeOk_disk h
  rw [List.getD_eq_getElem?_getD,List.getElem?_eq_getElem (by omega),Option.getD_some]
  exact disk_tiny h _ (List.getElem_mem _)
theorem IntsOut.off {C : Nat} {R : Option Nat} {w w' : World} {v : Value} {xs : List Int} (h : IntsOut w.heap.size w' v xs) (hC : C < w.heap.size) (hR : ∀ g,R = some g → g < w.heap.size) : Ints (Off C R w') w' v xs:=by
 rcases h with ⟨rfl,rfl⟩ | ⟨B,hB,T,hO⟩
 ·exact ⟨_,_,rfl,fun i x hi=>by cases hi⟩
 ·exact hO.sl ⟨hO.lt,by omega,fun e=>by have:=hR _ e;omega⟩
set_option maxRecDepth 20000 in
set_option maxHeartbeats 4000000 in
theorem implLinesRun_long (t : Str) (a : Addr) (w : World) (h0 : w.cell? ⟨0,0,none⟩ = some (.iface 216 (.pointer (some a)))) (ht : 600 < t.length) (hl : t.length ≤ 2000000) :
  Calls Tryz.prog 16 #[strV t] w (Ret w (strV wLong)):=by
 go_enter Tryz.func16,Tryz.ntmps16
 go_wp2_with fail
 refine (linesOf_long t a w h0 ht hl).mono ?_;rintro e1 w1 ⟨rfl,hx1⟩
 have h1:=cell_ext hx1 h0
 go_wp2_with fail
 refine (is_same a _).mono ?_;rintro e2 w2 ⟨rfl,rfl⟩
 go_wp2_with fail
 exact bodyPost_ret (v:=strV wLong) (by simp [results,Tryz.results16,go_sem];rfl) rfl ⟨rfl,hx1⟩
set_option maxRecDepth 20000 in
set_option maxHeartbeats 8000000 in
theorem implLinesRun_short (t : Str) (a : Addr) (m : Int) (w : World) (h0 : w.cell? ⟨0,0,none⟩ = some (.iface 216 (.pointer (some a)))) (hm : w.cell? ⟨1,0,none⟩ = some (.int .i64 m)) (ht : ¬ 600 < t.length) :
  Calls Tryz.prog 16 #[strV t] w (Ret w (strV ((runS t).2 ++ numsS wAll (allS (runS t).1)))):=by
 have hsz:=cut_lines (text:=t) (by omega)
 obtain ⟨ls,last,hls⟩ : ∃ ls last,cut 10 t = ls ++ [last]:=⟨_,_,(List.dropLast_concat_getLast (cut_ne 10 t)).symm⟩
 have hrun : runS t = linesDo (newStore,[]) ls:=by unfold runS;rw [hls,List.dropLast_concat]
 rw [hls,List.dropLast_concat] at hsz
 have hlo:=linesOf_c t ls last m w hm ht hls
 rw [hrun]
 have hbd:=fun (k : Nat)=>run_bound (ls:=ls.take k) (by have:=sizeL_take ls k;omega)
 have hll : ls.length ≤ 600:=by
  have : ∀ ws : List Str,ws.length ≤ sizeL ws:=by
   intro ws
   induction ws with
   | nil=>exact Nat.le_refl _
   | cons w ws ih=>rw [sizeL_cons,List.length_cons];omega
  have:=this ls;omega
 have hpl : ∀ x ∈ ls,x.length ≤ 600:=fun x hx=>by have:=piece_len ls x hx;omega
 have HBD:=Lib.hid hbd;have HPL:=Lib.hid hpl;have HLO:=Lib.hid hlo
 have l1:=cell_lt hm
 clear hlo hbd hpl hsz hrun hls ht
 go_enter Tryz.func16,Tryz.ntmps16
 go_wp2_with fail
 refine HLO.out.mono ?_;rintro e1 w1 ⟨v1,rfl,hx1,hS1⟩
 have h1:=cell_ext hx1 h0
 have hm1:=cell_ext hx1 hm
 obtain ⟨va,vc,rfl⟩:=hS1.form
 have HS1:=Lib.hid hS1
 clear hS1
 go_wp2_with fail
 refine (is_nil a _).mono ?_;rintro e2 w2 ⟨rfl,rfl⟩
 go_wp2_with fail
 refine (implStoreNew_c _).mono ?_;rintro e3 w3 ⟨f,d,L,rfl,hx3,hO3,hn3,hb3⟩
 obtain ⟨fa,fm,fc,da,dm,dc,rfl,rfl⟩:=hO3.forms
 have X3:=ext_trans hx1 hx3
 have hm3:=cell_ext hx3 hm1
 have G3:=hg_new (w:=w3) (b:=w3.heap.size) (x:=.cells #[.slice fa fm fc,.slice da dm dc,.pointer none,.slice none 0 0] 48) rfl
 have XA : Ext w3 (w3.alloc (.cells #[.slice fa fm fc,.slice da dm dc,.pointer none,.slice none 0 0] 48)):=ext_alloc (ext_refl _) _
 have hS : ConS w3.heap.size (w3.alloc (.cells #[.slice fa fm fc,.slice da dm dc,.pointer none,.slice none 0 0] 48)) newStore [] none:=by
  refine ⟨_,_,L,⟨_,_,.inl rfl,G3,World.ownsRowF_nil _ _ _ _,rfl⟩,hO3.ext XA,fun b hb=>⟨fun e=>by have:=hO3.lt b hb;omega,by simp⟩⟩
 have hSl : Strs (Off w3.heap.size none (w3.alloc (.cells #[.slice fa fm fc,.slice da dm dc,.pointer none,.slice none 0 0] 48))) (w3.alloc (.cells #[.slice fa fm fc,.slice da dm dc,.pointer none,.slice none 0 0] 48)) (.slice va ls.length vc) ls:=
  Sl.same (plain_kept _) HS1.out (fun b hb=>(ext_trans hx3 XA).block b hb.2) fun b hb=>⟨Nat.lt_of_lt_of_le hb.2 (ext_trans hx3 XA).size,fun e=>by have:=hb.2;have:=hx3.size;omega,by simp⟩
 have hmA:=cell_ext XA hm3
 have hoff1 : Off w3.heap.size none (w3.alloc (.cells #[.slice fa fm fc,.slice da dm dc,.pointer none,.slice none 0 0] 48)) 1:=⟨cell_lt hmA,fun e=>by have:=X3.size;omega,by simp⟩
 have hc3 : w.heap.size ≤ w3.heap.size:=X3.size
 have XW:=ext_trans X3 XA
 clear hO3 hn3 hb3 G3 XA hx1 hx3 hm hm1 hm3 h0 h1 HS1 X3
 go_wp2_with fail
 generalize w3.alloc (.cells #[.slice fa fm fc,.slice da dm dc,.pointer none,.slice none 0 0] 48) = W0 at *
 generalize w3.heap.size = C at *
 have HSL:=Lib.hid hSl;have HS0:=Lib.hid hS;have HM:=Lib.hid hmA;have HO1:=Lib.hid hoff1
 clear hSl hS hmA hoff1
 go_loopw [20] (fun y wr=>∃ (k : Nat) (Q : Str) (s1 : Store) (R' : Option Nat),k ≤ ls.length ∧ y = .int .i64 (k : Int) ∧ Q.length ≤ 200 * k ∧ Hid (linesDo (newStore,[]) (ls.take k) = (s1,Q)) ∧ Hid (Fr C none W0 R' wr) ∧ Hid (ConS C wr s1 Q R')) (fun y _=>ls.length - (intOf y).toNat)
 case atStart=>exact ⟨0,[],newStore,none,by omega,rfl,by simp,Lib.hid rfl,Lib.hid (Fr.refl _ _ _),HS0⟩
 case round =>
  clear HS0
  obtain ⟨k,Q,s1,R',hk,rfl,hql,HR,HF,HS⟩:=hrel
  by_cases hlt : k < ls.length
  ·have hb:=HBD.out k
   rw [HR.out] at hb
   dsimp only at hb
   have hstep:=lines_take ls k hlt (newStore,[])
   rw [HR.out,stepL_eq] at hstep
   dsimp only at hstep
   obtain ⟨b,o,rfl,hbD,hc0⟩:=HSL.out.at1 (k:=k) (by omega)
   have hll1:=HPL.out _ (List.getElem_mem hlt)
   have hc1:=HF.out.cell hbD hc0
   have hmr:=HF.out.cell HO1.out HM.out
   have hline:=line_c C s1 Q ls[k] R' wr m HS.out hb.1 (fun b hm=>(hb.2.1 b hm).2) hmr (by omega) (by omega)
   have hal:=wordsDo_len (s:=s1) hb.1 (fun b hm=>(hb.2.1 b hm).2) (cut 32 ls[k])
   rw [show wordsDo s1 (cut 32 ls[k]) = lineDo s1 ls[k] from rfl] at hal
   generalize ls[k] = l at *
   obtain ⟨s2,A,hA⟩ : ∃ s2 A,lineDo s1 l = (s2,A):=⟨_,_,rfl⟩
   rw [hA] at hline hstep hal
   dsimp only at hstep hal hline
   have HLN:=Lib.hid hline;have HST:=Lib.hid hstep
   have hl2 : (Q ++ A).length ≤ 200 * (k + 1):=by simp;omega
   clear hline hstep hA hb hll1 HR hmr hc0
   go_wp2_with fail
   refine HLN.out.mono ?_;rintro e5 w5 ⟨rfl,R5,hF5,hS5⟩
   have HF5:=Lib.hid (HF.out.trans hF5);have HS5:=Lib.hid hS5
   clear hF5 hS5
   go_wp2_with fail
   go_roundw
   case rel=>exact ⟨k + 1,_,s2,R5,by omega,by go_num,hl2,HST,HF5,HS5⟩
   case measure=>simp [intOf];omega
  ·obtain rfl : k = ls.length:=by omega
   rw [List.take_length] at HR
   have hst:=HBD.out ls.length
   rw [List.take_length] at hst
   rw [HR.out] at hst
   dsimp only at hst
   have hfin : (linesDo (newStore,[]) ls).2 ++ numsS wAll (allS (linesDo (newStore,[]) ls).1) = Q ++ numsS wAll (allS s1):=by rw [HR.out]
   obtain ⟨f,d,L,hK,hO,hL⟩:=HS.out
   have hlt2:=hK.lt
   have hrw:=hK.row
   have hsa:=implStoreAll_c f d s1 wr hO.v (StoreV.small (w:=wr) (f:=f) (d:=d) hst.1).2.1 (StoreV.small (w:=wr) (f:=f) (d:=d) hst.1).2.2
   rw [show allV s1 = allS s1 by unfold allV;rw [if_pos hst.1]] at hsa
   have htiny:=allS_tiny hst.1
   have hl6:=allS_len s1
   have HK:=Lib.hid hK
   obtain ⟨p0,v0,_,hCc,_⟩:=hK
   obtain ⟨zc,zf⟩:=cellsK hCc
   obtain ⟨fa',fm',fc',da',dm',dc',rfl,rfl⟩:=hO.forms
   have hFr:=HF.out
   have HFR:=Lib.hid hFr;have HSA:=Lib.hid hsa;have HFIN:=Lib.hid hfin
   clear hFr hsa hfin hst HR hCc hO hL HF HS
   generalize allS s1 = AL at *
   go_wp2_with fail
   refine HSA.out.mono ?_;rintro e5 w5 ⟨v5,rfl,hx5,hI5⟩
   have hlist:=list_c C _ _ Q wAll R' v5 AL w5 (HK.out.ext hx5) (hI5.off hlt2 hrw) htiny (by omega) (by have : wAll.length = 3:=rfl;omega)
   have HF5:=Lib.hid (HFR.out.trans (Fr.of_ext hx5))
   clear hx5 hI5 zc zf
   go_wp2_with fail
   refine hlist.mono ?_;rintro e6 w6 ⟨rfl,R6,hF6,hC6⟩
   have HF6:=Lib.hid (HF5.out.trans hF6);have HC6:=Lib.hid hC6
   clear hF6 hC6 hlist
   go_wp2_with fail
   refine (bldString_c C _ _ _ R6 _ HC6.out (by unfold numsS;simp)).mono ?_;rintro e7 w7 ⟨rfl,hF7⟩
   have hE : Ext w w7:=(HF6.out.trans hF7).ext XW hc3
   go_wp2_with fail
   exact bodyPost_ret (v:=strV (Q ++ numsS wAll AL)) (by simp [results,Tryz.results16,go_sem]) rfl ⟨by rw [HFIN.out],hE⟩
theorem implLinesRun_c (t : Str) (a : Addr) (m : Int) (w : World) (h0 : w.cell? ⟨0,0,none⟩ = some (.iface 216 (.pointer (some a)))) (hm : w.cell? ⟨1,0,none⟩ = some (.int .i64 m)) (hl : t.length ≤ 2000000) :
  Calls Tryz.prog 16 #[strV t] w (Ret w (strV (linesRun t))):=by
 unfold linesRun
 by_cases h : 600 < t.length
 ·rw [if_pos h];exact implLinesRun_long t a w h0 h hl
 ·rw [if_neg h];exact implLinesRun_short t a m w h0 hm h
end Go.Bu
namespace Go.Bu
open Go Go.RowKit Go.Plan Go.Proofs
def WordΦ (R K : Nat) (w : World) (e : Ending) (w' : World) : Prop:=∃ l : Str,e = .returned (strV l) ∧ Chg [R] w w' ∧ Rk w' R K ∧ l.length ≤ 20
set_option maxRecDepth 20000 in
set_option maxHeartbeats 2000000 in
theorem of_c (R K : Nat) (v : Value) (ws : List Str) (w : World) (h : Rk w R (K + 1)) (hv : Strs (fun b=>b < w.heap.size ∧ b ≠ R) w v ws) (hn : 0 < ws.length ∧ ws.length ≤ 20) (hl : ∀ x ∈ ws,x.length ≤ 20) :
  Calls Tryz.prog 35 #[.pointer (some ⟨R,0,none⟩),v] w (WordΦ R K w):=by
 have hp:=fun w' (hr : Rk w' R (K + 1))=>pick_k R (ws.length : Int) w' hr (by omega)
 have HV:=Lib.hid hv
 obtain ⟨a,cap,rfl⟩:=hv.form
 clear hv
 go_enter Tryz.func35,Tryz.ntmps35
 go_wp2_with fail
 refine (hp _ h).mono ?_;rintro e1 w1 ⟨r,rfl,p0,p1,hC,HK⟩
 obtain ⟨k,rfl⟩ : ∃ k : Nat,r = (k : Int):=⟨r.toNat,by omega⟩
 have hk : k < ws.length:=by have:=p1 (by omega);omega
 obtain ⟨b,o,rfl,hb,hc⟩:=HV.out.at1 hk
 have hc1:=cell_chg hC hc (by simp;exact hb.2)
 have hll:=hl _ (List.getElem_mem hk)
 have hki : (k : Int) < (ws.length : Int):=by omega
 clear hl HV hp
 generalize ws[k] = x at *
 go_wp2_with fail
 exact bodyPost_ret (v:=strV x) (by simp [results,Tryz.results35,go_sem]) rfl ⟨x,rfl,hC,HK,hll⟩
theorem words_at {w : World} {B : Nat} (ws : List Str) (n : Nat) (hn : n = ws.length) (h : w.heap[B]? = some (.cells (ws.map strV).toArray 9 (0,0))) {R : Nat} (hR : B ≠ R) : Strs (fun b=>b < w.heap.size ∧ b ≠ R) w (.slice (some ⟨B,0,none⟩) n n) ws:=by
 subst hn
 refine ⟨_,_,rfl,fun i x hx=>⟨B,0,strC x,rfl,⟨heap_lt h,hR⟩,rfl,fun j u hu=>?_⟩⟩
 obtain rfl : j = 0:=by
  cases j with
  | zero=>rfl
  | succ j=>simp at hu
 rw [cell_block h]
 simp at hu ⊢
 exact ⟨x,hx,hu⟩
set_option maxRecDepth 20000 in
set_option maxHeartbeats 8000000 in
theorem l71Line_c (R K : Nat) (w : World) (h : Rk w R (K + 4)) : Calls Tryz.prog 20 #[.pointer (some ⟨R,0,none⟩)] w (WordΦ R K w):=by
 have h' : Rk w R (K + 1 + 1 + 1 + 1):=h
 have hRl:=h.lt
 have hdec:=fun (n : Int) (hn : Small3 n) (w' : World)=>l6Dec_i n hn w'
 go_enter Tryz.func20,Tryz.ntmps20
 go_wp2_with fail
 refine (pick_k R 6 _ h').mono ?_;rintro e1 w1 ⟨r,rfl,p0,p1,hC1,HK1⟩
 have hp1:=p1 (by omega)
 go_wp2_with fail
 refine (hdec (1 + r) ⟨by omega,by omega⟩ _).mono ?_;rintro e2 w2 ⟨rfl,hx2⟩
 have hl1:=decI_len (n:=1 + r) ⟨by omega,by omega⟩
 have HK2:=HK1.ext hx2
 have hC2:=hC1.trans (Chg.of_ext hx2)
 generalize decI (1 + r) = d1 at *
 clear hC1 HK1 hx2 p0 p1 hp1 h h'
 go_wp2_with fail
 refine (pick_k R 11 _ HK2).mono ?_;rintro e3 w3 ⟨q,rfl,q0,q1,hC3,HK3⟩
 have hq:=q1 (by omega)
 have hC:=hC2.trans hC3
 have HKK:=HK3
 clear hC2 hC3 HK2 q1 HK3
 obtain ⟨q,rfl⟩ : ∃ n : Nat,q = (n : Int):=⟨q.toNat,by omega⟩
 have hq11 : q < 11:=by omega
 clear hq q0
 have hR3:=HKK.lt
 have ha1:=str_addz (P:=Tryz.prog) (x:=[112,117,116,32]) (y:=d1) (112 :: 117 :: 116 :: 32 :: d1) rfl (by simp;omega)
 have ha2:=str_addz (P:=Tryz.prog) (x:=112 :: 117 :: 116 :: 32 :: d1) (y:=[32]) (112 :: 117 :: 116 :: 32 :: (d1 ++ [32])) rfl (by simp;omega)
 have hb1:=str_addz (P:=Tryz.prog) (x:=[102,97,108,108,32]) (y:=d1) (102 :: 97 :: 108 :: 108 :: 32 :: d1) rfl (by simp;omega)
 have hb2:=str_addz (P:=Tryz.prog) (x:=102 :: 97 :: 108 :: 108 :: 32 :: d1) (y:=[32]) (102 :: 97 :: 108 :: 108 :: 32 :: (d1 ++ [32])) rfl (by simp;omega)
 have hc1:=str_addz (P:=Tryz.prog) (x:=[102,108,117,115,104,32]) (y:=d1) (102 :: 108 :: 117 :: 115 :: 104 :: 32 :: d1) rfl (by simp;omega)
 have hc2:=str_addz (P:=Tryz.prog) (x:=[102,105,108,108,32]) (y:=d1) (102 :: 105 :: 108 :: 108 :: 32 :: d1) rfl (by simp;omega)
 rcases (show q = 0 ∨ q = 1 ∨ q = 2 ∨ q = 3 ∨ q = 4 ∨ q = 5 ∨ q = 6 ∨ q = 7 ∨ q = 8 ∨ q = 9 ∨ q = 10 by omega) with rfl | rfl | rfl | rfl | rfl | rfl | rfl | rfl | rfl | rfl | rfl
 ·clear hb1 hb2 hc1 hc2
  go_wp2_with fail
  refine (pick_k R 10 _ HKK).mono ?_;rintro e4 w4 ⟨q2,rfl,q0,q1,hC4,HK4⟩
  have hq:=q1 (by omega)
  have hCC:=hC.trans hC4
  clear hC hC4 HKK
  go_wp2_with fail
  refine (hdec q2 ⟨by omega,by omega⟩ _).mono ?_;rintro e5 w5 ⟨rfl,hx5⟩
  have hl2:=decI_len (n:=q2) ⟨by omega,by omega⟩
  generalize decI q2 = d2 at *
  have ha3:=str_addz (P:=Tryz.prog) (x:=112 :: 117 :: 116 :: 32 :: (d1 ++ [32])) (y:=d2) (112 :: 117 :: 116 :: 32 :: (d1 ++ 32 :: d2)) (by simp) (by simp;omega)
  have hC5:=hCC.trans (Chg.of_ext hx5)
  have HK5:=(HK4.ext hx5).less (K':=K) (by omega)
  clear hCC hx5 HK4 ha1 ha2
  go_wp2_with fail
  exact bodyPost_ret (v:=strV (112 :: 117 :: 116 :: 32 :: (d1 ++ 32 :: d2))) (by simp [results,Tryz.results20,go_sem]) rfl ⟨_,rfl,hC5,HK5,by simp;omega⟩
 ·clear hb1 hb2 hc1 hc2
  go_wp2_with fail
  refine (pick_k R 10 _ HKK).mono ?_;rintro e4 w4 ⟨q2,rfl,q0,q1,hC4,HK4⟩
  have hq:=q1 (by omega)
  have hCC:=hC.trans hC4
  clear hC hC4 HKK
  go_wp2_with fail
  refine (hdec q2 ⟨by omega,by omega⟩ _).mono ?_;rintro e5 w5 ⟨rfl,hx5⟩
  have hl2:=decI_len (n:=q2) ⟨by omega,by omega⟩
  generalize decI q2 = d2 at *
  have ha3:=str_addz (P:=Tryz.prog) (x:=112 :: 117 :: 116 :: 32 :: (d1 ++ [32])) (y:=d2) (112 :: 117 :: 116 :: 32 :: (d1 ++ 32 :: d2)) (by simp) (by simp;omega)
  have hC5:=hCC.trans (Chg.of_ext hx5)
  have HK5:=(HK4.ext hx5).less (K':=K) (by omega)
  clear hCC hx5 HK4 ha1 ha2
  go_wp2_with fail
  exact bodyPost_ret (v:=strV (112 :: 117 :: 116 :: 32 :: (d1 ++ 32 :: d2))) (by simp [results,Tryz.results20,go_sem]) rfl ⟨_,rfl,hC5,HK5,by simp;omega⟩
 ·clear hb1 hb2 hc1 hc2
  go_wp2_with fail
  refine (pick_k R 10 _ HKK).mono ?_;rintro e4 w4 ⟨q2,rfl,q0,q1,hC4,HK4⟩
  have hq:=q1 (by omega)
  have hCC:=hC.trans hC4
  clear hC hC4 HKK
  go_wp2_with fail
  refine (hdec q2 ⟨by omega,by omega⟩ _).mono ?_;rintro e5 w5 ⟨rfl,hx5⟩
  have hl2:=decI_len (n:=q2) ⟨by omega,by omega⟩
  generalize decI q2 = d2 at *
  have ha3:=str_addz (P:=Tryz.prog) (x:=112 :: 117 :: 116 :: 32 :: (d1 ++ [32])) (y:=d2) (112 :: 117 :: 116 :: 32 :: (d1 ++ 32 :: d2)) (by simp) (by simp;omega)
  have hC5:=hCC.trans (Chg.of_ext hx5)
  have HK5:=(HK4.ext hx5).less (K':=K) (by omega)
  clear hCC hx5 HK4 ha1 ha2
  go_wp2_with fail
  exact bodyPost_ret (v:=strV (112 :: 117 :: 116 :: 32 :: (d1 ++ 32 :: d2))) (by simp [results,Tryz.results20,go_sem]) rfl ⟨_,rfl,hC5,HK5,by simp;omega⟩
 ·clear hb1 hb2 hc1 hc2
  go_wp2_with fail
  refine (pick_k R 10 _ HKK).mono ?_;rintro e4 w4 ⟨q2,rfl,q0,q1,hC4,HK4⟩
  have hq:=q1 (by omega)
  have hCC:=hC.trans hC4
  clear hC hC4 HKK
  go_wp2_with fail
  refine (hdec q2 ⟨by omega,by omega⟩ _).mono ?_;rintro e5 w5 ⟨rfl,hx5⟩
  have hl2:=decI_len (n:=q2) ⟨by omega,by omega⟩
  generalize decI q2 = d2 at *
  have ha3:=str_addz (P:=Tryz.prog) (x:=112 :: 117 :: 116 :: 32 :: (d1 ++ [32])) (y:=d2) (112 :: 117 :: 116 :: 32 :: (d1 ++ 32 :: d2)) (by simp) (by simp;omega)
  have hC5:=hCC.trans (Chg.of_ext hx5)
  have HK5:=(HK4.ext hx5).less (K':=K) (by omega)
  clear hCC hx5 HK4 ha1 ha2
  go_wp2_with fail
  exact bodyPost_ret (v:=strV (112 :: 117 :: 116 :: 32 :: (d1 ++ 32 :: d2))) (by simp [results,Tryz.results20,go_sem]) rfl ⟨_,rfl,hC5,HK5,by simp;omega⟩
 ·clear ha1 ha2 hc1 hc2
  go_wp2_with fail
  refine (pick_k R 10 _ HKK).mono ?_;rintro e4 w4 ⟨q2,rfl,q0,q1,hC4,HK4⟩
  have hq:=q1 (by omega)
  have hCC:=hC.trans hC4
  clear hC hC4 HKK
  go_wp2_with fail
  refine (hdec q2 ⟨by omega,by omega⟩ _).mono ?_;rintro e5 w5 ⟨rfl,hx5⟩
  have hl2:=decI_len (n:=q2) ⟨by omega,by omega⟩
  generalize decI q2 = d2 at *
  have hb3:=str_addz (P:=Tryz.prog) (x:=102 :: 97 :: 108 :: 108 :: 32 :: (d1 ++ [32])) (y:=d2) (102 :: 97 :: 108 :: 108 :: 32 :: (d1 ++ 32 :: d2)) (by simp) (by simp;omega)
  have hb4:=str_addz (P:=Tryz.prog) (x:=102 :: 97 :: 108 :: 108 :: 32 :: (d1 ++ 32 :: d2)) (y:=[32]) (102 :: 97 :: 108 :: 108 :: 32 :: (d1 ++ 32 :: (d2 ++ [32]))) (by simp) (by simp;omega)
  have hC5:=hCC.trans (Chg.of_ext hx5)
  have HK5:=HK4.ext hx5
  clear hCC hx5 HK4 hb1 hb2 q1 hq
  go_wp2_with fail
  refine (pick_k R 3 _ HK5).mono ?_;rintro e6 w6 ⟨q3,rfl,q4,q5,hC6,HK6⟩
  have hq5:=q5 (by omega)
  have hCC:=hC5.trans hC6
  clear hC5 hC6 HK5
  go_wp2_with fail
  refine (hdec q3 ⟨by omega,by omega⟩ _).mono ?_;rintro e7 w7 ⟨rfl,hx7⟩
  have hl3:=decI_len (n:=q3) ⟨by omega,by omega⟩
  generalize decI q3 = d3 at *
  have hb5:=str_addz (P:=Tryz.prog) (x:=102 :: 97 :: 108 :: 108 :: 32 :: (d1 ++ 32 :: (d2 ++ [32]))) (y:=d3) (102 :: 97 :: 108 :: 108 :: 32 :: (d1 ++ 32 :: (d2 ++ 32 :: d3))) (by simp) (by simp;omega)
  have hC7:=hCC.trans (Chg.of_ext hx7)
  have HK7:=(HK6.ext hx7).less (K':=K) (by omega)
  clear hCC hx7 HK6 hb3 hb4
  go_wp2_with fail
  exact bodyPost_ret (v:=strV (102 :: 97 :: 108 :: 108 :: 32 :: (d1 ++ 32 :: (d2 ++ 32 :: d3)))) (by simp [results,Tryz.results20,go_sem]) rfl ⟨_,rfl,hC7,HK7,by simp;omega⟩
 ·clear ha1 ha2 hc1 hc2
  go_wp2_with fail
  refine (pick_k R 10 _ HKK).mono ?_;rintro e4 w4 ⟨q2,rfl,q0,q1,hC4,HK4⟩
  have hq:=q1 (by omega)
  have hCC:=hC.trans hC4
  clear hC hC4 HKK
  go_wp2_with fail
  refine (hdec q2 ⟨by omega,by omega⟩ _).mono ?_;rintro e5 w5 ⟨rfl,hx5⟩
  have hl2:=decI_len (n:=q2) ⟨by omega,by omega⟩
  generalize decI q2 = d2 at *
  have hb3:=str_addz (P:=Tryz.prog) (x:=102 :: 97 :: 108 :: 108 :: 32 :: (d1 ++ [32])) (y:=d2) (102 :: 97 :: 108 :: 108 :: 32 :: (d1 ++ 32 :: d2)) (by simp) (by simp;omega)
  have hb4:=str_addz (P:=Tryz.prog) (x:=102 :: 97 :: 108 :: 108 :: 32 :: (d1 ++ 32 :: d2)) (y:=[32]) (102 :: 97 :: 108 :: 108 :: 32 :: (d1 ++ 32 :: (d2 ++ [32]))) (by simp) (by simp;omega)
  have hC5:=hCC.trans (Chg.of_ext hx5)
  have HK5:=HK4.ext hx5
  clear hCC hx5 HK4 hb1 hb2 q1 hq
  go_wp2_with fail
  refine (pick_k R 3 _ HK5).mono ?_;rintro e6 w6 ⟨q3,rfl,q4,q5,hC6,HK6⟩
  have hq5:=q5 (by omega)
  have hCC:=hC5.trans hC6
  clear hC5 hC6 HK5
  go_wp2_with fail
  refine (hdec q3 ⟨by omega,by omega⟩ _).mono ?_;rintro e7 w7 ⟨rfl,hx7⟩
  have hl3:=decI_len (n:=q3) ⟨by omega,by omega⟩
  generalize decI q3 = d3 at *
  have hb5:=str_addz (P:=Tryz.prog) (x:=102 :: 97 :: 108 :: 108 :: 32 :: (d1 ++ 32 :: (d2 ++ [32]))) (y:=d3) (102 :: 97 :: 108 :: 108 :: 32 :: (d1 ++ 32 :: (d2 ++ 32 :: d3))) (by simp) (by simp;omega)
  have hC7:=hCC.trans (Chg.of_ext hx7)
  have HK7:=(HK6.ext hx7).less (K':=K) (by omega)
  clear hCC hx7 HK6 hb3 hb4
  go_wp2_with fail
  exact bodyPost_ret (v:=strV (102 :: 97 :: 108 :: 108 :: 32 :: (d1 ++ 32 :: (d2 ++ 32 :: d3)))) (by simp [results,Tryz.results20,go_sem]) rfl ⟨_,rfl,hC7,HK7,by simp;omega⟩
 ·have HK5:=HKK.less (K':=K) (by omega)
  clear ha1 ha2 hb1 hb2 HKK
  go_wp2_with fail
  exact bodyPost_ret (v:=strV (102 :: 108 :: 117 :: 115 :: 104 :: 32 :: d1)) (by simp [results,Tryz.results20,go_sem]) rfl ⟨_,rfl,hC,HK5,by simp;omega⟩
 ·have HK5:=HKK.less (K':=K) (by omega)
  clear ha1 ha2 hb1 hb2 HKK
  go_wp2_with fail
  exact bodyPost_ret (v:=strV (102 :: 105 :: 108 :: 108 :: 32 :: d1)) (by simp [results,Tryz.results20,go_sem]) rfl ⟨_,rfl,hC,HK5,by simp;omega⟩
 ·clear ha1 ha2 hb1 hb2 hc1 hc2
  go_wp2_with fail
  refine (of_c R (K + 1) _ ([[115,101,101],[100,105,115,107],[100,105,114,116,121],[97,108,108]] : List Str) _ HKK.alloc2 (words_at ([[115,101,101],[100,105,115,107],[100,105,114,116,121],[97,108,108]] : List Str) 4 rfl (hg_new rfl) (by omega)) (by decide) (by decide)).mono ?_;rintro e4 w4 ⟨l4,rfl,hC4,HK4,hl4⟩
  have hCC:=hC.trans ((Chg.of_ext (ext_alloc (ext_refl _) _)).trans hC4)
  have HK5:=HK4.less (K':=K) (by omega)
  clear hC hC4 HK4 HKK
  go_wp2_with fail
  exact bodyPost_ret (v:=strV l4) (by simp [results,Tryz.results20,go_sem]) rfl ⟨_,rfl,hCC,HK5,hl4⟩
 ·clear ha1 ha2 hb1 hb2 hc1 hc2
  go_wp2_with fail
  refine (of_c R (K + 1) _ ([[119,104,97,116],[],[112,117,116],[112,117,116,32,57,32,49],[112,117,116,32,49,32,49,49],[102,97,108,108,32,49,32,50],[102,108,117,115,104]] : List Str) _ HKK.alloc2 (words_at ([[119,104,97,116],[],[112,117,116],[112,117,116,32,57,32,49],[112,117,116,32,49,32,49,49],[102,97,108,108,32,49,32,50],[102,108,117,115,104]] : List Str) 7 rfl (hg_new rfl) (by omega)) (by decide) (by decide)).mono ?_;rintro e4 w4 ⟨l4,rfl,hC4,HK4,hl4⟩
  have hCC:=hC.trans ((Chg.of_ext (ext_alloc (ext_refl _) _)).trans hC4)
  have HK5:=HK4.less (K':=K) (by omega)
  clear hC hC4 HK4 HKK
  go_wp2_with fail
  exact bodyPost_ret (v:=strV l4) (by simp [results,Tryz.results20,go_sem]) rfl ⟨_,rfl,hCC,HK5,hl4⟩
 ·clear hb1 hb2 hc1 hc2
  go_wp2_with fail
  refine (pick_k R 10 _ HKK).mono ?_;rintro e4 w4 ⟨q2,rfl,q0,q1,hC4,HK4⟩
  have hq:=q1 (by omega)
  have hCC:=hC.trans hC4
  clear hC hC4 HKK
  go_wp2_with fail
  refine (hdec q2 ⟨by omega,by omega⟩ _).mono ?_;rintro e5 w5 ⟨rfl,hx5⟩
  have hl2:=decI_len (n:=q2) ⟨by omega,by omega⟩
  generalize decI q2 = d2 at *
  have ha3:=str_addz (P:=Tryz.prog) (x:=112 :: 117 :: 116 :: 32 :: (d1 ++ [32])) (y:=d2) (112 :: 117 :: 116 :: 32 :: (d1 ++ 32 :: d2)) (by simp) (by simp;omega)
  have hC5:=hCC.trans (Chg.of_ext hx5)
  have HK5:=(HK4.ext hx5).less (K':=K) (by omega)
  clear hCC hx5 HK4 ha1 ha2
  go_wp2_with fail
  exact bodyPost_ret (v:=strV (112 :: 117 :: 116 :: 32 :: (d1 ++ 32 :: d2))) (by simp [results,Tryz.results20,go_sem]) rfl ⟨_,rfl,hC5,HK5,by simp;omega⟩
def LinesT (t : Str) : Prop:=t = [] ∨ ∃ u,t = u ++ [10]
theorem LinesT.app {a b : Str} (ha : LinesT a) (hb : LinesT b) : LinesT (a ++ b):=by
 rcases hb with rfl | ⟨u,rfl⟩
 ·rw [List.append_nil];exact ha
 ·exact .inr ⟨a ++ u,(List.append_assoc _ _ _).symm⟩
def TextE (n : Nat) (w : World) (e : Ending) (w' : World) : Prop:=∃ t : Str,e = .returned (strV t) ∧ Ext w w' ∧ LinesT t ∧ t.length ≤ n
set_option maxRecDepth 20000 in
set_option maxHeartbeats 2000000 in
theorem l6Many_c (s : Str) (n : Nat) (w : World) (hs : LinesT s) (hn : n ≤ 100) (hl : s.length ≤ 100) : Calls Tryz.prog 21 #[strV s,.int .i64 n] w (TextE (n * s.length) w):=by
 have hb : n * s.length ≤ 100 * 100:=Nat.mul_le_mul hn hl
 obtain ⟨N,hN⟩ : ∃ N,n * s.length = N:=⟨_,rfl⟩
 rw [hN] at hb ⊢
 have HS:=Lib.hid hs
 go_enter Tryz.func21,Tryz.ntmps21
 go_wp2_with fail
 go_loopw [0,1,5] (fun x y r wr=>∃ (Y Q : Str) (k : Nat),x = strV Y ∧ y = .int .i64 (k : Int) ∧ r = strV Q ∧ k ≤ 100 ∧ Q.length + k * Y.length = N ∧ Y.length ≤ 20000 ∧ (0 < k → Y.length ≤ 10000) ∧ Hid (LinesT Y) ∧ Hid (LinesT Q) ∧ Ext w wr) (fun _ y _ _=>(intOf y).toNat)
 case atStart=>exact ⟨s,[],n,rfl,rfl,rfl,hn,by simp;exact hN,by omega,fun _=>by omega,HS,Lib.hid (.inl rfl),ext_refl _⟩
 case round =>
  obtain ⟨Y,Q,k,rfl,rfl,rfl,hk,hsum,hY2,hY,HY,HQ,hX⟩:=hrel
  by_cases hk0 : 0 < k
  ·have hYl:=hY hk0
   have hQl : Q.length ≤ 10000:=by omega
   have hkY : Y.length ≤ k * Y.length:=Nat.le_mul_of_pos_left _ hk0
   have ha1:=str_add (P:=Tryz.prog) Q Y (by omega)
   have ha2:=str_add (P:=Tryz.prog) Y Y (by omega)
   have HYY:=Lib.hid (HY.out.app HY.out)
   have HQY:=Lib.hid (HQ.out.app HY.out)
   have hmod:=Nat.mod_add_div k 2
   obtain ⟨k2,hk2⟩ : ∃ k2,k / 2 = k2:=⟨_,rfl⟩
   have hq : (k : Int).tdiv 2 = (k2 : Int):=by rw [← hk2];rw [Int.tdiv_eq_ediv_of_nonneg (by omega)];omega
   rw [hk2] at hmod
   have hYY : (Y ++ Y).length = Y.length + Y.length:=List.length_append
   have hQY : (Q ++ Y).length = Q.length + Y.length:=List.length_append
   have hk2l : k2 ≤ 100:=by omega
   have hwq : IntKind.i64.wrap (k2 : Int) = (k2 : Int):=IntWalk.i64_in _ (by omega)
   have e2 : k2 * (Y ++ Y).length = 2 * (k2 * Y.length):=by rw [hYY,Nat.mul_add];omega
   have e3 : k * Y.length = (k % 2) * Y.length + 2 * (k2 * Y.length):=by
    have : k * Y.length = (k % 2 + 2 * k2) * Y.length:=by rw [hmod]
    rw [this,Nat.add_mul,Nat.mul_assoc]
   have e4 : 0 < k2 → Y.length ≤ k2 * Y.length:=fun h=>Nat.le_mul_of_pos_left _ h
   rcases Nat.mod_two_eq_zero_or_one k with h2 | h2
   ·have hr2 : (k : Int).tmod 2 = 0:=by rw [Int.tmod_eq_emod_of_nonneg (by omega)];omega
    rw [h2,Nat.zero_mul] at e3
    have hs2 : Q.length + k2 * (Y ++ Y).length = N:=by omega
    have hy2 : 0 < k2 → (Y ++ Y).length ≤ 10000:=fun h=>by have:=e4 h;omega
    have hml : (intOf (.int .i64 (k2 : Int))).toNat < (intOf (.int .i64 (k : Int))).toNat:=by simp [intOf];omega
    clear e2 e3 e4 h2 hmod hkY
    go_wp2_with fail
    go_roundw
    case rel=>exact ⟨Y ++ Y,Q,k2,rfl,rfl,rfl,hk2l,hs2,by omega,hy2,HYY,HQ,hX⟩
    case measure=>exact hml
   ·have hr2 : (k : Int).tmod 2 = 1:=by rw [Int.tmod_eq_emod_of_nonneg (by omega)];omega
    rw [h2,Nat.one_mul] at e3
    have hs2 : (Q ++ Y).length + k2 * (Y ++ Y).length = N:=by omega
    have hy2 : 0 < k2 → (Y ++ Y).length ≤ 10000:=fun h=>by have:=e4 h;omega
    have hml : (intOf (.int .i64 (k2 : Int))).toNat < (intOf (.int .i64 (k : Int))).toNat:=by simp [intOf];omega
    clear e2 e3 e4 h2 hmod hkY
    go_wp2_with fail
    go_roundw
    case rel=>exact ⟨Y ++ Y,Q ++ Y,k2,rfl,rfl,rfl,hk2l,hs2,by omega,hy2,HYY,HQY,hX⟩
    case measure=>exact hml
  ·obtain rfl : k = 0:=by omega
   go_wp2_with fail
   exact bodyPost_ret (v:=strV Q) (by simp [results,Tryz.results21,go_sem]) rfl ⟨Q,rfl,hX,HQ.out,by omega⟩
set_option maxRecDepth 20000 in
set_option maxHeartbeats 4000000 in
theorem drawLinesRun_c (v : Value) (xs : List Nat) (w : World) (h : Bytes (Old w) w v xs) (hs : ∀ x ∈ xs,x < 256) (hn : xs.length ≤ 1048576) (hcap : ∀ a n c,v = .slice a n c → n ≤ c) :
  Calls Tryz.prog 15 #[v] w (TextE 2000 w):=by
 have hmany:=fun (w' : World)=>l6Many_c [102,105,108,108,32,49,10] 90 w' (.inr ⟨[102,105,108,108,32,49],rfl⟩) (by omega) (by decide)
 go_enter Tryz.func15,Tryz.ntmps15
 go_wp2_with fail
 refine (l6Open_c v xs _ h hs hn hcap).mono ?_;rintro e1 w1 ⟨R,bv,ys,rfl,hRw,X1,hr⟩
 have HK : Rk w1 R (122 + 1):=⟨bv,ys,0,hr,by omega⟩
 clear hr
 go_wp2_with fail
 refine (pick_k R 30 _ HK).mono ?_;rintro e2 w2 ⟨r,rfl,q0,q1,hC2,HK2⟩
 have hq:=q1 (by omega)
 obtain ⟨n,rfl⟩ : ∃ n : Nat,r = (n : Int):=⟨r.toNat,by omega⟩
 have hn30 : n < 30:=by omega
 have X2 : Ext w w2:=hC2.ext X1 (by simp;omega)
 clear HK hC2 hq q0 q1
 go_wp2_with fail
 go_loopw [4,5] (fun x y wr=>∃ (t : Str) (k : Nat),x = strV t ∧ y = .int .i64 (k : Int) ∧ k ≤ n ∧ t.length + 21 * k ≤ 21 * n ∧ Hid (LinesT t) ∧ Ext w wr ∧ Rk wr R (4 * k + 1)) (fun _ y _=>(intOf y).toNat)
 case atStart=>exact ⟨[],n,rfl,rfl,Nat.le_refl _,by simp,Lib.hid (.inl rfl),X2,HK2.less (by omega)⟩
 case round =>
  clear X2 HK2
  obtain ⟨t,k,rfl,rfl,hk,htl,HT,hX,HK⟩:=hrel
  by_cases hk0 : 0 < k
  ·go_wp2_with fail
   refine (l71Line_c R (4 * (k - 1) + 1) _ (HK.less (by omega))).mono ?_;rintro e3 w3 ⟨l,rfl,hC3,HK3,hl⟩
   have X3 : Ext w w3:=hC3.ext hX (by simp;omega)
   have ha1:=str_add (P:=Tryz.prog) t l (by omega)
   have ha2:=str_addz (P:=Tryz.prog) (x:=t ++ l) (y:=[10]) (t ++ (l ++ [10])) (by simp) (by simp;omega)
   have HT3 : Hid (LinesT (t ++ (l ++ [10]))):=Lib.hid (.inr ⟨t ++ l,by simp⟩)
   have hl3 : (t ++ (l ++ [10])).length + 21 * (k - 1) ≤ 21 * n:=by simp;omega
   have hkk : ((k : Int) - 1) = ((k - 1 : Nat) : Int):=by omega
   clear HK hC3 hX HT
   go_wp2_with fail
   go_roundw
   case rel=>exact ⟨_,k - 1,rfl,by first | rfl | rw [hkk],by omega,hl3,HT3,X3,HK3⟩
   case measure=>simp [intOf];omega
  ·obtain rfl : k = 0:=by omega
   go_wp2_with fail
   refine (pick_k R 40 _ (K:=0) HK).mono ?_;rintro e3 w3 ⟨r,rfl,q0,q1,hC3,HK3⟩
   have X3 : Ext w w3:=hC3.ext hX (by simp;omega)
   clear hX hC3 HK
   by_cases hr0 : r = 0
   ·subst hr0
    go_wp2_with fail
    refine (hmany _).mono ?_;rintro e4 w4 ⟨u,rfl,hx4,hu,hul⟩
    have hul2 : u.length ≤ 630:=hul
    have ha1:=str_add (P:=Tryz.prog) t u (by omega)
    have X4:=ext_trans X3 hx4
    have hfin : LinesT (t ++ u) ∧ (t ++ u).length ≤ 2000:=⟨HT.out.app hu,by simp;omega⟩
    clear hu hx4 hul
    go_wp2_with fail
    exact bodyPost_ret (v:=strV (t ++ u)) (by simp [results,Tryz.results15,go_sem]) rfl ⟨_,rfl,X4,hfin.1,hfin.2⟩
   ·go_wp2_with fail
    exact bodyPost_ret (v:=strV t) (by simp [results,Tryz.results15,go_sem]) rfl ⟨_,rfl,X3,HT.out,by omega⟩
end Go.Bu
namespace Go.Bu
open Go Go.RowKit Go.Plan Go.Proofs
structure VarsAt (W : World) : Prop where
 err : ∃ a : Addr,W.cell? ⟨0,0,none⟩ = some (.iface 216 (.pointer (some a)))
 max : ∃ m : Int,W.cell? ⟨1,0,none⟩ = some (.int .i64 m)
theorem VarsAt.ext {w w' : World} (h : VarsAt w) (hx : Ext w w') : VarsAt w':=by
 obtain ⟨⟨a,h1⟩,m,h2⟩:=h;exact ⟨⟨a,cell_ext hx h1⟩,m,cell_ext hx h2⟩
theorem implRun_c (t : Str) (w : World) (h : VarsAt w) (hl : t.length ≤ 2000000) : Calls Tryz.prog 16 #[strV t] w (Ret w (strV (linesRun t))):=by
 obtain ⟨⟨a,h1⟩,m,h2⟩:=h;exact implLinesRun_c t a m w h1 h2 hl
def TrueE (w : World) (e : Ending) (w' : World) : Prop:=e = .returned (.bool true) ∧ Ext w w'
set_option maxRecDepth 20000 in
set_option maxHeartbeats 1000000 in
theorem lawExactLinesRun (l : Str) (w : World) (h : VarsAt w) : Calls Tryz.prog 6 #[strV l] w (TrueE w):=by
 by_cases hl : (1048576 : Int) < (l.length : Int)
 ·go_enter Tryz.func6,Tryz.ntmps6
  go_wp2_with fail
  go_ret
  exact ⟨rfl,ext_refl _⟩
 ·go_enter Tryz.func6,Tryz.ntmps6
  go_wp2_with fail
  refine (specLinesRun_c l (by omega) _).mono ?_;rintro e1 w1 ⟨rfl,hx1⟩
  go_wp2_with fail
  refine (implRun_c l _ (h.ext hx1) (by omega)).mono ?_;rintro e2 w2 ⟨rfl,hx2⟩
  go_wp2_with fail
  go_ret
  exact ⟨rfl,ext_trans hx1 hx2⟩
end Go.Bu