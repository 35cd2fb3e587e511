/- Steps done in place, as the reference does them: l2Seq, l2Wipe, l2Write, l12Do. Steps done one behind the other, and what happens to a store, as the reference does it in place: l12To, l21All, l21Do. A flash that is well formed, in plain words; what writing and wiping leave of it. Writing, wiping, and whatever an event does, leaves a flash well formed. A region that draws its order, in the body of a loop over an iterator: the rule of Plan, carried over. The program's iterator over the pages of a flash: what it hands to a loop's body. The program's side of a flash: freePages, partlyUsed, blockShape. Maps of the program's own, by ints: what lies at each key. The program's FlashOk. The program's spansOf: of each block the least and the greatest number of its records. The program's FindOrder and the reference's say the same, plainly. The program's FindOrder. -/import Derived.Test.YtoekfnjeceijaaaGreatDoorZ3
import Derived.Test.YtoekfnjeceijaaaGreatDoorZ1
import Derived.RangeFuncNested
import Derived.RangeFuncBound
import Derived.RangeFuncCalls
import Derived.RangeFuncLeaves
import Derived.OrdersIn
import Derived.Test.YtoekfnjeceijaaaGreatDoorZ2
import Derived.Shelf.Abstract
import Derived.Shelf.RegionOpen
import Derived.WalkKit
import Derived.OwnWalkIn
import Derived.TacticsInMore
import Derived.LoopNIn
import Derived.LoopIn
import Derived.Maps.OwnOps
import Derived.Maps.Views
import Derived.Carry
set_option maxHeartbeats 2000000
set_option linter.unusedVariables false
set_option linter.unusedSimpArgs false
namespace Go.Bu
open Go Go.RowKit Go.Plan Go.Proofs
theorem any_drop {α : Type} (q : α → Bool) (xs : List α) (k : Nat) (h : k < xs.length) : (xs.drop k).any q = (q xs[k] || (xs.drop (k + 1)).any q):=by
 rw [List.drop_eq_getElem_cons h,List.any_cons]
def isSeq (n : Int) (p : Page) : Bool:=p.state == 1 && p.r.seq == n
def seqUsed (f : List Block) (n : Int) : Bool:=f.any fun b=>b.pages.any (isSeq n)
set_option maxHeartbeats 1000000 in
theorem l2Seq_c (v : Value) (f : List Block) (n : Int) (w : World) (h : Flash (Old w) w v f) (hn : f.length ≤ 1048576) (hp : ∀ b ∈ f,b.pages.length ≤ 1048576) :
  Calls Tryz.prog 128 #[v,.int .i64 n] w (Ret w (.bool (seqUsed f n))):=by
 obtain ⟨a,cap,rfl⟩:=h.form
 obtain ⟨A,hA⟩ : ∃ A,seqUsed f n = A:=⟨_,rfl⟩
 rw [hA]
 unfold seqUsed at hA
 have HP:=Lib.hid hp;clear hp
 have HA:=Lib.hid hA;clear hA
 go_enter Tryz.func128,Tryz.ntmps128
 go_wp2
 go_loop [5] (fun y=>∃ (i : Nat),i ≤ f.length ∧ y = .int .i64 i ∧ Hid ((f.drop i).any (fun b=>b.pages.any (isSeq n)) = A)) (fun y=>f.length - (intOf y).toNat)
 case atStart=>exact ⟨0,by omega,rfl,HA⟩
 case round =>
  obtain ⟨i,hi,rfl,HR⟩:=hrel
  by_cases hlt : i < f.length
  ·obtain ⟨b,o,pv,rfl,hb,hpp,h0,h1⟩:=h.at2 hlt
   obtain ⟨pa,pcap,rfl⟩:=hpp.form
   have hpl:=HP.out f[i] (List.getElem_mem _)
   rw [any_drop _ _ _ hlt] at HR
   go_wp2
   go_loop [6] (fun y=>∃ (k : Nat),k ≤ f[i].pages.length ∧ y = .int .i64 k ∧ Hid (((f[i].pages.drop k).any (isSeq n) || (f.drop (i + 1)).any (fun b=>b.pages.any (isSeq n))) = A)) (fun y=>f[i].pages.length - (intOf y).toNat)
   case atStart=>exact ⟨0,by omega,rfl,HR⟩
   case round =>
    clear HR
    obtain ⟨k,hk,rfl,HR⟩:=hrel
    by_cases hlk : k < f[i].pages.length
    ·obtain ⟨b2,o2,rfl,hb2,e0,e1,e2,e3,e4⟩:=hpp.at5 hlk
     rw [any_drop _ _ _ hlk] at HR
     have hq : isSeq n f[i].pages[k] = (f[i].pages[k].state == 1 && f[i].pages[k].r.seq == n):=rfl
     have HQ:=Lib.hid hq;clear hq
     go_wp2
     all_goals try
      go_ret
      have hr:=HR.out
      try simp only [beq_iff_eq,Bool.not_eq_true,beq_eq_false_iff_ne,ne_eq,bne_iff_ne,bne_eq_false_iff_eq,decide_eq_true_eq,decide_eq_false_iff_not] at *
      rw [HQ.out,show (f[i].pages[k].state == 1 && f[i].pages[k].r.seq == n) = true from by simp [*]] at hr
      exact ⟨by rw [← hr];simp,ext_refl _⟩
     all_goals
      have hr:=HR.out
      try simp only [beq_iff_eq,Bool.not_eq_true,beq_eq_false_iff_ne,ne_eq,bne_iff_ne,bne_eq_false_iff_eq,decide_eq_true_eq,decide_eq_false_iff_not] at *
      rw [HQ.out,show (f[i].pages[k].state == 1 && f[i].pages[k].r.seq == n) = false from by simp [*],Bool.false_or] at hr
      exact ⟨⟨k + 1,by omega,by go_num,Lib.hid hr⟩,by simp [intOf];omega⟩
    ·obtain rfl : k = f[i].pages.length:=by omega
     rw [List.drop_length,List.any_nil,Bool.false_or] at HR
     go_wp2
     exact ⟨⟨i + 1,by omega,by go_num,HR⟩,by simp [intOf];omega⟩
  ·obtain rfl : i = f.length:=by omega
   rw [List.drop_length,List.any_nil] at HR
   have hr:=HR.out
   subst hr
   go_wp2
   go_ret
   exact ⟨rfl,ext_refl _⟩
def blank (st : Int) : Page:=⟨st,rec0⟩
def tornSt (torn : Bool) : Int:=if torn then 2 else 0
def wipeF (f : List Block) (i : Nat) (torn : Bool) : List Block:=
 if 200 ≤ (blockAt f i).worn then f else f.set i ⟨List.replicate 4 (blank (tornSt torn)),(blockAt f i).worn + 1⟩
def wipeOk (f : List Block) (i : Nat) : Bool:=!decide (200 ≤ (blockAt f i).worn)
theorem blockAt_get {f : List Block} {i : Nat} (h : i < f.length) : blockAt f i = f[i]:=by unfold blockAt;rw [List.getElem?_eq_getElem h];rfl
def RetF (c : SC) (w : World) (v : Value) (f : List Block) (e : Ending) (w' : World) : Prop:=e = .returned v ∧ Chg c.fl w w' ∧ FlashAt c w' f
theorem Chg.alloc' {L : List Nat} {a b : World} (h : Chg L a b) (o : Obj) : Chg L a (b.alloc o):=h.alloc o
theorem FlashAt.ext {c : SC} {w w' : World} {f : List Block} (h : FlashAt c w f) (hx : Ext w w') : FlashAt c w' f:=h.keep fun b hb=>hx.block b (h.lt b hb)
theorem rep_set (x : Page) (ps : List Page) (k : Nat) (h : ps.length = 4) (hk : k < 4) : (List.replicate k x ++ ps.drop k).set k x = List.replicate (k + 1) x ++ ps.drop (k + 1):=by
 rw [List.set_append,if_neg (by simp),List.length_replicate,Nat.sub_self,List.drop_eq_getElem_cons (by omega),List.set_cons_zero,List.replicate_succ',List.append_assoc];rfl
set_option maxRecDepth 20000 in
set_option maxHeartbeats 2000000 in
theorem l2Wipe_c (c : SC) (f : List Block) (i : Nat) (torn : Bool) (w : World) (h : FlashAt c w f) (hnd : c.fl.Nodup) (hi : i < f.length) (h4 : f[i].pages.length = 4) (hw : 0 ≤ f[i].worn ∧ f[i].worn ≤ 1000) (hn : f.length ≤ 1048576) :
  Calls Tryz.prog 107 #[c.F.v f.length,.int .i64 i,.bool torn] w (RetF c w (.tuple #[c.F.v f.length,.bool (wipeOk f i)]) (wipeF f i torn)):=by
 obtain ⟨hw0,hw1⟩:=hw
 have hip : i < c.ps.length:=by rw [h.len];exact hi
 obtain ⟨p,hp⟩ : ∃ p,c.ps[i]? = some p:=⟨_,List.getElem?_eq_getElem hip⟩
 obtain ⟨t0,t1⟩:=h.two hi hp
 have hfz:=h.row.frozen
 have hq : wipeF f i torn = if 200 ≤ f[i].worn then f else f.set i ⟨List.replicate 4 (blank (tornSt torn)),f[i].worn + 1⟩:=by unfold wipeF;rw [blockAt_get hi]
 have hq2 : wipeOk f i = !decide (200 ≤ f[i].worn):=by unfold wipeOk;rw [blockAt_get hi]
 have HQ:=Lib.hid hq;have HQ2:=Lib.hid hq2;have HP:=Lib.hid hp;have H4:=Lib.hid h4
 clear hq hq2 hp h4
 by_cases hw2 : 200 ≤ f[i].worn
 ·go_enter Tryz.func107,Tryz.ntmps107
  go_wp2_with fail
  go_ret2
  rw [HQ2.out,HQ.out,if_pos hw2]
  exact ⟨by simp [hw2],Chg.refl _ _,h⟩
 ·have hF1:=h.worn hnd hi HP.out (f[i].worn + 1)
  have HF1:=Lib.hid hF1;clear hF1
  have hC1 : Chg c.fl w (w.setCell ⟨c.F.b,c.F.o + i * 2 + 1,none⟩ (.int .i64 (f[i].worn + 1))):=(Chg.refl _ _).set (.inl (by simp [SC.fl])) _
  have hgi : ∀ x : Block,(f.set i x)[i]? = some x:=fun x=>List.getElem?_set_self hi
  have HGI:=Lib.hid hgi;clear hgi
  have hpl : p.b ∈ c.fl:=List.mem_cons_of_mem _ (List.mem_map.2 ⟨p,List.mem_of_getElem? HP.out,rfl⟩)
  cases torn
  all_goals
   go_enter Tryz.func107,Tryz.ntmps107
   go_wp2_with fail
  ·go_loopw [9] (fun y wr=>∃ (k : Nat),k ≤ 4 ∧ y = .int .i64 k ∧ Chg c.fl w wr ∧ FlashAt c wr (f.set i ⟨List.replicate k (blank (tornSt false)) ++ f[i].pages.drop k,f[i].worn + 1⟩)) (fun y _=>4 - (intOf y).toNat)
   case atStart=>exact ⟨0,by omega,rfl,hC1,by simpa using HF1.out⟩
   case round =>
    clear hC1 t0 t1 hfz
    obtain ⟨k,hk,rfl,hC,hF⟩:=hrel
    have hln : (List.replicate k (blank (tornSt false)) ++ f[i].pages.drop k).length = 4:=by have:=H4.out;simp;omega
    obtain ⟨t0,t1⟩:=hF.two' (HGI.out _) HP.out
    simp only [hln] at t0
    have HLN:=Lib.hid hln;clear hln
    by_cases hlt : k < 4
    ·have hth:=hF.there (HGI.out _) HP.out (k:=k) (Nat.lt_of_lt_of_eq hlt HLN.out.symm)
     have hF2:=hF.page' hnd (HGI.out _) HP.out (k:=k) (Nat.lt_of_lt_of_eq hlt HLN.out.symm) (blank (tornSt false))
     rw [rep_set _ _ _ H4.out hlt,List.set_set] at hF2
     have hC2:=setAll_chg (o:=p.o + k * 5) hC hpl (pageC (blank (tornSt false)))
     have HF2:=Lib.hid hF2;have HC2:=Lib.hid hC2;clear hF2 hC2 hF hC
     go_wp2_with (refine wpList_store_mid rfl 102 _ _ rfl p.b (p.o + k * 5) (pageC (blank (tornSt false))).toArray rfl rfl hth (by kernel_rfl) (by simp [Value.oneCell',blank]) ?_;change wpList _ _ _ _ _ (setAll wr p.b (p.o + k * 5) (pageC (blank (tornSt false))));generalize setAll wr p.b (p.o + k * 5) (pageC (blank (tornSt false))) = w2 at *)
     exact ⟨⟨k + 1,by omega,by go_num,HC2.out,HF2.out⟩,by simp [intOf];omega⟩
    ·obtain rfl : k = 4:=by omega
     have hF2:=hF
     rw [List.drop_eq_nil_of_le (by have:=H4.out;omega),List.append_nil] at hF2
     have HF2:=Lib.hid hF2;clear hF2 hF
     go_wp2_with fail
     go_ret2
     rw [HQ2.out,HQ.out,if_neg (by omega)]
     exact ⟨by simp;omega,hC,HF2.out⟩
  ·go_loopw [9] (fun y wr=>∃ (k : Nat),k ≤ 4 ∧ y = .int .i64 k ∧ Chg c.fl w wr ∧ FlashAt c wr (f.set i ⟨List.replicate k (blank (tornSt true)) ++ f[i].pages.drop k,f[i].worn + 1⟩)) (fun y _=>4 - (intOf y).toNat)
   case atStart=>exact ⟨0,by omega,rfl,hC1,by simpa using HF1.out⟩
   case round =>
    clear hC1 t0 t1 hfz
    obtain ⟨k,hk,rfl,hC,hF⟩:=hrel
    have hln : (List.replicate k (blank (tornSt true)) ++ f[i].pages.drop k).length = 4:=by have:=H4.out;simp;omega
    obtain ⟨t0,t1⟩:=hF.two' (HGI.out _) HP.out
    simp only [hln] at t0
    have HLN:=Lib.hid hln;clear hln
    by_cases hlt : k < 4
    ·have hth:=hF.there (HGI.out _) HP.out (k:=k) (Nat.lt_of_lt_of_eq hlt HLN.out.symm)
     have hF2:=hF.page' hnd (HGI.out _) HP.out (k:=k) (Nat.lt_of_lt_of_eq hlt HLN.out.symm) (blank (tornSt true))
     rw [rep_set _ _ _ H4.out hlt,List.set_set] at hF2
     have hC2:=setAll_chg (o:=p.o + k * 5) hC hpl (pageC (blank (tornSt true)))
     have HF2:=Lib.hid hF2;have HC2:=Lib.hid hC2;clear hF2 hC2 hF hC
     go_wp2_with (refine wpList_store_mid rfl 102 _ _ rfl p.b (p.o + k * 5) (pageC (blank (tornSt true))).toArray rfl rfl hth (by kernel_rfl) (by simp [Value.oneCell',blank]) ?_;change wpList _ _ _ _ _ (setAll wr p.b (p.o + k * 5) (pageC (blank (tornSt true))));generalize setAll wr p.b (p.o + k * 5) (pageC (blank (tornSt true))) = w2 at *)
     exact ⟨⟨k + 1,by omega,by go_num,HC2.out,HF2.out⟩,by simp [intOf];omega⟩
    ·obtain rfl : k = 4:=by omega
     have hF2:=hF
     rw [List.drop_eq_nil_of_le (by have:=H4.out;omega),List.append_nil] at hF2
     have HF2:=Lib.hid hF2;clear hF2 hF
     go_wp2_with fail
     go_ret2
     rw [HQ2.out,HQ.out,if_neg (by omega)]
     exact ⟨by simp;omega,hC,HF2.out⟩
theorem cleanN_bd : ∀ (ps : List Page) (n : Int),n ≤ ps.foldl cleanStep n ∧ ps.foldl cleanStep n ≤ n + ps.length
 | [],n=>by simp
 | p :: ps,n=>by
  have:=cleanN_bd ps (cleanStep n p)
  simp only [List.foldl_cons,List.length_cons]
  have h1 : n ≤ cleanStep n p ∧ cleanStep n p ≤ n + 1:=by unfold cleanStep;split <;> omega
  omega
def pageW (r : Rec) (torn : Bool) : Page:=if torn then ⟨2,rec0⟩ else ⟨1,r⟩
def writeOk (f : List Block) (i : Nat) (r : Rec) : Bool:=!(decide (cleanN (blockAt f i).pages = 0) || seqUsed f r.seq)
def writeF (f : List Block) (i : Nat) (r : Rec) (torn : Bool) : List Block:=
 if writeOk f i r then f.set i ⟨(blockAt f i).pages.set (4 - (cleanN (blockAt f i).pages).toNat) (pageW r torn),(blockAt f i).worn⟩ else f
set_option maxRecDepth 20000 in
set_option maxHeartbeats 2000000 in
theorem l2Write_c (c : SC) (f : List Block) (i : Nat) (r : Rec) (torn : Bool) (w : World) (h : FlashAt c w f) (hnd : c.fl.Nodup) (hi : i < f.length) (h4 : ∀ b ∈ f,b.pages.length = 4) (hn : f.length ≤ 1048576) :
  Calls Tryz.prog 108 #[c.F.v f.length,.int .i64 i,recA r,.bool torn] w (RetF c w (.tuple #[c.F.v f.length,.bool (writeOk f i r)]) (writeF f i r torn)):=by
 have hip : i < c.ps.length:=by rw [h.len];exact hi
 obtain ⟨p,hp⟩ : ∃ p,c.ps[i]? = some p:=⟨_,List.getElem?_eq_getElem hip⟩
 obtain ⟨t0,t1⟩:=h.two hi hp
 have hq : writeF f i r torn = if writeOk f i r then f.set i ⟨f[i].pages.set (4 - (cleanN f[i].pages).toNat) (pageW r torn),f[i].worn⟩ else f:=by unfold writeF;rw [blockAt_get hi]
 have hq2 : writeOk f i r = !(decide (cleanN f[i].pages = 0) || seqUsed f r.seq):=by unfold writeOk;rw [blockAt_get hi]
 have hcb:=cleanN_bd f[i].pages 0
 have h4i:=h4 f[i] (List.getElem_mem _)
 have HPB:=Lib.hid (fun (b : Block) (hb : b ∈ f)=>(show b.pages.length ≤ 1048576 from by have:=h4 b hb;omega))
 have hcl : ∀ w',Ext w w' → Calls Tryz.prog 94 #[.agg #[p.v f[i].pages.length,.int .i64 f[i].worn]] w' (Ret w' (.int .i64 (cleanN f[i].pages))):=fun w' hx =>
  l2Clean_c _ f[i].pages f[i].worn w' (((h.pages i f[i] p (List.getElem?_eq_getElem hi) hp).ext hx).of ((h.pages i f[i] p (List.getElem?_eq_getElem hi) hp).ext hx).lt _) (by omega)
 have hsq : ∀ w',Ext w w' → Calls Tryz.prog 128 #[c.F.v f.length,.int .i64 r.seq] w' (Ret w' (.bool (seqUsed f r.seq))):=fun w' hx =>
  l2Seq_c _ f r.seq w' (h.ext hx).flash hn HPB.out
 have hb0 : c.F.b < w.heap.size:=h.lt _ (by simp [SC.fl])
 obtain ⟨m,hm⟩ : ∃ m : Nat,cleanN f[i].pages = m:=⟨(cleanN f[i].pages).toNat,by unfold cleanN;omega⟩
 have hm4 : m ≤ 4:=by unfold cleanN at hm;omega
 rw [hm] at hq hq2 hcl
 generalize hsu : seqUsed f r.seq = su at *
 have HQ:=Lib.hid hq;have HQ2:=Lib.hid hq2;have HP:=Lib.hid hp;have H4:=Lib.hid h4i;have HC:=Lib.hid hcl;have HS:=Lib.hid hsq
 clear hq hq2 hp h4 h4i hcl hsq hcb hm hsu hip
 by_cases hm0 : m = 0
 ·subst hm0
  go_enter Tryz.func108,Tryz.ntmps108
  go_wp2_with fail
  refine (HC.out _ (ext_alloc (ext_refl _) _)).mono ?_;rintro e1 w1 ⟨rfl,hx1⟩
  obtain ⟨hc1,hf1,hz1,X1⟩:=after1 hx1
  go_wp2_with fail
  go_ret2
  have hf : writeOk f i r = false:=by rw [HQ2.out];simp
  rw [HQ.out,hf]
  exact ⟨rfl,Chg.of_ext X1,h.ext X1⟩
 ·have hmf : (((m : Nat) : Int) == 0) = false:=by simp;omega
  cases su with
  | true =>
   go_enter Tryz.func108,Tryz.ntmps108
   go_wp2_with fail
   refine (HC.out _ (ext_alloc (ext_refl _) _)).mono ?_;rintro e1 w1 ⟨rfl,hx1⟩
   obtain ⟨hc1,hf1,hz1,X1⟩:=after1 hx1
   go_wp2_with fail
   refine (HS.out _ X1).mono ?_;rintro e2 w2 ⟨rfl,hx2⟩
   go_wp2_with fail
   go_ret2
   have X2:=ext_trans X1 hx2
   have hf : writeOk f i r = false:=by rw [HQ2.out];simp
   rw [HQ.out,hf]
   exact ⟨rfl,Chg.of_ext X2,h.ext X2⟩
  | false =>
   have hf : writeOk f i r = true:=by rw [HQ2.out];simp;omega
   rw [HQ.out,hf,if_pos rfl,Int.toNat_natCast]
   have hkl : 4 - m < f[i].pages.length:=by have:=H4.out;omega
   have hk4 : ((4 : Int) - (m : Int)) = ((4 - m : Nat) : Int):=by omega
   generalize 4 - m = k at *
   have HK4:=Lib.hid hk4
   have hkw : IntKind.i64.wrap ((4 : Int) - (m : Int)) = (k : Int):=by rw [HK4.out];exact IntWalk.i64_in _ (by have:=H4.out;omega)
   have hk5 : (k : Int) < 4:=by have:=H4.out;omega
   have HKW:=Lib.hid hkw
   clear hf hk4 hkw
   have hpl : p.b ∈ c.fl:=List.mem_cons_of_mem _ (List.mem_map.2 ⟨p,List.mem_of_getElem? HP.out,rfl⟩)
   cases torn
   all_goals
    go_enter Tryz.func108,Tryz.ntmps108
    go_wp2_with fail
    refine (HC.out _ (ext_alloc (ext_refl _) _)).mono ?_;rintro e1 w1 ⟨rfl,hx1⟩
    obtain ⟨hc1,hf1,hz1,X1⟩:=after1 hx1
    have G0:=keep_ext hx1 (hg_new (b:=w.heap.size) rfl)
    go_wp2_with fail
    refine (HS.out _ X1).mono ?_;rintro e2 w2 ⟨rfl,hx2⟩
    have X2:=ext_trans X1 hx2
    replace G0:=keep_ext hx2 G0
    obtain ⟨g0,gf0⟩:=cellsK G0
    have l0:=heap_lt G0
    have h2:=h.ext X2
    obtain ⟨t2,t3⟩:=h2.two hi HP.out
    have hb2 : c.F.b < w2.heap.size:=Nat.lt_of_lt_of_le hb0 X2.size
    rw [H4.out] at t2
    have H2:=Lib.hid h2
    clear hc1 hf1 t0 t1 h2
    have hkw:=HKW.out
    go_wp2_with fail
   ·skip
    refine wp_region_ext [] [0,1,2,3,4,5,6,7,8] [] [9] (by kernel_rfl) (by kernel_rfl) ?late ?_
    case late=>exact fun f hf=>absurd hf List.not_mem_nil
    iterate 2
     refine Rob.y (v:=?_) rfl rfl (fun w1 hx hH=>?_) ?_;rotate_left
     ·go_simp;first | done | rfl | exact (Bool.not_not _).symm
     simp only [Act.put,slA,slB,slC]
    refine Rob.y (v:=?_) rfl rfl (fun w1 hx hH=>?_) ?_;rotate_left
    ·(obtain ⟨hcx,hfx⟩:=bcell hx);go_simp;first | done | rfl
    simp only [Act.put,slA,slB,slC]
    refine Rob.y (v:=?_) rfl rfl (fun w1 hx hH=>?_) ?_;rotate_left
    ·go_simp;first | done | rfl | exact (Bool.not_not _).symm
    simp only [Act.put,slA,slB,slC]
    refine Rob.y (v:=?_) rfl rfl (fun w1 hx hH=>?_) ?_;rotate_left
    ·(obtain ⟨hcx,hfx⟩:=bcell hx);go_simp;first | done | rfl
    simp only [Act.put,slA,slB,slC]
    iterate 2
     refine Rob.y (v:=?_) rfl rfl (fun w1 hx hH=>?_) ?_;rotate_left
     ·go_simp;first | done | rfl | exact (Bool.not_not _).symm
     simp only [Act.put,slA,slB,slC]
    iterate 2
     refine Rob.y (v:=?_) rfl rfl (fun w1 hx hH=>?_) ?_;rotate_left
     ·(obtain ⟨hcx,hfx⟩:=bcell hx);go_simp;first | done | rfl
     simp only [Act.put,slA,slB,slC]
    refine fin_tail (fun w3 hx3 _=>?_)
    simp only [dstOf,List.getElem?_cons_succ,List.getElem?_cons_zero,Option.bind_some,Act.put,slA,slB,slC,List.filterMap_cons,List.filterMap_nil]
    have X3 : Ext w w3:=ext_trans (ext_trans X2 (by go_grown)) hx3
    have h3:=h.ext X3
    have hth:=h3.there (List.getElem?_eq_getElem hi) HP.out hkl
    have hF:=h3.page' hnd (List.getElem?_eq_getElem hi) HP.out hkl (pageW r false)
    have hC:=setAll_chg (o:=p.o + k * 5) (Chg.of_ext X3) hpl (pageC (pageW r false))
    have HF:=Lib.hid hF;have HC3:=Lib.hid hC;clear hF hC h3
    refine wpList_store_mid rfl 102 _ _ rfl p.b (p.o + k * 5) (pageC (pageW r false)).toArray rfl rfl hth (by kernel_rfl) (by simp [Value.oneCell',pageW]) ?_
    ·refine wpList_nil ?_
     change Exit.then _ _ _ _ (setAll w3 p.b (p.o + k * 5) (pageC (pageW r false)))
     generalize setAll w3 p.b (p.o + k * 5) (pageC (pageW r false)) = w4 at *
     go_wp2_with fail
     go_ret2
     exact ⟨rfl,HC3.out,HF.out⟩
   ·skip
    refine wp_region_ext [] [0,1,2,3,4,5,6,7,8] [] [9] (by kernel_rfl) (by kernel_rfl) ?late ?_
    case late=>exact fun f hf=>absurd hf List.not_mem_nil
    iterate 2
     refine Rob.y (v:=?_) rfl rfl (fun w1 hx hH=>?_) ?_;rotate_left
     ·go_simp;first | done | rfl | exact (Bool.not_not _).symm
     simp only [Act.put,slA,slB,slC]
    refine Rob.y (v:=?_) rfl rfl (fun w1 hx hH=>?_) ?_;rotate_left
    ·(obtain ⟨hcx,hfx⟩:=bcell hx);go_simp;first | done | rfl
    simp only [Act.put,slA,slB,slC]
    refine Rob.y (v:=?_) rfl rfl (fun w1 hx hH=>?_) ?_;rotate_left
    ·go_simp;first | done | rfl | exact (Bool.not_not _).symm
    simp only [Act.put,slA,slB,slC]
    refine Rob.y (v:=?_) rfl rfl (fun w1 hx hH=>?_) ?_;rotate_left
    ·(obtain ⟨hcx,hfx⟩:=bcell hx);go_simp;first | done | rfl
    simp only [Act.put,slA,slB,slC]
    iterate 2
     refine Rob.y (v:=?_) rfl rfl (fun w1 hx hH=>?_) ?_;rotate_left
     ·go_simp;first | done | rfl | exact (Bool.not_not _).symm
     simp only [Act.put,slA,slB,slC]
    iterate 2
     refine Rob.y (v:=?_) rfl rfl (fun w1 hx hH=>?_) ?_;rotate_left
     ·(obtain ⟨hcx,hfx⟩:=bcell hx);go_simp;first | done | rfl
     simp only [Act.put,slA,slB,slC]
    refine fin_tail (fun w3 hx3 _=>?_)
    simp only [dstOf,List.getElem?_cons_succ,List.getElem?_cons_zero,Option.bind_some,Act.put,slA,slB,slC,List.filterMap_cons,List.filterMap_nil]
    have X3 : Ext w w3:=ext_trans (ext_trans X2 (by go_grown)) hx3
    have h3:=h.ext X3
    have hth:=h3.there (List.getElem?_eq_getElem hi) HP.out hkl
    have hF:=h3.page' hnd (List.getElem?_eq_getElem hi) HP.out hkl (pageW r true)
    have hC:=setAll_chg (o:=p.o + k * 5) (Chg.of_ext X3) hpl (pageC (pageW r true))
    have HF:=Lib.hid hF;have HC3:=Lib.hid hC;clear hF hC h3
    refine wpList_store_mid rfl 102 _ _ rfl p.b (p.o + k * 5) (pageC (pageW r true)).toArray rfl rfl hth (by kernel_rfl) (by simp [Value.oneCell',pageW]) ?_
    ·refine wpList_nil ?_
     change Exit.then _ _ _ _ (setAll w3 p.b (p.o + k * 5) (pageC (pageW r true)))
     generalize setAll w3 p.b (p.o + k * 5) (pageC (pageW r true)) = w4 at *
     go_wp2_with fail
     go_ret2
     exact ⟨rfl,HC3.out,HF.out⟩
structure Shape (s : Store) : Prop where
 flash : s.flash.length = 4
 pages : ∀ b ∈ s.flash,b.pages.length = 4
 worn : ∀ b ∈ s.flash,0 ≤ b.worn ∧ b.worn ≤ 1000
 disk : s.disk.length = 6
structure Fit (x : Step) : Prop where
 addr : x.kind = 1 → 1 ≤ x.addr ∧ x.addr ≤ 6
 block : x.kind ≠ 1 → 0 ≤ x.block ∧ x.block ≤ 3
def doStep (s : Store) (x : Step) (torn : Bool) : Store:=
 if x.kind = 1 then (if torn then s else ⟨s.flash,s.disk.set (x.addr - 1).toNat x.val⟩) else if x.kind = 2 then ⟨wipeF s.flash x.block.toNat torn,s.disk⟩ else if x.kind = 3 then ⟨writeF s.flash x.block.toNat x.r torn,s.disk⟩ else s
theorem wipeF_len (f : List Block) (i : Nat) (t : Bool) : (wipeF f i t).length = f.length:=by unfold wipeF;split <;> simp
theorem writeF_len (f : List Block) (i : Nat) (r : Rec) (t : Bool) : (writeF f i r t).length = f.length:=by unfold writeF;split <;> simp
theorem doStep_len (s : Store) (x : Step) (t : Bool) : (doStep s x t).flash.length = s.flash.length ∧ (doStep s x t).disk.length = s.disk.length:=by
 unfold doStep;(repeat' split) <;> simp [wipeF_len,writeF_len]
def RetO (c : SC) (w : World) (s : Store) (e : Ending) (w' : World) : Prop:=e = .returned (.agg #[c.fv s,c.dv s]) ∧ Chg c.L w w' ∧ OwnS c w' s
theorem fl_L {c : SC} : ∀ b ∈ c.fl,b ∈ c.L:=fun b hb=>List.mem_append_left _ hb
set_option maxRecDepth 20000 in
set_option maxHeartbeats 2000000 in
theorem l12Do_c (c : SC) (s : Store) (x : Step) (torn : Bool) (w : World) (h : OwnS c w s) (hs : Shape s) (hf : Fit x) :
  Calls Tryz.prog 88 #[.agg #[c.fv s,c.dv s],stepA x,.bool torn] w (RetO c w (doStep s x torn)):=by
 have hlt:=h.lt
 have HLT:=Lib.hid hlt;clear hlt
 obtain ⟨hl1,hl2⟩:=doStep_len s x torn
 have HL1:=Lib.hid hl1;have HL2:=Lib.hid hl2;clear hl1 hl2
 have hD : c.D.b < w.heap.size:=HLT.out _ (by simp [SC.L])
 have hfl:=SC.fl_nd h.nd
 obtain ⟨k,addr,val,block,r⟩:=x
 have HS:=Lib.hid hs;have HF:=Lib.hid hf;clear hs hf
 by_cases h1 : k = 1
 ·subst h1
  obtain ⟨n,rfl,hn6⟩ : ∃ n : Nat,addr = (n : Int) + 1 ∧ n < 6:=⟨(addr - 1).toNat,by have:=HF.out.addr rfl;dsimp only at this;omega,by have:=HF.out.addr rfl;dsimp only at this;omega⟩
  cases torn with
  | true =>
   have hq : doStep s ⟨1,(n : Int) + 1,val,block,r⟩ true = s:=rfl
   rw [hq]
   go_enter Tryz.func88,Tryz.ntmps88
   go_wp2_with fail
   refine bodyPost_ret (v:=.agg #[c.fv s,c.dv s]) (by simp [results,Tryz.results88,go_sem]) rfl ⟨rfl,?_,?_⟩
   ·exact Chg.of_ext (by go_grown)
   ·exact h.ext (by go_grown)
  | false =>
   have hq : doStep s ⟨1,(n : Int) + 1,val,block,r⟩ false = ⟨s.flash,s.disk.set n val⟩:=by simp [doStep]
   rw [hq] at HL2 ⊢
   have hnd : n < s.disk.length:=by rw [HS.out.disk];exact hn6
   have hcell:=h.disk.one hnd
   have hfz:=h.disk.frozen
   have hS1 : OwnS c (w.setCell ⟨c.D.b,c.D.o + n,none⟩ (.int .i64 val)) ⟨s.flash,s.disk.set n val⟩:=by
    refine ⟨h.flash.keep fun b hb=>Below.heap_setCell _ _ _ _ (SC.D_ne h.nd b hb),?_,h.nd⟩
    have:=OwnAt.set1 (n:=1) (enc:=intC) (fun _=>rfl) h.disk hnd (j:=0) (by omega) (.int .i64 val) val rfl
    simpa using this
   have HS1:=Lib.hid hS1;clear hS1 hq
   have n0 : ¬ w.heap.size = c.D.b:=by omega
   have n1 : ¬ w.heap.size + 1 = c.D.b:=by omega
   have n2 : ¬ w.heap.size + 1 + 1 = c.D.b:=by omega
   have hD1 : c.D.b < w.heap.size + 1:=by omega
   have hD2 : c.D.b < w.heap.size + 1 + 1:=by omega
   have hc1 : Chg c.L w (w.setCell ⟨c.D.b,c.D.o + n,none⟩ (.int .i64 val)):=(Chg.refl _ _).set (.inl (by simp [SC.L])) _
   have HC1:=Lib.hid hc1;clear hc1
   go_enter Tryz.func88,Tryz.ntmps88
   go_wp2_with fail
   refine bodyPost_ret (v:=.agg #[c.fv s,c.dv s]) (by simp [results,Tryz.results88,go_sem]) rfl ⟨by simp [SC.dv],?_,?_⟩
   ·exact ((HC1.out.alloc _).alloc _).alloc _
   ·exact ((HS1.out.alloc2).alloc2).alloc2
 have hnb:=h.new
 have HNB:=Lib.hid hnb;clear hnb
 by_cases h2 : k = 2
 ·subst h2
  obtain ⟨n,rfl,hn4⟩ : ∃ n : Nat,block = n ∧ n < 4:=⟨block.toNat,by have:=HF.out.block (by simp);dsimp only at this;omega,by have:=HF.out.block (by simp);dsimp only at this;omega⟩
  have hi : n < s.flash.length:=by rw [HS.out.flash];exact hn4
  have hq : doStep s ⟨2,addr,val,n,r⟩ torn = ⟨wipeF s.flash n torn,s.disk⟩:=by simp [doStep]
  rw [hq] at HL1 ⊢
  have hns : s.flash.length ≤ 1048576:=by have:=HS.out.flash;omega
  have HNS:=Lib.hid hns;have HI:=Lib.hid hi;clear hq hns hi
  have nfl : ∀ b,w.heap.size ≤ b → b ∉ c.fl:=fun b hb hm=>HNB.out b hb (fl_L b hm)
  have NFL:=Lib.hid nfl;clear nfl
  go_enter Tryz.func88,Tryz.ntmps88
  go_wp2_with fail
  refine (l2Wipe_c c s.flash n torn _ ((h.ext (by go_grown)).flash) hfl HI.out (HS.out.pages _ (List.getElem_mem _)) (HS.out.worn _ (List.getElem_mem _)) HNS.out).mono ?_;rintro e1 w1 ⟨rfl,hC,hF1⟩
  have G0:=hC.keep (hg_alloc (hg_alloc (hg_new (b:=w.heap.size) rfl))) (NFL.out _ (by omega))
  have G1:=hC.keep (hg_alloc (hg_new (b:=w.heap.size + 1) (by simp))) (NFL.out _ (by omega))
  have G2:=hC.keep (hg_new (b:=w.heap.size + 1 + 1) (by simp)) (NFL.out _ (by omega))
  have C1 : Chg c.L w w1:=Chg.trans (Chg.of_ext (by go_grown)) (hC.mono fl_L)
  have S1 : OwnS c w1 ⟨wipeF s.flash n torn,s.disk⟩:=⟨hF1,(h.ext (by go_grown)).disk.chg hC (fun hm=>SC.D_ne h.nd _ hm rfl),h.nd⟩
  have HS1:=Lib.hid S1;have HC1:=Lib.hid C1
  clear hC hF1 C1 S1
  obtain ⟨g0,gf0⟩:=cellsK G0
  obtain ⟨g1,gf1⟩:=cellsK G1
  obtain ⟨g2,gf2⟩:=cellsK G2
  have hl1:=HL1.out
  have LN:=Lib.hid hl1;clear hl1
  go_wp2_with fail
  refine bodyPost_ret (v:=.agg #[c.fv s,c.dv s]) (by simp [results,Tryz.results88,go_sem,g0,gf0,g1,gf1,g2,gf2]) rfl ⟨by simp [SC.fv,wipeF_len],?_,?_⟩
  ·have hc:=HC1.out
   ((repeat (first | with_reducible (refine Chg.set2 ?_ ?_);focus (exact Or.inr (by dsimp only;omega)) | with_reducible refine Chg.alloc2 ?_));with_reducible exact hc)
  ·have ho:=HS1.out
   ((repeat (first | (with_reducible apply OwnS.set2;focus (exact HNB.out _ (by dsimp only;omega))) | with_reducible apply OwnS.alloc2));with_reducible exact ho)
 by_cases h3 : k = 3
 ·subst h3
  obtain ⟨n,rfl,hn4⟩ : ∃ n : Nat,block = n ∧ n < 4:=⟨block.toNat,by have:=HF.out.block (by simp);dsimp only at this;omega,by have:=HF.out.block (by simp);dsimp only at this;omega⟩
  have hi : n < s.flash.length:=by rw [HS.out.flash];exact hn4
  have hq : doStep s ⟨3,addr,val,n,r⟩ torn = ⟨writeF s.flash n r torn,s.disk⟩:=by simp [doStep]
  rw [hq] at HL1 ⊢
  have hns : s.flash.length ≤ 1048576:=by have:=HS.out.flash;omega
  have HNS:=Lib.hid hns;have HI:=Lib.hid hi;clear hq hns hi
  have nfl : ∀ b,w.heap.size ≤ b → b ∉ c.fl:=fun b hb hm=>HNB.out b hb (fl_L b hm)
  have NFL:=Lib.hid nfl;clear nfl
  go_enter Tryz.func88,Tryz.ntmps88
  go_wp2_with fail
  refine (l2Write_c c s.flash n r torn _ ((h.ext (by go_grown)).flash) hfl HI.out HS.out.pages HNS.out).mono ?_;rintro e1 w1 ⟨rfl,hC,hF1⟩
  have G0:=hC.keep (hg_alloc (hg_alloc (hg_new (b:=w.heap.size) rfl))) (NFL.out _ (by omega))
  have G1:=hC.keep (hg_alloc (hg_new (b:=w.heap.size + 1) (by simp))) (NFL.out _ (by omega))
  have G2:=hC.keep (hg_new (b:=w.heap.size + 1 + 1) (by simp)) (NFL.out _ (by omega))
  have C1 : Chg c.L w w1:=Chg.trans (Chg.of_ext (by go_grown)) (hC.mono fl_L)
  have S1 : OwnS c w1 ⟨writeF s.flash n r torn,s.disk⟩:=⟨hF1,(h.ext (by go_grown)).disk.chg hC (fun hm=>SC.D_ne h.nd _ hm rfl),h.nd⟩
  have HS1:=Lib.hid S1;have HC1:=Lib.hid C1
  clear hC hF1 C1 S1
  obtain ⟨g0,gf0⟩:=cellsK G0
  obtain ⟨g1,gf1⟩:=cellsK G1
  obtain ⟨g2,gf2⟩:=cellsK G2
  have hl1:=HL1.out
  have LN:=Lib.hid hl1;clear hl1
  go_wp2_with fail
  refine bodyPost_ret (v:=.agg #[c.fv s,c.dv s]) (by simp [results,Tryz.results88,go_sem,g0,gf0,g1,gf1,g2,gf2]) rfl ⟨by simp [SC.fv,writeF_len],?_,?_⟩
  ·have hc:=HC1.out
   ((repeat (first | with_reducible (refine Chg.set2 ?_ ?_);focus (exact Or.inr (by dsimp only;omega)) | with_reducible refine Chg.alloc2 ?_));with_reducible exact hc)
  ·have ho:=HS1.out
   ((repeat (first | (with_reducible apply OwnS.set2;focus (exact HNB.out _ (by dsimp only;omega))) | with_reducible apply OwnS.alloc2));with_reducible exact ho)
 ·have hq : doStep s ⟨k,addr,val,block,r⟩ torn = s:=by unfold doStep;rw [if_neg h1,if_neg h2,if_neg h3]
  rw [hq];clear hq
  have b1 : (k == 1) = false:=by simpa using h1
  have b2 : (k == 2) = false:=by simpa using h2
  have b3 : (k == 3) = false:=by simpa using h3
  clear h1 h2 h3
  go_enter Tryz.func88,Tryz.ntmps88
  go_wp2_with fail
  refine bodyPost_ret (v:=.agg #[c.fv s,c.dv s]) (by simp [results,Tryz.results88,go_sem]) rfl ⟨rfl,?_,?_⟩
  ·exact Chg.of_ext (by go_grown)
  ·exact h.ext (by go_grown)
end Go.Bu
namespace Go.Bu
open Go Go.RowKit Go.Plan Go.Proofs
def doAll (s : Store) (xs : List Step) : Store:=xs.foldl (fun s x=>doStep s x false) s
def toSteps (s : Store) (xs : List Step) (cut : Int) (torn : Bool) : Store:=
 if torn && decide (0 ≤ cut) && decide (cut < xs.length) then doStep (doAll s (xs.take cut.toNat)) ((xs[cut.toNat]?).getD ⟨0,0,0,0,rec0⟩) true else doAll s (xs.take cut.toNat)
theorem mem_set {α : Type} {xs : List α} {i : Nat} {x y : α} (h : y ∈ xs.set i x) : y ∈ xs ∨ y = x:=by
 rcases List.mem_or_eq_of_mem_set h with h | h
 ·exact .inl h
 ·exact .inr h
theorem blockAt_mem {f : List Block} {i : Nat} (h : i < f.length) : blockAt f i ∈ f:=by rw [blockAt_get h];exact List.getElem_mem _
theorem Shape.wipe {s : Store} (h : Shape s) (i : Nat) (t : Bool) (hi : i < 4) : Shape ⟨wipeF s.flash i t,s.disk⟩:=by
 have hb:=blockAt_mem (f:=s.flash) (i:=i) (by rw [h.flash];exact hi)
 refine ⟨by show (wipeF _ _ _).length = 4;rw [wipeF_len];exact h.flash,fun b hm=>?_,fun b hm=>?_,h.disk⟩
 ·simp only [wipeF] at hm
  split at hm
  ·exact h.pages b hm
  ·rcases mem_set hm with hm | rfl
   ·exact h.pages b hm
   ·rfl
 ·simp only [wipeF] at hm
  split at hm
  ·exact h.worn b hm
  ·rcases mem_set hm with hm | rfl
   ·exact h.worn b hm
   ·have:=h.worn _ hb;dsimp only;omega
theorem Shape.write {s : Store} (h : Shape s) (i : Nat) (r : Rec) (t : Bool) (hi : i < 4) : Shape ⟨writeF s.flash i r t,s.disk⟩:=by
 have hb:=blockAt_mem (f:=s.flash) (i:=i) (by rw [h.flash];exact hi)
 refine ⟨by show (writeF _ _ _ _).length = 4;rw [writeF_len];exact h.flash,fun b hm=>?_,fun b hm=>?_,h.disk⟩
 ·simp only [writeF] at hm
  split at hm
  ·rcases mem_set hm with hm | rfl
   ·exact h.pages b hm
   ·rw [List.length_set];exact h.pages _ hb
  ·exact h.pages b hm
 ·simp only [writeF] at hm
  split at hm
  ·rcases mem_set hm with hm | rfl
   ·exact h.worn b hm
   ·have:=h.worn _ hb;exact this
  ·exact h.worn b hm
theorem Shape.step {s : Store} (h : Shape s) {x : Step} (hx : Fit x) (t : Bool) : Shape (doStep s x t):=by
 unfold doStep
 by_cases h1 : x.kind = 1
 ·rw [if_pos h1];split
  ·exact h
  ·exact ⟨h.flash,h.pages,h.worn,by simp [h.disk]⟩
 ·have hb:=hx.block h1
  rw [if_neg h1];split
  ·exact h.wipe _ _ (by omega)
  ·split
   ·exact h.write _ _ _ (by omega)
   ·exact h
theorem Shape.all {xs : List Step} : ∀ {s : Store},Shape s → (∀ x ∈ xs,Fit x) → Shape (doAll s xs):=fun {s} h hx =>
 foldl_inv (fun s x=>doStep s x false) Shape xs s h fun s x hm hs=>hs.step (hx x hm) false
abbrev StepsAt (c : SC) (w : World) (v : Value) (xs : List Step) : Prop:=Steps' (fun b=>b < w.heap.size ∧ b ∉ c.L) w v xs
theorem StepsAt.chg {c : SC} {w w' : World} {v : Value} {xs : List Step} (h : StepsAt c w v xs) (hx : Chg c.L w w') : StepsAt c w' v xs:=
 Sl.same (plain_kept _) h (fun b hb=>hx.block b hb.1 hb.2) fun b hb=>⟨Nat.lt_of_lt_of_le hb.1 hx.size,hb.2⟩
theorem SRow.at_ {c : SC} {base : Nat} {w : World} {v : Value} {xs : List Step} (h : SRow base w v xs) (hb : ∀ b,base ≤ b → b ∉ c.L) : StepsAt c w v xs:=by
 rcases h.2 with ⟨rfl,h0⟩ | ⟨g,cap,cur,rfl,hg,hh,_,_,_,ht⟩
 ·have : xs = []:=List.length_eq_zero_iff.1 h0
  subst this
  exact ⟨none,0,rfl,fun i x hx=>by simp at hx⟩
 ·refine ⟨_,cap,rfl,fun i x hx=>⟨g,0,stepC x,rfl,⟨heap_lt hh,hb g hg⟩,rfl,fun j u hu=>?_⟩⟩
  have:=flat_get (enc:=stepC) (n:=8) (fun _=>rfl) xs i x j u hx hu
  rw [← ht] at this
  have hlt:=(List.getElem?_eq_some_iff.1 this).1
  rw [List.length_take] at hlt
  rw [List.getElem?_take_of_lt (by omega)] at this
  rw [cell_block hh,Nat.zero_add]
  simpa using this
theorem doAll_len (xs : List Step) : ∀ s : Store,(doAll s xs).flash.length = s.flash.length ∧ (doAll s xs).disk.length = s.disk.length:=by
 induction xs with
 | nil=>exact fun s=>⟨rfl,rfl⟩
 | cons x xs ih=>exact fun s=>⟨(ih _).1.trans (doStep_len s x false).1,(ih _).2.trans (doStep_len s x false).2⟩
def RetOv (c : SC) (w : World) (fv dv : Value) (s : Store) (e : Ending) (w' : World) : Prop:=e = .returned (.agg #[fv,dv]) ∧ Chg c.L w w' ∧ OwnS c w' s
theorem SC.same {c : SC} {s t : Store} (h : t.flash.length = s.flash.length ∧ t.disk.length = s.disk.length) : c.fv t = c.fv s ∧ c.dv t = c.dv s:=⟨by simp only [SC.fv,h.1],by simp only [SC.dv,h.2]⟩
theorem l12Do_v (c : SC) (s t : Store) (x : Step) (torn : Bool) (w : World) (h : OwnS c w s) (hs : Shape s) (hf : Fit x) (hl : s.flash.length = t.flash.length ∧ s.disk.length = t.disk.length) :
  Calls Tryz.prog 88 #[.agg #[c.fv t,c.dv t],stepA x,.bool torn] w (RetOv c w (c.fv t) (c.dv t) (doStep s x torn)):=by
 obtain ⟨h1,h2⟩:=SC.same (c:=c) hl
 have:=l12Do_c c s x torn w h hs hf
 rw [h1,h2] at this
 refine this.mono fun e w' ⟨he,hc,ho⟩=>⟨?_,hc,ho⟩
 obtain ⟨h3,h4⟩:=SC.same (c:=c) (doStep_len s x torn)
 rw [he,h3,h4,h1,h2]
set_option maxRecDepth 20000 in
set_option maxHeartbeats 4000000 in
theorem l12To_c (c : SC) (s : Store) (sv : Value) (xs : List Step) (cut : Int) (torn : Bool) (w : World) (h : OwnS c w s) (hs : Shape s) (hx : StepsAt c w sv xs) (hf : ∀ x ∈ xs,Fit x) (hn : xs.length ≤ 1000) (hc : -1000000 ≤ cut) :
  Calls Tryz.prog 69 #[.agg #[c.fv s,c.dv s],sv,.int .i64 cut,.bool torn] w (RetO c w (toSteps s xs cut torn)):=by
 obtain ⟨sa,scap,rfl⟩:=hx.form
 have hlt:=h.lt
 have HLT:=Lib.hid hlt;clear hlt
 have HNB:=Lib.hid h.new
 obtain ⟨A,hA⟩ : ∃ A,doAll s (xs.take cut.toNat) = A:=⟨_,rfl⟩
 have HA : Hid (((xs.take cut.toNat).drop 0).foldl (fun s x=>doStep s x false) s = A):=Lib.hid hA
 have hAl:=doAll_len (xs.take cut.toNat) s
 rw [hA] at hAl
 obtain ⟨hal1,hal2⟩:=hAl
 have HF:=Lib.hid hf;have HS:=Lib.hid hs
 have HSA : Hid (Shape A):=Lib.hid (by rw [← hA];exact hs.all fun x hm=>hf x (List.mem_of_mem_take hm))
 have HQ : Hid (toSteps s xs cut torn = if torn && decide (0 ≤ cut) && decide (cut < xs.length) then doStep A ((xs[cut.toNat]?).getD ⟨0,0,0,0,rec0⟩) true else A):=Lib.hid (by unfold toSteps;rw [hA])
 have HL1:=Lib.hid hal1;have HL2:=Lib.hid hal2
 clear hA hf hs hal1 hal2
 generalize toSteps s xs cut torn = RR at *
 go_enter Tryz.func69,Tryz.ntmps69
 go_wp2_with fail
 go_loopw [9] (fun y wr=>∃ (k : Nat) (s1 : Store),k ≤ xs.length ∧ ((k : Int) ≤ cut ∨ k = 0) ∧ y = .int .i64 k ∧ Chg c.L w wr ∧ OwnS c wr s1 ∧ Hid (Shape s1) ∧ Hid (s1.flash.length = s.flash.length) ∧ Hid (s1.disk.length = s.disk.length) ∧
  Hid (((xs.take cut.toNat).drop k).foldl (fun s x=>doStep s x false) s1 = A) ∧ wr.heap[w.heap.size]? = some (.cells #[c.fv s,c.dv s] 42 (0,0)) ∧ wr.heap[w.heap.size + 1]? = some (.cells #[.slice none 0 0,.slice none 0 0] 42 (0,0))) (fun y _=>xs.length - (intOf y).toNat)
 case atStart =>
  exact ⟨0,s,by omega,.inr rfl,rfl,Chg.of_ext (by go_grown),h.ext (by go_grown),HS,Lib.hid rfl,Lib.hid rfl,HA,hg_alloc (hg_new rfl),hg_new (by simp)⟩
 case round =>
  obtain ⟨k,s1,hk,hkc,rfl,hC,hO,HS1,HE1,HE2,HR,G0,G1⟩:=hrel
  obtain ⟨g0,gf0⟩:=cellsK G0
  obtain ⟨g1,gf1⟩:=cellsK G1
  have l0:=heap_lt G0
  have l1:=heap_lt G1
  by_cases hgo : k < xs.length ∧ (k : Int) < cut
  ·obtain ⟨hkl,hkc2⟩:=hgo
   obtain ⟨b,o,rfl,hb,e0,e1,e2,e3,e4,e5,e6,e7⟩:=(hx.chg hC).at8 hkl
   obtain ⟨hb1,hb2⟩:=hb
   rw [foldl_drop _ _ _ _ (by simp;omega),List.getElem_take] at HR
   go_wp2_with fail
   refine wp_region_ext [] [0,1,2,3,4] [] [5,6] (by kernel_rfl) (by kernel_rfl) ?late ?_
   case late=>exact fun f hf=>absurd hf List.not_mem_nil
   refine Rob.y (v:=?_) rfl rfl (fun w1 hx hH=>?_) ?_;rotate_left
   ·(obtain ⟨hcx,hfx⟩:=bcell hx);go_simp;first | done | rfl
   simp only [Act.put,slA,slB,slC]
   iterate 2
    refine Rob.y (v:=?_) rfl rfl (fun w1 hx hH=>?_) ?_;rotate_left
    ·go_simp;first | done | rfl | exact (Bool.not_not _).symm
    simp only [Act.put,slA,slB,slC]
   iterate 2
    refine Rob.y (v:=?_) rfl rfl (fun w1 hx hH=>?_) ?_;rotate_left
    ·(obtain ⟨hcx,hfx⟩:=bcell hx);go_simp;first | done | rfl
    simp only [Act.put,slA,slB,slC]
   refine fin_tail (fun w1 hx1 _=>?_)
   simp only [dstOf,List.getElem?_cons_succ,List.getElem?_cons_zero,Option.bind_some,Act.put,slA,slB,slC,List.filterMap_cons,List.filterMap_nil]
   go_wp2_with (go_at_call 88;refine (l12Do_v c s1 s xs[k] false _ (hO.ext hx1) HS1.out (HF.out _ (List.getElem_mem _)) ⟨HE1.out,HE2.out⟩).mono ?_;rintro e2 w2 ⟨rfl,hC2,hO2⟩;have HC2:=Lib.hid (hC.trans (Chg.trans (Chg.of_ext hx1) hC2));have HO2:=Lib.hid hO2;replace G0:=hC2.keep (keep_ext hx1 G0) (HNB.out _ (by omega));replace G1:=hC2.keep (keep_ext hx1 G1) (HNB.out _ (by omega));clear hC2 hO2 g0 gf0 g1 gf1;obtain ⟨g0,gf0⟩:=cellsK G0;obtain ⟨g1,gf1⟩:=cellsK G1)
   obtain ⟨hl1,hl2⟩:=doStep_len s1 xs[k] false
   refine ⟨⟨k + 1,doStep s1 xs[k] false,by omega,.inl (by omega),by go_num,?_,?_,Lib.hid (HS1.out.step (HF.out _ (List.getElem_mem _)) false),Lib.hid (hl1.trans HE1.out),Lib.hid (hl2.trans HE2.out),HR,hgo (by (repeat (first | with_reducible apply hg_here | (with_reducible apply hg_set;focus (dsimp only;omega)) | with_reducible apply hg_alloc));with_reducible exact G0) ?_,(by (repeat (first | with_reducible apply hg_here | (with_reducible apply hg_set;focus (dsimp only;omega)) | with_reducible apply hg_alloc));with_reducible exact G1)⟩,by simp [intOf];omega⟩
   ·have hc:=HC2.out
    ((repeat (first | with_reducible (refine Chg.set2 ?_ ?_);focus (exact Or.inr (by dsimp only;omega)) | with_reducible refine Chg.alloc2 ?_));with_reducible exact hc)
   ·have ho:=HO2.out
    ((repeat (first | (with_reducible apply OwnS.set2;focus (exact HNB.out _ (by dsimp only;omega))) | with_reducible apply OwnS.alloc2));with_reducible exact ho)
   ·simp
  ·have hsA : s1 = A:=by
    have:=HR.out
    rw [List.drop_eq_nil_of_le (by simp;omega)] at this
    exact this
   subst hsA
   clear HR HA
   cases torn with
   | false =>
    go_wp2_with fail
    all_goals
     refine bodyPost_ret (v:=.agg #[c.fv s,c.dv s]) (by simp [results,Tryz.results69,go_sem,g0,gf0,g1,gf1]) rfl ?_
     have hr : RR = s1:=by rw [HQ.out];simp
     rw [hr]
     obtain ⟨q1,q2⟩:=SC.same (c:=c) (⟨HE1.out,HE2.out⟩)
     refine ⟨by rw [q1,q2],?_,?_⟩
     ·have hc:=hC
      ((repeat (first | with_reducible (refine Chg.set2 ?_ ?_);focus (exact Or.inr (by dsimp only;omega)) | with_reducible refine Chg.alloc2 ?_));with_reducible exact hc)
     ·have ho:=hO
      ((repeat (first | (with_reducible apply OwnS.set2;focus (exact HNB.out _ (by dsimp only;omega))) | with_reducible apply OwnS.alloc2));with_reducible exact ho)
   | true =>
    cases hin : inB cut 0 ((xs.length : Int) - 1) with
    | false =>
     have HI:=Lib.hid hin;clear hin
     go_wp2_with (go_at_call 73;refine (l6In_c _ _ _ _).mono ?_;rintro e1 w1 ⟨rfl,rfl⟩;rw [HI.out])
     all_goals
      refine bodyPost_ret (v:=.agg #[c.fv s,c.dv s]) (by simp [results,Tryz.results69,go_sem,g0,gf0,g1,gf1]) rfl ?_
      have hr : RR = s1:=by rw [HQ.out,if_neg (by have:=inB_no.1 HI.out;simp;omega)]
      rw [hr]
      obtain ⟨q1,q2⟩:=SC.same (c:=c) (⟨HE1.out,HE2.out⟩)
      refine ⟨by rw [q1,q2],?_,?_⟩
      ·have hc:=hC
       ((repeat (first | with_reducible (refine Chg.set2 ?_ ?_);focus (exact Or.inr (by dsimp only;omega)) | with_reducible refine Chg.alloc2 ?_));with_reducible exact hc)
      ·have ho:=hO
       ((repeat (first | (with_reducible apply OwnS.set2;focus (exact HNB.out _ (by dsimp only;omega))) | with_reducible apply OwnS.alloc2));with_reducible exact ho)
    | true =>
     have hcb:=inB_iff.1 hin
     obtain ⟨n,rfl⟩ : ∃ n : Nat,cut = n:=⟨cut.toNat,by omega⟩
     have hnl : n < xs.length:=by omega
     have HI:=Lib.hid hin;clear hin
     obtain ⟨b,o,rfl,hb,e0,e1,e2,e3,e4,e5,e6,e7⟩:=(hx.chg hC).at8 hnl
     obtain ⟨hb1,hb2⟩:=hb
     go_wp2_with (go_at_call 73;refine (l6In_c _ _ _ _).mono ?_;rintro e1 w1 ⟨rfl,rfl⟩;rw [HI.out])
     all_goals
      refine wp_region_ext [] [0,1,2,3,4] [] [5,6] (by kernel_rfl) (by kernel_rfl) ?late ?_
      case late=>exact fun f hf=>absurd hf List.not_mem_nil
      refine Rob.y (v:=?_) rfl rfl (fun w1 hx hH=>?_) ?_;rotate_left
      ·(obtain ⟨hcx,hfx⟩:=bcell hx);go_simp;first | done | rfl
      simp only [Act.put,slA,slB,slC]
      iterate 2
       refine Rob.y (v:=?_) rfl rfl (fun w1 hx hH=>?_) ?_;rotate_left
       ·go_simp;first | done | rfl | exact (Bool.not_not _).symm
       simp only [Act.put,slA,slB,slC]
      iterate 2
       refine Rob.y (v:=?_) rfl rfl (fun w1 hx hH=>?_) ?_;rotate_left
       ·(obtain ⟨hcx,hfx⟩:=bcell hx);go_simp;first | done | rfl
       simp only [Act.put,slA,slB,slC]
      refine fin_tail (fun w1 hx1 _=>?_)
      simp only [dstOf,List.getElem?_cons_succ,List.getElem?_cons_zero,Option.bind_some,Act.put,slA,slB,slC,List.filterMap_cons,List.filterMap_nil]
      go_wp2_with (go_at_call 88;refine (l12Do_v c s1 s xs[n] true _ (hO.ext hx1) HS1.out (HF.out _ (List.getElem_mem _)) ⟨HE1.out,HE2.out⟩).mono ?_;rintro e2 w2 ⟨rfl,hC2,hO2⟩;have HC2:=Lib.hid (hC.trans (Chg.trans (Chg.of_ext hx1) hC2));have HO2:=Lib.hid hO2;replace G0:=hC2.keep (keep_ext hx1 G0) (HNB.out _ (by omega));replace G1:=hC2.keep (keep_ext hx1 G1) (HNB.out _ (by omega));clear hC2 hO2 g0 gf0 g1 gf1;obtain ⟨g0,gf0⟩:=cellsK G0;obtain ⟨g1,gf1⟩:=cellsK G1)
      obtain ⟨hl1,hl2⟩:=doStep_len s1 xs[n] true
      refine bodyPost_ret (v:=.agg #[c.fv s,c.dv s]) (by simp [results,Tryz.results69,go_sem,g0,gf0,g1,gf1]) rfl ?_
      have hr : RR = doStep s1 xs[n] true:=by rw [HQ.out,if_pos (by simp;omega)];simp [List.getElem?_eq_getElem hnl]
      rw [hr]
      obtain ⟨q1,q2⟩:=SC.same (c:=c) (⟨hl1.trans HE1.out,hl2.trans HE2.out⟩)
      refine ⟨by rw [q1,q2],?_,?_⟩
      ·have hc:=HC2.out
       ((repeat (first | with_reducible (refine Chg.set2 ?_ ?_);focus (exact Or.inr (by dsimp only;omega)) | with_reducible refine Chg.alloc2 ?_));with_reducible exact hc)
      ·have ho:=HO2.out
       ((repeat (first | (with_reducible apply OwnS.set2;focus (exact HNB.out _ (by dsimp only;omega))) | with_reducible apply OwnS.alloc2));with_reducible exact ho)
end Go.Bu
namespace Go.Bu
open Go Go.RowKit Go.Plan Go.Proofs
def ordB (prev : Bool) : List Page → Bool
 | []=>true
 | p :: ps=>!(prev && p.state != 0) && ordB (p.state == 0) ps
def seqOf (p : Page) : Option Int:=if p.state = 1 then some p.r.seq else none
def pseqs (ps : List Page) : List Int:=ps.filterMap seqOf
def seqs (f : List Block) : List Int:=f.flatMap fun b=>pseqs b.pages
def fresh (L : List Int) : List Int → Bool
 | []=>true
 | x :: xs=>!L.contains x && fresh (x :: L) xs
def blockB (b : Block) : Bool:=b.pages.length == 4 && inB b.worn 0 200 && b.pages.all pageOkB && ordB false b.pages
theorem scanP_eq : ∀ (ps : List Page) (prev : Bool) (L : List Int),scanP prev L ps = if ps.all pageOkB && ordB prev ps && fresh L (pseqs ps) then some ((pseqs ps).reverse ++ L) else none
 | [],prev,L=>by simp [scanP,ordB,pseqs,fresh]
 | p :: ps,prev,L=>by
  rw [scanP,scanP_eq ps]
  by_cases h1 : p.state = 1
  ·have hq : pseqs (p :: ps) = p.r.seq :: pseqs ps:=by simp [pseqs,seqOf,h1]
   rw [hq]
   simp only [h1,ordB,fresh,List.all_cons,List.reverse_cons,List.append_assoc]
   by_cases hp : pageOkB p = true <;> cases prev <;> by_cases hc : p.r.seq ∈ L <;> simp [hp,hc]
  ·have hq : pseqs (p :: ps) = pseqs ps:=by simp [pseqs,seqOf,h1]
   rw [hq]
   have hb : (p.state == 1) = false:=by simpa using h1
   simp only [hb,ordB,List.all_cons]
   by_cases hp : pageOkB p = true <;> cases prev <;> by_cases hz : p.state = 0 <;> simp [hp,hz]
theorem fresh_append : ∀ (a b L : List Int),fresh L (a ++ b) = (fresh L a && fresh (a.reverse ++ L) b)
 | [],b,L=>by simp [fresh]
 | x :: a,b,L=>by simp [fresh,fresh_append a,Bool.and_assoc]
theorem scanF_eq : ∀ (f : List Block) (L : List Int),scanF L f = if f.all blockB && fresh L (seqs f) then some ((seqs f).reverse ++ L) else none
 | [],L=>by simp [scanF,seqs,fresh]
 | b :: f,L=>by
  have hq : seqs (b :: f) = pseqs b.pages ++ seqs f:=by simp [seqs]
  rw [scanF,scanP_eq,hq,fresh_append]
  simp only [List.all_cons,blockB]
  by_cases h4 : b.pages.length = 4
  ·by_cases hw : inB b.worn 0 200 = true
   ·rw [if_neg (by simp [h4,hw])]
    rcases Bool.eq_false_or_eq_true (b.pages.all pageOkB) with h1 | h1 <;> rcases Bool.eq_false_or_eq_true (ordB false b.pages) with h2 | h2 <;> rcases Bool.eq_false_or_eq_true (fresh L (pseqs b.pages)) with h3 | h3 <;>
     simp [-List.all_eq_true,-List.all_eq_false,h1,h2,h3,h4,hw,scanF_eq f]
   ·simp [h4,hw]
  ·simp [h4]
theorem flashOkB_eq (f : List Block) : flashOkB f = (f.length == 4 && f.all blockB && fresh [] (seqs f)):=by
 unfold flashOkB
 rw [scanF_eq]
 split <;> simp_all
theorem fresh_iff : ∀ (xs L : List Int),fresh L xs = true ↔ xs.Nodup ∧ ∀ x ∈ xs,x ∉ L
 | [],L=>by simp [fresh]
 | x :: xs,L=>by
  rw [fresh,Bool.and_eq_true,fresh_iff xs]
  simp
  constructor
  ·rintro ⟨h1,h2,h3⟩
   exact ⟨⟨fun h=>absurd rfl (h3 x h).1,h2⟩,h1,fun y hy=>(h3 y hy).2⟩
  ·rintro ⟨⟨h1,h2⟩,h3,h4⟩
   exact ⟨h3,h2,fun y hy=>⟨fun e=>h1 (e ▸ hy),h4 y hy⟩⟩
structure FlashOk (f : List Block) : Prop where
 len : f.length = 4
 blocks : ∀ b ∈ f,blockB b = true
 nd : (seqs f).Nodup
theorem flashOk_iff {f : List Block} : flashOkB f = true ↔ FlashOk f:=by
 rw [flashOkB_eq]
 simp only [Bool.and_eq_true,beq_iff_eq,List.all_eq_true,fresh_iff]
 exact ⟨fun ⟨⟨h1,h2⟩,h3,_⟩=>⟨h1,h2,h3⟩,fun ⟨h1,h2,h3⟩=>⟨⟨h1,h2⟩,h3,fun _ _ h=>by cases h⟩⟩
theorem blockB_iff {b : Block} : blockB b = true ↔ b.pages.length = 4 ∧ 0 ≤ b.worn ∧ b.worn ≤ 200 ∧ (∀ p ∈ b.pages,pageOkB p = true) ∧ ordB false b.pages = true:=by
 simp only [blockB,Bool.and_eq_true,beq_iff_eq,inB_iff,List.all_eq_true]
 exact ⟨fun ⟨⟨⟨h1,h2,h3⟩,h4⟩,h5⟩=>⟨h1,h2,h3,h4,h5⟩,fun ⟨h1,h2,h3,h4,h5⟩=>⟨⟨⟨h1,h2,h3⟩,h4⟩,h5⟩⟩
theorem ordB_true : ∀ (ps : List Page),ordB true ps = true ↔ ∀ p ∈ ps,p.state = 0
 | []=>by simp [ordB]
 | p :: ps=>by
  simp only [ordB,Bool.true_and,Bool.and_eq_true,Bool.not_eq_true',bne_eq_false_iff_eq]
  constructor
  ·rintro ⟨h1,h2⟩
   rw [h1] at h2
   have:=(ordB_true ps).1 h2
   simpa [h1] using this
  ·intro h
   have h1:=h p (by simp)
   refine ⟨h1,?_⟩
   rw [h1];exact (ordB_true ps).2 fun q hq=>h q (by simp [hq])
theorem ordB_split : ∀ (ps : List Page),ordB false ps = true ↔ ∃ k,k ≤ ps.length ∧ (∀ p ∈ ps.take k,p.state ≠ 0) ∧ ∀ p ∈ ps.drop k,p.state = 0
 | []=>by simp [ordB]
 | p :: ps=>by
  simp only [ordB,Bool.false_and,Bool.not_false,Bool.true_and]
  by_cases h0 : p.state = 0
  ·rw [show (p.state == 0) = true from by simpa using h0,ordB_true]
   constructor
   ·intro h;exact ⟨0,by simp,by simp,by simpa [h0] using h⟩
   ·rintro ⟨k,hk,h1,h2⟩
    cases k with
    | zero=>intro q hq;exact h2 q (by simp [hq])
    | succ k=>exact absurd h0 (h1 p (by simp))
  ·rw [show (p.state == 0) = false from by simpa using h0,ordB_split ps]
   constructor
   ·rintro ⟨k,hk,h1,h2⟩;exact ⟨k + 1,by simpa using hk,by simpa [h0] using h1,by simpa using h2⟩
   ·rintro ⟨k,hk,h1,h2⟩
    cases k with
    | zero=>exact absurd (h2 p (by simp)) h0
    | succ k=>exact ⟨k,by simpa using hk,fun q hq=>h1 q (by simp [hq]),by simpa using h2⟩
theorem cleanN_append (a b : List Page) : cleanN (a ++ b) = cleanN a + cleanN b:=by
 have : ∀ (ps : List Page) (n : Int),ps.foldl cleanStep n = n + ps.foldl cleanStep 0:=by
  intro ps
  induction ps with
  | nil=>intro n;simp
  | cons p ps ih =>
   intro n
   simp only [List.foldl_cons]
   rw [ih,ih (cleanStep 0 p)]
   unfold cleanStep;split <;> omega
 unfold cleanN
 rw [List.foldl_append,this b]
theorem cleanN_none {ps : List Page} (h : ∀ p ∈ ps,p.state ≠ 0) : cleanN ps = 0:=by
 induction ps with
 | nil=>rfl
 | cons p ps ih =>
  have : cleanN (p :: ps) = cleanN [p] + cleanN ps:=cleanN_append [p] ps
  rw [this,ih fun q hq=>h q (by simp [hq])]
  simp [cleanN,cleanStep,h p (by simp)]
theorem cleanN_all {ps : List Page} (h : ∀ p ∈ ps,p.state = 0) : cleanN ps = ps.length:=by
 induction ps with
 | nil=>rfl
 | cons p ps ih =>
  have : cleanN (p :: ps) = cleanN [p] + cleanN ps:=cleanN_append [p] ps
  rw [this,ih fun q hq=>h q (by simp [hq])]
  simp [cleanN,cleanStep,h p (by simp)];omega
theorem free_at {ps : List Page} (h4 : ps.length = 4) (ho : ordB false ps = true) : (∀ p ∈ ps.take (4 - (cleanN ps).toNat),p.state ≠ 0) ∧ (∀ p ∈ ps.drop (4 - (cleanN ps).toNat),p.state = 0) ∧ 0 ≤ cleanN ps ∧ cleanN ps ≤ 4:=by
 obtain ⟨k,hk,h1,h2⟩:=(ordB_split ps).1 ho
 have hc : cleanN ps = ((4 - k : Nat) : Int):=by
  conv=>lhs;rw [← List.take_append_drop k ps]
  rw [cleanN_append,cleanN_none h1,cleanN_all h2];simp;omega
 rw [hc]
 have : 4 - ((4 - k : Nat) : Int).toNat = k:=by omega
 rw [this]
 exact ⟨h1,h2,by omega,by omega⟩
end Go.Bu
namespace Go.Bu
open Go Go.RowKit Go.Plan Go.Proofs
theorem pseqs_append (a b : List Page) : pseqs (a ++ b) = pseqs a ++ pseqs b:=List.filterMap_append
theorem seqs_append (a b : List Block) : seqs (a ++ b) = seqs a ++ seqs b:=List.flatMap_append
theorem split_at {α : Type} (xs : List α) (i : Nat) (h : i < xs.length) : xs = xs.take i ++ xs[i] :: xs.drop (i + 1):=by
 conv=>lhs;rw [← List.take_append_drop i xs,List.drop_eq_getElem_cons h]
theorem set_at {α : Type} (xs : List α) (i : Nat) (h : i < xs.length) (y : α) : xs.set i y = xs.take i ++ y :: xs.drop (i + 1):=by
 rw [List.set_eq_take_append_cons_drop,if_pos h]
theorem seqs_at (f : List Block) (i : Nat) (h : i < f.length) : seqs f = seqs (f.take i) ++ (pseqs f[i].pages ++ seqs (f.drop (i + 1))):=by
 conv=>lhs;rw [split_at f i h]
 rw [seqs_append];rfl
theorem seqs_set (f : List Block) (i : Nat) (h : i < f.length) (b : Block) : seqs (f.set i b) = seqs (f.take i) ++ (pseqs b.pages ++ seqs (f.drop (i + 1))):=by
 rw [set_at f i h,seqs_append];rfl
theorem pseqs_cons (p : Page) (ps : List Page) : pseqs (p :: ps) = (seqOf p).toList ++ pseqs ps:=by
 unfold pseqs;rw [List.filterMap_cons];cases seqOf p <;> rfl
theorem pseqs_at (ps : List Page) (k : Nat) (h : k < ps.length) : pseqs ps = pseqs (ps.take k) ++ ((seqOf ps[k]).toList ++ pseqs (ps.drop (k + 1))):=by
 conv=>lhs;rw [split_at ps k h]
 rw [pseqs_append,pseqs_cons]
theorem pseqs_set (ps : List Page) (k : Nat) (h : k < ps.length) (p : Page) : pseqs (ps.set k p) = pseqs (ps.take k) ++ ((seqOf p).toList ++ pseqs (ps.drop (k + 1))):=by
 rw [set_at ps k h,pseqs_append,pseqs_cons]
theorem mem_pseqs {ps : List Page} {n : Int} : n ∈ pseqs ps ↔ ∃ p ∈ ps,p.state = 1 ∧ p.r.seq = n:=by
 unfold pseqs seqOf
 rw [List.mem_filterMap]
 constructor
 ·rintro ⟨p,hp,h⟩
  split at h
  ·exact ⟨p,hp,‹_›,Option.some.inj h⟩
  ·cases h
 ·rintro ⟨p,hp,h1,h2⟩
  exact ⟨p,hp,by rw [if_pos h1,h2]⟩
theorem mem_seqs {f : List Block} {n : Int} : n ∈ seqs f ↔ ∃ b ∈ f,∃ p ∈ b.pages,p.state = 1 ∧ p.r.seq = n:=by
 unfold seqs
 rw [List.mem_flatMap]
 constructor
 ·rintro ⟨b,hb,h⟩;exact ⟨b,hb,mem_pseqs.1 h⟩
 ·rintro ⟨b,hb,h⟩;exact ⟨b,hb,mem_pseqs.2 h⟩
theorem seqUsed_iff {f : List Block} {n : Int} : seqUsed f n = true ↔ n ∈ seqs f:=by
 rw [mem_seqs]
 unfold seqUsed isSeq
 simp only [List.any_eq_true,Bool.and_eq_true,beq_iff_eq]
theorem FlashOk.bl {f : List Block} (h : FlashOk f) {i : Nat} (hi : i < 4) : ∃ hl : i < f.length,blockB f[i] = true:=
 ⟨by rw [h.len];exact hi,h.blocks _ (List.getElem_mem _)⟩
theorem blockB_free {b : Block} (h : blockB b = true) : (∀ p ∈ b.pages.take (4 - (cleanN b.pages).toNat),p.state ≠ 0) ∧ (∀ p ∈ b.pages.drop (4 - (cleanN b.pages).toNat),p.state = 0) ∧ 0 ≤ cleanN b.pages ∧ cleanN b.pages ≤ 4:=by
 obtain ⟨h1,h2,h3,h4,h5⟩:=blockB_iff.1 h
 exact free_at h1 h5
theorem pageW_ok {r : Rec} (hr : recOkB r = true) (t : Bool) : pageOkB (pageW r t) = true ∧ (pageW r t).state ≠ 0:=by
 cases t
 ·exact ⟨by simp [pageW,pageOkB,hr],by simp [pageW]⟩
 ·exact ⟨by simp [pageW,pageOkB,recZ,rec0],by simp [pageW]⟩
theorem blockB_write {b : Block} (h : blockB b = true) {p : Page} (hp : pageOkB p = true) (hs : p.state ≠ 0) (hc : cleanN b.pages ≠ 0) : blockB ⟨b.pages.set (4 - (cleanN b.pages).toNat) p,b.worn⟩ = true:=by
 obtain ⟨h1,h2,h3,h4,h5⟩:=blockB_iff.1 h
 obtain ⟨f1,f2,f3,f4⟩:=blockB_free h
 generalize hk : 4 - (cleanN b.pages).toNat = k at *
 have hk4 : k < b.pages.length:=by omega
 refine blockB_iff.2 ⟨by simpa using h1,h2,h3,fun q hq=>?_,(ordB_split _).2 ⟨k + 1,by simp;omega,fun q hq=>?_,fun q hq=>?_⟩⟩
 ·rcases mem_set hq with hq | rfl
  ·exact h4 q hq
  ·exact hp
 ·rw [set_at _ _ hk4,List.take_append] at hq
  simp at hq
  rcases hq with hq | hq
  ·exact f1 q (List.mem_of_mem_take hq)
  ·have : min k b.pages.length = k:=by omega
   rw [this] at hq
   simp at hq
   rw [hq];exact hs
 ·rw [set_at _ _ hk4,List.drop_append] at hq
  have hm : (b.pages.take k).length = k:=by simp;omega
  rw [hm,List.drop_eq_nil_of_le (by omega),show k + 1 - k = 1 by omega] at hq
  simp only [List.nil_append,List.drop_succ_cons,List.drop_zero] at hq
  exact f2 q (by rw [List.drop_eq_getElem_cons hk4];exact List.mem_cons_of_mem _ hq)
theorem clean_seq {p : Page} (h : p.state = 0) : seqOf p = none:=by unfold seqOf;rw [if_neg (by omega)]
theorem FlashOk.write {f : List Block} (h : FlashOk f) {i : Nat} (hi : i < 4) {r : Rec} (hr : recOkB r = true) (t : Bool) : FlashOk (writeF f i r t):=by
 obtain ⟨hl,hb⟩:=h.bl hi
 unfold writeF writeOk
 rw [blockAt_get hl]
 split
 ·rename_i hc
  simp only [Bool.not_eq_true',Bool.or_eq_false_iff,decide_eq_false_iff_not] at hc
  obtain ⟨hc,hs⟩:=hc
  obtain ⟨p1,p2⟩:=pageW_ok hr t
  obtain ⟨f1,f2,f3,f4⟩:=blockB_free hb
  have h4:=(blockB_iff.1 hb).1
  refine ⟨by simpa using h.len,fun b hm=>?_,?_⟩
  ·rcases mem_set hm with hm | rfl
   ·exact h.blocks b hm
   ·exact blockB_write hb p1 p2 hc
  ·have hk4 : 4 - (cleanN f[i].pages).toNat < f[i].pages.length:=by omega
   have hnd:=h.nd
   have hz : seqOf f[i].pages[4 - (cleanN f[i].pages).toNat] = none:=clean_seq (f2 _ (by rw [List.drop_eq_getElem_cons hk4];exact List.mem_cons_self))
   rw [seqs_at f i hl,pseqs_at _ _ hk4,hz] at hnd
   rw [seqs_set f i hl,pseqs_set _ _ hk4]
   cases t
   ·have hn : r.seq ∉ seqs f:=fun hm=>by rw [seqUsed_iff.2 hm] at hs;cases hs
    rw [seqs_at f i hl,pseqs_at _ _ hk4,hz] at hn
    simp only [Option.toList_none,List.nil_append] at hn hnd
    have hq : seqOf (pageW r false) = some r.seq:=rfl
    rw [hq]
    simp only [Option.toList_some,List.singleton_append]
    rw [List.append_assoc,List.cons_append,← List.append_assoc (seqs _) (pseqs _)]
    rw [List.append_assoc,← List.append_assoc (seqs _) (pseqs _)] at hn hnd
    exact (List.perm_middle.nodup_iff).2 (List.nodup_cons.2 ⟨hn,hnd⟩)
   ·have hq : seqOf (pageW r true) = none:=rfl
    rw [hq];exact hnd
 ·exact h
theorem FlashOk.wipe {f : List Block} (h : FlashOk f) {i : Nat} (hi : i < 4) (t : Bool) : FlashOk (wipeF f i t):=by
 obtain ⟨hl,hb⟩:=h.bl hi
 unfold wipeF
 rw [blockAt_get hl]
 split
 ·exact h
 ·rename_i hw
  obtain ⟨h1,h2,h3,h4,h5⟩:=blockB_iff.1 hb
  have hbl : ∀ st,(blank st).r = rec0:=fun _=>rfl
  refine ⟨by simpa using h.len,fun b hm=>?_,?_⟩
  ·rcases mem_set hm with hm | rfl
   ·exact h.blocks b hm
   ·refine blockB_iff.2 ⟨rfl,by dsimp only;omega,by dsimp only;omega,fun p hp=>?_,?_⟩
    ·obtain rfl:=List.eq_of_mem_replicate hp
     cases t <;> rfl
    ·cases t <;> rfl
  ·have hnd:=h.nd
   rw [seqs_at f i hl] at hnd
   rw [seqs_set f i hl]
   refine List.Nodup.sublist ?_ hnd
   refine List.Sublist.append (List.Sublist.refl _) (List.Sublist.append ?_ (List.Sublist.refl _))
   have : pseqs (List.replicate 4 (blank (tornSt t))) = []:=by cases t <;> rfl
   rw [this];exact List.nil_sublist _
structure StepOk (x : Step) : Prop where
 fit : Fit x
 r : x.kind = 3 → recOkB x.r = true
theorem StoreP.step {s : Store} (h : StoreP s) {x : Step} (hx : StepOk x) (t : Bool) : StoreP (doStep s x t):=by
 have hf:=flashOk_iff.1 h.flash
 unfold doStep
 by_cases h1 : x.kind = 1
 ·rw [if_pos h1];split
  ·exact h
  ·exact ⟨h.flash,by simp [h.disk]⟩
 ·have hb:=hx.fit.block h1
  rw [if_neg h1];split
  ·exact ⟨flashOk_iff.2 (hf.wipe (by omega) t),h.disk⟩
  ·split
   ·exact ⟨flashOk_iff.2 (hf.write (by omega) (hx.r ‹_›) t),h.disk⟩
   ·exact h
theorem StoreP.shape {s : Store} (h : StoreP s) : Shape s:=
 ⟨flashOk_len h.flash,fun b hb=>(flashOk_block h.flash hb).1,fun b hb=>by have:=flashOk_block h.flash hb;omega,h.disk⟩
theorem StoreP.all {xs : List Step} {s : Store} (h : StoreP s) (hx : ∀ x ∈ xs,StepOk x) : StoreP (doAll s xs):=
 foldl_inv (fun s x=>doStep s x false) StoreP xs s h fun s x hm hs=>hs.step (hx x hm) false
theorem StoreP.to {xs : List Step} {s : Store} (h : StoreP s) (hx : ∀ x ∈ xs,StepOk x) (cut : Int) (t : Bool) : StoreP (toSteps s xs cut t):=by
 have h1:=h.all (xs:=xs.take cut.toNat) fun x hm=>hx x (List.mem_of_mem_take hm)
 unfold toSteps
 split
 ·rename_i hc
  simp only [Bool.and_eq_true,decide_eq_true_eq] at hc
  have hl : cut.toNat < xs.length:=by omega
  rw [List.getElem?_eq_getElem hl]
  exact h1.step (hx _ (List.getElem_mem _)) true
 ·exact h1
theorem openScan_lt (f : List Block) : ∀ (rest : List Block) (i : Nat) (out : Int),i + rest.length = f.length → -1 ≤ out → out < f.length → (openScan f i out rest).2 = true → 0 ≤ (openScan f i out rest).1 ∧ (openScan f i out rest).1 < f.length
 | [],i,out,hl,h0,h1,h2=>by
  simp only [openScan,decide_eq_true_eq] at h2 ⊢
  split <;> omega
 | b :: rest,i,out,hl,h0,h1,h2=>by
  simp only [List.length_cons] at hl
  rw [openScan] at h2 ⊢
  split
  ·dsimp only;omega
  ·rename_i hc
   rw [if_neg hc] at h2
   refine openScan_lt f rest (i + 1) _ (by omega) ?_ ?_ h2
   ·unfold openStep;split <;> omega
   ·unfold openStep;split <;> omega
theorem openB_lt {f : List Block} (h : (openB f).2 = true) : 0 ≤ (openB f).1 ∧ (openB f).1 < f.length:=openScan_lt f f 0 (-1) (by simp) (by omega) (by omega) h
theorem liveP_ok {f : List Block} (h : FlashOk f) {b : Block} (hb : b ∈ f) {p : Page} (hp : p ∈ b.pages) (hl : p.state = 1) : recOkB p.r = true:=by
 have:=(blockB_iff.1 (h.blocks b hb)).2.2.2.1 p hp
 unfold pageOkB at this
 rwa [if_pos hl] at this
theorem recOkB_iff {r : Rec} : recOkB r = true ↔ (1 ≤ r.kind ∧ r.kind ≤ 2) ∧ (1 ≤ r.seq ∧ r.seq ≤ 600) ∧ (1 ≤ r.addr ∧ r.addr ≤ 6) ∧ (0 ≤ r.val ∧ r.val ≤ 9):=by
 simp only [recOkB,Bool.and_eq_true,inB_iff,and_assoc]
theorem roomSteps_ok {f : List Block} (h : FlashOk f) {b : Block} (hb : b ∈ f) : ∀ x ∈ roomSteps f b.pages,StepOk x ∧ x.kind = 1:=by
 intro x hx
 obtain ⟨p,hp,hm⟩:=List.mem_flatMap.1 hx
 unfold roomOne at hm
 split at hm
 ·rename_i hc
  obtain rfl:=List.mem_singleton.1 hm
  have h1 : p.state = 1:=by have:=hc.1;simp only [liveP,Bool.and_eq_true,beq_iff_eq] at this;exact this.1
  have hr:=recOkB_iff.1 (liveP_ok h hb hp h1)
  exact ⟨⟨⟨fun _=>hr.2.2.1,fun h=>absurd rfl h⟩,fun h=>(by cases h)⟩,rfl⟩
 ·cases hm
theorem room_block {f : List Block} (h : FlashOk f) : 0 ≤ (room f).2.1 ∧ (room f).2.1 ≤ 3:=by
 have h4:=h.len
 unfold room
 split
 ·rename_i hc;have:=openB_lt hc;dsimp only;omega
 ·have:=old_lt (f:=f) (by omega);dsimp only;omega
theorem room_ok {f : List Block} (h : FlashOk f) : ∀ x ∈ (room f).1,StepOk x:=by
 have h4:=h.len
 unfold room
 split
 ·intro x hx;cases hx
 ·have ho:=old_lt (f:=f) (by omega)
  intro x hx
  rcases List.mem_append.1 hx with hx | hx
  ·exact (roomSteps_ok h (blockAt_mem ho) x hx).1
  ·obtain rfl:=List.mem_singleton.1 hx
   exact ⟨⟨fun h=>(by cases h),fun _=>by dsimp only;omega⟩,fun h=>(by cases h)⟩
theorem write_ok {f : List Block} (h : FlashOk f) (kind addr val : Int) : ∀ x ∈ writeSteps f kind addr val,StepOk x:=by
 unfold writeSteps
 split
 ·rename_i hc
  simp only [Bool.and_eq_true] at hc
  intro x hx
  rcases List.mem_append.1 hx with hx | hx
  ·exact room_ok h x hx
  ·obtain rfl:=List.mem_singleton.1 hx
   exact ⟨⟨fun h=>(by cases h),fun _=>room_block h⟩,fun _=>hc.2⟩
 ·intro x hx;cases hx
theorem flush_ok {s : Store} (h : FlashOk s.flash) {n : Nat} (hn : n < 6) : ∀ x ∈ flushSteps s n,StepOk x:=by
 unfold flushSteps
 split
 ·split
  ·intro x hx;cases hx
  ·intro x hx
   rcases List.mem_cons.1 hx with rfl | hx
   ·exact ⟨⟨fun _=>by dsimp only;omega,fun h=>absurd rfl h⟩,fun h=>(by cases h)⟩
   ·exact write_ok h _ _ _ x hx
 ·intro x hx;cases hx
theorem fill_ok {s : Store} (h : FlashOk s.flash) (n : Nat) : ∀ x ∈ fillSteps s n,StepOk x:=by
 unfold fillSteps
 split
 ·intro x hx;cases hx
 ·exact write_ok h _ _ _
theorem addrStep_ok {g : Nat → List Step} (h : ∀ n,n < 6 → ∀ x ∈ g n,StepOk x) (a : Int) : ∀ x ∈ addrStep g a,StepOk x:=by
 unfold addrStep
 split
 ·rename_i hc;have:=inB_iff.1 hc;exact h _ (by omega)
 ·intro x hx;cases hx
theorem play_ok {s : Store} (h : FlashOk s.flash) (e : Event) : ∀ x ∈ playSteps s e,StepOk x:=by
 unfold playSteps putSteps
 split
 ·exact write_ok h _ _ _
 ·split
  ·exact addrStep_ok (fun n hn=>flush_ok h hn) _
  ·split
   ·exact addrStep_ok (fun n _=>fill_ok h n) _
   ·intro x hx;cases hx
end Go.Bu
namespace Go.Plan
open Go Go.RowKit
abbrev Rnd (l : Nat) : Fence:=Fence.wide.inRound l
def noDefer (ops : Array Oper) : Bool:=ops.toList.all fun o=>match o.op with | .defer _=>false | _=>true
theorem rows_in {P : Program} {l n : Nat} {row : String} {args : Array Value} {w : World} {R : Value → World → Prop} (h : Rows P row args w R) : RowsIn (Rnd l) n P row args w R:=fun c cs _=>by
 obtain ⟨v,w',hR,hs⟩:=h c cs
 exact ⟨v,w',hR,stepsIn_wide.2 hs⟩
theorem calls_in {P : Program} {l n : Nat} {f : FuncId} {args : Array Value} {w : World} {R : Ending → World → Prop} (h : Calls P f args w R) : CallsIn (Rnd l) n P f args w R:=CallsIn.inRound l (callsIn_wide.2 h)
def QN (K : Act → World → Prop) : Exit → Act → World → Prop
 | .normal,a,w=>K a w
 | _,_,_=>False
theorem qn_mk {K : Act → World → Prop} {a : Act} {w : World} (h : K a w) : QN K .normal a w:=h
theorem qn_out {K : Act → World → Prop} : ¬ LetsOut (QN K):=fun ⟨_,_,h⟩=>h
theorem oper_in {P : Program} {l n : Nat} {o : Oper} {a : Act} {w : World} {K K' : Act → World → Prop} {K0 : Act → World → Prop} {Q : Exit → Act → World → Prop} (hd : ∀ c,o.op ≠ .defer c) (hK : ∀ a w,K a w → K' a w)
  (h : o.wp P a w K (QN K0)) : o.wpIn (Rnd l) n P a w K' Q:=by
 refine ⟨fun _ _=>trivial,?_⟩
 rw [Oper.semAt_eq _ _ _ hd]
 unfold Oper.wp at h
 generalize (execOp a.eval o).run P w = r at *
 cases r with
 | ok x w' =>
  cases x <;> simp only [Oper.upon,Oper.uponIn] at h ⊢
  case value v=>exact hK _ _ h
  case skip=>exact hK _ _ h
  case defer d=>exact hK _ _ h
  case enter f args=>exact ⟨fun h=>(by cases h),calls_in (Calls.mono h fun e w'' he=>(by cases e <;> first | exact hK _ _ he | exact he.elim | exact (qn_out he).elim))⟩
  case row row args=>exact ⟨fun h=>(by cases h),rows_in (Rows.mono h fun _ _ he=>hK _ _ he)⟩
 | halt x w'=>cases x <;> simp only [Oper.upon,Oper.uponIn] at h ⊢ <;> exact h.elim
theorem any_in {P : Program} {l n : Nat} {md : Region.Mode} {ops : Array Oper} {Q : Exit → Act → World → Prop} (hd : noDefer ops = true) :
  ∀ (fuel : Nat) (listed : Array Bool) (a : Act) (w : World),wpAny P md ops (QN (Q .normal)) fuel listed a w → wpAnyIn (Rnd l) n P md ops Q fuel listed a w:=by
 intro fuel
 induction fuel with
 | zero=>exact fun _ _ _ h=>h
 | succ fuel ih =>
  intro listed a w h
  refine ⟨h.1,fun i hi=>?_⟩
  have h1:=h.2 i hi
  unfold wpOp at h1
  unfold wpOpIn
  cases ho : ops[i]? with
  | none=>rw [ho] at h1;exact ih _ _ _ h1
  | some o =>
   simp only [ho] at h1 ⊢
   have hdo : ∀ c,o.op ≠ .defer c:=fun c e=>by
    have hm : o ∈ ops.toList:=by
     obtain ⟨hl,rfl⟩:=Array.getElem?_eq_some_iff.1 ho
     simp
    have:=List.all_eq_true.1 hd o hm
    rw [e] at this;cases this
   by_cases hw : Region.wanted o (yielded ops a.tmps) = true
   ·rw [if_pos hw] at h1 ⊢
    exact oper_in hdo (fun a w h=>ih _ _ _ h) (h1.resolve_right fun h=>qn_out h.2)
   ·rw [if_neg hw] at h1 ⊢
    exact ⟨fun _ _=>trivial,ih _ _ _ h1⟩
section
variable {P : Program} {l : List Oper} {Q : Exit → Act → World → Prop} {lp n : Nat}
theorem wpIn_region_planM (ch heads : List Nat) (lates : Lates) (mid tail : List Nat) {id : Nat} {a : Act} {w : World} (hm : P.follows .mixedOrders = true)
  (hok : okPlanM l ch heads (lates.map (·.1)) mid tail = true) (hdf : noDefer l.toArray = true)
  (hlate : ∀ f ∈ lates,∃ o,l[f.1]? = some o ∧ ∀ (a : Act) (w : World),(execOp a.eval o).run P w = .ok (.value (f.2.2 w.heap.size)) (w.alloc f.2.1))
  (S : World → Prop) (hS : S w.drew) (hst : ∀ w w',S w → Ext w w' → S w') (C : World → Prop) (hC : C w.drew) (hstC : ∀ w w',C w → Ext w w' → C w')
  (h : Rob P l ch w.heap.size (FinM P l (QN (Q .normal)) w.heap.size lates mid tail) heads S C [] w.heap.size a) : (Code.region id l.toArray true).wpIn (Rnd lp) n P Q a w:=by
 obtain ⟨st,hSl,hT,hTo,hD⟩:=Static.of hok
 refine wpIn_region_any hm (any_in hdf _ _ _ _ ?_)
 have hun : ∀ i,¬ On (Array.replicate l.toArray.size false) i:=fun i=>by
  unfold On;simp [Array.getD_eq_getD_getElem?,Array.getElem?_replicate];split <;> simp
 refine rob_sound st hSl hT hTo hD hlate _ _ a w.drew [] heads S C [] w.heap.size a (fun _=>0) ?_ ⟨rfl,h,by simp,fun i o _ hi=>absurd hi (hun i),fun i hi=>(by cases hi),fun i _=>hun i,fun i _=>hun i,hst,hS,hstC,hC,Nat.le_refl _,Nat.le_refl _,fun p hp=>(by cases hp),rfl,rfl,fun t _=>rfl,fun f _ hf=>absurd hf (hun _),fun f _ g _ hf=>absurd hf (hun _)⟩
 unfold unl
 exact Nat.le_trans (List.length_filter_le _ _) (by simp)
theorem wpIn_region_ext (ch heads : List Nat) (lates : Lates) (tail : List Nat) {id : Nat} {a : Act} {w : World} (hm : P.follows .mixedOrders = true)
  (hok : okPlan l ch heads (lates.map (·.1)) tail = true) (hdf : noDefer l.toArray = true)
  (hlate : ∀ f ∈ lates,∃ o,l[f.1]? = some o ∧ ∀ (a : Act) (w : World),(execOp a.eval o).run P w = .ok (.value (f.2.2 w.heap.size)) (w.alloc f.2.1))
  (h : Rob P l ch w.heap.size (Fin P l (QN (Q .normal)) w.heap.size lates tail) heads (Ext w) (fun _=>True) [] w.heap.size a) : (Code.region id l.toArray true).wpIn (Rnd lp) n P Q a w:=
 wpIn_region_planM ch heads lates [] tail hm hok hdf hlate (Ext w) (Below.refl _ _).drew (fun _ _ h1 h2=>ext_trans h1 h2) (fun _=>True) trivial (fun _ _ _ _=>trivial) h
end
end Go.Plan
namespace Go.Bu
open Go Go.RowKit Go.Plan Go.Proofs Go.Shelf
attribute [local go_sem] Oper.semAt_some
abbrev Spot:=Nat × Nat × Page
def page0 : Page:=⟨0,⟨0,0,0,0⟩⟩
def spB (i : Nat) (ps : List Page) (k : Nat) : List Spot:=(List.range k).map fun j=>(i,j,ps.getD j page0)
def spF (f : List Block) (i : Nat) : List Spot:=(List.range i).flatMap fun a=>spB a ((f[a]?).getD ⟨[],0⟩).pages ((f[a]?).getD ⟨[],0⟩).pages.length
theorem spB_succ (i : Nat) (ps : List Page) (k : Nat) (h : k < ps.length) : spB i ps (k + 1) = spB i ps k ++ [(i,k,ps[k])]:=by
 unfold spB;rw [List.range_succ,List.map_append];simp [List.getElem?_eq_getElem h]
theorem spF_succ (f : List Block) (i : Nat) (h : i < f.length) : spF f (i + 1) = spF f i ++ spB i f[i].pages f[i].pages.length:=by
 unfold spF;rw [List.range_succ,List.flatMap_append];simp [List.getElem?_eq_getElem h]
theorem spF_len_succ (f : List Block) (i : Nat) (h : i < f.length) : (spF f (i + 1)).length = (spF f i).length + f[i].pages.length:=by rw [spF_succ f i h,List.length_append];simp [spB]
theorem spF_le (f : List Block) {i j : Nat} (h : i ≤ j) (hj : j ≤ f.length) : (spF f i).length ≤ (spF f j).length:=by
 induction j with
 | zero=>obtain rfl : i = 0:=by omega
         exact Nat.le_refl _
 | succ j ih =>
  by_cases hij : i = j + 1
  ·subst hij;exact Nat.le_refl _
  ·have:=ih (by omega) (by omega)
   rw [spF_len_succ f j (by omega)];omega
def encS (x : Spot) : Array Value:=#[.agg #[.int .i64 x.1,.int .i64 x.2.1],pageA x.2.2]
theorem eachPage_c (a : Option Addr) (n cap : Nat) (w : World) : Calls Tryz.prog 64 #[.slice a n cap] w fun e w'=>e = .returned (.func (.func 86) #[] #[.pointer (some ⟨w.heap.size,0,none⟩)]) ∧ w' = w.alloc (.cells #[.slice a n cap] 39):=by
 go_enter Tryz.func64,Tryz.ntmps64
 go_wp2
 go_ret
 exact ⟨rfl,rfl⟩
def InF (f : List Block) (x : Spot) : Prop:=∃ b,f[x.1]? = some b ∧ b.pages[x.2.1]? = some x.2.2
abbrev SpotIn (f : List Block):={ x : Spot // InF f x }
def KpD (D : Nat → Prop) (W W' : World) : Prop:=W.heap.size ≤ W'.heap.size ∧ Same D W W'
theorem KpD.trans {D : Nat → Prop} {a b c : World} (h : KpD D a b) (k : KpD D b c) : KpD D a c:=⟨Nat.le_trans h.1 k.1,fun i hi=>(k.2 i hi).trans (h.2 i hi)⟩
theorem KpD.of_below {D : Nat → Prop} {n : Nat} {a b : World} (h : Below n a b) (hD : ∀ i,D i → i < n) : KpD D a b:=⟨h.size,fun i hi=>h.block i (hD i hi)⟩
theorem KpD.of_chg {D : Nat → Prop} {L : List Nat} {a b : World} (h : Chg L a b) (hD : ∀ i,D i → i < a.heap.size ∧ i ∉ L) : KpD D a b:=⟨h.size,fun i hi=>h.block i (hD i hi).1 (hD i hi).2⟩
theorem KpD.put {D : Nat → Prop} {w : World} (hD : ∀ i,D i → i < w.heap.size) (W : World) (l : Nat) (o o' : Obj) (hl : w.heap.size ≤ l) : KpD D W (W.putObj l o'):=
 ⟨by simp,fun i hi=>World.putObj_heap_other (fun e=>by have:=hD i hi;omega)⟩
set_option maxRecDepth 20000 in
set_option maxHeartbeats 2000000 in
theorem each_stops (n : Nat) (hn : 1 ≤ n) (D : Nat → Prop) (B : Nat) (v : Value) (f : List Block) (w : World) (hB : w.cell? ⟨B,0,none⟩ = some v) (hDB : D B) (hD : ∀ i,D i → i < w.heap.size) (hf : Flash D w v f) (hl : f.length ≤ 1048576) (hp : ∀ b ∈ f,b.pages.length ≤ 1048576) :
  SeqStopsK Fence.wide n Tryz.prog 86 #[.pointer (some ⟨B,0,none⟩)] (fun x : SpotIn f=>encS x.1) (KpD D) (fun xs=>xs.map (·.1) = spF f f.length) (fun _=>True) (spF f f.length).length w:=by
 intro l J Jx W hW hJ hJx hY h0
 have HP:=Lib.hid hp
 have HY:=Lib.hid hY
 have HJ:=Lib.hid hJ
 have h00 : ∃ pre : List (SpotIn f),pre.map (·.1) = spF f 0 ∧ J pre W:=⟨[],rfl,h0⟩
 have H0:=Lib.hid h00
 clear hp hY hJ hJx h0 h00
 have hX0:=KpD.of_below hW hD
 have hBW : W.cell? ⟨B,0,none⟩ = some v:=by rw [cell_same hX0.2 hDB];exact hB
 have HX0:=Lib.hid hX0
 clear hX0 hW
 obtain ⟨a,cap,rfl⟩:=hf.form
 refine callsIn_of_wp Tryz.func86 rfl trivial ?_ rfl
 simp only [Tryz.ntmps86,List.size_toArray,List.length_cons,List.length_nil,Nat.reduceAdd,Nat.reduceSub,Array.replicate_succ,Array.replicate_zero,List.push_toArray,List.append_toArray,List.nil_append,List.cons_append]
 gi_wp2
 gi_loopw [9] (fun y wr=>∃ i : Nat,i ≤ f.length ∧ y = .int .i64 i ∧ Hid (∃ pre : List (SpotIn f),pre.map (·.1) = spF f i ∧ J pre wr) ∧ Hid (KpD D w wr)) (fun y _=>f.length - (intOf y).toNat)
 case atStart=>exact ⟨0,by omega,rfl,H0,HX0⟩
 case round =>
  clear H0 HX0 hBW
  obtain ⟨i,hi,rfl,HJi,HX⟩:=hrel
  by_cases hlt : i < f.length
  ·obtain ⟨b,o,pv,rfl,hb,hpp,e0,e1⟩:=Flash.at2 (Sl.same blockE_kept hf HX.out.2 (fun _ h=>h)) hlt
   obtain ⟨pa,pcap,rfl⟩:=hpp.form
   have hpl:=HP.out f[i] (List.getElem_mem _)
   have hJB : ∃ pre : List (SpotIn f),pre.map (·.1) = spF f i ++ spB i f[i].pages 0 ∧ J pre (wr.alloc (.cells #[.slice pa f[i].pages.length pcap,.int .i64 f[i].worn] 104)):=by
    obtain ⟨pre,h1,h2⟩:=HJi.out
    exact ⟨pre,by rw [show spB i f[i].pages 0 = [] from rfl,List.append_nil];exact h1,HJ.out _ _ _ none h2 (World.grownBy_alloc _ _ none) (fun r e=>by cases e)⟩
   have HJB:=Lib.hid hJB
   have hX2 : KpD D w (wr.alloc (.cells #[.slice pa f[i].pages.length pcap,.int .i64 f[i].worn] 104)):=HX.out.trans ⟨by simp,fun j hj=>alloc_get_old (Nat.lt_of_lt_of_le (hD j hj) HX.out.1)⟩
   have HX2:=Lib.hid hX2
   have HPP:=Lib.hid (Sl.same (plain_kept _) hpp (D':=D) (w':=wr) (fun _ _=>rfl) (fun _ h=>h))
   have HS:=Lib.hid HX.out.2
   clear hJB HJi HX hX2 hpp
   gi_wp2
   gi_loopw [17] (fun y wr2=>∃ k : Nat,k ≤ f[i].pages.length ∧ y = .int .i64 k ∧ Hid (∃ pre : List (SpotIn f),pre.map (·.1) = spF f i ++ spB i f[i].pages k ∧ J pre wr2) ∧ Hid (KpD D w wr2)) (fun y _=>f[i].pages.length - (intOf y).toNat)
   case atStart=>exact ⟨0,by omega,rfl,HJB,HX2⟩
   case round =>
    clear HJB HX2 e0 e1
    obtain ⟨k,hk,rfl,HJk,HX⟩:=hrel
    by_cases hkl : k < f[i].pages.length
    ·obtain ⟨b2,o2,rfl,hb2,q0,q1,q2,q3,q4⟩:=Pages.at5 (Sl.same (plain_kept _) HPP.out (D':=D) (w':=wr) (fun j hj=>(HX.out.2 j hj).trans (HS.out j hj).symm) (fun _ h=>h)) hkl
     have hlen : (spF f i ++ spB i f[i].pages k).length < (spF f f.length).length:=by
      have h1:=spF_len_succ f i hlt
      have h2:=spF_le f (i:=i + 1) (j:=f.length) (by omega) (Nat.le_refl _)
      rw [List.length_append];simp only [spB,List.length_map,List.length_range];omega
     obtain ⟨pre,hpre,hJp⟩:=HJk.out
     have hJP : J pre (wr.alloc (.cells (pageC f[i].pages[k]).toArray 102)):=HJ.out _ _ _ none hJp (World.grownBy_alloc _ _ none) (fun r e=>by cases e)
     obtain ⟨fn,tmps,assign,body,hy,hR⟩:=HY.out pre ⟨(i,k,f[i].pages[k]),⟨f[i],List.getElem?_eq_getElem hlt,List.getElem?_eq_getElem hkl⟩⟩ _ hJP (by rw [← List.length_map (·.1),hpre];exact hlen)
     have HR:=Lib.hid hR
     have HPRE : Hid ((pre ++ [⟨(i,k,f[i].pages[k]),⟨f[i],List.getElem?_eq_getElem hlt,List.getElem?_eq_getElem hkl⟩⟩] : List (SpotIn f)).map (·.1) = spF f i ++ spB i f[i].pages (k + 1)):=Lib.hid (by rw [List.map_append,hpre,spB_succ i _ k hkl];simp)
     have hXP : KpD D w (wr.alloc (.cells (pageC f[i].pages[k]).toArray 102)):=HX.out.trans ⟨by simp,fun j hj=>alloc_get_old (Nat.lt_of_lt_of_le (hD j hj) HX.out.1)⟩
     have HXP:=Lib.hid hXP
     clear hR hlen hJP hJp HJk hpre hXP HX
     dsimp only [encS] at hy
     gi_wp2
     refine HR.out.mono ?_
     rintro e W3 (⟨rfl,hJ3,hk3⟩ | ⟨rfl,hJx3⟩)
     ·have HX3:=Lib.hid (HXP.out.trans hk3)
      have HJ3 : Hid (∃ pre : List (SpotIn f),pre.map (·.1) = spF f i ++ spB i f[i].pages (k + 1) ∧ J pre W3):=Lib.hid ⟨_,HPRE.out,hJ3⟩
      clear HR hy HXP hJ3 hk3 HPRE
      gi_wp2
      exact ⟨⟨k + 1,by omega,by go_num,HJ3,HX3⟩,by simp [intOf];omega⟩
     ·clear HR hy HXP HPRE
      gi_wp2
      refine bodyPost_ret (results_none rfl _ _ _) rfl ?_
      exact ⟨⟨_,rfl⟩,.inr ⟨_,trivial,hJx3⟩⟩
    ·obtain rfl : k = f[i].pages.length:=by omega
     rw [← spF_succ f i hlt] at HJk
     gi_wp2
     exact ⟨⟨i + 1,by omega,by go_num,HJk,HX⟩,by simp [intOf];omega⟩
  ·obtain rfl : i = f.length:=by omega
   obtain ⟨pre,h1,h2⟩:=HJi.out
   gi_wp2
   go_end0
   exact ⟨⟨_,rfl⟩,.inl ⟨pre,h1,h2⟩⟩
end Go.Bu
namespace Go.Bu
open Go Go.RowKit Go.Plan Go.Proofs
set_option maxHeartbeats 400000 in
theorem freePages_c (pv : Value) (ps : List Page) (worn : Int) (w : World) (h : Pages (Old w) w pv ps) (hn : ps.length ≤ 1048576) :
  Calls Tryz.prog 106 #[.agg #[pv,.int .i64 worn]] w (Ret w (.int .i64 (cleanN ps))):=by
 obtain ⟨a,cap,rfl⟩:=h.form
 obtain ⟨A,hA⟩ : ∃ A,cleanN ps = A:=⟨_,rfl⟩
 rw [hA]
 unfold cleanN at hA
 have HA:=Lib.hid hA;clear hA
 go_enter Tryz.func106,Tryz.ntmps106
 have X0:=ext_refl w
 go_wp2
 go_loopw [3,9] (fun n y wr=>∃ (k : Nat) (m : Int),k ≤ ps.length ∧ y = .int .i64 k ∧ n = .int .i64 m ∧ 0 ≤ m ∧ m ≤ k ∧ Ext w wr ∧ Hid ((ps.drop k).foldl cleanStep m = A)) (fun _ y _=>ps.length - (intOf y).toNat)
 case atStart=>exact ⟨0,0,by omega,rfl,rfl,by omega,by omega,(by ((repeat (first | with_reducible (refine ext_set2 ?_ ?_);focus (first | exact Nat.le_refl _ | (dsimp only;omega) | (simp;omega)) | with_reducible refine ext_alloc2 ?_));with_reducible exact X0)),HA⟩
 case round =>
  obtain ⟨k,m,hk,rfl,rfl,hm0,hm1,hx,HR⟩:=hrel
  by_cases hlt : k < ps.length
  ·obtain ⟨b,o,rfl,hb,e0,e1,e2,e3,e4⟩:=(h.ext hx).at5 hlt
   rw [foldl_drop _ _ _ _ hlt] at HR
   go_wp2
   all_goals
    try simp only [beq_iff_eq,Bool.not_eq_true,beq_eq_false_iff_ne,ne_eq,bne_iff_ne,bne_eq_false_iff_eq,decide_eq_true_eq,decide_eq_false_iff_not] at *
    refine ⟨⟨k + 1,cleanStep m ps[k],by omega,by go_num,?_,?_,?_,(by ((repeat (first | with_reducible (refine ext_set2 ?_ ?_);focus (first | exact Nat.le_refl _ | (dsimp only;omega) | (simp;omega)) | with_reducible refine ext_alloc2 ?_));with_reducible exact hx)),HR⟩,by simp [intOf];omega⟩
    ·first | rw [cleanStep,if_pos (by assumption)] | rw [cleanStep,if_neg (by assumption)]
    ·unfold cleanStep;split <;> omega
    ·unfold cleanStep;split <;> omega
  ·obtain rfl : k = ps.length:=by omega
   rw [foldl_end] at HR
   have hr:=HR.out
   subst hr
   go_wp2
   go_ret
   exact ⟨rfl,(by ((repeat (first | with_reducible (refine ext_set2 ?_ ?_);focus (first | exact Nat.le_refl _ | (dsimp only;omega) | (simp;omega)) | with_reducible refine ext_alloc2 ?_));with_reducible exact hx))⟩
def partB (ps : List Page) : Bool:=decide (0 < cleanN ps) && decide (cleanN ps < 4)
theorem partlyUsed_c (pv : Value) (ps : List Page) (worn : Int) (w : World) (h : Pages (Old w) w pv ps) (hn : ps.length ≤ 1048576) :
  Calls Tryz.prog 85 #[.agg #[pv,.int .i64 worn]] w (Ret w (.bool (partB ps))):=by
 obtain ⟨a,cap,rfl⟩:=h.form
 obtain ⟨A,hA⟩ : ∃ A,cleanN ps = A:=⟨_,rfl⟩
 have hp : partB ps = (decide (0 < A) && decide (A < 4)):=by unfold partB;rw [hA]
 rw [hp]
 have HC : ∀ w',Ext w w' → Calls Tryz.prog 106 #[.agg #[.slice a ps.length cap,.int .i64 worn]] w' (Ret w' (.int .i64 A)):=fun w' hx=>hA ▸ freePages_c _ ps worn w' (h.ext hx) hn
 clear hp hA
 go_enter Tryz.func85,Tryz.ntmps85
 go_wp2_with fail
 refine (HC _ (ext_alloc (ext_refl _) _)).mono ?_;rintro e1 w1 ⟨rfl,hx1⟩
 have X1 : Ext w w1:=ext_trans (ext_alloc (ext_refl _) _) hx1
 go_wp2
 all_goals
  try simp only [beq_iff_eq,Bool.not_eq_true,beq_eq_false_iff_ne,ne_eq,bne_iff_ne,bne_eq_false_iff_eq,decide_eq_true_eq,decide_eq_false_iff_not] at *
  go_ret
  exact ⟨by simp [*];try omega,X1⟩
def freeScan : Bool → List Page → Bool
 | _,[]=>true
 | fr,p :: ps=>if fr && p.state != 0 then false else freeScan (p.state == 0) ps
def shapeB (ps : List Page) (worn : Int) : Bool:=ps.length == 4 && inB worn 0 200 && freeScan false ps
theorem freeScan_drop (fr : Bool) (ps : List Page) (k : Nat) (h : k < ps.length) : freeScan fr (ps.drop k) = if fr && ps[k].state != 0 then false else freeScan (ps[k].state == 0) (ps.drop (k + 1)):=by
 rw [List.drop_eq_getElem_cons h,freeScan]
set_option maxHeartbeats 400000 in
theorem blockShape_c (pv : Value) (ps : List Page) (worn : Int) (w : World) (h : Pages (Old w) w pv ps) (hn : ps.length ≤ 1048576) :
  Calls Tryz.prog 104 #[.agg #[pv,.int .i64 worn]] w (Ret w (.bool (shapeB ps worn))):=by
 obtain ⟨a,cap,rfl⟩:=h.form
 obtain ⟨A,hA⟩ : ∃ A,freeScan false ps = A:=⟨_,rfl⟩
 have X0:=ext_refl w
 by_cases h4 : ps.length = 4
 ·by_cases hw : 0 ≤ worn ∧ worn ≤ 200
  ·have hs : shapeB ps worn = A:=by unfold shapeB;rw [hA,h4,inB_iff.2 hw];rfl
   rw [hs]
   have HA : Hid (freeScan false (ps.drop 0) = A):=Lib.hid (by rw [List.drop_zero];exact hA)
   clear hs hA
   obtain ⟨hw0,hw1⟩:=hw
   go_enter Tryz.func104,Tryz.ntmps104
   go_wp2
   go_loopw [3,23] (fun n y wr=>∃ (k : Nat) (fr : Bool),k ≤ 4 ∧ y = .int .i64 k ∧ n = .bool fr ∧ Ext w wr ∧ Hid (freeScan fr (ps.drop k) = A)) (fun _ y _=>4 - (intOf y).toNat)
   case atStart=>exact ⟨0,false,by omega,rfl,rfl,(by ((repeat (first | with_reducible (refine ext_set2 ?_ ?_);focus (first | exact Nat.le_refl _ | (dsimp only;omega) | (simp;omega)) | with_reducible refine ext_alloc2 ?_));with_reducible exact X0)),HA⟩
   case round =>
    obtain ⟨k,fr,hk,rfl,rfl,hx,HR⟩:=hrel
    by_cases hlt : k < 4
    ·have hkl : k < ps.length:=by omega
     obtain ⟨b,o,rfl,hb,e0,e1,e2,e3,e4⟩:=(h.ext hx).at5 hkl
     rw [freeScan_drop _ _ _ hkl] at HR
     cases fr
     ·go_wp2
      refine ⟨⟨k + 1,ps[k].state == 0,by omega,by go_num,rfl,(by ((repeat (first | with_reducible (refine ext_set2 ?_ ?_);focus (first | exact Nat.le_refl _ | (dsimp only;omega) | (simp;omega)) | with_reducible refine ext_alloc2 ?_));with_reducible exact hx)),Lib.hid ?_⟩,by simp [intOf];omega⟩
      have hr:=HR.out
      simpa using hr
     ·go_wp2
      ·rename_i hst
       have hr:=HR.out
       rw [hst] at hr
       replace hr : false = A:=hr
       subst hr
       go_ret
       exact ⟨rfl,(by ((repeat (first | with_reducible (refine ext_set2 ?_ ?_);focus (first | exact Nat.le_refl _ | (dsimp only;omega) | (simp;omega)) | with_reducible refine ext_alloc2 ?_));with_reducible exact hx))⟩
      ·rename_i hst
       refine ⟨⟨k + 1,ps[k].state == 0,by omega,by go_num,rfl,(by ((repeat (first | with_reducible (refine ext_set2 ?_ ?_);focus (first | exact Nat.le_refl _ | (dsimp only;omega) | (simp;omega)) | with_reducible refine ext_alloc2 ?_));with_reducible exact hx)),Lib.hid ?_⟩,by simp [intOf];omega⟩
       have hr:=HR.out
       rw [hst] at hr
       simpa using hr
    ·obtain rfl : k = 4:=by omega
     have hr:=HR.out
     rw [← h4,List.drop_length] at hr
     subst hr
     go_wp2
     go_ret
     exact ⟨rfl,(by ((repeat (first | with_reducible (refine ext_set2 ?_ ?_);focus (first | exact Nat.le_refl _ | (dsimp only;omega) | (simp;omega)) | with_reducible refine ext_alloc2 ?_));with_reducible exact hx))⟩
  ·have hs : shapeB ps worn = false:=by unfold shapeB;rw [show inB worn 0 200 = false from inB_no.2 (by omega)];simp
   rw [hs]
   clear hA hs
   go_enter Tryz.func104,Tryz.ntmps104
   go_wp2
   all_goals
    try simp only [beq_iff_eq,Bool.not_eq_true,beq_eq_false_iff_ne,ne_eq,bne_iff_ne,bne_eq_false_iff_eq,decide_eq_true_eq,decide_eq_false_iff_not] at *
    first
    | (exfalso;omega)
    | (go_ret;exact ⟨rfl,(by ((repeat (first | with_reducible (refine ext_set2 ?_ ?_);focus (first | exact Nat.le_refl _ | (dsimp only;omega) | (simp;omega)) | with_reducible refine ext_alloc2 ?_));with_reducible exact X0))⟩)
 ·have hs : shapeB ps worn = false:=by unfold shapeB;simp [h4]
  rw [hs]
  clear hA hs
  go_enter Tryz.func104,Tryz.ntmps104
  go_wp2
  all_goals
   try simp only [beq_iff_eq,Bool.not_eq_true,beq_eq_false_iff_ne,ne_eq,bne_iff_ne,bne_eq_false_iff_eq,decide_eq_true_eq,decide_eq_false_iff_not] at *
   first
   | (exfalso;omega)
   | (go_ret;exact ⟨rfl,(by ((repeat (first | with_reducible (refine ext_set2 ?_ ?_);focus (first | exact Nat.le_refl _ | (dsimp only;omega) | (simp;omega)) | with_reducible refine ext_alloc2 ?_));with_reducible exact X0))⟩)
end Go.Bu
namespace Go.Bu
open Go Go.RowKit Go.Plan Go.Proofs
abbrev RV (v : Value) : Option (DataW Value × List MemPlace):=some (.held v,[])
def MapOf (P : Program) (k : TypeId) (w : World) (b n : Nat) (g : Int → Option Value) : Prop:=
 ∃ D : DataW Value,w.ownsMap P k RV b n D ∧ ∀ x : Int,(Lit.int .i64 x).wf = true → ∀ z,D.atKey (.int .i64 x) z = match g x with | some v=>.held v | none=>z
section
variable {P : Program} {k e t : TypeId} {w : World} {b n : Nat} {g : Int → Option Value}
theorem MapOf.lookup (h : MapOf P k w b n g) (hk : P.underlying k = some (.int .i64)) (ht : P.underlying t = some (.map k e)) {z : Value} (hz : (zeroValue e).run P w = .ok z w) {x : Int} (hx : (Lit.int .i64 x).wf = true) (c : Bool) :
  (Instr.lookup t (.map (some b)) (.int .i64 x) c).run P w = .ok (if c then .tuple #[(g x).getD z,.bool (g x).isSome] else (g x).getD z) w:=by
 obtain ⟨D,⟨es,clock,hb,F,hs,rfl⟩,hg⟩:=h
 have h1:=hg x hx .nil
 rcases Maps.fit_look c (Maps.int_keyed hk) ht hz hb F (Maps.keyOf_int_mk hk hx) with ⟨hrun,_,hat⟩ | ⟨e0,y,_,_,hrun,hR,hat,_⟩
 ·rw [hat] at h1
  cases hgx : g x with
  | none=>rw [hrun];rfl
  | some v=>rw [hgx] at h1;cases h1
 ·rw [hat] at h1
  obtain rfl:=Option.some.inj hR
  cases hgx : g x with
  | none=>rw [hgx] at h1;cases h1
  | some v =>
   rw [hgx] at h1
   injection h1 with h1
   subst h1
   rw [hrun];rfl
theorem MapOf.update (h : MapOf P k w b n g) (hk : P.underlying k = some (.int .i64)) (ht : P.underlying t = some (.map k e)) (hn : n < maxLen) {x : Int} (hx : (Lit.int .i64 x).wf = true) (v : Value) :
  ∃ w',(Instr.mapUpdate t (.map (some b)) (.int .i64 x) v).run P w = .ok () w' ∧ MapOf P k w' b (n + 1) (fun y=>if y = x then some v else g y) ∧ w.grownBy w' (some b):=by
 obtain ⟨D,hD,hg⟩:=h
 have hkey:=Maps.keyOf_int_mk (P:=P) hk hx
 obtain ⟨w',h1,h2,h3⟩:=hD.update (Maps.int_keyed hk) ht hn (val:=v) (d:=.held v) (ps:=[]) hkey rfl
 refine ⟨w',h1,⟨_,h2,fun y hy z=>?_⟩,h3⟩
 dsimp only
 by_cases hyx : y = x
 ·subst hyx
  rw [if_pos rfl]
  obtain ⟨es,clock,_,_,_,hd⟩:=hD
  exact Maps.atKey_put_same ⟨_,hd⟩ ((Maps.int_keyed hk).key hkey) _ _
 ·rw [if_neg hyx,Maps.atKey_put_other (by simp;exact hyx)]
  exact hg y hy z
theorem MapOf.kept {w' : World} {row : Option Nat} (h : MapOf P k w b n g) (hg : w.grownBy w' row) (hne : some b ≠ row) : MapOf P k w' b n g:=by
 obtain ⟨D,hD,h1⟩:=h
 exact ⟨D,hD.kept hg hne,h1⟩
theorem MapOf.alloc2 {o : Obj} (h : MapOf P k w b n g) : MapOf P k (w.alloc o) b n g:=h.kept (World.grownBy_alloc w o none) (by simp)
theorem MapOf.lt (h : MapOf P k w b n g) : b < w.heap.size:=by obtain ⟨D,⟨es,clock,hb,_⟩,_⟩:=h;exact heap_lt hb
theorem MapOf.chg {L : List Nat} {w' : World} (h : MapOf P k w b n g) (hx : Chg L w w') (hb : b ∉ L) : MapOf P k w' b n g:=by
 obtain ⟨D,⟨es,clock,hb',F,hs,hd⟩,h1⟩:=h
 exact ⟨D,⟨es,clock,by rw [hx.block b (heap_lt hb') hb];exact hb',F,hs,hd⟩,h1⟩
theorem MapOf.ext {w' : World} (h : MapOf P k w b n g) (hx : Ext w w') : MapOf P k w' b n g:=h.chg (L:=[]) (Chg.of_ext hx) (by simp)
theorem MapOf.made (P : Program) (k : TypeId) (w : World) : MapOf P k (w.alloc (.map #[] 0)) w.heap.size 0 (fun _=>none):=
 ⟨_,World.ownsMap_made w P k RV,fun x _ z=>rfl⟩
theorem wpList_mapUpd {ops : Array Oper} {rest : List Oper} {o : Oper} {a : Act} {Q : Exit → Act → World → Prop} (hg : o.guard = none) (m x v : Operand) (hop : o.op = Op.mapUpdate t m x v)
  (hk : P.underlying k = some (.int .i64)) (ht : P.underlying t = some (.map k e)) (hm : a.eval m = .map (some b)) (h : MapOf P k w b n g) (hn : n < maxLen) {y : Int} (hx : a.eval x = .int .i64 y) (hy : (Lit.int .i64 y).wf = true) {val : Value} (hv : a.eval v = val)
  (hK : ∀ w',MapOf P k w' b (n + 1) (fun z=>if z = y then some val else g z) → w.grownBy w' (some b) → wpList P ops Q rest (a.put o.dst undef) w') : wpList P ops Q (o :: rest) a w:=by
 refine wpList_plain hg fun K' hK'=>?_
 obtain ⟨w',hrun,r1,r2⟩:=h.update hk ht hn hy val
 unfold Oper.wp
 simp [execOp,hop,hm,hx,hv,hrun,Result.andThen]
 exact hK' _ _ (hK w' r1 r2)
end
theorem i64_wf {x : Int} (h0 : -9223372036854775808 ≤ x) (h1 : x ≤ 9223372036854775807) : (Lit.int .i64 x).wf = true:=by
 have h2 : IntKind.i64.min = -9223372036854775808:=by decide
 simp [Lit.wf,h2];omega
def metG (L : List Int) (x : Int) : Option Value:=if L.contains x then some (.int .i64 1) else none
theorem metG_cons (L : List Int) (x : Int) : (fun z=>if z = x then some (.int .i64 1) else metG L z) = metG (x :: L):=by
 funext z
 unfold metG
 by_cases h : z = x
 ·subst h;simp
 ·simp [h]
end Go.Bu
namespace Go.Bu
open Go Go.RowKit Go.Plan Go.Proofs
def scanQ (seen : List Int) : List Page → Option (List Int)
 | []=>some seen
 | p :: ps=>if !pageOkB p then none else if p.state != 1 then scanQ seen ps else if seen.contains p.r.seq then none else scanQ (p.r.seq :: seen) ps
def scanG (seen : List Int) : List Block → Option (List Int)
 | []=>some seen
 | b :: f=>if !shapeB b.pages b.worn then none else (scanQ seen b.pages).bind fun s=>scanG s f
theorem scanP_Q : ∀ (ps : List Page) (prev : Bool) (seen : List Int),scanP prev seen ps = if freeScan prev ps then scanQ seen ps else none
 | [],prev,seen=>by simp [scanP,freeScan,scanQ]
 | p :: ps,prev,seen=>by
  rw [scanP,freeScan,scanQ,scanP_Q ps]
  by_cases h1 : pageOkB p = true
  ·by_cases h3 : p.state = 1
   ·by_cases h4 : p.r.seq ∈ seen
    ·cases prev <;> simp [h1,h3,h4]
    ·cases prev <;> simp [h1,h3,h4]
   ·by_cases h5 : p.state = 0
    ·cases prev <;> simp [h1,h5]
    ·cases prev <;> simp [h1,h3,h5]
  ·cases prev <;> simp [h1]
theorem scanF_G : ∀ (f : List Block) (seen : List Int),scanF seen f = scanG seen f
 | [],seen=>rfl
 | b :: f,seen=>by
  rw [scanF,scanG,scanP_Q]
  unfold shapeB
  by_cases h1 : b.pages.length = 4
  ·by_cases h2 : inB b.worn 0 200 = true
   ·by_cases h3 : freeScan false b.pages = true
    ·simp [h1,h2,h3,scanF_G f]
    ·simp [h1,h2,h3]
   ·simp [h1,h2]
  ·simp [h1]
theorem flashOk_G (f : List Block) : flashOkB f = (f.length == 4 && (scanG [] f).isSome):=by unfold flashOkB;rw [scanF_G]
theorem scanG_drop (seen : List Int) (f : List Block) (k : Nat) (h : k < f.length) : scanG seen (f.drop k) = if !shapeB f[k].pages f[k].worn then none else (scanQ seen f[k].pages).bind fun s=>scanG s (f.drop (k + 1)):=by
 rw [List.drop_eq_getElem_cons h,scanG]
theorem scanQ_drop (seen : List Int) (ps : List Page) (k : Nat) (h : k < ps.length) : scanQ seen (ps.drop k) =
  if !pageOkB ps[k] then none else if ps[k].state != 1 then scanQ seen (ps.drop (k + 1)) else if seen.contains ps[k].r.seq then none else scanQ (ps[k].r.seq :: seen) (ps.drop (k + 1)):=by
 rw [List.drop_eq_getElem_cons h,scanQ]
theorem grown_ext {w w1 w2 : World} {ob : Option Nat} (h : Ext w w1) (hob : ∀ g,ob = some g → w.heap.size ≤ g) (hg : w1.grownBy w2 ob) : Ext w w2:=by
 refine ⟨hg.os.trans h.os,hg.tape.trans h.tape,hg.output.trans h.output,Nat.le_trans h.size hg.size,fun k hk=>?_⟩
 rw [hg.block k (Nat.lt_of_lt_of_le hk h.size) fun e=>by have:=hob k e.symm;omega];exact h.block k hk
set_option maxRecDepth 20000 in
set_option maxHeartbeats 2000000 in
theorem implFlashOk_c (v : Value) (f : List Block) (w : World) (h : Flash (Old w) w v f) (hp : ∀ b ∈ f,b.pages.length ≤ 1048576) :
  Calls Tryz.prog 83 #[v] w (Ret w (.bool (flashOkB f))):=by
 obtain ⟨a,cap,rfl⟩:=h.form
 have X0:=ext_refl w
 by_cases h4 : f.length = 4
 ·obtain ⟨A,hA⟩ : ∃ A,(scanG [] f).isSome = A:=⟨_,rfl⟩
  have hs : flashOkB f = A:=by rw [flashOk_G,hA,h4];rfl
  rw [hs]
  have HA : Hid ((scanG [] (f.drop 0)).isSome = A):=Lib.hid (by rw [List.drop_zero];exact hA)
  have HP:=Lib.hid hp
  rw [h4] at h ⊢
  have H40:=Lib.hid h4
  clear hs hA hp h4
  have hM:=MapOf.made Tryz.prog 3 w
  have hmm:=@run_makeMap Tryz.prog
  go_enter Tryz.func83,Tryz.ntmps83
  go_wp2
  clear hmm
  go_loopw [14] (fun y wr=>∃ (i : Nat) (L : List Int) (n : Nat),i ≤ 4 ∧ y = .int .i64 i ∧ n ≤ 4 * i ∧ Ext w wr ∧ MapOf Tryz.prog 3 wr w.heap.size n (metG L) ∧ Hid ((scanG L (f.drop i)).isSome = A)) (fun y _=>4 - (intOf y).toNat)
  case atStart=>exact ⟨0,[],0,by omega,rfl,by omega,by go_grown,hM,HA⟩
  case round =>
   clear hM HA
   obtain ⟨i,L,n,hi,rfl,hn,hX,HM,HR⟩:=hrel
   by_cases hlt : i < 4
   ·have hif : i < f.length:=by have:=H40.out;omega
    obtain ⟨b,o,pv,rfl,hb,hpp,h0,h1⟩:=h.at2 hif
    have hb' : b < w.heap.size:=hb
    obtain ⟨hc,hf⟩:=bcell hX
    obtain ⟨pa,pcap,rfl⟩:=hpp.form
    have hpl:=HP.out f[i] (List.getElem_mem _)
    rw [scanG_drop _ _ _ hif] at HR
    have HBS : ∀ w',Ext wr w' → Calls Tryz.prog 104 #[.agg #[.slice pa f[i].pages.length pcap,.int .i64 f[i].worn]] w' (Ret w' (.bool (shapeB f[i].pages f[i].worn))):=fun w' hx=>blockShape_c _ _ _ w' (hpp.ext (ext_trans hX hx)) hpl
    generalize hsh : shapeB f[i].pages f[i].worn = sh at *
    go_wp2_with fail
    refine (HBS _ (ext_alloc (ext_refl _) _)).mono ?_;rintro e1 w1 ⟨rfl,hx1⟩
    have G5:=keep_ext hx1 (hg_new (b:=wr.heap.size) rfl)
    have X1 : Ext wr w1:=ext_trans (ext_alloc (ext_refl _) _) hx1
    have l5:=heap_lt G5
    obtain ⟨g5,gf5⟩:=cellsK G5
    have HM1:=HM.ext X1
    have lm:=HM1.lt
    clear HBS h0 h1 hx1 HM hc hf
    cases sh
    ·have hr:=HR.out
     have hr : false = A:=hr
     subst hr
     go_wp2_with fail
     go_ret
     exact ⟨rfl,ext_trans hX X1⟩
    ·have h4p : f[i].pages.length = 4:=by
      simp only [shapeB,Bool.and_eq_true,beq_iff_eq] at hsh;exact hsh.1.1
     have HRR : Hid (((scanQ L (f[i].pages.drop 0)).bind fun s=>scanG s (f.drop (i + 1))).isSome = A):=by
      rw [List.drop_zero];exact HR
     have H4:=Lib.hid h4p
     rw [h4p] at hpp g5
     clear HR hsh h4p
     have XW:=ext_trans hX X1
     go_wp2_with fail
     go_loopw [24] (fun y wr2=>∃ (k : Nat) (L : List Int) (n : Nat),k ≤ 4 ∧ y = .int .i64 k ∧ n ≤ 4 * i + k ∧ Ext w wr2 ∧ MapOf Tryz.prog 3 wr2 w.heap.size n (metG L) ∧ Hid (((scanQ L (f[i].pages.drop k)).bind fun s=>scanG s (f.drop (i + 1))).isSome = A)) (fun y _=>4 - (intOf y).toNat)
     case atStart=>exact ⟨0,L,n,by omega,rfl,by omega,XW,HM1,HRR⟩
     case round =>
      clear XW HM1 HRR hX X1 l5 g5 gf5 G5 lm
      obtain ⟨k,L,n,hk,rfl,hn,hX,HM,HR⟩:=hrel
      obtain ⟨hc,hf⟩:=bcell hX
      by_cases hk4 : k < 4
      ·have hkl : k < f[i].pages.length:=by have:=H4.out;omega
       obtain ⟨b2,o2,rfl,hb2,e0,e1,e2,e3,e4⟩:=hpp.at5 hkl
       have hb2' : b2 < w.heap.size:=hb2
       rw [scanQ_drop _ _ _ hkl] at HR
       have HPS : ∀ w',Calls Tryz.prog 105 #[pageA f[i].pages[k]] w' (Ret w' (.bool (pageOkB f[i].pages[k]))):=fun w'=>implPageOk_c _ w'
       have hsq:=@pageOk_seq f[i].pages[k]
       generalize f[i].pages[k] = pg at *
       generalize hpo : pageOkB pg = po at *
       cases po
       ·have hr:=HR.out
        have hr : false = A:=hr
        subst hr
        go_wp2_with fail
        refine (HPS _).mono ?_;rintro e1 w2 ⟨rfl,hx2⟩
        have X2:=ext_trans (ext_alloc (ext_refl _) _) hx2
        go_wp2_with fail
        go_ret
        exact ⟨rfl,ext_trans hX X2⟩
       ·obtain ⟨hs0,hs1⟩:=hsq rfl
        have hwf:=i64_wf (x:=pg.r.seq) (by omega) (by omega)
        go_wp2_with fail
        refine (HPS _).mono ?_;rintro e1 w2 ⟨rfl,hx2⟩
        have G7:=keep_ext hx2 (hg_new (b:=wr.heap.size) rfl)
        have X2:=ext_trans (ext_alloc (ext_refl _) _) hx2
        have l7:=heap_lt G7
        obtain ⟨g7,gf7⟩:=cellsK G7
        have HM2:=HM.ext X2
        have hlk:=HM2.lookup (t:=157) Tryz.underlying3 Tryz.underlying157 (z:=.int .i64 0) (by rfl) hwf false
        have X3:=ext_trans hX X2
        clear HPS hx2 HM e0 e1 e2 e3 e4 hc hf
        by_cases hst : pg.state = 1
        ·by_cases hin : L.contains pg.r.seq = true
         ·have hr:=HR.out
          rw [if_neg (by simp),if_neg (by simp [hst]),if_pos hin] at hr
          have hr : false = A:=hr
          subst hr
          have hv : (metG L pg.r.seq).getD (.int .i64 0) = .int .i64 1:=by unfold metG;rw [if_pos hin];rfl
          rw [hv] at hlk
          simp only [Bool.false_eq_true,if_false] at hlk
          have hst1:=hst
          clear HR hv hin
          go_wp2_with fail
          go_ret
          exact ⟨rfl,X3⟩
         ·have hr:=HR.out
          rw [if_neg (by simp),if_neg (by simp [hst]),if_neg hin] at hr
          have HR2 : Hid (((scanQ (pg.r.seq :: L) (f[i].pages.drop (k + 1))).bind fun s=>scanG s (f.drop (i + 1))).isSome = A):=Lib.hid hr
          have hv : (metG L pg.r.seq).getD (.int .i64 0) = .int .i64 0:=by unfold metG;rw [if_neg hin];rfl
          rw [hv] at hlk
          simp only [Bool.false_eq_true,if_false] at hlk
          clear HR hv hin hr
          go_wp2_with (at_mapUpdate;refine wpList_mapUpd rfl _ _ _ rfl Tryz.underlying3 Tryz.underlying157 rfl HM2 (by unfold maxLen;omega) rfl hwf (val:=.int .i64 1) rfl (fun w5 hM5 hg5=>?_))
          rw [metG_cons] at hM5
          have X5:=grown_ext X3 (fun g hg=>by cases hg;exact Nat.le_refl _) hg5
          clear hlk
          go_wp2_with fail
          exact ⟨⟨k + 1,pg.r.seq :: L,n + 1,by omega,by go_num,by omega,X5,hM5,HR2⟩,by simp [intOf];omega⟩
        ·have hr:=HR.out
         rw [if_neg (by simp),if_pos (by simp [hst])] at hr
         have HR2:=Lib.hid hr
         clear HR hr hlk
         go_wp2_with fail
         go_roundw
         case rel=>exact ⟨k + 1,L,n,by omega,by go_num,by omega,X3,HM2,HR2⟩
         case measure=>simp [intOf];omega
      ·obtain rfl : k = 4:=by omega
       have hr:=HR.out
       rw [List.drop_eq_nil_of_le (by rw [H4.out];omega)] at hr
       have HR2 : Hid ((scanG L (f.drop (i + 1))).isSome = A):=Lib.hid hr
       clear hr HR
       go_wp2_with fail
       exact ⟨⟨i + 1,L,n,by omega,by go_num,by omega,hX,HM,HR2⟩,by simp [intOf];omega⟩
   ·obtain rfl : i = 4:=by omega
    have hr:=HR.out
    rw [List.drop_eq_nil_of_le (by rw [H40.out];omega)] at hr
    have hr : true = A:=hr
    subst hr
    go_wp2_with fail
    go_ret
    exact ⟨rfl,hX⟩
 ·have hs : flashOkB f = false:=by rw [flashOk_G];simp [h4]
  rw [hs]
  go_enter Tryz.func83,Tryz.ntmps83
  go_wp2
  all_goals
   try simp only [beq_iff_eq,Bool.not_eq_true,beq_eq_false_iff_ne,ne_eq,bne_iff_ne,bne_eq_false_iff_eq,decide_eq_true_eq,decide_eq_false_iff_not] at *
   first
   | (exfalso;omega)
   | (go_ret;exact ⟨rfl,X0⟩)
end Go.Bu
namespace Go.Bu
open Go Go.RowKit Go.Plan Go.Proofs Go.Shelf
attribute [local go_sem] Oper.semAt_some
abbrev Span:=Int × Int
def spanC (s : Span) : List Value:=[.int .i64 s.1,.int .i64 s.2]
def spanStep (s : Span) (p : Page) : Span:=if p.state = 1 then (if s.1 = 0 ∨ p.r.seq < s.1 then p.r.seq else s.1,if s.2 < p.r.seq then p.r.seq else s.2) else s
def spanAt (ss : List Span) (x : Spot) : List Span:=ss.set x.1 (spanStep (ss.getD x.1 (0,0)) x.2.2)
def spansL (xs : List Spot) : List Span:=xs.foldl spanAt [(0,0),(0,0),(0,0),(0,0)]
theorem spansL_snoc (xs : List Spot) (x : Spot) : spansL (xs ++ [x]) = spanAt (spansL xs) x:=by unfold spansL;rw [List.foldl_append];rfl
theorem spansL_len (xs : List Spot) : (spansL xs).length = 4:=by
 have : ∀ (xs : List Spot) (s : List Span),(xs.foldl spanAt s).length = s.length:=by
  intro xs;induction xs with
  | nil=>exact fun _=>rfl
  | cons x xs ih=>intro s;rw [List.foldl_cons,ih];simp [spanAt]
 exact this _ _
def spansOf (f : List Block) : List Span:=spansL (spF f f.length)
theorem cells_own {X Y : World} {row : Option Nat} {b T : Nat} {c : Array Value} {fr : Nat × Nat} {B : Nat} (h : X.heap[b]? = some (.cells c T fr)) (hg : X.grownBy Y row) (hr : ∀ r,row = some r → B ≤ r ∧ ∃ o : Obj,X.heap[r]? = some o ∧ o.isCells = false) : Y.heap[b]? = some (.cells c T fr):=by
 rw [hg.block b (heap_lt h) fun e=>?_]
 ·exact h
 ·obtain ⟨o,ho,hc⟩:=(hr b e.symm).2
  rw [h] at ho;cases ho;cases hc
theorem OwnAt.two' {T : TypeId} {w : World} {B o : Nat} {xs : List Span} (h : OwnAt 2 spanC T w B o xs) {k : Nat} (hk : k < xs.length) :
  w.cell? ⟨B,o + k * 2,none⟩ = some (.int .i64 xs[k].1) ∧ w.cell? ⟨B,o + k * 2 + 1,none⟩ = some (.int .i64 xs[k].2):=
 ⟨h.cell (List.getElem?_eq_getElem hk) (j:=0) rfl,h.cell (List.getElem?_eq_getElem hk) (j:=1) rfl⟩
theorem KeepsFrom.of_chg {B : Nat} {L : List Nat} {W W' : World} (h : Chg L W W') (hL : ∀ b ∈ L,b < B) : KeepsFrom B W W':=
 ⟨h.size,fun k o hB hk _=>h.keep hk fun hm=>by have:=hL k hm;omega⟩
theorem frozen_ext {w w' : World} (h : Ext w w') {b : Nat} (hb : b < w.heap.size) (j : Nat) : w'.frozen? ⟨b,j,none⟩ = w.frozen? ⟨b,j,none⟩:=(bcell h).2 b j hb
def SpansΦ (w : World) (ss : List Span) (e : Ending) (w' : World) : Prop:=∃ b,e = .returned (.slice (some ⟨b,0,none⟩) 4 4) ∧ Ext w w' ∧ w.heap.size ≤ b ∧ OwnAt 2 spanC 136 w' b 0 ss
set_option maxRecDepth 20000 in
set_option maxHeartbeats 4000000 in
theorem spansOf_c (v : Value) (f : List Block) (w : World) (h : Flash (Old w) w v f) (h4 : f.length = 4) (hp : ∀ b ∈ f,b.pages.length ≤ 1048576) (hs : ∀ b ∈ f,∀ p ∈ b.pages,0 ≤ p.r.seq ∧ p.r.seq ≤ 600) :
  Calls Tryz.prog 84 #[v] w (SpansΦ w (spansOf f)):=by
 obtain ⟨a,cap,rfl⟩:=h.form
 rw [h4] at h ⊢
 have H4:=Lib.hid h4
 have HP:=Lib.hid hp
 have HS:=Lib.hid hs
 clear hp hs h4
 have hmk : ∀ w : World,(Instr.makeSlice 133 (.int .i64 4) (.int .i64 4)).run Tryz.prog w = .ok (.slice (some ⟨w.heap.size,0,none⟩) 4 4) (w.alloc (.cells #[.int .i64 0,.int .i64 0,.int .i64 0,.int .i64 0,.int .i64 0,.int .i64 0,.int .i64 0,.int .i64 0] 136)):=fun w=>by kernel_rfl
 refine (callsIn_wide (n:=9)).1 ?_
 refine callsIn_of_wp_marks Tryz.func84 rfl trivial ?_ rfl
 simp only [Tryz.ntmps84,List.size_toArray,List.length_cons,List.length_nil,Nat.reduceAdd,Nat.reduceSub,Array.replicate_succ,Array.replicate_zero,List.push_toArray,List.append_toArray,List.nil_append,List.cons_append]
 gi_wp2_with (refine ⟨trivial,?_⟩;gi_at_call 64;refine (callsIn_wide.2 (eachPage_c _ _ _ _)).mono ?_;rintro e w' ⟨rfl,rfl⟩)
 clear hmk
 have XW : Ext w (((w.alloc (.cells #[.int .i64 0,.int .i64 0,.int .i64 0,.int .i64 0,.int .i64 0,.int .i64 0,.int .i64 0,.int .i64 0] 136)).alloc (.cells #[.slice (some ⟨w.heap.size,0,none⟩) 4 4] 133)).alloc (.cells #[.slice a 4 cap] 39)):=ext_alloc (ext_alloc (ext_alloc (ext_refl _) _) _) _
 obtain ⟨W0,hW0⟩ : ∃ W0,((w.alloc (.cells #[.int .i64 0,.int .i64 0,.int .i64 0,.int .i64 0,.int .i64 0,.int .i64 0,.int .i64 0,.int .i64 0] 136)).alloc (.cells #[.slice (some ⟨w.heap.size,0,none⟩) 4 4] 133)).alloc (.cells #[.slice a 4 cap] 39) = W0:=⟨_,rfl⟩
 have G0 : W0.heap[w.heap.size]? = some (.cells #[.int .i64 0,.int .i64 0,.int .i64 0,.int .i64 0,.int .i64 0,.int .i64 0,.int .i64 0,.int .i64 0] 136 (0,0)):=by rw [← hW0];exact hg_alloc (hg_alloc (hg_new rfl))
 have G1 : W0.heap[w.heap.size + 1]? = some (.cells #[.slice (some ⟨w.heap.size,0,none⟩) 4 4] 133 (0,0)):=by rw [← hW0];exact hg_alloc (hg_new (by simp))
 have G2 : W0.heap[w.heap.size + 2]? = some (.cells #[.slice a 4 cap] 39 (0,0)):=by rw [← hW0];exact hg_new (by simp)
 have hs0 : W0.heap.size = w.heap.size + 3:=by rw [← hW0];simp
 rw [hW0] at XW ⊢
 have HD : ∀ i,(i < w.heap.size ∨ i = w.heap.size + 2) → i < W0.heap.size:=fun i hi=>by omega
 have HS0:=Lib.hid hs0
 clear hs0 hW0
 refine wpIn_rangeFunc_ownH rfl (by omega) (gf:=86) (lb:=#[.pointer (some ⟨w.heap.size + 2,0,none⟩)]) rfl trivial (enters_of Tryz.func86 (by kernel_rfl) rfl)
  (each_stops 8 (by omega) (fun i=>i < w.heap.size ∨ i = w.heap.size + 2) (w.heap.size + 2) (.slice a 4 cap) f W0 (cell_block G2 0) (.inr rfl) HD (Sl.same blockE_kept h (same_old XW) (fun b hb=>.inl hb)) (by rw [H4.out];omega) HP.out)
  (fun h k=>h.trans k) (fun W l o o' hl _ _ _=>KpD.put HD W l o o' hl) (Below.refl _ _) (fun _=>rfl)
  (fun pre W=>OwnAt 2 spanC 136 W w.heap.size 0 (spansL (pre.map (·.1))) ∧ W.heap[w.heap.size + 1]? = some (.cells #[.slice (some ⟨w.heap.size,0,none⟩) 4 4] 133 (0,0)) ∧ Ext w W ∧ W0.heap.size ≤ W.heap.size)
  (fun _ _ _=>False) ?hI (fun _ _ _ _ _ h _ _=>h.elim) ?h0
  (fun x a' W=>∃ Bx By,W0.heap.size ≤ Bx ∧ W0.heap.size ≤ By ∧ W.heap[Bx]? = some (.cells #[.int .i64 x.1.1,.int .i64 x.1.2.1] 113 (0,0)) ∧ W.heap[By]? = some (.cells (pageC x.1.2.2).toArray 102 (0,0)) ∧
   a' = { tmps:=#[.slice a 4 cap,undef,.slice none 0 0,.pointer (some ⟨w.heap.size + 1,0,none⟩),.pointer (some ⟨Bx,0,none⟩),.pointer (some ⟨By,0,none⟩),undef,.slice a 4 cap,.int .i64 4,.slice (some ⟨w.heap.size,0,none⟩) 4 4,.slice a 4 cap,.func (.func 86) #[] #[.pointer (some ⟨w.heap.size + 2,0,none⟩)],.agg #[.int .i64 x.1.1,.int .i64 x.1.2.1],pageA x.1.2.2,undef,undef,undef,undef,undef,undef,undef,undef,undef,undef,undef,undef,undef,undef,undef,undef,undef,undef,undef,undef,undef,undef,undef,undef,undef,undef,undef,undef,undef,undef,undef,undef,undef,undef,undef,undef,undef,undef,undef,undef],defers:=[] })
  ?hAx ?assign ?body ?done ?stop
 case hI =>
  rintro s X Y row ⟨h1,h2,h3,h4⟩ hg hr
  have hx:=grown_ext h3 (fun g hg'=>by have:=(hr g hg').1;have:=XW.size;omega) hg
  exact ⟨h1.keep (hg.block _ h1.lt fun e=>by have:=(hr _ e.symm).1;have:=HS0.out;omega),cells_own h2 hg hr,hx,Nat.le_trans h4 hg.size⟩
 case h0 =>
  refine ⟨⟨_,G0,?_⟩,G1,XW,Nat.le_refl _⟩
  intro i x hi j u hu
  have hx : x = (0,0):=by
   have:=List.mem_of_getElem? hi
   simp [spansL] at this;exact this
  subst hx
  have hi4 : i < 4:=(List.getElem?_eq_some_iff.1 hi).1
  have hj2 : j < 2:=(List.getElem?_eq_some_iff.1 hu).1
  match i,hi4,j,hj2 with
  | 0,_,0,_=>exact hu
  | 0,_,1,_=>exact hu
  | 1,_,0,_=>exact hu
  | 1,_,1,_=>exact hu
  | 2,_,0,_=>exact hu
  | 2,_,1,_=>exact hu
  | 3,_,0,_=>exact hu
  | 3,_,1,_=>exact hu
 case hAx =>
  rintro x a' s X Y row ⟨Bx,By,h1,h2,h3,h4,h5⟩ hg hr
  exact ⟨Bx,By,h1,h2,cells_own h3 hg hr,cells_own h4 hg hr,h5⟩
 case stop=>rintro D c pre W _ _ h;exact h.elim
 case assign =>
  rintro l pre ⟨⟨i,j,p⟩,hin⟩ W K ⟨h1,h2,h3,h4⟩ hK
  simp only [encS]
  gi_wp2
  have hx : Ext W ((W.alloc (.cells #[.int .i64 i,.int .i64 j] 113)).alloc (.cells (pageC p).toArray 102)):=ext_alloc (ext_alloc (ext_refl _) _) _
  exact hK _ _ (((KeepsOthers.alloc _ _).trans (KeepsOthers.alloc _ _)).from _) (KpD.of_below hx fun b hb=>Nat.lt_of_lt_of_le (HD b hb) h4) ⟨h1.ext hx,keep_ext hx h2,ext_trans h3 hx,Nat.le_trans h4 hx.size⟩
   ⟨W.heap.size,W.heap.size + 1,h4,by omega,hg_alloc (hg_new rfl),hg_new (by simp),rfl⟩
 case done =>
  rintro D xs W hD hS ⟨h1,h2,h3,h4⟩ hK
  obtain ⟨g3,gf3⟩:=cellsK h2
  gi_wp2
  refine ⟨by simp,.inl ⟨_,_,rfl,run_takeDeferred hK,?_⟩⟩
  refine ⟨_,results_tmp rfl _ _ _,w.heap.size,rfl,?_,Nat.le_refl _,?_⟩
  ·exact grown_ext h3 (fun g hg=>by cases hg;have:=HS0.out;omega) (grownBy_putObj' W D _)
  ·rw [spansOf,← hS];exact h1.keep (World.putObj_heap_other (by have:=HS0.out;omega))
 case body =>
  rintro l pre ⟨⟨i,j,p⟩,hin⟩ a' W hl ⟨r,hr⟩ ⟨h1,h2,h3,h4⟩ ⟨Bx,By,hB1,hB2,g4,g5,rfl⟩ hlt
  have hi4 : i < 4:=by
   obtain ⟨b,hb,_⟩:=hin
   have:=(List.getElem?_eq_some_iff.1 hb).1
   have:=H4.out;omega
  have hsq : 0 ≤ p.r.seq ∧ p.r.seq ≤ 600:=by
   obtain ⟨b,hb,hp⟩:=hin
   exact HS.out b (List.mem_of_getElem? hb) p (List.mem_of_getElem? hp)
  have hss:=spansL_len (pre.map (·.1))
  have hsn:=spansL_snoc (pre.map (·.1)) (i,j,p)
  have HSN : Hid (spansL ((pre ++ [⟨(i,j,p),hin⟩] : List (SpotIn f)).map (·.1)) = spanAt (spansL (pre.map (·.1))) (i,j,p)):=Lib.hid (by rw [List.map_append];exact hsn)
  clear hsn
  generalize spansL (pre.map (·.1)) = ss at *
  dsimp only at g4 g5
  obtain ⟨q4,qf4⟩:=cellsK g4
  obtain ⟨q5,qf5⟩:=cellsK g5
  obtain ⟨q3,qf3⟩:=cellsK h2
  have lB:=h1.lt
  by_cases hst : p.state = 1
  ·obtain ⟨lo,hi,he⟩ : ∃ lo hi,ss[i]? = some (lo,hi):=⟨ss[i].1,ss[i].2,by rw [List.getElem?_eq_getElem (by omega)]⟩
   have c0 : W.cell? ⟨w.heap.size,i * 2,none⟩ = some (.int .i64 lo):=by simpa using h1.cell he (j:=0) rfl
   have c1 : W.cell? ⟨w.heap.size,i * 2 + 1,none⟩ = some (.int .i64 hi):=by simpa using h1.cell he (j:=1) rfl
   have cf:=h1.frozen
   have hin4 : Hid (InF f (i,j,p)):=Lib.hid hin
   have hneB : By ≠ w.heap.size:=by have:=HS0.out;omega
   have hset:=h1
   have H1:=Lib.hid h1
   have HSS:=Lib.hid hss
   clear h1 hset hss
   have hspan : spanAt ss (i,j,p) = ss.set i (if lo = 0 ∨ p.r.seq < lo then p.r.seq else lo,if hi < p.r.seq then p.r.seq else hi):=by
    unfold spanAt spanStep;rw [if_pos hst,List.getD_eq_getElem?_getD,he];rfl
   have HSPAN:=Lib.hid hspan
   clear hspan
   by_cases hz : lo = 0
   ·have hz' : (lo == 0) = true:=by simpa using hz
    gi_wp2
    refine wpIn_region_ext [] [0,1,2,3,4,5,6,7,8,9,10,11,12,13,14] [] [] (by kernel_rfl) (by kernel_rfl) (by kernel_rfl) ?late ?_
    case late=>exact fun f hf=>absurd hf List.not_mem_nil
    refine Rob.y (v:=?_) rfl rfl (fun w1 hx hH=>?_) ?_;rotate_left
    ·go_simp;first | done | rfl | exact (Bool.not_not _).symm
    simp only [Act.put,slA,slB,slC]
    refine Rob.y (v:=?_) rfl rfl (fun w1 hx hH=>?_) ?_;rotate_left
    ·(obtain ⟨q5,qf5⟩:=cellsK (keep_ext hx g5);have d0:=cell_ext hx c0;have d1:=cell_ext hx c1);go_simp;first | done | rfl
    simp only [Act.put,slA,slB,slC]
    refine Rob.y (v:=?_) rfl rfl (fun w1 hx hH=>?_) ?_;rotate_left
    ·go_simp;first | done | rfl | exact (Bool.not_not _).symm
    simp only [Act.put,slA,slB,slC]
    refine Rob.y (v:=?_) rfl rfl (fun w1 hx hH=>?_) ?_;rotate_left
    ·(obtain ⟨q5,qf5⟩:=cellsK (keep_ext hx g5);have d0:=cell_ext hx c0;have d1:=cell_ext hx c1);go_simp;first | done | rfl
    simp only [Act.put,slA,slB,slC]
    iterate 2
     refine Rob.y (v:=?_) rfl rfl (fun w1 hx hH=>?_) ?_;rotate_left
     ·go_simp;first | done | rfl | exact (Bool.not_not _).symm
     simp only [Act.put,slA,slB,slC]
    iterate 8
     refine Rob.no rfl rfl ?_
     simp only [Act.put,slA,slB,slC]
    refine Rob.y (v:=?_) rfl rfl (fun w1 hx hH=>?_) ?_;rotate_left
    ·go_simp;first | done | rfl | exact (Bool.not_not _).symm
    simp only [Act.put,slA,slB,slC]
    refine fin_nil (fun w1 hx _=>?_)
    refine qn_mk ?_
    obtain ⟨q5,qf5⟩:=cellsK (keep_ext hx g5)
    have d0:=cell_ext hx c0
    have df:=fun j=>(frozen_ext hx H1.out.lt j).trans (cf j)
    gi_wp2
    obtain ⟨w2,hw2⟩ : ∃ w2,(w1.setCell ⟨w.heap.size,i * 2,none⟩ (.int .i64 p.r.seq)) = w2:=⟨_,rfl⟩
    obtain ⟨lo2,hlo2⟩ : ∃ lo2,p.r.seq = lo2:=⟨_,rfl⟩
    have HSN2 : Hid (spanAt ss (i,j,p) = ss.set i (lo2,if hi < p.r.seq then p.r.seq else hi)):=Lib.hid (by rw [HSPAN.out,if_pos (show lo = 0 ∨ p.r.seq < lo by omega),hlo2])
    have H2 : OwnAt 2 spanC 136 w2 w.heap.size 0 (ss.set i (lo2,hi)):=by
     obtain ⟨hil,he'⟩:=List.getElem?_eq_some_iff.1 he
     have:=OwnAt.set1 (n:=2) (enc:=spanC) (fun _=>rfl) (H1.out.ext hx) (k:=i) hil (j:=0) (by omega) (.int .i64 p.r.seq) (p.r.seq,hi) (by rw [he'];rfl)
     rw [Nat.zero_add,Nat.add_zero,hw2,hlo2] at this
     exact this
    have hC2 : Chg [w.heap.size] W w2:=by rw [← hw2];exact (Chg.of_ext hx).set (p:=⟨w.heap.size,i * 2,none⟩) (.inl (by simp)) _
    rw [hw2]
    clear hw2 hx hlo2 d0 df HSPAN H1
    have GP : w2.heap[By]? = some (.cells (pageC p).toArray 102 (0,0)):=hC2.keep g5 (by simp;omega)
    have C1 : w2.cell? ⟨w.heap.size,i * 2 + 1,none⟩ = some (.int .i64 hi):=by simpa using H2.cell (x:=(lo2,hi)) (List.getElem?_set_self (by rw [HSS.out];exact hi4)) (j:=1) rfl
    have CF:=H2.frozen
    have HH2:=Lib.hid H2
    clear H2 c0 c1 cf q3 qf3 q4 qf4 q5 qf5 hsq
    gi_wp2
    refine wpIn_region_ext [] [0,1,2,3,4,5,6,7,8,9,10] [] [11] (by kernel_rfl) (by kernel_rfl) (by kernel_rfl) ?late ?_
    case late=>exact fun f hf=>absurd hf List.not_mem_nil
    iterate 2
     refine Rob.y (v:=?_) rfl rfl (fun w1 hx hH=>?_) ?_;rotate_left
     ·go_simp;first | done | rfl | exact (Bool.not_not _).symm
     simp only [Act.put,slA,slB,slC]
    refine Rob.y (v:=?_) rfl rfl (fun w1 hx hH=>?_) ?_;rotate_left
    ·(obtain ⟨q5,qf5⟩:=cellsK (keep_ext hx GP);have d1:=cell_ext hx C1);go_simp;first | done | rfl
    simp only [Act.put,slA,slB,slC]
    refine Rob.y (v:=?_) rfl rfl (fun w1 hx hH=>?_) ?_;rotate_left
    ·go_simp;first | done | rfl | exact (Bool.not_not _).symm
    simp only [Act.put,slA,slB,slC]
    refine Rob.y (v:=?_) rfl rfl (fun w1 hx hH=>?_) ?_;rotate_left
    ·(obtain ⟨q5,qf5⟩:=cellsK (keep_ext hx GP);have d1:=cell_ext hx C1);go_simp;first | done | rfl
    simp only [Act.put,slA,slB,slC]
    iterate 2
     refine Rob.y (v:=?_) rfl rfl (fun w1 hx hH=>?_) ?_;rotate_left
     ·go_simp;first | done | rfl | exact (Bool.not_not _).symm
     simp only [Act.put,slA,slB,slC]
    refine Rob.y (v:=?_) rfl rfl (fun w1 hx hH=>?_) ?_;rotate_left
    ·(obtain ⟨q5,qf5⟩:=cellsK (keep_ext hx GP);have d1:=cell_ext hx C1);go_simp;first | done | rfl
    simp only [Act.put,slA,slB,slC]
    refine Rob.y (v:=?_) rfl rfl (fun w1 hx hH=>?_) ?_;rotate_left
    ·go_simp;first | done | rfl | exact (Bool.not_not _).symm
    simp only [Act.put,slA,slB,slC]
    refine Rob.y (v:=?_) rfl rfl (fun w1 hx hH=>?_) ?_;rotate_left
    ·(obtain ⟨q5,qf5⟩:=cellsK (keep_ext hx GP);have d1:=cell_ext hx C1);go_simp;first | done | rfl
    simp only [Act.put,slA,slB,slC]
    refine Rob.y (v:=?_) rfl rfl (fun w1 hx hH=>?_) ?_;rotate_left
    ·go_simp;first | done | rfl | exact (Bool.not_not _).symm
    simp only [Act.put,slA,slB,slC]
    refine fin_tail (fun w3 hx3 _=>?_)
    simp only [dstOf,List.getElem?_cons_succ,List.getElem?_cons_zero,Option.bind_some,Act.put,slA,slB,slC,List.filterMap_cons,List.filterMap_nil]
    have CF3:=fun j=>(frozen_ext hx3 HH2.out.lt j).trans (CF j)
    have c3:=cell_ext hx3 C1
    refine wpList_plain rfl (fun K hK=>?_)
    go_simp
    refine hK _ _ ?_
    clear hK K
    refine wpList_nil ?_
    refine qn_mk ?_
    have H3:=HH2.out.ext hx3
    obtain ⟨hi2,hhi2⟩ : ∃ hi2,(if hi < p.r.seq then p.r.seq else hi) = hi2:=⟨_,rfl⟩
    rw [hhi2] at HSN2 ⊢
    have hC3:=(hC2.trans (Chg.of_ext hx3)).set (p:=⟨w.heap.size,i * 2 + 1,none⟩) (.inl (by simp)) (.int .i64 hi2)
    clear hhi2
    gi_wp2
    refine ⟨KeepsFrom.of_chg hC3 (by have:=HS0.out;simp;omega),KpD.of_chg hC3 (fun b hb=>⟨Nat.lt_of_lt_of_le (HD b hb) h4,by simp;omega⟩),?_,hC3.keep h2 (by simp),Chg.ext h3 hC3 (by simp),Nat.le_trans h4 hC3.size⟩
    rw [HSN.out]
    have hS:=OwnAt.set1 (n:=2) (enc:=spanC) (fun _=>rfl) H3 (k:=i) (by simp;rw [HSS.out];exact hi4) (j:=1) (by omega) (.int .i64 hi2) (lo2,hi2) (by simp [spanC])
    rw [Nat.zero_add,List.set_set] at hS
    rw [HSN2.out];exact hS
   ·have hz' : (lo == 0) = false:=by simpa using hz
    by_cases hlt2 : p.r.seq < lo
    ·gi_wp2
     refine wpIn_region_ext [] [0,1,2,3,4,5,6,7,8,9,10,11,12,13,14] [] [] (by kernel_rfl) (by kernel_rfl) (by kernel_rfl) ?late ?_
     case late=>exact fun f hf=>absurd hf List.not_mem_nil
     refine Rob.y (v:=?_) rfl rfl (fun w1 hx hH=>?_) ?_;rotate_left
     ·go_simp;first | done | rfl | exact (Bool.not_not _).symm
     simp only [Act.put,slA,slB,slC]
     refine Rob.y (v:=?_) rfl rfl (fun w1 hx hH=>?_) ?_;rotate_left
     ·(obtain ⟨q5,qf5⟩:=cellsK (keep_ext hx g5);have d0:=cell_ext hx c0;have d1:=cell_ext hx c1);go_simp;first | done | rfl
     simp only [Act.put,slA,slB,slC]
     refine Rob.y (v:=?_) rfl rfl (fun w1 hx hH=>?_) ?_;rotate_left
     ·go_simp;first | done | rfl | exact (Bool.not_not _).symm
     simp only [Act.put,slA,slB,slC]
     refine Rob.y (v:=?_) rfl rfl (fun w1 hx hH=>?_) ?_;rotate_left
     ·(obtain ⟨q5,qf5⟩:=cellsK (keep_ext hx g5);have d0:=cell_ext hx c0;have d1:=cell_ext hx c1);go_simp;first | done | rfl
     simp only [Act.put,slA,slB,slC]
     iterate 2
      refine Rob.y (v:=?_) rfl rfl (fun w1 hx hH=>?_) ?_;rotate_left
      ·go_simp;first | done | rfl | exact (Bool.not_not _).symm
      simp only [Act.put,slA,slB,slC]
     iterate 2
      refine Rob.yg (v:=?_) rfl rfl (fun w1 hx hH=>?_) ?_;rotate_left
      ·go_simp;first | done | rfl | exact (Bool.not_not _).symm
      simp only [Act.put,slA,slB,slC]
     refine Rob.yg (v:=?_) rfl rfl (fun w1 hx hH=>?_) ?_;rotate_left
     ·(obtain ⟨q5,qf5⟩:=cellsK (keep_ext hx g5);have d0:=cell_ext hx c0;have d1:=cell_ext hx c1);go_simp;first | done | rfl
     simp only [Act.put,slA,slB,slC]
     refine Rob.yg (v:=?_) rfl rfl (fun w1 hx hH=>?_) ?_;rotate_left
     ·go_simp;first | done | rfl | exact (Bool.not_not _).symm
     simp only [Act.put,slA,slB,slC]
     refine Rob.yg (v:=?_) rfl rfl (fun w1 hx hH=>?_) ?_;rotate_left
     ·(obtain ⟨q5,qf5⟩:=cellsK (keep_ext hx g5);have d0:=cell_ext hx c0;have d1:=cell_ext hx c1);go_simp;first | done | rfl
     simp only [Act.put,slA,slB,slC]
     refine Rob.yg (v:=?_) rfl rfl (fun w1 hx hH=>?_) ?_;rotate_left
     ·go_simp;first | done | rfl | exact (Bool.not_not _).symm
     simp only [Act.put,slA,slB,slC]
     refine Rob.yg (v:=?_) rfl rfl (fun w1 hx hH=>?_) ?_;rotate_left
     ·(obtain ⟨q5,qf5⟩:=cellsK (keep_ext hx g5);have d0:=cell_ext hx c0;have d1:=cell_ext hx c1);go_simp;first | done | rfl
     simp only [Act.put,slA,slB,slC]
     refine Rob.yg (v:=?_) rfl rfl (fun w1 hx hH=>?_) ?_;rotate_left
     ·go_simp;first | done | rfl | exact (Bool.not_not _).symm
     simp only [Act.put,slA,slB,slC]
     refine Rob.y (v:=?_) rfl rfl (fun w1 hx hH=>?_) ?_;rotate_left
     ·go_simp;first | done | rfl | exact (Bool.not_not _).symm
     simp only [Act.put,slA,slB,slC]
     refine fin_nil (fun w1 hx _=>?_)
     refine qn_mk ?_
     obtain ⟨q5,qf5⟩:=cellsK (keep_ext hx g5)
     have d0:=cell_ext hx c0
     have df:=fun j=>(frozen_ext hx H1.out.lt j).trans (cf j)
     gi_wp2
     obtain ⟨w2,hw2⟩ : ∃ w2,(w1.setCell ⟨w.heap.size,i * 2,none⟩ (.int .i64 p.r.seq)) = w2:=⟨_,rfl⟩
     obtain ⟨lo2,hlo2⟩ : ∃ lo2,p.r.seq = lo2:=⟨_,rfl⟩
     have HSN2 : Hid (spanAt ss (i,j,p) = ss.set i (lo2,if hi < p.r.seq then p.r.seq else hi)):=Lib.hid (by rw [HSPAN.out,if_pos (show lo = 0 ∨ p.r.seq < lo by omega),hlo2])
     have H2 : OwnAt 2 spanC 136 w2 w.heap.size 0 (ss.set i (lo2,hi)):=by
      obtain ⟨hil,he'⟩:=List.getElem?_eq_some_iff.1 he
      have:=OwnAt.set1 (n:=2) (enc:=spanC) (fun _=>rfl) (H1.out.ext hx) (k:=i) hil (j:=0) (by omega) (.int .i64 p.r.seq) (p.r.seq,hi) (by rw [he'];rfl)
      rw [Nat.zero_add,Nat.add_zero,hw2,hlo2] at this
      exact this
     have hC2 : Chg [w.heap.size] W w2:=by rw [← hw2];exact (Chg.of_ext hx).set (p:=⟨w.heap.size,i * 2,none⟩) (.inl (by simp)) _
     rw [hw2]
     clear hw2 hx hlo2 d0 df HSPAN H1
     have GP : w2.heap[By]? = some (.cells (pageC p).toArray 102 (0,0)):=hC2.keep g5 (by simp;omega)
     have C1 : w2.cell? ⟨w.heap.size,i * 2 + 1,none⟩ = some (.int .i64 hi):=by simpa using H2.cell (x:=(lo2,hi)) (List.getElem?_set_self (by rw [HSS.out];exact hi4)) (j:=1) rfl
     have CF:=H2.frozen
     have HH2:=Lib.hid H2
     clear H2 c0 c1 cf q3 qf3 q4 qf4 q5 qf5 hsq
     gi_wp2
     refine wpIn_region_ext [] [0,1,2,3,4,5,6,7,8,9,10] [] [11] (by kernel_rfl) (by kernel_rfl) (by kernel_rfl) ?late ?_
     case late=>exact fun f hf=>absurd hf List.not_mem_nil
     iterate 2
      refine Rob.y (v:=?_) rfl rfl (fun w1 hx hH=>?_) ?_;rotate_left
      ·go_simp;first | done | rfl | exact (Bool.not_not _).symm
      simp only [Act.put,slA,slB,slC]
     refine Rob.y (v:=?_) rfl rfl (fun w1 hx hH=>?_) ?_;rotate_left
     ·(obtain ⟨q5,qf5⟩:=cellsK (keep_ext hx GP);have d1:=cell_ext hx C1);go_simp;first | done | rfl
     simp only [Act.put,slA,slB,slC]
     refine Rob.y (v:=?_) rfl rfl (fun w1 hx hH=>?_) ?_;rotate_left
     ·go_simp;first | done | rfl | exact (Bool.not_not _).symm
     simp only [Act.put,slA,slB,slC]
     refine Rob.y (v:=?_) rfl rfl (fun w1 hx hH=>?_) ?_;rotate_left
     ·(obtain ⟨q5,qf5⟩:=cellsK (keep_ext hx GP);have d1:=cell_ext hx C1);go_simp;first | done | rfl
     simp only [Act.put,slA,slB,slC]
     iterate 2
      refine Rob.y (v:=?_) rfl rfl (fun w1 hx hH=>?_) ?_;rotate_left
      ·go_simp;first | done | rfl | exact (Bool.not_not _).symm
      simp only [Act.put,slA,slB,slC]
     refine Rob.y (v:=?_) rfl rfl (fun w1 hx hH=>?_) ?_;rotate_left
     ·(obtain ⟨q5,qf5⟩:=cellsK (keep_ext hx GP);have d1:=cell_ext hx C1);go_simp;first | done | rfl
     simp only [Act.put,slA,slB,slC]
     refine Rob.y (v:=?_) rfl rfl (fun w1 hx hH=>?_) ?_;rotate_left
     ·go_simp;first | done | rfl | exact (Bool.not_not _).symm
     simp only [Act.put,slA,slB,slC]
     refine Rob.y (v:=?_) rfl rfl (fun w1 hx hH=>?_) ?_;rotate_left
     ·(obtain ⟨q5,qf5⟩:=cellsK (keep_ext hx GP);have d1:=cell_ext hx C1);go_simp;first | done | rfl
     simp only [Act.put,slA,slB,slC]
     refine Rob.y (v:=?_) rfl rfl (fun w1 hx hH=>?_) ?_;rotate_left
     ·go_simp;first | done | rfl | exact (Bool.not_not _).symm
     simp only [Act.put,slA,slB,slC]
     refine fin_tail (fun w3 hx3 _=>?_)
     simp only [dstOf,List.getElem?_cons_succ,List.getElem?_cons_zero,Option.bind_some,Act.put,slA,slB,slC,List.filterMap_cons,List.filterMap_nil]
     have CF3:=fun j=>(frozen_ext hx3 HH2.out.lt j).trans (CF j)
     have c3:=cell_ext hx3 C1
     refine wpList_plain rfl (fun K hK=>?_)
     go_simp
     refine hK _ _ ?_
     clear hK K
     refine wpList_nil ?_
     refine qn_mk ?_
     have H3:=HH2.out.ext hx3
     obtain ⟨hi2,hhi2⟩ : ∃ hi2,(if hi < p.r.seq then p.r.seq else hi) = hi2:=⟨_,rfl⟩
     rw [hhi2] at HSN2 ⊢
     have hC3:=(hC2.trans (Chg.of_ext hx3)).set (p:=⟨w.heap.size,i * 2 + 1,none⟩) (.inl (by simp)) (.int .i64 hi2)
     clear hhi2
     gi_wp2
     refine ⟨KeepsFrom.of_chg hC3 (by have:=HS0.out;simp;omega),KpD.of_chg hC3 (fun b hb=>⟨Nat.lt_of_lt_of_le (HD b hb) h4,by simp;omega⟩),?_,hC3.keep h2 (by simp),Chg.ext h3 hC3 (by simp),Nat.le_trans h4 hC3.size⟩
     rw [HSN.out]
     have hS:=OwnAt.set1 (n:=2) (enc:=spanC) (fun _=>rfl) H3 (k:=i) (by simp;rw [HSS.out];exact hi4) (j:=1) (by omega) (.int .i64 hi2) (lo2,hi2) (by simp [spanC])
     rw [Nat.zero_add,List.set_set] at hS
     rw [HSN2.out];exact hS
    ·gi_wp2
     refine wpIn_region_ext [] [0,1,2,3,4,5,6,7,8,9,10,11,12,13,14] [] [] (by kernel_rfl) (by kernel_rfl) (by kernel_rfl) ?late ?_
     case late=>exact fun f hf=>absurd hf List.not_mem_nil
     refine Rob.y (v:=?_) rfl rfl (fun w1 hx hH=>?_) ?_;rotate_left
     ·go_simp;first | done | rfl | exact (Bool.not_not _).symm
     simp only [Act.put,slA,slB,slC]
     refine Rob.y (v:=?_) rfl rfl (fun w1 hx hH=>?_) ?_;rotate_left
     ·(obtain ⟨q5,qf5⟩:=cellsK (keep_ext hx g5);have d0:=cell_ext hx c0;have d1:=cell_ext hx c1);go_simp;first | done | rfl
     simp only [Act.put,slA,slB,slC]
     refine Rob.y (v:=?_) rfl rfl (fun w1 hx hH=>?_) ?_;rotate_left
     ·go_simp;first | done | rfl | exact (Bool.not_not _).symm
     simp only [Act.put,slA,slB,slC]
     refine Rob.y (v:=?_) rfl rfl (fun w1 hx hH=>?_) ?_;rotate_left
     ·(obtain ⟨q5,qf5⟩:=cellsK (keep_ext hx g5);have d0:=cell_ext hx c0;have d1:=cell_ext hx c1);go_simp;first | done | rfl
     simp only [Act.put,slA,slB,slC]
     iterate 2
      refine Rob.y (v:=?_) rfl rfl (fun w1 hx hH=>?_) ?_;rotate_left
      ·go_simp;first | done | rfl | exact (Bool.not_not _).symm
      simp only [Act.put,slA,slB,slC]
     iterate 2
      refine Rob.yg (v:=?_) rfl rfl (fun w1 hx hH=>?_) ?_;rotate_left
      ·go_simp;first | done | rfl | exact (Bool.not_not _).symm
      simp only [Act.put,slA,slB,slC]
     refine Rob.yg (v:=?_) rfl rfl (fun w1 hx hH=>?_) ?_;rotate_left
     ·(obtain ⟨q5,qf5⟩:=cellsK (keep_ext hx g5);have d0:=cell_ext hx c0;have d1:=cell_ext hx c1);go_simp;first | done | rfl
     simp only [Act.put,slA,slB,slC]
     refine Rob.yg (v:=?_) rfl rfl (fun w1 hx hH=>?_) ?_;rotate_left
     ·go_simp;first | done | rfl | exact (Bool.not_not _).symm
     simp only [Act.put,slA,slB,slC]
     refine Rob.yg (v:=?_) rfl rfl (fun w1 hx hH=>?_) ?_;rotate_left
     ·(obtain ⟨q5,qf5⟩:=cellsK (keep_ext hx g5);have d0:=cell_ext hx c0;have d1:=cell_ext hx c1);go_simp;first | done | rfl
     simp only [Act.put,slA,slB,slC]
     refine Rob.yg (v:=?_) rfl rfl (fun w1 hx hH=>?_) ?_;rotate_left
     ·go_simp;first | done | rfl | exact (Bool.not_not _).symm
     simp only [Act.put,slA,slB,slC]
     refine Rob.yg (v:=?_) rfl rfl (fun w1 hx hH=>?_) ?_;rotate_left
     ·(obtain ⟨q5,qf5⟩:=cellsK (keep_ext hx g5);have d0:=cell_ext hx c0;have d1:=cell_ext hx c1);go_simp;first | done | rfl
     simp only [Act.put,slA,slB,slC]
     refine Rob.yg (v:=?_) rfl rfl (fun w1 hx hH=>?_) ?_;rotate_left
     ·go_simp;first | done | rfl | exact (Bool.not_not _).symm
     simp only [Act.put,slA,slB,slC]
     refine Rob.y (v:=?_) rfl rfl (fun w1 hx hH=>?_) ?_;rotate_left
     ·go_simp;first | done | rfl | exact (Bool.not_not _).symm
     simp only [Act.put,slA,slB,slC]
     refine fin_nil (fun w1 hx _=>?_)
     refine qn_mk ?_
     obtain ⟨w2,hw2⟩ : ∃ w2,w1 = w2:=⟨_,rfl⟩
     obtain ⟨lo2,hlo2⟩ : ∃ lo2,lo = lo2:=⟨_,rfl⟩
     have HSN2 : Hid (spanAt ss (i,j,p) = ss.set i (lo2,if hi < p.r.seq then p.r.seq else hi)):=Lib.hid (by rw [HSPAN.out,if_neg (show ¬ (lo = 0 ∨ p.r.seq < lo) by omega),hlo2])
     have H2 : OwnAt 2 spanC 136 w2 w.heap.size 0 (ss.set i (lo2,hi)):=by
      rw [← hw2,← hlo2,show ss.set i (lo,hi) = ss by
       obtain ⟨hl,he'⟩:=List.getElem?_eq_some_iff.1 he
       rw [← he'];simp]
      exact H1.out.ext hx
     have hC2 : Chg [w.heap.size] W w2:=by rw [← hw2];exact Chg.of_ext hx
     gi_wp2
     rw [hw2]
     clear hw2 hx hlo2 HSPAN H1
     have GP : w2.heap[By]? = some (.cells (pageC p).toArray 102 (0,0)):=hC2.keep g5 (by simp;omega)
     have C1 : w2.cell? ⟨w.heap.size,i * 2 + 1,none⟩ = some (.int .i64 hi):=by simpa using H2.cell (x:=(lo2,hi)) (List.getElem?_set_self (by rw [HSS.out];exact hi4)) (j:=1) rfl
     have CF:=H2.frozen
     have HH2:=Lib.hid H2
     clear H2 c0 c1 cf q3 qf3 q4 qf4 q5 qf5 hsq
     gi_wp2
     refine wpIn_region_ext [] [0,1,2,3,4,5,6,7,8,9,10] [] [11] (by kernel_rfl) (by kernel_rfl) (by kernel_rfl) ?late ?_
     case late=>exact fun f hf=>absurd hf List.not_mem_nil
     iterate 2
      refine Rob.y (v:=?_) rfl rfl (fun w1 hx hH=>?_) ?_;rotate_left
      ·go_simp;first | done | rfl | exact (Bool.not_not _).symm
      simp only [Act.put,slA,slB,slC]
     refine Rob.y (v:=?_) rfl rfl (fun w1 hx hH=>?_) ?_;rotate_left
     ·(obtain ⟨q5,qf5⟩:=cellsK (keep_ext hx GP);have d1:=cell_ext hx C1);go_simp;first | done | rfl
     simp only [Act.put,slA,slB,slC]
     refine Rob.y (v:=?_) rfl rfl (fun w1 hx hH=>?_) ?_;rotate_left
     ·go_simp;first | done | rfl | exact (Bool.not_not _).symm
     simp only [Act.put,slA,slB,slC]
     refine Rob.y (v:=?_) rfl rfl (fun w1 hx hH=>?_) ?_;rotate_left
     ·(obtain ⟨q5,qf5⟩:=cellsK (keep_ext hx GP);have d1:=cell_ext hx C1);go_simp;first | done | rfl
     simp only [Act.put,slA,slB,slC]
     iterate 2
      refine Rob.y (v:=?_) rfl rfl (fun w1 hx hH=>?_) ?_;rotate_left
      ·go_simp;first | done | rfl | exact (Bool.not_not _).symm
      simp only [Act.put,slA,slB,slC]
     refine Rob.y (v:=?_) rfl rfl (fun w1 hx hH=>?_) ?_;rotate_left
     ·(obtain ⟨q5,qf5⟩:=cellsK (keep_ext hx GP);have d1:=cell_ext hx C1);go_simp;first | done | rfl
     simp only [Act.put,slA,slB,slC]
     refine Rob.y (v:=?_) rfl rfl (fun w1 hx hH=>?_) ?_;rotate_left
     ·go_simp;first | done | rfl | exact (Bool.not_not _).symm
     simp only [Act.put,slA,slB,slC]
     refine Rob.y (v:=?_) rfl rfl (fun w1 hx hH=>?_) ?_;rotate_left
     ·(obtain ⟨q5,qf5⟩:=cellsK (keep_ext hx GP);have d1:=cell_ext hx C1);go_simp;first | done | rfl
     simp only [Act.put,slA,slB,slC]
     refine Rob.y (v:=?_) rfl rfl (fun w1 hx hH=>?_) ?_;rotate_left
     ·go_simp;first | done | rfl | exact (Bool.not_not _).symm
     simp only [Act.put,slA,slB,slC]
     refine fin_tail (fun w3 hx3 _=>?_)
     simp only [dstOf,List.getElem?_cons_succ,List.getElem?_cons_zero,Option.bind_some,Act.put,slA,slB,slC,List.filterMap_cons,List.filterMap_nil]
     have CF3:=fun j=>(frozen_ext hx3 HH2.out.lt j).trans (CF j)
     have c3:=cell_ext hx3 C1
     refine wpList_plain rfl (fun K hK=>?_)
     go_simp
     refine hK _ _ ?_
     clear hK K
     refine wpList_nil ?_
     refine qn_mk ?_
     have H3:=HH2.out.ext hx3
     obtain ⟨hi2,hhi2⟩ : ∃ hi2,(if hi < p.r.seq then p.r.seq else hi) = hi2:=⟨_,rfl⟩
     rw [hhi2] at HSN2 ⊢
     have hC3:=(hC2.trans (Chg.of_ext hx3)).set (p:=⟨w.heap.size,i * 2 + 1,none⟩) (.inl (by simp)) (.int .i64 hi2)
     clear hhi2
     gi_wp2
     refine ⟨KeepsFrom.of_chg hC3 (by have:=HS0.out;simp;omega),KpD.of_chg hC3 (fun b hb=>⟨Nat.lt_of_lt_of_le (HD b hb) h4,by simp;omega⟩),?_,hC3.keep h2 (by simp),Chg.ext h3 hC3 (by simp),Nat.le_trans h4 hC3.size⟩
     rw [HSN.out]
     have hS:=OwnAt.set1 (n:=2) (enc:=spanC) (fun _=>rfl) H3 (k:=i) (by simp;rw [HSS.out];exact hi4) (j:=1) (by omega) (.int .i64 hi2) (lo2,hi2) (by simp [spanC])
     rw [Nat.zero_add,List.set_set] at hS
     rw [HSN2.out];exact hS
  ·gi_wp2
   refine ⟨(KeepsOthers.refl _).from _,⟨Nat.le_refl _,fun _ _=>rfl⟩,?_,h2,h3,h4⟩
   rw [HSN.out]
   unfold spanAt spanStep
   rw [if_neg hst]
   rw [show ss.set i (ss.getD i (0,0)) = ss by rw [List.getD_eq_getElem?_getD,List.getElem?_eq_getElem (by omega)];simp]
   exact h1
end Go.Bu
namespace Go.Bu
open Go Go.RowKit Go.Plan Go.Proofs
theorem pageOk_one {p : Page} (h : pageOkB p = true) : (p.state = 1 → 1 ≤ p.r.seq) ∧ (p.state ≠ 1 → p.r.seq = 0):=by
 unfold pageOkB at h
 by_cases hs : p.state = 1
 ·rw [if_pos hs] at h
  simp only [recOkB,Bool.and_eq_true,inB_iff] at h
  exact ⟨fun _=>by omega,fun h=>absurd hs h⟩
 ·rw [if_neg hs] at h
  simp only [recZ,Bool.and_eq_true,beq_iff_eq] at h
  exact ⟨fun h=>absurd h hs,fun _=>by omega⟩
theorem spanFold_eq : ∀ (ps : List Page) (lo hi : Int),(∀ p ∈ ps,pageOkB p = true) → 0 ≤ hi → ps.foldl spanStep (lo,hi) = (ps.foldl leastStep lo,ps.foldl mostStep hi)
 | [],_,_,_,_=>rfl
 | p :: ps,lo,hi,h,h0=>by
  have hp:=pageOk_one (h p (by simp))
  rw [List.foldl_cons,List.foldl_cons,List.foldl_cons]
  have e : spanStep (lo,hi) p = (leastStep lo p,mostStep hi p):=by
   unfold spanStep leastStep mostStep
   by_cases hs : p.state = 1
   ·have:=hp.1 hs
    rw [if_pos hs]
    by_cases h1 : lo = 0 ∨ p.r.seq < lo
    ·rw [if_pos (show (lo,hi).1 = 0 ∨ p.r.seq < (lo,hi).1 from h1),if_pos (show 0 < p.r.seq ∧ (lo = 0 ∨ p.r.seq < lo) from ⟨by omega,h1⟩)]
    ·rw [if_neg (show ¬ ((lo,hi).1 = 0 ∨ p.r.seq < (lo,hi).1) from h1),if_neg (show ¬ (0 < p.r.seq ∧ (lo = 0 ∨ p.r.seq < lo)) from fun h=>h1 h.2)]
   ·have:=hp.2 hs
    rw [if_neg hs,if_neg (show ¬ (0 < p.r.seq ∧ (lo = 0 ∨ p.r.seq < lo)) by omega),if_neg (show ¬ hi < p.r.seq by omega)]
  rw [e]
  exact spanFold_eq ps _ _ (fun q hq=>h q (by simp [hq])) (by unfold mostStep;split <;> omega)
theorem spB_fold (i : Nat) (ps : List Page) : ∀ (k : Nat),k ≤ ps.length → ∀ ss : List Span,i < ss.length → (spB i ps k).foldl spanAt ss = ss.set i ((ps.take k).foldl spanStep (ss.getD i (0,0))):=by
 intro k
 induction k with
 | zero =>
  intro _ ss hi
  simp [spB,List.getElem?_eq_getElem hi]
 | succ k ih =>
  intro hk ss hi
  rw [spB_succ i ps k (by omega),List.foldl_append,ih (by omega) ss hi,← take_snoc ps k (by omega),List.foldl_append]
  simp [spanAt,List.getElem?_eq_getElem hi,hi]
theorem four {α : Type} {f : List α} (h : f.length = 4) : ∃ a b c d,f = [a,b,c,d]:=by
 match f,h with
 | [a,b,c,d],_=>exact ⟨a,b,c,d,rfl⟩
theorem spansOf_eq {f : List Block} (h4 : f.length = 4) (hp : ∀ b ∈ f,∀ p ∈ b.pages,pageOkB p = true) : spansOf f = f.map fun b=>(least b.pages,most b.pages):=by
 obtain ⟨b0,b1,b2,b3,rfl⟩:=four h4
 have e : spF [b0,b1,b2,b3] 4 = spB 0 b0.pages b0.pages.length ++ (spB 1 b1.pages b1.pages.length ++ (spB 2 b2.pages b2.pages.length ++ (spB 3 b3.pages b3.pages.length ++ []))):=rfl
 have g : ∀ b ∈ [b0,b1,b2,b3],b.pages.foldl spanStep (0,0) = (least b.pages,most b.pages):=fun b hb=>spanFold_eq _ 0 0 (hp b hb) (by decide)
 have g0:=g b0 (by simp)
 have g1:=g b1 (by simp)
 have g2:=g b2 (by simp)
 have g3:=g b3 (by simp)
 unfold spansOf spansL
 rw [h4,e]
 simp only [List.foldl_append,List.append_nil]
 rw [spB_fold 0 _ _ (Nat.le_refl _) _ (by simp),spB_fold 1 _ _ (Nat.le_refl _) _ (by simp),spB_fold 2 _ _ (Nat.le_refl _) _ (by simp),spB_fold 3 _ _ (Nat.le_refl _) _ (by simp)]
 simp [g0,g1,g2,g3]
theorem most_mem : ∀ (ps : List Page) (n : Int),ps.foldl mostStep n = n ∨ ∃ p ∈ ps,p.r.seq = ps.foldl mostStep n
 | [],n=>.inl rfl
 | p :: ps,n=>by
  rw [List.foldl_cons]
  rcases most_mem ps (mostStep n p) with h | ⟨q,hq,h⟩
  ·rw [h];unfold mostStep
   split
   ·exact .inr ⟨p,by simp,rfl⟩
   ·exact .inl rfl
  ·exact .inr ⟨q,by simp [hq],h⟩
theorem least_mem : ∀ (ps : List Page) (n : Int),ps.foldl leastStep n = n ∨ ∃ p ∈ ps,p.r.seq = ps.foldl leastStep n
 | [],n=>.inl rfl
 | p :: ps,n=>by
  rw [List.foldl_cons]
  rcases least_mem ps (leastStep n p) with h | ⟨q,hq,h⟩
  ·rw [h];unfold leastStep
   split
   ·exact .inr ⟨p,by simp,rfl⟩
   ·exact .inl rfl
  ·exact .inr ⟨q,by simp [hq],h⟩
theorem FlashOk.apart {f : List Block} (h : FlashOk f) {i k : Nat} (hi : i < f.length) (hk : k < f.length) (hik : i ≠ k) {p q : Page} (hp : p ∈ f[i].pages) (hq : q ∈ f[k].pages) (h1 : p.state = 1) (h2 : q.state = 1) : p.r.seq ≠ q.r.seq:=by
 have key : ∀ {i k : Nat} (hi : i < f.length) (hk : k < f.length),i < k → ∀ {p q : Page},p ∈ f[i].pages → q ∈ f[k].pages → p.state = 1 → q.state = 1 → p.r.seq ≠ q.r.seq:=by
  intro i k hi hk hlt p q hp hq h1 h2 e
  have hn:=h.nd
  rw [seqs_at f i hi] at hn
  have hn2:=(List.nodup_append.1 (List.nodup_append.1 hn).2.1).2.2
  refine hn2 p.r.seq (mem_pseqs.2 ⟨p,hp,h1,rfl⟩) q.r.seq (mem_seqs.2 ⟨f[k],?_,q,hq,h2,rfl⟩) e
  rw [List.mem_iff_getElem?]
  exact ⟨k - (i + 1),by rw [List.getElem?_drop,show i + 1 + (k - (i + 1)) = k by omega];exact List.getElem?_eq_getElem hk⟩
 rcases Nat.lt_or_gt_of_ne hik with h' | h'
 ·exact key hi hk h' hp hq h1 h2
 ·exact fun e=>key hk hi h' hq hp h2 h1 e.symm
theorem FlashOk.pg {f : List Block} (h : FlashOk f) {b : Block} (hb : b ∈ f) : ∀ p ∈ b.pages,pageOkB p = true:=(blockB_iff.1 (h.blocks b hb)).2.2.2.1
theorem FlashOk.uniq {f : List Block} (h : FlashOk f) {i k : Nat} (hi : i < f.length) (hk : k < f.length) (hik : i ≠ k) (hm : 0 < most f[i].pages) : least f[k].pages ≠ most f[i].pages:=by
 intro e
 have hpi:=h.pg (List.getElem_mem hi)
 have hpk:=h.pg (List.getElem_mem hk)
 rcases most_mem f[i].pages 0 with h1 | ⟨p,hp,h1⟩
 ·have h1' : most f[i].pages = 0:=h1
  omega
 ·rcases least_mem f[k].pages 0 with h2 | ⟨q,hq,h2⟩
  ·have h2' : least f[k].pages = 0:=h2
   omega
  ·have h1' : p.r.seq = most f[i].pages:=h1
   have h2' : q.r.seq = least f[k].pages:=h2
   have s1 : p.state = 1:=Decidable.byContradiction fun hs=>by have:=(pageOk_one (hpi p hp)).2 hs;omega
   have s2 : q.state = 1:=Decidable.byContradiction fun hs=>by have:=(pageOk_one (hpk q hq)).2 hs;omega
   exact h.apart hi hk hik hp hq s1 s2 (by omega)
def ovl (a b : Span) : Bool:=decide (0 < a.2) && decide (0 < b.2) && decide (b.1 ≤ a.2) && decide (a.1 ≤ b.2)
def spn (ss : List Span) (i : Nat) : Span:=ss.getD i (0,0)
def newN (ss : List Span) (i : Nat) : Int:=(ss.take i).foldl (fun n s=>if n < s.2 then s.2 else n) 0
def okI (ss : List Span) (i : Nat) : Bool:=(List.range i).all fun k=>!ovl (spn ss i) (spn ss k)
def blk (f : List Block) (i : Nat) : Block:=f.getD i ⟨[],0⟩
def okP (f : List Block) (ss : List Span) (i : Nat) : Bool:=!(partB (blk f i).pages && decide (0 < (spn ss i).2) && decide ((spn ss i).2 < newN ss 4))
def cntP (f : List Block) (i : Nat) : Int:=((f.take i).filter fun b=>partB b.pages).length
def implOrderB (f : List Block) : Bool:=flashOkB f && ((List.range 4).all (okI (spansOf f)) && ((List.range 4).all (okP f (spansOf f)) && decide (cntP f 4 ≤ 1)))
theorem order_logic (m l : Nat → Int) (pt : Nat → Bool) (N c : Int) (hN : (∀ k,k < 4 → m k ≤ N) ∧ (N = 0 ∨ ∃ k,k < 4 ∧ N = m k)) (hc : c ≤ 1 ↔ ∀ i k,i < 4 → k < 4 → i ≠ k → ¬ (pt i = true ∧ pt k = true))
  (hu : ∀ i k,i < 4 → k < 4 → i ≠ k → 0 < m i → l k ≠ m i) :
  ((∀ i k,i < 4 → k < i → ¬ (0 < m i ∧ 0 < m k ∧ l k ≤ m i ∧ l i ≤ m k)) ∧ (∀ i,i < 4 → ¬ (pt i = true ∧ 0 < m i ∧ m i < N)) ∧ c ≤ 1) ↔
  ∀ i k,i < 4 → k < 4 → i ≠ k → ¬ (0 < m i ∧ 0 < m k ∧ l i < m k ∧ l k < m i) ∧ ¬ (pt i = true ∧ (pt k = true ∨ (0 < m i ∧ m i < m k))):=by
 rw [hc]
 constructor
 ·rintro ⟨h1,h2,h3⟩ i k hi hk hik
  refine ⟨fun ⟨a,b,c,d⟩=>?_,fun ⟨a,b⟩=>?_⟩
  ·rcases Nat.lt_or_gt_of_ne hik with h | h
   ·exact h1 k i hk h ⟨b,a,by omega,by omega⟩
   ·exact h1 i k hi h ⟨a,b,by omega,by omega⟩
  ·rcases b with b | ⟨b,d⟩
   ·exact h3 i k hi hk hik ⟨a,b⟩
   ·exact h2 i hi ⟨a,b,by have:=hN.1 k hk;omega⟩
 ·intro h
  refine ⟨fun i k hi hk ⟨a,b,c,d⟩=>?_,fun i hi ⟨a,b,c⟩=>?_,fun i k hi hk hik ⟨a,b⟩=>(h i k hi hk hik).2 ⟨a,.inl b⟩⟩
  ·have u1:=hu i k hi (by omega) (by omega) a
   have u2:=hu k i (by omega) hi (by omega) b
   exact (h i k hi (by omega) (by omega)).1 ⟨a,b,by omega,by omega⟩
  ·rcases hN.2 with h0 | ⟨k,hk,h0⟩
   ·omega
   ·have hik : i ≠ k:=fun e=>by subst e;omega
    exact (h i k hi hk hik).2 ⟨a,.inr ⟨b,by omega⟩⟩
theorem orderIn_iff (i : Nat) (a : Block) : ∀ (f : List Block) (k : Nat),orderIn i a k f = true ↔ ∀ j (h : j < f.length),badPair i (k + j) a f[j] = false
 | [],k=>by simp [orderIn]
 | b :: f,k=>by
  rw [orderIn]
  by_cases hb : badPair i k a b = true
  ·rw [if_pos hb]
   constructor
   ·intro h;cases h
   ·intro h
    have:=h 0 (by simp)
    simp [hb] at this
  ·rw [if_neg hb,orderIn_iff i a f (k + 1)]
   constructor
   ·intro h j hj
    cases j with
    | zero=>simpa using hb
    | succ j=>have:=h j (by simpa using hj);rw [show k + (j + 1) = k + 1 + j by omega];simpa using this
   ·intro h j hj
    have:=h (j + 1) (by simpa using hj)
    rw [show k + (j + 1) = k + 1 + j by omega] at this;simpa using this
theorem orderOut_iff (g : List Block) : ∀ (f : List Block) (i : Nat),orderOut g i f = true ↔ ∀ j (h : j < f.length),orderIn (i + j) f[j] 0 g = true
 | [],i=>by simp [orderOut]
 | a :: f,i=>by
  rw [orderOut,Bool.and_eq_true,orderOut_iff g f (i + 1)]
  constructor
  ·rintro ⟨h1,h2⟩ j hj
   cases j with
   | zero=>simpa using h1
   | succ j=>have:=h2 j (by simpa using hj);rw [show i + (j + 1) = i + 1 + j by omega];simpa using this
  ·intro h
   refine ⟨by have:=h 0 (by simp);simpa using this,fun j hj=>?_⟩
   have:=h (j + 1) (by simpa using hj)
   rw [show i + (j + 1) = i + 1 + j by omega] at this;simpa using this
theorem newN_max (ss : List Span) : ∀ (n : Int),(∀ s ∈ ss,s.2 ≤ ss.foldl (fun n s=>if n < s.2 then s.2 else n) n) ∧ n ≤ ss.foldl (fun n s=>if n < s.2 then s.2 else n) n ∧
  (ss.foldl (fun n s=>if n < s.2 then s.2 else n) n = n ∨ ∃ s ∈ ss,ss.foldl (fun n s=>if n < s.2 then s.2 else n) n = s.2):=by
 induction ss with
 | nil=>intro n;exact ⟨fun s hs=>(by cases hs),Int.le_refl _,.inl rfl⟩
 | cons x ss ih =>
  intro n
  rw [List.foldl_cons]
  obtain ⟨h1,h2,h3⟩:=ih (if n < x.2 then x.2 else n)
  generalize ss.foldl (fun n s=>if n < s.2 then s.2 else n) (if n < x.2 then x.2 else n) = r at *
  by_cases hx : n < x.2
  ·rw [if_pos hx] at h2 h3
   refine ⟨fun s hs=>?_,by omega,?_⟩
   ·rcases List.mem_cons.1 hs with rfl | hs
    ·exact h2
    ·exact h1 s hs
   ·rcases h3 with h3 | ⟨s,hs,h3⟩
    ·exact .inr ⟨x,by simp,h3⟩
    ·exact .inr ⟨s,by simp [hs],h3⟩
  ·rw [if_neg hx] at h2 h3
   refine ⟨fun s hs=>?_,by omega,?_⟩
   ·rcases List.mem_cons.1 hs with rfl | hs
    ·omega
    ·exact h1 s hs
   ·rcases h3 with h3 | ⟨s,hs,h3⟩
    ·exact .inl h3
    ·exact .inr ⟨s,by simp [hs],h3⟩
theorem okI_iff {ss : List Span} {i : Nat} : okI ss i = true ↔ ∀ k,k < i → ¬ (0 < (spn ss i).2 ∧ 0 < (spn ss k).2 ∧ (spn ss k).1 ≤ (spn ss i).2 ∧ (spn ss i).1 ≤ (spn ss k).2):=by
 unfold okI
 rw [List.all_eq_true]
 simp only [List.mem_range,Bool.not_eq_true',← Bool.not_eq_true,ovl,Bool.and_eq_true,decide_eq_true_eq,and_assoc]
theorem okP_iff {f : List Block} {ss : List Span} {i : Nat} : okP f ss i = true ↔ ¬ (partB (blk f i).pages = true ∧ 0 < (spn ss i).2 ∧ (spn ss i).2 < newN ss 4):=by
 unfold okP
 simp only [Bool.not_eq_true',← Bool.not_eq_true,Bool.and_eq_true,decide_eq_true_eq,and_assoc]
theorem badPair_iff {i k : Nat} {a b : Block} : badPair i k a b = false ↔ (i ≠ k → ¬ (0 < most a.pages ∧ 0 < most b.pages ∧ least a.pages < most b.pages ∧ least b.pages < most a.pages) ∧ ¬ (partB a.pages = true ∧ (partB b.pages = true ∨ (0 < most a.pages ∧ most a.pages < most b.pages)))):=by
 rw [← Bool.not_eq_true]
 unfold badPair partB
 simp only [Bool.or_eq_true,Bool.and_eq_true,decide_eq_true_eq]
 constructor
 ·intro h hik
  exact ⟨fun ⟨a,b,c,d⟩=>h (.inl ⟨⟨⟨⟨hik,a⟩,b⟩,c⟩,d⟩),fun ⟨⟨a,b⟩,c⟩=>h (.inr ⟨⟨⟨hik,a⟩,b⟩,c⟩)⟩
 ·rintro h (⟨⟨⟨⟨hik,a⟩,b⟩,c⟩,d⟩ | ⟨⟨⟨hik,a⟩,b⟩,c⟩)
  ·exact (h hik).1 ⟨a,b,c,d⟩
  ·exact (h hik).2 ⟨⟨a,b⟩,c⟩
theorem implOrder_eq (f : List Block) : implOrderB f = orderB f:=by
 unfold implOrderB orderB
 by_cases hf : flashOkB f = true
 ·rw [hf,Bool.true_and,Bool.true_and]
  have hF:=flashOk_iff.1 hf
  have h4:=hF.len
  have hsp:=spansOf_eq h4 (fun b hb=>hF.pg hb)
  have hm : ∀ i (hi : i < 4),spn (spansOf f) i = (least f[i].pages,most f[i].pages):=fun i hi=>by
   rw [hsp];unfold spn;rw [List.getD_eq_getElem?_getD,List.getElem?_map,List.getElem?_eq_getElem (by omega)];rfl
  have hb : ∀ i (hi : i < 4),blk f i = f[i]:=fun i hi=>by
   unfold blk;rw [List.getD_eq_getElem?_getD,List.getElem?_eq_getElem (by omega)];rfl
  have hlen : (spansOf f).length = 4:=spansL_len _
  have hnew:=newN_max (spansOf f) 0
  have hN4 : newN (spansOf f) 4 = (spansOf f).foldl (fun n s=>if n < s.2 then s.2 else n) 0:=by unfold newN;rw [← hlen,List.take_length]
  rw [← hN4] at hnew
  have L:=order_logic (fun i=>(spn (spansOf f) i).2) (fun i=>(spn (spansOf f) i).1) (fun i=>partB (blk f i).pages) (newN (spansOf f) 4) (cntP f 4)
   ⟨fun k hk=>by
    refine hnew.1 _ ?_
    show spn (spansOf f) k ∈ spansOf f
    unfold spn;rw [List.getD_eq_getElem?_getD,List.getElem?_eq_getElem (by omega)];exact List.getElem_mem _,
   by
    rcases hnew.2.2 with h | ⟨s,hs,h⟩
    ·exact .inl h
    ·obtain ⟨k,hk,rfl⟩:=List.getElem_of_mem hs
     exact .inr ⟨k,by omega,by rw [h];show _ = (spn (spansOf f) k).2;unfold spn;rw [List.getD_eq_getElem?_getD,List.getElem?_eq_getElem hk];rfl⟩⟩
   (by
    obtain ⟨b0,b1,b2,b3,rfl⟩:=four h4
    have e : ∀ (P : Nat → Nat → Prop),(∀ i k,i < 4 → k < 4 → i ≠ k → P i k) ↔ (P 0 1 ∧ P 0 2 ∧ P 0 3 ∧ P 1 0 ∧ P 1 2 ∧ P 1 3 ∧ P 2 0 ∧ P 2 1 ∧ P 2 3 ∧ P 3 0 ∧ P 3 1 ∧ P 3 2):=by
     intro P
     constructor
     ·intro h;exact ⟨h 0 1 (by omega) (by omega) (by omega),h 0 2 (by omega) (by omega) (by omega),h 0 3 (by omega) (by omega) (by omega),h 1 0 (by omega) (by omega) (by omega),h 1 2 (by omega) (by omega) (by omega),h 1 3 (by omega) (by omega) (by omega),
       h 2 0 (by omega) (by omega) (by omega),h 2 1 (by omega) (by omega) (by omega),h 2 3 (by omega) (by omega) (by omega),h 3 0 (by omega) (by omega) (by omega),h 3 1 (by omega) (by omega) (by omega),h 3 2 (by omega) (by omega) (by omega)⟩
     ·rintro ⟨a01,a02,a03,a10,a12,a13,a20,a21,a23,a30,a31,a32⟩ i k hi hk hik
      obtain rfl | rfl | rfl | rfl : i = 0 ∨ i = 1 ∨ i = 2 ∨ i = 3:=by omega
      all_goals
       obtain rfl | rfl | rfl | rfl : k = 0 ∨ k = 1 ∨ k = 2 ∨ k = 3:=by omega
       all_goals first | exact absurd rfl hik | assumption
    rw [e]
    unfold cntP blk
    simp only [List.getD_eq_getElem?_getD,List.getElem?_cons_zero,List.getElem?_cons_succ,Option.getD_some,List.take_succ_cons,List.take_zero]
    rcases Bool.eq_false_or_eq_true (partB b0.pages) with h0 | h0 <;> rcases Bool.eq_false_or_eq_true (partB b1.pages) with h1 | h1 <;> rcases Bool.eq_false_or_eq_true (partB b2.pages) with h2 | h2 <;> rcases Bool.eq_false_or_eq_true (partB b3.pages) with h3 | h3 <;>
     simp [List.filter_cons,h0,h1,h2,h3])
   (fun i k hi hk hik h0=>by
    rw [hm i hi] at h0 ⊢;rw [hm k hk]
    exact hF.uniq (by omega) (by omega) hik h0)
  rw [Bool.eq_iff_iff]
  refine Iff.trans ?_ (L.trans ?_)
  ·simp only [Bool.and_eq_true,List.all_eq_true,List.mem_range,okI_iff,okP_iff,decide_eq_true_eq]
   exact ⟨fun ⟨h1,h2,h3⟩=>⟨fun i k hi hk=>h1 i hi k hk,h2,h3⟩,fun ⟨h1,h2,h3⟩=>⟨fun i hi k hk=>h1 i k hi hk,h2,h3⟩⟩
  ·rw [orderOut_iff]
   simp only [orderIn_iff,Nat.zero_add,badPair_iff]
   constructor
   ·intro h i hi k hk
    have:=h i k (by omega) (by omega)
    rw [hm i (by omega),hm k (by omega),hb i (by omega),hb k (by omega)] at this
    exact this
   ·intro h i k hi hk
    rw [hm i hi,hm k hk,hb i hi,hb k hk]
    exact h i (by omega) k (by omega)
 ·have : flashOkB f = false:=by simpa using hf
  rw [this];rfl
end Go.Bu
namespace Go.Bu
open Go Go.RowKit Go.Plan Go.Proofs
theorem badI {f : List Block} {i : Nat} (hi : i < 4) (h : okI (spansOf f) i = false) : orderB f = false:=by
 rw [← implOrder_eq];unfold implOrderB
 have : (List.range 4).all (okI (spansOf f)) = false:=by
  rw [← Bool.not_eq_true,List.all_eq_true];intro hh;have:=hh i (List.mem_range.2 hi);rw [h] at this;cases this
 rw [this];simp
theorem badP {f : List Block} {i : Nat} (hi : i < 4) (h : okP f (spansOf f) i = false) : orderB f = false:=by
 rw [← implOrder_eq];unfold implOrderB
 have : (List.range 4).all (okP f (spansOf f)) = false:=by
  rw [← Bool.not_eq_true,List.all_eq_true];intro hh;have:=hh i (List.mem_range.2 hi);rw [h] at this;cases this
 rw [this];simp
theorem orderEnd {f : List Block} (hf : flashOkB f = true) (h1 : ∀ i,i < 4 → okI (spansOf f) i = true) (h2 : ∀ i,i < 4 → okP f (spansOf f) i = true) : orderB f = decide (cntP f 4 ≤ 1):=by
 rw [← implOrder_eq];unfold implOrderB
 have e1 : (List.range 4).all (okI (spansOf f)) = true:=List.all_eq_true.2 fun i hi=>h1 i (List.mem_range.1 hi)
 have e2 : (List.range 4).all (okP f (spansOf f)) = true:=List.all_eq_true.2 fun i hi=>h2 i (List.mem_range.1 hi)
 rw [hf,e1,e2];simp
theorem newN_succ (ss : List Span) (i : Nat) (h : i < ss.length) : newN ss (i + 1) = if newN ss i < (spn ss i).2 then (spn ss i).2 else newN ss i:=by
 unfold newN spn
 rw [← take_snoc ss i h,List.foldl_append,List.getD_eq_getElem?_getD,List.getElem?_eq_getElem h];rfl
theorem cntP_succ (f : List Block) (i : Nat) (h : i < f.length) : cntP f (i + 1) = if partB (blk f i).pages = true then cntP f i + 1 else cntP f i:=by
 unfold cntP blk
 rw [← take_snoc f i h,List.filter_append,List.getD_eq_getElem?_getD,List.getElem?_eq_getElem h]
 by_cases hb : partB f[i].pages = true
 ·simp [hb]
 ·simp [hb]
theorem cntP_bd (f : List Block) (i : Nat) : 0 ≤ cntP f i ∧ cntP f i ≤ i:=by
 unfold cntP
 refine ⟨by omega,?_⟩
 have h1:=List.length_filter_le (fun b : Block=>partB b.pages) (f.take i)
 have h2:=List.length_take_le i f
 omega
theorem spn_get {ss : List Span} {k : Nat} (h : k < ss.length) : ss[k] = spn ss k:=by unfold spn;rw [List.getD_eq_getElem?_getD,List.getElem?_eq_getElem h];rfl
set_option maxRecDepth 20000 in
set_option maxHeartbeats 4000000 in
theorem implFindOrder_c (v : Value) (f : List Block) (w : World) (h : Flash (Old w) w v f) (hp : ∀ b ∈ f,b.pages.length ≤ 1048576) :
  Calls Tryz.prog 61 #[v] w (Ret w (.bool (orderB f))):=by
 have hFO:=fun (w' : World) (hx : Ext w w')=>implFlashOk_c v f w' (h.ext hx) hp
 by_cases hok : flashOkB f = true
 ·have hF:=flashOk_iff.1 hok
  have h4:=hF.len
  have hSP:=fun (w' : World) (hx : Ext w w')=>spansOf_c v f w' (h.ext hx) h4 hp (fun b hb p hpp=>pageOk_seq (hF.pg hb p hpp))
  have HBI:=fun i hi he=>Lib.hid (badI (f:=f) (i:=i) hi he)
  have HBP:=fun i hi he=>Lib.hid (badP (f:=f) (i:=i) hi he)
  have HE:=fun h1 h2=>Lib.hid (orderEnd hok h1 h2)
  rw [hok] at hFO
  have hlen : (spansOf f).length = 4:=spansL_len _
  have HP:=Lib.hid hp
  have H4:=Lib.hid h4
  clear hok hF hp
  generalize spansOf f = ss at *
  generalize orderB f = A at *
  obtain ⟨a,cap,rfl⟩:=h.form
  rw [h4] at h hFO hSP ⊢
  clear h4
  go_enter Tryz.func61,Tryz.ntmps61
  go_wp2_with fail
  refine (hFO _ (ext_refl _)).mono ?_;rintro e1 w1 ⟨rfl,hx1⟩
  go_wp2_with fail
  refine (hSP _ hx1).mono ?_;rintro e2 w2 ⟨B,rfl,hx2,hB,hO⟩
  have X2:=ext_trans hx1 hx2
  have HO:=Lib.hid hO
  have HL:=Lib.hid hlen
  clear hFO hSP hx1 hx2 hO hlen hB
  go_wp2_with fail
  have HOK0 : Hid (∀ j,j < 0 → okI ss j = true):=Lib.hid (fun j hj=>absurd hj (Nat.not_lt_zero _))
  go_loopw [4,19] (fun n y wr=>∃ i : Nat,i ≤ 4 ∧ y = .int .i64 i ∧ n = .int .i64 (newN ss i) ∧ Ext w2 wr ∧ Hid (∀ j,j < i → okI ss j = true)) (fun _ y _=>4 - (intOf y).toNat)
  case atStart=>exact ⟨0,by omega,rfl,rfl,ext_refl _,HOK0⟩
  case round =>
   clear HOK0
   obtain ⟨i,hi,rfl,rfl,hX,HI⟩:=hrel
   by_cases hlt : i < 4
   ·have hO:=HO.out.ext hX
    have hil : i < ss.length:=by have:=HL.out;omega
    obtain ⟨c0,c1⟩:=hO.two' hil
    rw [Nat.zero_add] at c0 c1
    have cf:=hO.frozen
    have hsp:=spn_get hil
    rw [hsp] at c0 c1
    have HN:=Lib.hid (newN_succ ss i hil)
    have hcut : ∀ w' : World,(Instr.slice 133 (.slice (some ⟨B,0,none⟩) 4 4) none (some (.int .i64 i)) none).run Tryz.prog w' = .ok (.slice (some ⟨B,0,none⟩) i 4) w':=fun w'=>by
     rw [run_slice_h w' 133 (some ⟨B,0,none⟩) 4 4 (by kernel_rfl) .i64 i (by omega) (by omega)]
     rw [show (sizeOf (Tryz.prog.elem 133)).run Tryz.prog w' = .ok 2 w' by kernel_rfl]
     simp only [Result.andThen,sliced,Int.toNat_natCast,Nat.sub_zero]
     split <;> simp [Addr.add]
    have HO2:=Lib.hid hO
    have HSZ:=Lib.hid hX.size
    clear hsp hO
    obtain ⟨lo,hh,hs⟩ : ∃ lo hh,spn ss i = (lo,hh):=⟨_,_,rfl⟩
    rw [hs] at c0 c1 HN
    dsimp only at c0 c1 HN
    have HS:=Lib.hid hs
    clear hs
    obtain ⟨nw,hnw⟩ : ∃ nw,newN ss i = nw:=⟨_,rfl⟩
    rw [hnw] at HN ⊢
    clear hnw
    by_cases hgt : nw < hh
    ·have HNX : Hid (newN ss (i + 1) = hh):=Lib.hid (by rw [HN.out,if_pos hgt])
     have XB : Ext w2 (wr.alloc (.cells #[.int .i64 lo,.int .i64 hh] 136)):=ext_alloc hX _
     have GI : (wr.alloc (.cells #[.int .i64 lo,.int .i64 hh] 136)).heap[wr.heap.size]? = some (.cells #[.int .i64 lo,.int .i64 hh] 136 (0,0)):=hg_new rfl
     have hI:=HI.out
     clear HN
     go_wp2_with fail
     have HK0 : Hid (∀ j,j < 0 → ovl (spn ss i) (spn ss j) = false):=Lib.hid (fun j hj=>absurd hj (Nat.not_lt_zero _))
     obtain ⟨wo,rfl⟩ : ∃ wo : World,wo = wr:=⟨_,rfl⟩
     go_loopw [32] (fun y wr2=>∃ k : Nat,k ≤ i ∧ y = .int .i64 k ∧ Ext w2 wr2 ∧ wr2.heap[wo.heap.size]? = some (.cells #[.int .i64 lo,.int .i64 hh] 136 (0,0)) ∧ Hid (∀ j,j < k → ovl (spn ss i) (spn ss j) = false)) (fun y _=>i - (intOf y).toNat)
     case atStart=>exact ⟨0,by omega,rfl,XB,GI,HK0⟩
     case round =>
      clear HK0 XB GI c0 c1 cf
      obtain ⟨k,hk,rfl,hX3,G6,HK⟩:=hrel
      by_cases hki : k < i
      ·have hO:=HO.out.ext hX3
       have hkl : k < ss.length:=by have:=HL.out;omega
       obtain ⟨d0,d1⟩:=hO.two' hkl
       rw [Nat.zero_add,spn_get hkl] at d0 d1
       obtain ⟨lo2,hh2,hs2⟩ : ∃ lo hh,spn ss k = (lo,hh):=⟨_,_,rfl⟩
       rw [hs2] at d0 d1
       dsimp only at d0 d1
       have hov : ovl (spn ss i) (spn ss k) = (decide (0 < hh) && decide (0 < hh2) && decide (lo2 ≤ hh) && decide (lo ≤ hh2)):=by rw [HS.out,hs2];rfl
       have HOV:=Lib.hid hov
       obtain ⟨g6,gf6⟩:=cellsK G6
       have l6:=heap_lt G6
       clear hO hs2 hov
       by_cases h1 : 0 < hh
       ·by_cases h2 : 0 < hh2
        ·by_cases h3 : lo2 ≤ hh
         ·by_cases h4 : lo ≤ hh2
          ·have hA : okI ss i = false:=by
            unfold okI;rw [← Bool.not_eq_true,List.all_eq_true];intro hh';have:=hh' k (List.mem_range.2 hki)
            rw [HOV.out] at this;simp [h1,h2,h3,h4] at this
           have hA2:=(HBI i hlt hA).out
           subst hA2
           clear HOV hA
           go_wp2_with fail
           go_ret
           exact ⟨rfl,ext_trans X2 (ext_alloc hX3 _)⟩
          ·have HK2 : Hid (∀ j,j < k + 1 → ovl (spn ss i) (spn ss j) = false):=Lib.hid (fun j hj=>by
            by_cases e : j = k
            ·subst e;rw [HOV.out];simp only [Bool.and_eq_false_iff,decide_eq_false_iff_not];omega
            ·exact HK.out j (by omega))
           clear HOV HK
           go_wp2_with fail
           go_roundw
           case rel=>exact ⟨k + 1,by omega,by go_num,ext_alloc hX3 _,hg_alloc G6,HK2⟩
           case measure=>simp [intOf];omega
         ·have HK2 : Hid (∀ j,j < k + 1 → ovl (spn ss i) (spn ss j) = false):=Lib.hid (fun j hj=>by
           by_cases e : j = k
           ·subst e;rw [HOV.out];simp only [Bool.and_eq_false_iff,decide_eq_false_iff_not];omega
           ·exact HK.out j (by omega))
          clear HOV HK
          go_wp2_with fail
          go_roundw
          case rel=>exact ⟨k + 1,by omega,by go_num,ext_alloc hX3 _,hg_alloc G6,HK2⟩
          case measure=>simp [intOf];omega
        ·have HK2 : Hid (∀ j,j < k + 1 → ovl (spn ss i) (spn ss j) = false):=Lib.hid (fun j hj=>by
          by_cases e : j = k
          ·subst e;rw [HOV.out];simp only [Bool.and_eq_false_iff,decide_eq_false_iff_not];omega
          ·exact HK.out j (by omega))
         clear HOV HK
         go_wp2_with fail
         go_roundw
         case rel=>exact ⟨k + 1,by omega,by go_num,ext_alloc hX3 _,hg_alloc G6,HK2⟩
         case measure=>simp [intOf];omega
       ·have HK2 : Hid (∀ j,j < k + 1 → ovl (spn ss i) (spn ss j) = false):=Lib.hid (fun j hj=>by
         by_cases e : j = k
         ·subst e;rw [HOV.out];simp only [Bool.and_eq_false_iff,decide_eq_false_iff_not];omega
         ·exact HK.out j (by omega))
        clear HOV HK
        go_wp2_with fail
        go_roundw
        case rel=>exact ⟨k + 1,by omega,by go_num,ext_alloc hX3 _,hg_alloc G6,HK2⟩
        case measure=>simp [intOf];omega
      ·obtain rfl : k = i:=by omega
       have HI2 : Hid (∀ j,j < k + 1 → okI ss j = true):=Lib.hid (fun j hj=>by
        by_cases e : j = k
        ·subst e;unfold okI;rw [List.all_eq_true];intro m hm;rw [HK.out m (List.mem_range.1 hm)];rfl
        ·exact hI j (by omega))
       clear HK hI HI
       go_wp2_with fail
       go_roundw
       case rel=>exact ⟨k + 1,by omega,by go_num,by rw [HNX.out],hX3,HI2⟩
       case measure=>simp [intOf];omega
    ·have HNX : Hid (newN ss (i + 1) = nw):=Lib.hid (by rw [HN.out,if_neg hgt])
     have XB : Ext w2 (wr.alloc (.cells #[.int .i64 lo,.int .i64 hh] 136)):=ext_alloc hX _
     have GI : (wr.alloc (.cells #[.int .i64 lo,.int .i64 hh] 136)).heap[wr.heap.size]? = some (.cells #[.int .i64 lo,.int .i64 hh] 136 (0,0)):=hg_new rfl
     have hI:=HI.out
     clear HN
     go_wp2_with fail
     have HK0 : Hid (∀ j,j < 0 → ovl (spn ss i) (spn ss j) = false):=Lib.hid (fun j hj=>absurd hj (Nat.not_lt_zero _))
     obtain ⟨wo,rfl⟩ : ∃ wo : World,wo = wr:=⟨_,rfl⟩
     go_loopw [32] (fun y wr2=>∃ k : Nat,k ≤ i ∧ y = .int .i64 k ∧ Ext w2 wr2 ∧ wr2.heap[wo.heap.size]? = some (.cells #[.int .i64 lo,.int .i64 hh] 136 (0,0)) ∧ Hid (∀ j,j < k → ovl (spn ss i) (spn ss j) = false)) (fun y _=>i - (intOf y).toNat)
     case atStart=>exact ⟨0,by omega,rfl,XB,GI,HK0⟩
     case round =>
      clear HK0 XB GI c0 c1 cf
      obtain ⟨k,hk,rfl,hX3,G6,HK⟩:=hrel
      by_cases hki : k < i
      ·have hO:=HO.out.ext hX3
       have hkl : k < ss.length:=by have:=HL.out;omega
       obtain ⟨d0,d1⟩:=hO.two' hkl
       rw [Nat.zero_add,spn_get hkl] at d0 d1
       obtain ⟨lo2,hh2,hs2⟩ : ∃ lo hh,spn ss k = (lo,hh):=⟨_,_,rfl⟩
       rw [hs2] at d0 d1
       dsimp only at d0 d1
       have hov : ovl (spn ss i) (spn ss k) = (decide (0 < hh) && decide (0 < hh2) && decide (lo2 ≤ hh) && decide (lo ≤ hh2)):=by rw [HS.out,hs2];rfl
       have HOV:=Lib.hid hov
       obtain ⟨g6,gf6⟩:=cellsK G6
       have l6:=heap_lt G6
       clear hO hs2 hov
       by_cases h1 : 0 < hh
       ·by_cases h2 : 0 < hh2
        ·by_cases h3 : lo2 ≤ hh
         ·by_cases h4 : lo ≤ hh2
          ·have hA : okI ss i = false:=by
            unfold okI;rw [← Bool.not_eq_true,List.all_eq_true];intro hh';have:=hh' k (List.mem_range.2 hki)
            rw [HOV.out] at this;simp [h1,h2,h3,h4] at this
           have hA2:=(HBI i hlt hA).out
           subst hA2
           clear HOV hA
           go_wp2_with fail
           go_ret
           exact ⟨rfl,ext_trans X2 (ext_alloc hX3 _)⟩
          ·have HK2 : Hid (∀ j,j < k + 1 → ovl (spn ss i) (spn ss j) = false):=Lib.hid (fun j hj=>by
            by_cases e : j = k
            ·subst e;rw [HOV.out];simp only [Bool.and_eq_false_iff,decide_eq_false_iff_not];omega
            ·exact HK.out j (by omega))
           clear HOV HK
           go_wp2_with fail
           go_roundw
           case rel=>exact ⟨k + 1,by omega,by go_num,ext_alloc hX3 _,hg_alloc G6,HK2⟩
           case measure=>simp [intOf];omega
         ·have HK2 : Hid (∀ j,j < k + 1 → ovl (spn ss i) (spn ss j) = false):=Lib.hid (fun j hj=>by
           by_cases e : j = k
           ·subst e;rw [HOV.out];simp only [Bool.and_eq_false_iff,decide_eq_false_iff_not];omega
           ·exact HK.out j (by omega))
          clear HOV HK
          go_wp2_with fail
          go_roundw
          case rel=>exact ⟨k + 1,by omega,by go_num,ext_alloc hX3 _,hg_alloc G6,HK2⟩
          case measure=>simp [intOf];omega
        ·have HK2 : Hid (∀ j,j < k + 1 → ovl (spn ss i) (spn ss j) = false):=Lib.hid (fun j hj=>by
          by_cases e : j = k
          ·subst e;rw [HOV.out];simp only [Bool.and_eq_false_iff,decide_eq_false_iff_not];omega
          ·exact HK.out j (by omega))
         clear HOV HK
         go_wp2_with fail
         go_roundw
         case rel=>exact ⟨k + 1,by omega,by go_num,ext_alloc hX3 _,hg_alloc G6,HK2⟩
         case measure=>simp [intOf];omega
       ·have HK2 : Hid (∀ j,j < k + 1 → ovl (spn ss i) (spn ss j) = false):=Lib.hid (fun j hj=>by
         by_cases e : j = k
         ·subst e;rw [HOV.out];simp only [Bool.and_eq_false_iff,decide_eq_false_iff_not];omega
         ·exact HK.out j (by omega))
        clear HOV HK
        go_wp2_with fail
        go_roundw
        case rel=>exact ⟨k + 1,by omega,by go_num,ext_alloc hX3 _,hg_alloc G6,HK2⟩
        case measure=>simp [intOf];omega
      ·obtain rfl : k = i:=by omega
       have HI2 : Hid (∀ j,j < k + 1 → okI ss j = true):=Lib.hid (fun j hj=>by
        by_cases e : j = k
        ·subst e;unfold okI;rw [List.all_eq_true];intro m hm;rw [HK.out m (List.mem_range.1 hm)];rfl
        ·exact hI j (by omega))
       clear HK hI HI
       go_wp2_with fail
       go_roundw
       case rel=>exact ⟨k + 1,by omega,by go_num,by rw [HNX.out],hX3,HI2⟩
       case measure=>simp [intOf];omega
   ·obtain rfl : i = 4:=by omega
    have HE1:=HE HI.out
    rw [show ((4 : Nat) : Int) = 4 from rfl]
    obtain ⟨nw,hnw⟩ : ∃ nw,newN ss 4 = nw:=⟨_,rfl⟩
    rw [hnw]
    have HNW:=Lib.hid hnw
    clear hnw HBI HI HE
    go_wp2_with fail
    have HOK0 : Hid (∀ j,j < 0 → okP f ss j = true):=Lib.hid (fun j hj=>absurd hj (Nat.not_lt_zero _))
    go_loopw [9,62] (fun n y wr=>∃ i : Nat,i ≤ 4 ∧ y = .int .i64 i ∧ n = .int .i64 (cntP f i) ∧ Ext w2 wr ∧ Hid (∀ j,j < i → okP f ss j = true)) (fun _ y _=>4 - (intOf y).toNat)
    case atStart=>exact ⟨0,by omega,rfl,rfl,hX,HOK0⟩
    case round =>
     clear HOK0 hX
     obtain ⟨i,hi,rfl,rfl,hX,HI⟩:=hrel
     by_cases hlt : i < 4
     ·have hil : i < ss.length:=by have:=HL.out;omega
      have hif : i < f.length:=by have:=H4.out;omega
      obtain ⟨c0,c1⟩:=(HO.out.ext hX).two' hil
      rw [Nat.zero_add,spn_get hil] at c0 c1
      obtain ⟨b,o,pv,rfl,hb,hpp,h0,h1⟩:=h.at2 hif
      have hb' : b < w.heap.size:=hb
      obtain ⟨pa,pcap,rfl⟩:=hpp.form
      obtain ⟨hc,hf⟩:=bcell (ext_trans X2 hX)
      have hblk : blk f i = f[i]:=by unfold blk;rw [List.getD_eq_getElem?_getD,List.getElem?_eq_getElem hif];rfl
      have hcs:=cntP_succ f i hif
      have hpu:=fun (w' : World) (hx : Ext wr w')=>partlyUsed_c (.slice pa f[i].pages.length pcap) f[i].pages f[i].worn w' (hpp.ext (ext_trans (ext_trans X2 hX) hx)) (HP.out f[i] (List.getElem_mem _))
      have hok : okP f ss i = !(partB f[i].pages && decide (0 < (spn ss i).2) && decide ((spn ss i).2 < nw)):=by unfold okP;rw [hblk,HNW.out]
      rw [hblk] at hcs
      obtain ⟨cb0,cb1⟩:=cntP_bd f i
      obtain ⟨lo,hh,hs⟩ : ∃ lo hh,spn ss i = (lo,hh):=⟨_,_,rfl⟩
      rw [hs] at c0 c1 hok
      dsimp only at c0 c1 hok
      generalize partB f[i].pages = pb at *
      have HCS:=Lib.hid hcs
      have HOK:=Lib.hid hok
      have l1:=cell_lt c1
      clear hs hblk hcs hok
      go_wp2_with fail
      refine (hpu _ (ext_alloc (ext_refl _) _)).mono ?_;rintro e3 w3 ⟨rfl,hx3⟩
      have X3:=ext_trans (ext_alloc (ext_refl wr) _) hx3
      have d1:=cell_ext X3 c1
      clear hpu hc hf h0 h1 c0 c1 hx3
      cases pb
      ·have HK2 : Hid (∀ j,j < i + 1 → okP f ss j = true):=Lib.hid (fun j hj=>by
        by_cases e : j = i
        ·subst e;rw [HOK.out];simp only [Bool.not_eq_true',Bool.and_eq_false_iff,decide_eq_false_iff_not,Bool.true_and,Bool.false_and];first | done | omega
        ·exact HI.out j (by omega))
       clear HOK HI
       go_wp2_with fail
       go_roundw
       case rel=>exact ⟨i + 1,by omega,by go_num,by rw [HCS.out];simp,ext_trans hX X3,HK2⟩
       case measure=>simp [intOf];omega
      ·by_cases h1 : 0 < hh
       ·by_cases h2 : hh < nw
        ·have hA : okP f ss i = false:=by rw [HOK.out];simp [h1,h2]
         have hA2:=(HBP i hlt hA).out
         subst hA2
         clear HOK hA
         go_wp2_with fail
         go_ret
         exact ⟨rfl,ext_trans (ext_trans X2 hX) X3⟩
        ·have HK2 : Hid (∀ j,j < i + 1 → okP f ss j = true):=Lib.hid (fun j hj=>by
          by_cases e : j = i
          ·subst e;rw [HOK.out];simp only [Bool.not_eq_true',Bool.and_eq_false_iff,decide_eq_false_iff_not,Bool.true_and,Bool.false_and];first | done | omega
          ·exact HI.out j (by omega))
         clear HOK HI
         go_wp2_with fail
         go_roundw
         case rel=>exact ⟨i + 1,by omega,by go_num,by rw [HCS.out];simp,ext_trans hX X3,HK2⟩
         case measure=>simp [intOf];omega
       ·have HK2 : Hid (∀ j,j < i + 1 → okP f ss j = true):=Lib.hid (fun j hj=>by
         by_cases e : j = i
         ·subst e;rw [HOK.out];simp only [Bool.not_eq_true',Bool.and_eq_false_iff,decide_eq_false_iff_not,Bool.true_and,Bool.false_and];first | done | omega
         ·exact HI.out j (by omega))
        clear HOK HI
        go_wp2_with fail
        go_roundw
        case rel=>exact ⟨i + 1,by omega,by go_num,by rw [HCS.out];simp,ext_trans hX X3,HK2⟩
        case measure=>simp [intOf];omega
     ·obtain rfl : i = 4:=by omega
      have hA:=(HE1 HI.out).out
      obtain ⟨cb0,cb1⟩:=cntP_bd f 4
      subst hA
      go_wp2_with fail
      go_ret
      exact ⟨rfl,ext_trans X2 hX⟩
 ·have hs : orderB f = false:=by unfold orderB;rw [Bool.not_eq_true] at hok;rw [hok];rfl
  rw [Bool.not_eq_true] at hok
  rw [hok] at hFO
  rw [hs]
  clear hs hok
  obtain ⟨a,cap,rfl⟩:=h.form
  go_enter Tryz.func61,Tryz.ntmps61
  go_wp2_with fail
  refine (hFO _ (ext_refl _)).mono ?_;rintro e1 w1 ⟨rfl,hx1⟩
  go_wp2_with fail
  go_ret
  exact ⟨rfl,hx1⟩
end Go.Bu