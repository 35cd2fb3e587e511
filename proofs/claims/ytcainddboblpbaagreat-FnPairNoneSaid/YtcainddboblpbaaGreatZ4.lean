/- Steps done in place, as the reference does them: l2Seq, l2Wipe, l2Write, l12Do. Steps done one behind the other, and what happens to a store, as the reference does it in place: l12To, l21All, l21Do. A flash that is well formed, in plain words; what writing and wiping leave of it. Writing, wiping, and whatever an event does, leaves a flash well formed. What happens to a store, as the reference does it in place: l21All, l21Do. Readers with enough left: what the laws' draws ask of them; drawn events and records. New stores and pairs of both sides. Drawn plays: events, and the store behind them. Drawn records, flashes, stores. Drawn flashes and stores. Drawn stores. A region that draws its order, in the body of a loop over an iterator: the rule of Plan, carried over. The program's iterator over the pages of a flash: what it hands to a loop's body. The program's side of a flash: freePages, partlyUsed, blockShape. Maps of the program's own, by ints: what lies at each key. -/import Derived.Test.YtcainddboblpbaaGreatZ1
import Derived.Test.YtcainddboblpbaaGreatZ3
import Derived.Test.YtcainddboblpbaaGreatZ2
import Derived.RangeFuncNested
import Derived.RangeFuncBound
import Derived.RangeFuncCalls
import Derived.RangeFuncLeaves
import Derived.OrdersIn
import Derived.Shelf.Abstract
import Derived.Shelf.RegionOpen
import Derived.WalkKit
import Derived.OwnWalkIn
import Derived.TacticsInMore
import Derived.LoopNIn
import Derived.LoopIn
import Derived.Maps.OwnOps
import Derived.Maps.Views
set_option maxHeartbeats 2000000
set_option linter.unusedVariables false
set_option linter.unusedSimpArgs false
namespace Go.Bu
open Go Go.RowKit Go.Plan Go.Proofs
theorem any_drop {α : Type} (q : α → Bool) (xs : List α) (k : Nat) (h : k < xs.length) : (xs.drop k).any q = (q xs[k] || (xs.drop (k + 1)).any q):=by
 rw [List.drop_eq_getElem_cons h,List.any_cons]
def isSeq (n : Int) (p : Page) : Bool:=p.state == 1 && p.r.seq == n
def seqUsed (f : List Block) (n : Int) : Bool:=f.any fun b=>b.pages.any (isSeq n)
set_option maxHeartbeats 1000000 in
theorem l2Seq_c (v : Value) (f : List Block) (n : Int) (w : World) (h : Flash (Old w) w v f) (hn : f.length ≤ 1048576) (hp : ∀ b ∈ f,b.pages.length ≤ 1048576) :
  Calls Tryz.prog 148 #[v,.int .i64 n] w (Ret w (.bool (seqUsed f n))):=by
 obtain ⟨a,cap,rfl⟩:=h.form
 obtain ⟨A,hA⟩ : ∃ A,seqUsed f n = A:=⟨_,rfl⟩
 rw [hA]
 unfold seqUsed at hA
 have HP:=Lib.hid hp;clear hp
 have HA:=Lib.hid hA;clear hA
 go_enter Tryz.func148,Tryz.ntmps148
 go_wp2
 go_loop [5] (fun y=>∃ (i : Nat),i ≤ f.length ∧ y = .int .i64 i ∧ Hid ((f.drop i).any (fun b=>b.pages.any (isSeq n)) = A)) (fun y=>f.length - (intOf y).toNat)
 case atStart=>exact ⟨0,by omega,rfl,HA⟩
 case round =>
  obtain ⟨i,hi,rfl,HR⟩:=hrel
  by_cases hlt : i < f.length
  ·obtain ⟨b,o,pv,rfl,hb,hpp,h0,h1⟩:=h.at2 hlt
   obtain ⟨pa,pcap,rfl⟩:=hpp.form
   have hpl:=HP.out f[i] (List.getElem_mem _)
   rw [any_drop _ _ _ hlt] at HR
   go_wp2
   go_loop [6] (fun y=>∃ (k : Nat),k ≤ f[i].pages.length ∧ y = .int .i64 k ∧ Hid (((f[i].pages.drop k).any (isSeq n) || (f.drop (i + 1)).any (fun b=>b.pages.any (isSeq n))) = A)) (fun y=>f[i].pages.length - (intOf y).toNat)
   case atStart=>exact ⟨0,by omega,rfl,HR⟩
   case round =>
    clear HR
    obtain ⟨k,hk,rfl,HR⟩:=hrel
    by_cases hlk : k < f[i].pages.length
    ·obtain ⟨b2,o2,rfl,hb2,e0,e1,e2,e3,e4⟩:=hpp.at5 hlk
     rw [any_drop _ _ _ hlk] at HR
     have hq : isSeq n f[i].pages[k] = (f[i].pages[k].state == 1 && f[i].pages[k].r.seq == n):=rfl
     have HQ:=Lib.hid hq;clear hq
     go_wp2
     all_goals try
      go_ret
      have hr:=HR.out
      try simp only [beq_iff_eq,Bool.not_eq_true,beq_eq_false_iff_ne,ne_eq,bne_iff_ne,bne_eq_false_iff_eq,decide_eq_true_eq,decide_eq_false_iff_not] at *
      rw [HQ.out,show (f[i].pages[k].state == 1 && f[i].pages[k].r.seq == n) = true from by simp [*]] at hr
      exact ⟨by rw [← hr];simp,ext_refl _⟩
     all_goals
      have hr:=HR.out
      try simp only [beq_iff_eq,Bool.not_eq_true,beq_eq_false_iff_ne,ne_eq,bne_iff_ne,bne_eq_false_iff_eq,decide_eq_true_eq,decide_eq_false_iff_not] at *
      rw [HQ.out,show (f[i].pages[k].state == 1 && f[i].pages[k].r.seq == n) = false from by simp [*],Bool.false_or] at hr
      exact ⟨⟨k + 1,by omega,by go_num,Lib.hid hr⟩,by simp [intOf];omega⟩
    ·obtain rfl : k = f[i].pages.length:=by omega
     rw [List.drop_length,List.any_nil,Bool.false_or] at HR
     go_wp2
     exact ⟨⟨i + 1,by omega,by go_num,HR⟩,by simp [intOf];omega⟩
  ·obtain rfl : i = f.length:=by omega
   rw [List.drop_length,List.any_nil] at HR
   have hr:=HR.out
   subst hr
   go_wp2
   go_ret
   exact ⟨rfl,ext_refl _⟩
def blank (st : Int) : Page:=⟨st,rec0⟩
def tornSt (torn : Bool) : Int:=if torn then 2 else 0
def wipeF (f : List Block) (i : Nat) (torn : Bool) : List Block:=
 if 200 ≤ (blockAt f i).worn then f else f.set i ⟨List.replicate 4 (blank (tornSt torn)),(blockAt f i).worn + 1⟩
def wipeOk (f : List Block) (i : Nat) : Bool:=!decide (200 ≤ (blockAt f i).worn)
theorem blockAt_get {f : List Block} {i : Nat} (h : i < f.length) : blockAt f i = f[i]:=by unfold blockAt;rw [List.getElem?_eq_getElem h];rfl
def RetF (c : SC) (w : World) (v : Value) (f : List Block) (e : Ending) (w' : World) : Prop:=e = .returned v ∧ Chg c.fl w w' ∧ FlashAt c w' f
theorem Chg.alloc' {L : List Nat} {a b : World} (h : Chg L a b) (o : Obj) : Chg L a (b.alloc o):=h.alloc o
theorem FlashAt.ext {c : SC} {w w' : World} {f : List Block} (h : FlashAt c w f) (hx : Ext w w') : FlashAt c w' f:=h.keep fun b hb=>hx.block b (h.lt b hb)
theorem rep_set (x : Page) (ps : List Page) (k : Nat) (h : ps.length = 4) (hk : k < 4) : (List.replicate k x ++ ps.drop k).set k x = List.replicate (k + 1) x ++ ps.drop (k + 1):=by
 rw [List.set_append,if_neg (by simp),List.length_replicate,Nat.sub_self,List.drop_eq_getElem_cons (by omega),List.set_cons_zero,List.replicate_succ',List.append_assoc];rfl
set_option maxRecDepth 20000 in
set_option maxHeartbeats 2000000 in
theorem l2Wipe_c (c : SC) (f : List Block) (i : Nat) (torn : Bool) (w : World) (h : FlashAt c w f) (hnd : c.fl.Nodup) (hi : i < f.length) (h4 : f[i].pages.length = 4) (hw : 0 ≤ f[i].worn ∧ f[i].worn ≤ 1000) (hn : f.length ≤ 1048576) :
  Calls Tryz.prog 138 #[c.F.v f.length,.int .i64 i,.bool torn] w (RetF c w (.tuple #[c.F.v f.length,.bool (wipeOk f i)]) (wipeF f i torn)):=by
 obtain ⟨hw0,hw1⟩:=hw
 have hip : i < c.ps.length:=by rw [h.len];exact hi
 obtain ⟨p,hp⟩ : ∃ p,c.ps[i]? = some p:=⟨_,List.getElem?_eq_getElem hip⟩
 obtain ⟨t0,t1⟩:=h.two hi hp
 have hfz:=h.row.frozen
 have hq : wipeF f i torn = if 200 ≤ f[i].worn then f else f.set i ⟨List.replicate 4 (blank (tornSt torn)),f[i].worn + 1⟩:=by unfold wipeF;rw [blockAt_get hi]
 have hq2 : wipeOk f i = !decide (200 ≤ f[i].worn):=by unfold wipeOk;rw [blockAt_get hi]
 have HQ:=Lib.hid hq;have HQ2:=Lib.hid hq2;have HP:=Lib.hid hp;have H4:=Lib.hid h4
 clear hq hq2 hp h4
 by_cases hw2 : 200 ≤ f[i].worn
 ·go_enter Tryz.func138,Tryz.ntmps138
  go_wp2_with fail
  go_ret2
  rw [HQ2.out,HQ.out,if_pos hw2]
  exact ⟨by simp [hw2],Chg.refl _ _,h⟩
 ·have hF1:=h.worn hnd hi HP.out (f[i].worn + 1)
  have HF1:=Lib.hid hF1;clear hF1
  have hC1 : Chg c.fl w (w.setCell ⟨c.F.b,c.F.o + i * 2 + 1,none⟩ (.int .i64 (f[i].worn + 1))):=(Chg.refl _ _).set (.inl (by simp [SC.fl])) _
  have hgi : ∀ x : Block,(f.set i x)[i]? = some x:=fun x=>List.getElem?_set_self hi
  have HGI:=Lib.hid hgi;clear hgi
  have hpl : p.b ∈ c.fl:=List.mem_cons_of_mem _ (List.mem_map.2 ⟨p,List.mem_of_getElem? HP.out,rfl⟩)
  cases torn
  all_goals
   go_enter Tryz.func138,Tryz.ntmps138
   go_wp2_with fail
  ·go_loopw [9] (fun y wr=>∃ (k : Nat),k ≤ 4 ∧ y = .int .i64 k ∧ Chg c.fl w wr ∧ FlashAt c wr (f.set i ⟨List.replicate k (blank (tornSt false)) ++ f[i].pages.drop k,f[i].worn + 1⟩)) (fun y _=>4 - (intOf y).toNat)
   case atStart=>exact ⟨0,by omega,rfl,hC1,by simpa using HF1.out⟩
   case round =>
    clear hC1 t0 t1 hfz
    obtain ⟨k,hk,rfl,hC,hF⟩:=hrel
    have hln : (List.replicate k (blank (tornSt false)) ++ f[i].pages.drop k).length = 4:=by have:=H4.out;simp;omega
    obtain ⟨t0,t1⟩:=hF.two' (HGI.out _) HP.out
    simp only [hln] at t0
    have HLN:=Lib.hid hln;clear hln
    by_cases hlt : k < 4
    ·have hth:=hF.there (HGI.out _) HP.out (k:=k) (Nat.lt_of_lt_of_eq hlt HLN.out.symm)
     have hF2:=hF.page' hnd (HGI.out _) HP.out (k:=k) (Nat.lt_of_lt_of_eq hlt HLN.out.symm) (blank (tornSt false))
     rw [rep_set _ _ _ H4.out hlt,List.set_set] at hF2
     have hC2:=setAll_chg (o:=p.o + k * 5) hC hpl (pageC (blank (tornSt false)))
     have HF2:=Lib.hid hF2;have HC2:=Lib.hid hC2;clear hF2 hC2 hF hC
     go_wp2_with (refine wpList_store_mid rfl 116 _ _ rfl p.b (p.o + k * 5) (pageC (blank (tornSt false))).toArray rfl rfl hth (by kernel_rfl) (by simp [Value.oneCell',blank]) ?_;change wpList _ _ _ _ _ (setAll wr p.b (p.o + k * 5) (pageC (blank (tornSt false))));generalize setAll wr p.b (p.o + k * 5) (pageC (blank (tornSt false))) = w2 at *)
     exact ⟨⟨k + 1,by omega,by go_num,HC2.out,HF2.out⟩,by simp [intOf];omega⟩
    ·obtain rfl : k = 4:=by omega
     have hF2:=hF
     rw [List.drop_eq_nil_of_le (by have:=H4.out;omega),List.append_nil] at hF2
     have HF2:=Lib.hid hF2;clear hF2 hF
     go_wp2_with fail
     go_ret2
     rw [HQ2.out,HQ.out,if_neg (by omega)]
     exact ⟨by simp;omega,hC,HF2.out⟩
  ·go_loopw [9] (fun y wr=>∃ (k : Nat),k ≤ 4 ∧ y = .int .i64 k ∧ Chg c.fl w wr ∧ FlashAt c wr (f.set i ⟨List.replicate k (blank (tornSt true)) ++ f[i].pages.drop k,f[i].worn + 1⟩)) (fun y _=>4 - (intOf y).toNat)
   case atStart=>exact ⟨0,by omega,rfl,hC1,by simpa using HF1.out⟩
   case round =>
    clear hC1 t0 t1 hfz
    obtain ⟨k,hk,rfl,hC,hF⟩:=hrel
    have hln : (List.replicate k (blank (tornSt true)) ++ f[i].pages.drop k).length = 4:=by have:=H4.out;simp;omega
    obtain ⟨t0,t1⟩:=hF.two' (HGI.out _) HP.out
    simp only [hln] at t0
    have HLN:=Lib.hid hln;clear hln
    by_cases hlt : k < 4
    ·have hth:=hF.there (HGI.out _) HP.out (k:=k) (Nat.lt_of_lt_of_eq hlt HLN.out.symm)
     have hF2:=hF.page' hnd (HGI.out _) HP.out (k:=k) (Nat.lt_of_lt_of_eq hlt HLN.out.symm) (blank (tornSt true))
     rw [rep_set _ _ _ H4.out hlt,List.set_set] at hF2
     have hC2:=setAll_chg (o:=p.o + k * 5) hC hpl (pageC (blank (tornSt true)))
     have HF2:=Lib.hid hF2;have HC2:=Lib.hid hC2;clear hF2 hC2 hF hC
     go_wp2_with (refine wpList_store_mid rfl 116 _ _ rfl p.b (p.o + k * 5) (pageC (blank (tornSt true))).toArray rfl rfl hth (by kernel_rfl) (by simp [Value.oneCell',blank]) ?_;change wpList _ _ _ _ _ (setAll wr p.b (p.o + k * 5) (pageC (blank (tornSt true))));generalize setAll wr p.b (p.o + k * 5) (pageC (blank (tornSt true))) = w2 at *)
     exact ⟨⟨k + 1,by omega,by go_num,HC2.out,HF2.out⟩,by simp [intOf];omega⟩
    ·obtain rfl : k = 4:=by omega
     have hF2:=hF
     rw [List.drop_eq_nil_of_le (by have:=H4.out;omega),List.append_nil] at hF2
     have HF2:=Lib.hid hF2;clear hF2 hF
     go_wp2_with fail
     go_ret2
     rw [HQ2.out,HQ.out,if_neg (by omega)]
     exact ⟨by simp;omega,hC,HF2.out⟩
theorem cleanN_bd : ∀ (ps : List Page) (n : Int),n ≤ ps.foldl cleanStep n ∧ ps.foldl cleanStep n ≤ n + ps.length
 | [],n=>by simp
 | p :: ps,n=>by
  have:=cleanN_bd ps (cleanStep n p)
  simp only [List.foldl_cons,List.length_cons]
  have h1 : n ≤ cleanStep n p ∧ cleanStep n p ≤ n + 1:=by unfold cleanStep;split <;> omega
  omega
def pageW (r : Rec) (torn : Bool) : Page:=if torn then ⟨2,rec0⟩ else ⟨1,r⟩
def writeOk (f : List Block) (i : Nat) (r : Rec) : Bool:=!(decide (cleanN (blockAt f i).pages = 0) || seqUsed f r.seq)
def writeF (f : List Block) (i : Nat) (r : Rec) (torn : Bool) : List Block:=
 if writeOk f i r then f.set i ⟨(blockAt f i).pages.set (4 - (cleanN (blockAt f i).pages).toNat) (pageW r torn),(blockAt f i).worn⟩ else f
set_option maxRecDepth 20000 in
set_option maxHeartbeats 2000000 in
theorem l2Write_c (c : SC) (f : List Block) (i : Nat) (r : Rec) (torn : Bool) (w : World) (h : FlashAt c w f) (hnd : c.fl.Nodup) (hi : i < f.length) (h4 : ∀ b ∈ f,b.pages.length = 4) (hn : f.length ≤ 1048576) :
  Calls Tryz.prog 139 #[c.F.v f.length,.int .i64 i,recA r,.bool torn] w (RetF c w (.tuple #[c.F.v f.length,.bool (writeOk f i r)]) (writeF f i r torn)):=by
 have hip : i < c.ps.length:=by rw [h.len];exact hi
 obtain ⟨p,hp⟩ : ∃ p,c.ps[i]? = some p:=⟨_,List.getElem?_eq_getElem hip⟩
 obtain ⟨t0,t1⟩:=h.two hi hp
 have hq : writeF f i r torn = if writeOk f i r then f.set i ⟨f[i].pages.set (4 - (cleanN f[i].pages).toNat) (pageW r torn),f[i].worn⟩ else f:=by unfold writeF;rw [blockAt_get hi]
 have hq2 : writeOk f i r = !(decide (cleanN f[i].pages = 0) || seqUsed f r.seq):=by unfold writeOk;rw [blockAt_get hi]
 have hcb:=cleanN_bd f[i].pages 0
 have h4i:=h4 f[i] (List.getElem_mem _)
 have HPB:=Lib.hid (fun (b : Block) (hb : b ∈ f)=>(show b.pages.length ≤ 1048576 from by have:=h4 b hb;omega))
 have hcl : ∀ w',Ext w w' → Calls Tryz.prog 116 #[.agg #[p.v f[i].pages.length,.int .i64 f[i].worn]] w' (Ret w' (.int .i64 (cleanN f[i].pages))):=fun w' hx =>
  l2Clean_c _ f[i].pages f[i].worn w' (((h.pages i f[i] p (List.getElem?_eq_getElem hi) hp).ext hx).of ((h.pages i f[i] p (List.getElem?_eq_getElem hi) hp).ext hx).lt _) (by omega)
 have hsq : ∀ w',Ext w w' → Calls Tryz.prog 148 #[c.F.v f.length,.int .i64 r.seq] w' (Ret w' (.bool (seqUsed f r.seq))):=fun w' hx =>
  l2Seq_c _ f r.seq w' (h.ext hx).flash hn HPB.out
 have hb0 : c.F.b < w.heap.size:=h.lt _ (by simp [SC.fl])
 obtain ⟨m,hm⟩ : ∃ m : Nat,cleanN f[i].pages = m:=⟨(cleanN f[i].pages).toNat,by unfold cleanN;omega⟩
 have hm4 : m ≤ 4:=by unfold cleanN at hm;omega
 rw [hm] at hq hq2 hcl
 generalize hsu : seqUsed f r.seq = su at *
 have HQ:=Lib.hid hq;have HQ2:=Lib.hid hq2;have HP:=Lib.hid hp;have H4:=Lib.hid h4i;have HC:=Lib.hid hcl;have HS:=Lib.hid hsq
 clear hq hq2 hp h4 h4i hcl hsq hcb hm hsu hip
 by_cases hm0 : m = 0
 ·subst hm0
  go_enter Tryz.func139,Tryz.ntmps139
  go_wp2_with fail
  refine (HC.out _ (ext_alloc (ext_refl _) _)).mono ?_;rintro e1 w1 ⟨rfl,hx1⟩
  obtain ⟨hc1,hf1,hz1,X1⟩:=after1 hx1
  go_wp2_with fail
  go_ret2
  have hf : writeOk f i r = false:=by rw [HQ2.out];simp
  rw [HQ.out,hf]
  exact ⟨rfl,Chg.of_ext X1,h.ext X1⟩
 ·have hmf : (((m : Nat) : Int) == 0) = false:=by simp;omega
  cases su with
  | true =>
   go_enter Tryz.func139,Tryz.ntmps139
   go_wp2_with fail
   refine (HC.out _ (ext_alloc (ext_refl _) _)).mono ?_;rintro e1 w1 ⟨rfl,hx1⟩
   obtain ⟨hc1,hf1,hz1,X1⟩:=after1 hx1
   go_wp2_with fail
   refine (HS.out _ X1).mono ?_;rintro e2 w2 ⟨rfl,hx2⟩
   go_wp2_with fail
   go_ret2
   have X2:=ext_trans X1 hx2
   have hf : writeOk f i r = false:=by rw [HQ2.out];simp
   rw [HQ.out,hf]
   exact ⟨rfl,Chg.of_ext X2,h.ext X2⟩
  | false =>
   have hf : writeOk f i r = true:=by rw [HQ2.out];simp;omega
   rw [HQ.out,hf,if_pos rfl,Int.toNat_natCast]
   have hkl : 4 - m < f[i].pages.length:=by have:=H4.out;omega
   have hk4 : ((4 : Int) - (m : Int)) = ((4 - m : Nat) : Int):=by omega
   generalize 4 - m = k at *
   have HK4:=Lib.hid hk4
   have hkw : IntKind.i64.wrap ((4 : Int) - (m : Int)) = (k : Int):=by rw [HK4.out];exact IntWalk.i64_in _ (by have:=H4.out;omega)
   have hk5 : (k : Int) < 4:=by have:=H4.out;omega
   have HKW:=Lib.hid hkw
   clear hf hk4 hkw
   have hpl : p.b ∈ c.fl:=List.mem_cons_of_mem _ (List.mem_map.2 ⟨p,List.mem_of_getElem? HP.out,rfl⟩)
   cases torn
   all_goals
    go_enter Tryz.func139,Tryz.ntmps139
    go_wp2_with fail
    refine (HC.out _ (ext_alloc (ext_refl _) _)).mono ?_;rintro e1 w1 ⟨rfl,hx1⟩
    obtain ⟨hc1,hf1,hz1,X1⟩:=after1 hx1
    have G0:=keep_ext hx1 (hg_new (b:=w.heap.size) rfl)
    go_wp2_with fail
    refine (HS.out _ X1).mono ?_;rintro e2 w2 ⟨rfl,hx2⟩
    have X2:=ext_trans X1 hx2
    replace G0:=keep_ext hx2 G0
    obtain ⟨g0,gf0⟩:=cellsK G0
    have l0:=heap_lt G0
    have h2:=h.ext X2
    obtain ⟨t2,t3⟩:=h2.two hi HP.out
    have hb2 : c.F.b < w2.heap.size:=Nat.lt_of_lt_of_le hb0 X2.size
    rw [H4.out] at t2
    have H2:=Lib.hid h2
    clear hc1 hf1 t0 t1 h2
    have hkw:=HKW.out
    go_wp2_with fail
   ·skip
    refine wp_region_ext [] [0,1,2,3,4,5,6,7,8] [] [9] (by kernel_rfl) (by kernel_rfl) ?late ?_
    case late=>exact fun f hf=>absurd hf List.not_mem_nil
    iterate 2
     refine Rob.y (v:=?_) rfl rfl (fun w1 hx hH=>?_) ?_;rotate_left
     ·go_simp;first | done | rfl | exact (Bool.not_not _).symm
     simp only [Act.put,slA,slB,slC]
    refine Rob.y (v:=?_) rfl rfl (fun w1 hx hH=>?_) ?_;rotate_left
    ·(obtain ⟨hcx,hfx⟩:=bcell hx);go_simp;first | done | rfl
    simp only [Act.put,slA,slB,slC]
    refine Rob.y (v:=?_) rfl rfl (fun w1 hx hH=>?_) ?_;rotate_left
    ·go_simp;first | done | rfl | exact (Bool.not_not _).symm
    simp only [Act.put,slA,slB,slC]
    refine Rob.y (v:=?_) rfl rfl (fun w1 hx hH=>?_) ?_;rotate_left
    ·(obtain ⟨hcx,hfx⟩:=bcell hx);go_simp;first | done | rfl
    simp only [Act.put,slA,slB,slC]
    iterate 2
     refine Rob.y (v:=?_) rfl rfl (fun w1 hx hH=>?_) ?_;rotate_left
     ·go_simp;first | done | rfl | exact (Bool.not_not _).symm
     simp only [Act.put,slA,slB,slC]
    iterate 2
     refine Rob.y (v:=?_) rfl rfl (fun w1 hx hH=>?_) ?_;rotate_left
     ·(obtain ⟨hcx,hfx⟩:=bcell hx);go_simp;first | done | rfl
     simp only [Act.put,slA,slB,slC]
    refine fin_tail (fun w3 hx3 _=>?_)
    simp only [dstOf,List.getElem?_cons_succ,List.getElem?_cons_zero,Option.bind_some,Act.put,slA,slB,slC,List.filterMap_cons,List.filterMap_nil]
    have X3 : Ext w w3:=ext_trans (ext_trans X2 (by go_grown)) hx3
    have h3:=h.ext X3
    have hth:=h3.there (List.getElem?_eq_getElem hi) HP.out hkl
    have hF:=h3.page' hnd (List.getElem?_eq_getElem hi) HP.out hkl (pageW r false)
    have hC:=setAll_chg (o:=p.o + k * 5) (Chg.of_ext X3) hpl (pageC (pageW r false))
    have HF:=Lib.hid hF;have HC3:=Lib.hid hC;clear hF hC h3
    refine wpList_store_mid rfl 116 _ _ rfl p.b (p.o + k * 5) (pageC (pageW r false)).toArray rfl rfl hth (by kernel_rfl) (by simp [Value.oneCell',pageW]) ?_
    ·refine wpList_nil ?_
     change Exit.then _ _ _ _ (setAll w3 p.b (p.o + k * 5) (pageC (pageW r false)))
     generalize setAll w3 p.b (p.o + k * 5) (pageC (pageW r false)) = w4 at *
     go_wp2_with fail
     go_ret2
     exact ⟨rfl,HC3.out,HF.out⟩
   ·skip
    refine wp_region_ext [] [0,1,2,3,4,5,6,7,8] [] [9] (by kernel_rfl) (by kernel_rfl) ?late ?_
    case late=>exact fun f hf=>absurd hf List.not_mem_nil
    iterate 2
     refine Rob.y (v:=?_) rfl rfl (fun w1 hx hH=>?_) ?_;rotate_left
     ·go_simp;first | done | rfl | exact (Bool.not_not _).symm
     simp only [Act.put,slA,slB,slC]
    refine Rob.y (v:=?_) rfl rfl (fun w1 hx hH=>?_) ?_;rotate_left
    ·(obtain ⟨hcx,hfx⟩:=bcell hx);go_simp;first | done | rfl
    simp only [Act.put,slA,slB,slC]
    refine Rob.y (v:=?_) rfl rfl (fun w1 hx hH=>?_) ?_;rotate_left
    ·go_simp;first | done | rfl | exact (Bool.not_not _).symm
    simp only [Act.put,slA,slB,slC]
    refine Rob.y (v:=?_) rfl rfl (fun w1 hx hH=>?_) ?_;rotate_left
    ·(obtain ⟨hcx,hfx⟩:=bcell hx);go_simp;first | done | rfl
    simp only [Act.put,slA,slB,slC]
    iterate 2
     refine Rob.y (v:=?_) rfl rfl (fun w1 hx hH=>?_) ?_;rotate_left
     ·go_simp;first | done | rfl | exact (Bool.not_not _).symm
     simp only [Act.put,slA,slB,slC]
    iterate 2
     refine Rob.y (v:=?_) rfl rfl (fun w1 hx hH=>?_) ?_;rotate_left
     ·(obtain ⟨hcx,hfx⟩:=bcell hx);go_simp;first | done | rfl
     simp only [Act.put,slA,slB,slC]
    refine fin_tail (fun w3 hx3 _=>?_)
    simp only [dstOf,List.getElem?_cons_succ,List.getElem?_cons_zero,Option.bind_some,Act.put,slA,slB,slC,List.filterMap_cons,List.filterMap_nil]
    have X3 : Ext w w3:=ext_trans (ext_trans X2 (by go_grown)) hx3
    have h3:=h.ext X3
    have hth:=h3.there (List.getElem?_eq_getElem hi) HP.out hkl
    have hF:=h3.page' hnd (List.getElem?_eq_getElem hi) HP.out hkl (pageW r true)
    have hC:=setAll_chg (o:=p.o + k * 5) (Chg.of_ext X3) hpl (pageC (pageW r true))
    have HF:=Lib.hid hF;have HC3:=Lib.hid hC;clear hF hC h3
    refine wpList_store_mid rfl 116 _ _ rfl p.b (p.o + k * 5) (pageC (pageW r true)).toArray rfl rfl hth (by kernel_rfl) (by simp [Value.oneCell',pageW]) ?_
    ·refine wpList_nil ?_
     change Exit.then _ _ _ _ (setAll w3 p.b (p.o + k * 5) (pageC (pageW r true)))
     generalize setAll w3 p.b (p.o + k * 5) (pageC (pageW r true)) = w4 at *
     go_wp2_with fail
     go_ret2
     exact ⟨rfl,HC3.out,HF.out⟩
structure Shape (s : Store) : Prop where
 flash : s.flash.length = 4
 pages : ∀ b ∈ s.flash,b.pages.length = 4
 worn : ∀ b ∈ s.flash,0 ≤ b.worn ∧ b.worn ≤ 1000
 disk : s.disk.length = 6
structure Fit (x : Step) : Prop where
 addr : x.kind = 1 → 1 ≤ x.addr ∧ x.addr ≤ 6
 block : x.kind ≠ 1 → 0 ≤ x.block ∧ x.block ≤ 3
def doStep (s : Store) (x : Step) (torn : Bool) : Store:=
 if x.kind = 1 then (if torn then s else ⟨s.flash,s.disk.set (x.addr - 1).toNat x.val⟩) else if x.kind = 2 then ⟨wipeF s.flash x.block.toNat torn,s.disk⟩ else if x.kind = 3 then ⟨writeF s.flash x.block.toNat x.r torn,s.disk⟩ else s
theorem wipeF_len (f : List Block) (i : Nat) (t : Bool) : (wipeF f i t).length = f.length:=by unfold wipeF;split <;> simp
theorem writeF_len (f : List Block) (i : Nat) (r : Rec) (t : Bool) : (writeF f i r t).length = f.length:=by unfold writeF;split <;> simp
theorem doStep_len (s : Store) (x : Step) (t : Bool) : (doStep s x t).flash.length = s.flash.length ∧ (doStep s x t).disk.length = s.disk.length:=by
 unfold doStep;(repeat' split) <;> simp [wipeF_len,writeF_len]
def RetO (c : SC) (w : World) (s : Store) (e : Ending) (w' : World) : Prop:=e = .returned (.agg #[c.fv s,c.dv s]) ∧ Chg c.L w w' ∧ OwnS c w' s
theorem fl_L {c : SC} : ∀ b ∈ c.fl,b ∈ c.L:=fun b hb=>List.mem_append_left _ hb
set_option maxRecDepth 20000 in
set_option maxHeartbeats 2000000 in
theorem l12Do_c (c : SC) (s : Store) (x : Step) (torn : Bool) (w : World) (h : OwnS c w s) (hs : Shape s) (hf : Fit x) :
  Calls Tryz.prog 111 #[.agg #[c.fv s,c.dv s],stepA x,.bool torn] w (RetO c w (doStep s x torn)):=by
 have hlt:=h.lt
 have HLT:=Lib.hid hlt;clear hlt
 obtain ⟨hl1,hl2⟩:=doStep_len s x torn
 have HL1:=Lib.hid hl1;have HL2:=Lib.hid hl2;clear hl1 hl2
 have hD : c.D.b < w.heap.size:=HLT.out _ (by simp [SC.L])
 have hfl:=SC.fl_nd h.nd
 obtain ⟨k,addr,val,block,r⟩:=x
 have HS:=Lib.hid hs;have HF:=Lib.hid hf;clear hs hf
 by_cases h1 : k = 1
 ·subst h1
  obtain ⟨n,rfl,hn6⟩ : ∃ n : Nat,addr = (n : Int) + 1 ∧ n < 6:=⟨(addr - 1).toNat,by have:=HF.out.addr rfl;dsimp only at this;omega,by have:=HF.out.addr rfl;dsimp only at this;omega⟩
  cases torn with
  | true =>
   have hq : doStep s ⟨1,(n : Int) + 1,val,block,r⟩ true = s:=rfl
   rw [hq]
   go_enter Tryz.func111,Tryz.ntmps111
   go_wp2_with fail
   refine bodyPost_ret (v:=.agg #[c.fv s,c.dv s]) (by simp [results,Tryz.results111,go_sem]) rfl ⟨rfl,?_,?_⟩
   ·exact Chg.of_ext (by go_grown)
   ·exact h.ext (by go_grown)
  | false =>
   have hq : doStep s ⟨1,(n : Int) + 1,val,block,r⟩ false = ⟨s.flash,s.disk.set n val⟩:=by simp [doStep]
   rw [hq] at HL2 ⊢
   have hnd : n < s.disk.length:=by rw [HS.out.disk];exact hn6
   have hcell:=h.disk.one hnd
   have hfz:=h.disk.frozen
   have hS1 : OwnS c (w.setCell ⟨c.D.b,c.D.o + n,none⟩ (.int .i64 val)) ⟨s.flash,s.disk.set n val⟩:=by
    refine ⟨h.flash.keep fun b hb=>Below.heap_setCell _ _ _ _ (SC.D_ne h.nd b hb),?_,h.nd⟩
    have:=OwnAt.set1 (n:=1) (enc:=intC) (fun _=>rfl) h.disk hnd (j:=0) (by omega) (.int .i64 val) val rfl
    simpa using this
   have HS1:=Lib.hid hS1;clear hS1 hq
   have n0 : ¬ w.heap.size = c.D.b:=by omega
   have n1 : ¬ w.heap.size + 1 = c.D.b:=by omega
   have n2 : ¬ w.heap.size + 1 + 1 = c.D.b:=by omega
   have hD1 : c.D.b < w.heap.size + 1:=by omega
   have hD2 : c.D.b < w.heap.size + 1 + 1:=by omega
   have hc1 : Chg c.L w (w.setCell ⟨c.D.b,c.D.o + n,none⟩ (.int .i64 val)):=(Chg.refl _ _).set (.inl (by simp [SC.L])) _
   have HC1:=Lib.hid hc1;clear hc1
   go_enter Tryz.func111,Tryz.ntmps111
   go_wp2_with fail
   refine bodyPost_ret (v:=.agg #[c.fv s,c.dv s]) (by simp [results,Tryz.results111,go_sem]) rfl ⟨by simp [SC.dv],?_,?_⟩
   ·exact ((HC1.out.alloc _).alloc _).alloc _
   ·exact ((HS1.out.alloc2).alloc2).alloc2
 have hnb:=h.new
 have HNB:=Lib.hid hnb;clear hnb
 by_cases h2 : k = 2
 ·subst h2
  obtain ⟨n,rfl,hn4⟩ : ∃ n : Nat,block = n ∧ n < 4:=⟨block.toNat,by have:=HF.out.block (by simp);dsimp only at this;omega,by have:=HF.out.block (by simp);dsimp only at this;omega⟩
  have hi : n < s.flash.length:=by rw [HS.out.flash];exact hn4
  have hq : doStep s ⟨2,addr,val,n,r⟩ torn = ⟨wipeF s.flash n torn,s.disk⟩:=by simp [doStep]
  rw [hq] at HL1 ⊢
  have hns : s.flash.length ≤ 1048576:=by have:=HS.out.flash;omega
  have HNS:=Lib.hid hns;have HI:=Lib.hid hi;clear hq hns hi
  have nfl : ∀ b,w.heap.size ≤ b → b ∉ c.fl:=fun b hb hm=>HNB.out b hb (fl_L b hm)
  have NFL:=Lib.hid nfl;clear nfl
  go_enter Tryz.func111,Tryz.ntmps111
  go_wp2_with fail
  refine (l2Wipe_c c s.flash n torn _ ((h.ext (by go_grown)).flash) hfl HI.out (HS.out.pages _ (List.getElem_mem _)) (HS.out.worn _ (List.getElem_mem _)) HNS.out).mono ?_;rintro e1 w1 ⟨rfl,hC,hF1⟩
  have G0:=hC.keep (hg_alloc (hg_alloc (hg_new (b:=w.heap.size) rfl))) (NFL.out _ (by omega))
  have G1:=hC.keep (hg_alloc (hg_new (b:=w.heap.size + 1) (by simp))) (NFL.out _ (by omega))
  have G2:=hC.keep (hg_new (b:=w.heap.size + 1 + 1) (by simp)) (NFL.out _ (by omega))
  have C1 : Chg c.L w w1:=Chg.trans (Chg.of_ext (by go_grown)) (hC.mono fl_L)
  have S1 : OwnS c w1 ⟨wipeF s.flash n torn,s.disk⟩:=⟨hF1,(h.ext (by go_grown)).disk.chg hC (fun hm=>SC.D_ne h.nd _ hm rfl),h.nd⟩
  have HS1:=Lib.hid S1;have HC1:=Lib.hid C1
  clear hC hF1 C1 S1
  obtain ⟨g0,gf0⟩:=cellsK G0
  obtain ⟨g1,gf1⟩:=cellsK G1
  obtain ⟨g2,gf2⟩:=cellsK G2
  have hl1:=HL1.out
  have LN:=Lib.hid hl1;clear hl1
  go_wp2_with fail
  refine bodyPost_ret (v:=.agg #[c.fv s,c.dv s]) (by simp [results,Tryz.results111,go_sem,g0,gf0,g1,gf1,g2,gf2]) rfl ⟨by simp [SC.fv,wipeF_len],?_,?_⟩
  ·have hc:=HC1.out
   ((repeat (first | with_reducible (refine Chg.set2 ?_ ?_);focus (exact Or.inr (by dsimp only;omega)) | with_reducible refine Chg.alloc2 ?_));with_reducible exact hc)
  ·have ho:=HS1.out
   ((repeat (first | (with_reducible apply OwnS.set2;focus (exact HNB.out _ (by dsimp only;omega))) | with_reducible apply OwnS.alloc2));with_reducible exact ho)
 by_cases h3 : k = 3
 ·subst h3
  obtain ⟨n,rfl,hn4⟩ : ∃ n : Nat,block = n ∧ n < 4:=⟨block.toNat,by have:=HF.out.block (by simp);dsimp only at this;omega,by have:=HF.out.block (by simp);dsimp only at this;omega⟩
  have hi : n < s.flash.length:=by rw [HS.out.flash];exact hn4
  have hq : doStep s ⟨3,addr,val,n,r⟩ torn = ⟨writeF s.flash n r torn,s.disk⟩:=by simp [doStep]
  rw [hq] at HL1 ⊢
  have hns : s.flash.length ≤ 1048576:=by have:=HS.out.flash;omega
  have HNS:=Lib.hid hns;have HI:=Lib.hid hi;clear hq hns hi
  have nfl : ∀ b,w.heap.size ≤ b → b ∉ c.fl:=fun b hb hm=>HNB.out b hb (fl_L b hm)
  have NFL:=Lib.hid nfl;clear nfl
  go_enter Tryz.func111,Tryz.ntmps111
  go_wp2_with fail
  refine (l2Write_c c s.flash n r torn _ ((h.ext (by go_grown)).flash) hfl HI.out HS.out.pages HNS.out).mono ?_;rintro e1 w1 ⟨rfl,hC,hF1⟩
  have G0:=hC.keep (hg_alloc (hg_alloc (hg_new (b:=w.heap.size) rfl))) (NFL.out _ (by omega))
  have G1:=hC.keep (hg_alloc (hg_new (b:=w.heap.size + 1) (by simp))) (NFL.out _ (by omega))
  have G2:=hC.keep (hg_new (b:=w.heap.size + 1 + 1) (by simp)) (NFL.out _ (by omega))
  have C1 : Chg c.L w w1:=Chg.trans (Chg.of_ext (by go_grown)) (hC.mono fl_L)
  have S1 : OwnS c w1 ⟨writeF s.flash n r torn,s.disk⟩:=⟨hF1,(h.ext (by go_grown)).disk.chg hC (fun hm=>SC.D_ne h.nd _ hm rfl),h.nd⟩
  have HS1:=Lib.hid S1;have HC1:=Lib.hid C1
  clear hC hF1 C1 S1
  obtain ⟨g0,gf0⟩:=cellsK G0
  obtain ⟨g1,gf1⟩:=cellsK G1
  obtain ⟨g2,gf2⟩:=cellsK G2
  have hl1:=HL1.out
  have LN:=Lib.hid hl1;clear hl1
  go_wp2_with fail
  refine bodyPost_ret (v:=.agg #[c.fv s,c.dv s]) (by simp [results,Tryz.results111,go_sem,g0,gf0,g1,gf1,g2,gf2]) rfl ⟨by simp [SC.fv,writeF_len],?_,?_⟩
  ·have hc:=HC1.out
   ((repeat (first | with_reducible (refine Chg.set2 ?_ ?_);focus (exact Or.inr (by dsimp only;omega)) | with_reducible refine Chg.alloc2 ?_));with_reducible exact hc)
  ·have ho:=HS1.out
   ((repeat (first | (with_reducible apply OwnS.set2;focus (exact HNB.out _ (by dsimp only;omega))) | with_reducible apply OwnS.alloc2));with_reducible exact ho)
 ·have hq : doStep s ⟨k,addr,val,block,r⟩ torn = s:=by unfold doStep;rw [if_neg h1,if_neg h2,if_neg h3]
  rw [hq];clear hq
  have b1 : (k == 1) = false:=by simpa using h1
  have b2 : (k == 2) = false:=by simpa using h2
  have b3 : (k == 3) = false:=by simpa using h3
  clear h1 h2 h3
  go_enter Tryz.func111,Tryz.ntmps111
  go_wp2_with fail
  refine bodyPost_ret (v:=.agg #[c.fv s,c.dv s]) (by simp [results,Tryz.results111,go_sem]) rfl ⟨rfl,?_,?_⟩
  ·exact Chg.of_ext (by go_grown)
  ·exact h.ext (by go_grown)
end Go.Bu
namespace Go.Bu
open Go Go.RowKit Go.Plan Go.Proofs
def doAll (s : Store) (xs : List Step) : Store:=xs.foldl (fun s x=>doStep s x false) s
def toSteps (s : Store) (xs : List Step) (cut : Int) (torn : Bool) : Store:=
 if torn && decide (0 ≤ cut) && decide (cut < xs.length) then doStep (doAll s (xs.take cut.toNat)) ((xs[cut.toNat]?).getD ⟨0,0,0,0,rec0⟩) true else doAll s (xs.take cut.toNat)
theorem mem_set {α : Type} {xs : List α} {i : Nat} {x y : α} (h : y ∈ xs.set i x) : y ∈ xs ∨ y = x:=by
 rcases List.mem_or_eq_of_mem_set h with h | h
 ·exact .inl h
 ·exact .inr h
theorem blockAt_mem {f : List Block} {i : Nat} (h : i < f.length) : blockAt f i ∈ f:=by rw [blockAt_get h];exact List.getElem_mem _
theorem Shape.wipe {s : Store} (h : Shape s) (i : Nat) (t : Bool) (hi : i < 4) : Shape ⟨wipeF s.flash i t,s.disk⟩:=by
 have hb:=blockAt_mem (f:=s.flash) (i:=i) (by rw [h.flash];exact hi)
 refine ⟨by show (wipeF _ _ _).length = 4;rw [wipeF_len];exact h.flash,fun b hm=>?_,fun b hm=>?_,h.disk⟩
 ·simp only [wipeF] at hm
  split at hm
  ·exact h.pages b hm
  ·rcases mem_set hm with hm | rfl
   ·exact h.pages b hm
   ·rfl
 ·simp only [wipeF] at hm
  split at hm
  ·exact h.worn b hm
  ·rcases mem_set hm with hm | rfl
   ·exact h.worn b hm
   ·have:=h.worn _ hb;dsimp only;omega
theorem Shape.write {s : Store} (h : Shape s) (i : Nat) (r : Rec) (t : Bool) (hi : i < 4) : Shape ⟨writeF s.flash i r t,s.disk⟩:=by
 have hb:=blockAt_mem (f:=s.flash) (i:=i) (by rw [h.flash];exact hi)
 refine ⟨by show (writeF _ _ _ _).length = 4;rw [writeF_len];exact h.flash,fun b hm=>?_,fun b hm=>?_,h.disk⟩
 ·simp only [writeF] at hm
  split at hm
  ·rcases mem_set hm with hm | rfl
   ·exact h.pages b hm
   ·rw [List.length_set];exact h.pages _ hb
  ·exact h.pages b hm
 ·simp only [writeF] at hm
  split at hm
  ·rcases mem_set hm with hm | rfl
   ·exact h.worn b hm
   ·have:=h.worn _ hb;exact this
  ·exact h.worn b hm
theorem Shape.step {s : Store} (h : Shape s) {x : Step} (hx : Fit x) (t : Bool) : Shape (doStep s x t):=by
 unfold doStep
 by_cases h1 : x.kind = 1
 ·rw [if_pos h1];split
  ·exact h
  ·exact ⟨h.flash,h.pages,h.worn,by simp [h.disk]⟩
 ·have hb:=hx.block h1
  rw [if_neg h1];split
  ·exact h.wipe _ _ (by omega)
  ·split
   ·exact h.write _ _ _ (by omega)
   ·exact h
theorem Shape.all {xs : List Step} : ∀ {s : Store},Shape s → (∀ x ∈ xs,Fit x) → Shape (doAll s xs):=fun {s} h hx =>
 foldl_inv (fun s x=>doStep s x false) Shape xs s h fun s x hm hs=>hs.step (hx x hm) false
abbrev StepsAt (c : SC) (w : World) (v : Value) (xs : List Step) : Prop:=Steps' (fun b=>b < w.heap.size ∧ b ∉ c.L) w v xs
theorem StepsAt.chg {c : SC} {w w' : World} {v : Value} {xs : List Step} (h : StepsAt c w v xs) (hx : Chg c.L w w') : StepsAt c w' v xs:=
 Sl.same (plain_kept _) h (fun b hb=>hx.block b hb.1 hb.2) fun b hb=>⟨Nat.lt_of_lt_of_le hb.1 hx.size,hb.2⟩
theorem SRow.at_ {c : SC} {base : Nat} {w : World} {v : Value} {xs : List Step} (h : SRow base w v xs) (hb : ∀ b,base ≤ b → b ∉ c.L) : StepsAt c w v xs:=by
 rcases h.2 with ⟨rfl,h0⟩ | ⟨g,cap,cur,rfl,hg,hh,_,_,_,ht⟩
 ·have : xs = []:=List.length_eq_zero_iff.1 h0
  subst this
  exact ⟨none,0,rfl,fun i x hx=>by simp at hx⟩
 ·refine ⟨_,cap,rfl,fun i x hx=>⟨g,0,stepC x,rfl,⟨heap_lt hh,hb g hg⟩,rfl,fun j u hu=>?_⟩⟩
  have:=flat_get (enc:=stepC) (n:=8) (fun _=>rfl) xs i x j u hx hu
  rw [← ht] at this
  have hlt:=(List.getElem?_eq_some_iff.1 this).1
  rw [List.length_take] at hlt
  rw [List.getElem?_take_of_lt (by omega)] at this
  rw [cell_block hh,Nat.zero_add]
  simpa using this
theorem doAll_len (xs : List Step) : ∀ s : Store,(doAll s xs).flash.length = s.flash.length ∧ (doAll s xs).disk.length = s.disk.length:=by
 induction xs with
 | nil=>exact fun s=>⟨rfl,rfl⟩
 | cons x xs ih=>exact fun s=>⟨(ih _).1.trans (doStep_len s x false).1,(ih _).2.trans (doStep_len s x false).2⟩
def RetOv (c : SC) (w : World) (fv dv : Value) (s : Store) (e : Ending) (w' : World) : Prop:=e = .returned (.agg #[fv,dv]) ∧ Chg c.L w w' ∧ OwnS c w' s
theorem SC.same {c : SC} {s t : Store} (h : t.flash.length = s.flash.length ∧ t.disk.length = s.disk.length) : c.fv t = c.fv s ∧ c.dv t = c.dv s:=⟨by simp only [SC.fv,h.1],by simp only [SC.dv,h.2]⟩
theorem l12Do_v (c : SC) (s t : Store) (x : Step) (torn : Bool) (w : World) (h : OwnS c w s) (hs : Shape s) (hf : Fit x) (hl : s.flash.length = t.flash.length ∧ s.disk.length = t.disk.length) :
  Calls Tryz.prog 111 #[.agg #[c.fv t,c.dv t],stepA x,.bool torn] w (RetOv c w (c.fv t) (c.dv t) (doStep s x torn)):=by
 obtain ⟨h1,h2⟩:=SC.same (c:=c) hl
 have:=l12Do_c c s x torn w h hs hf
 rw [h1,h2] at this
 refine this.mono fun e w' ⟨he,hc,ho⟩=>⟨?_,hc,ho⟩
 obtain ⟨h3,h4⟩:=SC.same (c:=c) (doStep_len s x torn)
 rw [he,h3,h4,h1,h2]
set_option maxRecDepth 20000 in
set_option maxHeartbeats 4000000 in
theorem l12To_c (c : SC) (s : Store) (sv : Value) (xs : List Step) (cut : Int) (torn : Bool) (w : World) (h : OwnS c w s) (hs : Shape s) (hx : StepsAt c w sv xs) (hf : ∀ x ∈ xs,Fit x) (hn : xs.length ≤ 1000) (hc : -1000000 ≤ cut) :
  Calls Tryz.prog 68 #[.agg #[c.fv s,c.dv s],sv,.int .i64 cut,.bool torn] w (RetO c w (toSteps s xs cut torn)):=by
 obtain ⟨sa,scap,rfl⟩:=hx.form
 have hlt:=h.lt
 have HLT:=Lib.hid hlt;clear hlt
 have HNB:=Lib.hid h.new
 obtain ⟨A,hA⟩ : ∃ A,doAll s (xs.take cut.toNat) = A:=⟨_,rfl⟩
 have HA : Hid (((xs.take cut.toNat).drop 0).foldl (fun s x=>doStep s x false) s = A):=Lib.hid hA
 have hAl:=doAll_len (xs.take cut.toNat) s
 rw [hA] at hAl
 obtain ⟨hal1,hal2⟩:=hAl
 have HF:=Lib.hid hf;have HS:=Lib.hid hs
 have HSA : Hid (Shape A):=Lib.hid (by rw [← hA];exact hs.all fun x hm=>hf x (List.mem_of_mem_take hm))
 have HQ : Hid (toSteps s xs cut torn = if torn && decide (0 ≤ cut) && decide (cut < xs.length) then doStep A ((xs[cut.toNat]?).getD ⟨0,0,0,0,rec0⟩) true else A):=Lib.hid (by unfold toSteps;rw [hA])
 have HL1:=Lib.hid hal1;have HL2:=Lib.hid hal2
 clear hA hf hs hal1 hal2
 generalize toSteps s xs cut torn = RR at *
 go_enter Tryz.func68,Tryz.ntmps68
 go_wp2_with fail
 go_loopw [9] (fun y wr=>∃ (k : Nat) (s1 : Store),k ≤ xs.length ∧ ((k : Int) ≤ cut ∨ k = 0) ∧ y = .int .i64 k ∧ Chg c.L w wr ∧ OwnS c wr s1 ∧ Hid (Shape s1) ∧ Hid (s1.flash.length = s.flash.length) ∧ Hid (s1.disk.length = s.disk.length) ∧
  Hid (((xs.take cut.toNat).drop k).foldl (fun s x=>doStep s x false) s1 = A) ∧ wr.heap[w.heap.size]? = some (.cells #[c.fv s,c.dv s] 26 (0,0)) ∧ wr.heap[w.heap.size + 1]? = some (.cells #[.slice none 0 0,.slice none 0 0] 26 (0,0))) (fun y _=>xs.length - (intOf y).toNat)
 case atStart =>
  exact ⟨0,s,by omega,.inr rfl,rfl,Chg.of_ext (by go_grown),h.ext (by go_grown),HS,Lib.hid rfl,Lib.hid rfl,HA,hg_alloc (hg_new rfl),hg_new (by simp)⟩
 case round =>
  obtain ⟨k,s1,hk,hkc,rfl,hC,hO,HS1,HE1,HE2,HR,G0,G1⟩:=hrel
  obtain ⟨g0,gf0⟩:=cellsK G0
  obtain ⟨g1,gf1⟩:=cellsK G1
  have l0:=heap_lt G0
  have l1:=heap_lt G1
  by_cases hgo : k < xs.length ∧ (k : Int) < cut
  ·obtain ⟨hkl,hkc2⟩:=hgo
   obtain ⟨b,o,rfl,hb,e0,e1,e2,e3,e4,e5,e6,e7⟩:=(hx.chg hC).at8 hkl
   obtain ⟨hb1,hb2⟩:=hb
   rw [foldl_drop _ _ _ _ (by simp;omega),List.getElem_take] at HR
   go_wp2_with fail
   refine wp_region_ext [] [0,1,2,3,4] [] [5,6] (by kernel_rfl) (by kernel_rfl) ?late ?_
   case late=>exact fun f hf=>absurd hf List.not_mem_nil
   refine Rob.y (v:=?_) rfl rfl (fun w1 hx hH=>?_) ?_;rotate_left
   ·(obtain ⟨hcx,hfx⟩:=bcell hx);go_simp;first | done | rfl
   simp only [Act.put,slA,slB,slC]
   iterate 2
    refine Rob.y (v:=?_) rfl rfl (fun w1 hx hH=>?_) ?_;rotate_left
    ·go_simp;first | done | rfl | exact (Bool.not_not _).symm
    simp only [Act.put,slA,slB,slC]
   iterate 2
    refine Rob.y (v:=?_) rfl rfl (fun w1 hx hH=>?_) ?_;rotate_left
    ·(obtain ⟨hcx,hfx⟩:=bcell hx);go_simp;first | done | rfl
    simp only [Act.put,slA,slB,slC]
   refine fin_tail (fun w1 hx1 _=>?_)
   simp only [dstOf,List.getElem?_cons_succ,List.getElem?_cons_zero,Option.bind_some,Act.put,slA,slB,slC,List.filterMap_cons,List.filterMap_nil]
   go_wp2_with (go_at_call 111;refine (l12Do_v c s1 s xs[k] false _ (hO.ext hx1) HS1.out (HF.out _ (List.getElem_mem _)) ⟨HE1.out,HE2.out⟩).mono ?_;rintro e2 w2 ⟨rfl,hC2,hO2⟩;have HC2:=Lib.hid (hC.trans (Chg.trans (Chg.of_ext hx1) hC2));have HO2:=Lib.hid hO2;replace G0:=hC2.keep (keep_ext hx1 G0) (HNB.out _ (by omega));replace G1:=hC2.keep (keep_ext hx1 G1) (HNB.out _ (by omega));clear hC2 hO2 g0 gf0 g1 gf1;obtain ⟨g0,gf0⟩:=cellsK G0;obtain ⟨g1,gf1⟩:=cellsK G1)
   obtain ⟨hl1,hl2⟩:=doStep_len s1 xs[k] false
   refine ⟨⟨k + 1,doStep s1 xs[k] false,by omega,.inl (by omega),by go_num,?_,?_,Lib.hid (HS1.out.step (HF.out _ (List.getElem_mem _)) false),Lib.hid (hl1.trans HE1.out),Lib.hid (hl2.trans HE2.out),HR,hgo (by (repeat (first | with_reducible apply hg_here | (with_reducible apply hg_set;focus (dsimp only;omega)) | with_reducible apply hg_alloc));with_reducible exact G0) ?_,(by (repeat (first | with_reducible apply hg_here | (with_reducible apply hg_set;focus (dsimp only;omega)) | with_reducible apply hg_alloc));with_reducible exact G1)⟩,by simp [intOf];omega⟩
   ·have hc:=HC2.out
    ((repeat (first | with_reducible (refine Chg.set2 ?_ ?_);focus (exact Or.inr (by dsimp only;omega)) | with_reducible refine Chg.alloc2 ?_));with_reducible exact hc)
   ·have ho:=HO2.out
    ((repeat (first | (with_reducible apply OwnS.set2;focus (exact HNB.out _ (by dsimp only;omega))) | with_reducible apply OwnS.alloc2));with_reducible exact ho)
   ·simp
  ·have hsA : s1 = A:=by
    have:=HR.out
    rw [List.drop_eq_nil_of_le (by simp;omega)] at this
    exact this
   subst hsA
   clear HR HA
   cases torn with
   | false =>
    go_wp2_with fail
    all_goals
     refine bodyPost_ret (v:=.agg #[c.fv s,c.dv s]) (by simp [results,Tryz.results68,go_sem,g0,gf0,g1,gf1]) rfl ?_
     have hr : RR = s1:=by rw [HQ.out];simp
     rw [hr]
     obtain ⟨q1,q2⟩:=SC.same (c:=c) (⟨HE1.out,HE2.out⟩)
     refine ⟨by rw [q1,q2],?_,?_⟩
     ·have hc:=hC
      ((repeat (first | with_reducible (refine Chg.set2 ?_ ?_);focus (exact Or.inr (by dsimp only;omega)) | with_reducible refine Chg.alloc2 ?_));with_reducible exact hc)
     ·have ho:=hO
      ((repeat (first | (with_reducible apply OwnS.set2;focus (exact HNB.out _ (by dsimp only;omega))) | with_reducible apply OwnS.alloc2));with_reducible exact ho)
   | true =>
    cases hin : inB cut 0 ((xs.length : Int) - 1) with
    | false =>
     have HI:=Lib.hid hin;clear hin
     go_wp2_with (go_at_call 44;refine (l6In_c _ _ _ _).mono ?_;rintro e1 w1 ⟨rfl,rfl⟩;rw [HI.out])
     all_goals
      refine bodyPost_ret (v:=.agg #[c.fv s,c.dv s]) (by simp [results,Tryz.results68,go_sem,g0,gf0,g1,gf1]) rfl ?_
      have hr : RR = s1:=by rw [HQ.out,if_neg (by have:=inB_no.1 HI.out;simp;omega)]
      rw [hr]
      obtain ⟨q1,q2⟩:=SC.same (c:=c) (⟨HE1.out,HE2.out⟩)
      refine ⟨by rw [q1,q2],?_,?_⟩
      ·have hc:=hC
       ((repeat (first | with_reducible (refine Chg.set2 ?_ ?_);focus (exact Or.inr (by dsimp only;omega)) | with_reducible refine Chg.alloc2 ?_));with_reducible exact hc)
      ·have ho:=hO
       ((repeat (first | (with_reducible apply OwnS.set2;focus (exact HNB.out _ (by dsimp only;omega))) | with_reducible apply OwnS.alloc2));with_reducible exact ho)
    | true =>
     have hcb:=inB_iff.1 hin
     obtain ⟨n,rfl⟩ : ∃ n : Nat,cut = n:=⟨cut.toNat,by omega⟩
     have hnl : n < xs.length:=by omega
     have HI:=Lib.hid hin;clear hin
     obtain ⟨b,o,rfl,hb,e0,e1,e2,e3,e4,e5,e6,e7⟩:=(hx.chg hC).at8 hnl
     obtain ⟨hb1,hb2⟩:=hb
     go_wp2_with (go_at_call 44;refine (l6In_c _ _ _ _).mono ?_;rintro e1 w1 ⟨rfl,rfl⟩;rw [HI.out])
     all_goals
      refine wp_region_ext [] [0,1,2,3,4] [] [5,6] (by kernel_rfl) (by kernel_rfl) ?late ?_
      case late=>exact fun f hf=>absurd hf List.not_mem_nil
      refine Rob.y (v:=?_) rfl rfl (fun w1 hx hH=>?_) ?_;rotate_left
      ·(obtain ⟨hcx,hfx⟩:=bcell hx);go_simp;first | done | rfl
      simp only [Act.put,slA,slB,slC]
      iterate 2
       refine Rob.y (v:=?_) rfl rfl (fun w1 hx hH=>?_) ?_;rotate_left
       ·go_simp;first | done | rfl | exact (Bool.not_not _).symm
       simp only [Act.put,slA,slB,slC]
      iterate 2
       refine Rob.y (v:=?_) rfl rfl (fun w1 hx hH=>?_) ?_;rotate_left
       ·(obtain ⟨hcx,hfx⟩:=bcell hx);go_simp;first | done | rfl
       simp only [Act.put,slA,slB,slC]
      refine fin_tail (fun w1 hx1 _=>?_)
      simp only [dstOf,List.getElem?_cons_succ,List.getElem?_cons_zero,Option.bind_some,Act.put,slA,slB,slC,List.filterMap_cons,List.filterMap_nil]
      go_wp2_with (go_at_call 111;refine (l12Do_v c s1 s xs[n] true _ (hO.ext hx1) HS1.out (HF.out _ (List.getElem_mem _)) ⟨HE1.out,HE2.out⟩).mono ?_;rintro e2 w2 ⟨rfl,hC2,hO2⟩;have HC2:=Lib.hid (hC.trans (Chg.trans (Chg.of_ext hx1) hC2));have HO2:=Lib.hid hO2;replace G0:=hC2.keep (keep_ext hx1 G0) (HNB.out _ (by omega));replace G1:=hC2.keep (keep_ext hx1 G1) (HNB.out _ (by omega));clear hC2 hO2 g0 gf0 g1 gf1;obtain ⟨g0,gf0⟩:=cellsK G0;obtain ⟨g1,gf1⟩:=cellsK G1)
      obtain ⟨hl1,hl2⟩:=doStep_len s1 xs[n] true
      refine bodyPost_ret (v:=.agg #[c.fv s,c.dv s]) (by simp [results,Tryz.results68,go_sem,g0,gf0,g1,gf1]) rfl ?_
      have hr : RR = doStep s1 xs[n] true:=by rw [HQ.out,if_pos (by simp;omega)];simp [List.getElem?_eq_getElem hnl]
      rw [hr]
      obtain ⟨q1,q2⟩:=SC.same (c:=c) (⟨hl1.trans HE1.out,hl2.trans HE2.out⟩)
      refine ⟨by rw [q1,q2],?_,?_⟩
      ·have hc:=HC2.out
       ((repeat (first | with_reducible (refine Chg.set2 ?_ ?_);focus (exact Or.inr (by dsimp only;omega)) | with_reducible refine Chg.alloc2 ?_));with_reducible exact hc)
      ·have ho:=HO2.out
       ((repeat (first | (with_reducible apply OwnS.set2;focus (exact HNB.out _ (by dsimp only;omega))) | with_reducible apply OwnS.alloc2));with_reducible exact ho)
end Go.Bu
namespace Go.Bu
open Go Go.RowKit Go.Plan Go.Proofs
def ordB (prev : Bool) : List Page → Bool
 | []=>true
 | p :: ps=>!(prev && p.state != 0) && ordB (p.state == 0) ps
def seqOf (p : Page) : Option Int:=if p.state = 1 then some p.r.seq else none
def pseqs (ps : List Page) : List Int:=ps.filterMap seqOf
def seqs (f : List Block) : List Int:=f.flatMap fun b=>pseqs b.pages
def fresh (L : List Int) : List Int → Bool
 | []=>true
 | x :: xs=>!L.contains x && fresh (x :: L) xs
def blockB (b : Block) : Bool:=b.pages.length == 4 && inB b.worn 0 200 && b.pages.all pageOkB && ordB false b.pages
theorem scanP_eq : ∀ (ps : List Page) (prev : Bool) (L : List Int),scanP prev L ps = if ps.all pageOkB && ordB prev ps && fresh L (pseqs ps) then some ((pseqs ps).reverse ++ L) else none
 | [],prev,L=>by simp [scanP,ordB,pseqs,fresh]
 | p :: ps,prev,L=>by
  rw [scanP,scanP_eq ps]
  by_cases h1 : p.state = 1
  ·have hq : pseqs (p :: ps) = p.r.seq :: pseqs ps:=by simp [pseqs,seqOf,h1]
   rw [hq]
   simp only [h1,ordB,fresh,List.all_cons,List.reverse_cons,List.append_assoc]
   by_cases hp : pageOkB p = true <;> cases prev <;> by_cases hc : p.r.seq ∈ L <;> simp [hp,hc]
  ·have hq : pseqs (p :: ps) = pseqs ps:=by simp [pseqs,seqOf,h1]
   rw [hq]
   have hb : (p.state == 1) = false:=by simpa using h1
   simp only [hb,ordB,List.all_cons]
   by_cases hp : pageOkB p = true <;> cases prev <;> by_cases hz : p.state = 0 <;> simp [hp,hz]
theorem fresh_append : ∀ (a b L : List Int),fresh L (a ++ b) = (fresh L a && fresh (a.reverse ++ L) b)
 | [],b,L=>by simp [fresh]
 | x :: a,b,L=>by simp [fresh,fresh_append a,Bool.and_assoc]
theorem scanF_eq : ∀ (f : List Block) (L : List Int),scanF L f = if f.all blockB && fresh L (seqs f) then some ((seqs f).reverse ++ L) else none
 | [],L=>by simp [scanF,seqs,fresh]
 | b :: f,L=>by
  have hq : seqs (b :: f) = pseqs b.pages ++ seqs f:=by simp [seqs]
  rw [scanF,scanP_eq,hq,fresh_append]
  simp only [List.all_cons,blockB]
  by_cases h4 : b.pages.length = 4
  ·by_cases hw : inB b.worn 0 200 = true
   ·rw [if_neg (by simp [h4,hw])]
    rcases Bool.eq_false_or_eq_true (b.pages.all pageOkB) with h1 | h1 <;> rcases Bool.eq_false_or_eq_true (ordB false b.pages) with h2 | h2 <;> rcases Bool.eq_false_or_eq_true (fresh L (pseqs b.pages)) with h3 | h3 <;>
     simp [-List.all_eq_true,-List.all_eq_false,h1,h2,h3,h4,hw,scanF_eq f]
   ·simp [h4,hw]
  ·simp [h4]
theorem flashOkB_eq (f : List Block) : flashOkB f = (f.length == 4 && f.all blockB && fresh [] (seqs f)):=by
 unfold flashOkB
 rw [scanF_eq]
 split <;> simp_all
theorem fresh_iff : ∀ (xs L : List Int),fresh L xs = true ↔ xs.Nodup ∧ ∀ x ∈ xs,x ∉ L
 | [],L=>by simp [fresh]
 | x :: xs,L=>by
  rw [fresh,Bool.and_eq_true,fresh_iff xs]
  simp
  constructor
  ·rintro ⟨h1,h2,h3⟩
   exact ⟨⟨fun h=>absurd rfl (h3 x h).1,h2⟩,h1,fun y hy=>(h3 y hy).2⟩
  ·rintro ⟨⟨h1,h2⟩,h3,h4⟩
   exact ⟨h3,h2,fun y hy=>⟨fun e=>h1 (e ▸ hy),h4 y hy⟩⟩
structure FlashOk (f : List Block) : Prop where
 len : f.length = 4
 blocks : ∀ b ∈ f,blockB b = true
 nd : (seqs f).Nodup
theorem flashOk_iff {f : List Block} : flashOkB f = true ↔ FlashOk f:=by
 rw [flashOkB_eq]
 simp only [Bool.and_eq_true,beq_iff_eq,List.all_eq_true,fresh_iff]
 exact ⟨fun ⟨⟨h1,h2⟩,h3,_⟩=>⟨h1,h2,h3⟩,fun ⟨h1,h2,h3⟩=>⟨⟨h1,h2⟩,h3,fun _ _ h=>by cases h⟩⟩
theorem blockB_iff {b : Block} : blockB b = true ↔ b.pages.length = 4 ∧ 0 ≤ b.worn ∧ b.worn ≤ 200 ∧ (∀ p ∈ b.pages,pageOkB p = true) ∧ ordB false b.pages = true:=by
 simp only [blockB,Bool.and_eq_true,beq_iff_eq,inB_iff,List.all_eq_true]
 exact ⟨fun ⟨⟨⟨h1,h2,h3⟩,h4⟩,h5⟩=>⟨h1,h2,h3,h4,h5⟩,fun ⟨h1,h2,h3,h4,h5⟩=>⟨⟨⟨h1,h2,h3⟩,h4⟩,h5⟩⟩
theorem ordB_true : ∀ (ps : List Page),ordB true ps = true ↔ ∀ p ∈ ps,p.state = 0
 | []=>by simp [ordB]
 | p :: ps=>by
  simp only [ordB,Bool.true_and,Bool.and_eq_true,Bool.not_eq_true',bne_eq_false_iff_eq]
  constructor
  ·rintro ⟨h1,h2⟩
   rw [h1] at h2
   have:=(ordB_true ps).1 h2
   simpa [h1] using this
  ·intro h
   have h1:=h p (by simp)
   refine ⟨h1,?_⟩
   rw [h1];exact (ordB_true ps).2 fun q hq=>h q (by simp [hq])
theorem ordB_split : ∀ (ps : List Page),ordB false ps = true ↔ ∃ k,k ≤ ps.length ∧ (∀ p ∈ ps.take k,p.state ≠ 0) ∧ ∀ p ∈ ps.drop k,p.state = 0
 | []=>by simp [ordB]
 | p :: ps=>by
  simp only [ordB,Bool.false_and,Bool.not_false,Bool.true_and]
  by_cases h0 : p.state = 0
  ·rw [show (p.state == 0) = true from by simpa using h0,ordB_true]
   constructor
   ·intro h;exact ⟨0,by simp,by simp,by simpa [h0] using h⟩
   ·rintro ⟨k,hk,h1,h2⟩
    cases k with
    | zero=>intro q hq;exact h2 q (by simp [hq])
    | succ k=>exact absurd h0 (h1 p (by simp))
  ·rw [show (p.state == 0) = false from by simpa using h0,ordB_split ps]
   constructor
   ·rintro ⟨k,hk,h1,h2⟩;exact ⟨k + 1,by simpa using hk,by simpa [h0] using h1,by simpa using h2⟩
   ·rintro ⟨k,hk,h1,h2⟩
    cases k with
    | zero=>exact absurd (h2 p (by simp)) h0
    | succ k=>exact ⟨k,by simpa using hk,fun q hq=>h1 q (by simp [hq]),by simpa using h2⟩
theorem cleanN_append (a b : List Page) : cleanN (a ++ b) = cleanN a + cleanN b:=by
 have : ∀ (ps : List Page) (n : Int),ps.foldl cleanStep n = n + ps.foldl cleanStep 0:=by
  intro ps
  induction ps with
  | nil=>intro n;simp
  | cons p ps ih =>
   intro n
   simp only [List.foldl_cons]
   rw [ih,ih (cleanStep 0 p)]
   unfold cleanStep;split <;> omega
 unfold cleanN
 rw [List.foldl_append,this b]
theorem cleanN_none {ps : List Page} (h : ∀ p ∈ ps,p.state ≠ 0) : cleanN ps = 0:=by
 induction ps with
 | nil=>rfl
 | cons p ps ih =>
  have : cleanN (p :: ps) = cleanN [p] + cleanN ps:=cleanN_append [p] ps
  rw [this,ih fun q hq=>h q (by simp [hq])]
  simp [cleanN,cleanStep,h p (by simp)]
theorem cleanN_all {ps : List Page} (h : ∀ p ∈ ps,p.state = 0) : cleanN ps = ps.length:=by
 induction ps with
 | nil=>rfl
 | cons p ps ih =>
  have : cleanN (p :: ps) = cleanN [p] + cleanN ps:=cleanN_append [p] ps
  rw [this,ih fun q hq=>h q (by simp [hq])]
  simp [cleanN,cleanStep,h p (by simp)];omega
theorem free_at {ps : List Page} (h4 : ps.length = 4) (ho : ordB false ps = true) : (∀ p ∈ ps.take (4 - (cleanN ps).toNat),p.state ≠ 0) ∧ (∀ p ∈ ps.drop (4 - (cleanN ps).toNat),p.state = 0) ∧ 0 ≤ cleanN ps ∧ cleanN ps ≤ 4:=by
 obtain ⟨k,hk,h1,h2⟩:=(ordB_split ps).1 ho
 have hc : cleanN ps = ((4 - k : Nat) : Int):=by
  conv=>lhs;rw [← List.take_append_drop k ps]
  rw [cleanN_append,cleanN_none h1,cleanN_all h2];simp;omega
 rw [hc]
 have : 4 - ((4 - k : Nat) : Int).toNat = k:=by omega
 rw [this]
 exact ⟨h1,h2,by omega,by omega⟩
end Go.Bu
namespace Go.Bu
open Go Go.RowKit Go.Plan Go.Proofs
theorem pseqs_append (a b : List Page) : pseqs (a ++ b) = pseqs a ++ pseqs b:=List.filterMap_append
theorem seqs_append (a b : List Block) : seqs (a ++ b) = seqs a ++ seqs b:=List.flatMap_append
theorem split_at {α : Type} (xs : List α) (i : Nat) (h : i < xs.length) : xs = xs.take i ++ xs[i] :: xs.drop (i + 1):=by
 conv=>lhs;rw [← List.take_append_drop i xs,List.drop_eq_getElem_cons h]
theorem set_at {α : Type} (xs : List α) (i : Nat) (h : i < xs.length) (y : α) : xs.set i y = xs.take i ++ y :: xs.drop (i + 1):=by
 rw [List.set_eq_take_append_cons_drop,if_pos h]
theorem seqs_at (f : List Block) (i : Nat) (h : i < f.length) : seqs f = seqs (f.take i) ++ (pseqs f[i].pages ++ seqs (f.drop (i + 1))):=by
 conv=>lhs;rw [split_at f i h]
 rw [seqs_append];rfl
theorem seqs_set (f : List Block) (i : Nat) (h : i < f.length) (b : Block) : seqs (f.set i b) = seqs (f.take i) ++ (pseqs b.pages ++ seqs (f.drop (i + 1))):=by
 rw [set_at f i h,seqs_append];rfl
theorem pseqs_cons (p : Page) (ps : List Page) : pseqs (p :: ps) = (seqOf p).toList ++ pseqs ps:=by
 unfold pseqs;rw [List.filterMap_cons];cases seqOf p <;> rfl
theorem pseqs_at (ps : List Page) (k : Nat) (h : k < ps.length) : pseqs ps = pseqs (ps.take k) ++ ((seqOf ps[k]).toList ++ pseqs (ps.drop (k + 1))):=by
 conv=>lhs;rw [split_at ps k h]
 rw [pseqs_append,pseqs_cons]
theorem pseqs_set (ps : List Page) (k : Nat) (h : k < ps.length) (p : Page) : pseqs (ps.set k p) = pseqs (ps.take k) ++ ((seqOf p).toList ++ pseqs (ps.drop (k + 1))):=by
 rw [set_at ps k h,pseqs_append,pseqs_cons]
theorem mem_pseqs {ps : List Page} {n : Int} : n ∈ pseqs ps ↔ ∃ p ∈ ps,p.state = 1 ∧ p.r.seq = n:=by
 unfold pseqs seqOf
 rw [List.mem_filterMap]
 constructor
 ·rintro ⟨p,hp,h⟩
  split at h
  ·exact ⟨p,hp,‹_›,Option.some.inj h⟩
  ·cases h
 ·rintro ⟨p,hp,h1,h2⟩
  exact ⟨p,hp,by rw [if_pos h1,h2]⟩
theorem mem_seqs {f : List Block} {n : Int} : n ∈ seqs f ↔ ∃ b ∈ f,∃ p ∈ b.pages,p.state = 1 ∧ p.r.seq = n:=by
 unfold seqs
 rw [List.mem_flatMap]
 constructor
 ·rintro ⟨b,hb,h⟩;exact ⟨b,hb,mem_pseqs.1 h⟩
 ·rintro ⟨b,hb,h⟩;exact ⟨b,hb,mem_pseqs.2 h⟩
theorem seqUsed_iff {f : List Block} {n : Int} : seqUsed f n = true ↔ n ∈ seqs f:=by
 rw [mem_seqs]
 unfold seqUsed isSeq
 simp only [List.any_eq_true,Bool.and_eq_true,beq_iff_eq]
theorem FlashOk.bl {f : List Block} (h : FlashOk f) {i : Nat} (hi : i < 4) : ∃ hl : i < f.length,blockB f[i] = true:=
 ⟨by rw [h.len];exact hi,h.blocks _ (List.getElem_mem _)⟩
theorem blockB_free {b : Block} (h : blockB b = true) : (∀ p ∈ b.pages.take (4 - (cleanN b.pages).toNat),p.state ≠ 0) ∧ (∀ p ∈ b.pages.drop (4 - (cleanN b.pages).toNat),p.state = 0) ∧ 0 ≤ cleanN b.pages ∧ cleanN b.pages ≤ 4:=by
 obtain ⟨h1,h2,h3,h4,h5⟩:=blockB_iff.1 h
 exact free_at h1 h5
theorem pageW_ok {r : Rec} (hr : recOkB r = true) (t : Bool) : pageOkB (pageW r t) = true ∧ (pageW r t).state ≠ 0:=by
 cases t
 ·exact ⟨by simp [pageW,pageOkB,hr],by simp [pageW]⟩
 ·exact ⟨by simp [pageW,pageOkB,recZ,rec0],by simp [pageW]⟩
theorem blockB_write {b : Block} (h : blockB b = true) {p : Page} (hp : pageOkB p = true) (hs : p.state ≠ 0) (hc : cleanN b.pages ≠ 0) : blockB ⟨b.pages.set (4 - (cleanN b.pages).toNat) p,b.worn⟩ = true:=by
 obtain ⟨h1,h2,h3,h4,h5⟩:=blockB_iff.1 h
 obtain ⟨f1,f2,f3,f4⟩:=blockB_free h
 generalize hk : 4 - (cleanN b.pages).toNat = k at *
 have hk4 : k < b.pages.length:=by omega
 refine blockB_iff.2 ⟨by simpa using h1,h2,h3,fun q hq=>?_,(ordB_split _).2 ⟨k + 1,by simp;omega,fun q hq=>?_,fun q hq=>?_⟩⟩
 ·rcases mem_set hq with hq | rfl
  ·exact h4 q hq
  ·exact hp
 ·rw [set_at _ _ hk4,List.take_append] at hq
  simp at hq
  rcases hq with hq | hq
  ·exact f1 q (List.mem_of_mem_take hq)
  ·have : min k b.pages.length = k:=by omega
   rw [this] at hq
   simp at hq
   rw [hq];exact hs
 ·rw [set_at _ _ hk4,List.drop_append] at hq
  have hm : (b.pages.take k).length = k:=by simp;omega
  rw [hm,List.drop_eq_nil_of_le (by omega),show k + 1 - k = 1 by omega] at hq
  simp only [List.nil_append,List.drop_succ_cons,List.drop_zero] at hq
  exact f2 q (by rw [List.drop_eq_getElem_cons hk4];exact List.mem_cons_of_mem _ hq)
theorem clean_seq {p : Page} (h : p.state = 0) : seqOf p = none:=by unfold seqOf;rw [if_neg (by omega)]
theorem FlashOk.write {f : List Block} (h : FlashOk f) {i : Nat} (hi : i < 4) {r : Rec} (hr : recOkB r = true) (t : Bool) : FlashOk (writeF f i r t):=by
 obtain ⟨hl,hb⟩:=h.bl hi
 unfold writeF writeOk
 rw [blockAt_get hl]
 split
 ·rename_i hc
  simp only [Bool.not_eq_true',Bool.or_eq_false_iff,decide_eq_false_iff_not] at hc
  obtain ⟨hc,hs⟩:=hc
  obtain ⟨p1,p2⟩:=pageW_ok hr t
  obtain ⟨f1,f2,f3,f4⟩:=blockB_free hb
  have h4:=(blockB_iff.1 hb).1
  refine ⟨by simpa using h.len,fun b hm=>?_,?_⟩
  ·rcases mem_set hm with hm | rfl
   ·exact h.blocks b hm
   ·exact blockB_write hb p1 p2 hc
  ·have hk4 : 4 - (cleanN f[i].pages).toNat < f[i].pages.length:=by omega
   have hnd:=h.nd
   have hz : seqOf f[i].pages[4 - (cleanN f[i].pages).toNat] = none:=clean_seq (f2 _ (by rw [List.drop_eq_getElem_cons hk4];exact List.mem_cons_self))
   rw [seqs_at f i hl,pseqs_at _ _ hk4,hz] at hnd
   rw [seqs_set f i hl,pseqs_set _ _ hk4]
   cases t
   ·have hn : r.seq ∉ seqs f:=fun hm=>by rw [seqUsed_iff.2 hm] at hs;cases hs
    rw [seqs_at f i hl,pseqs_at _ _ hk4,hz] at hn
    simp only [Option.toList_none,List.nil_append] at hn hnd
    have hq : seqOf (pageW r false) = some r.seq:=rfl
    rw [hq]
    simp only [Option.toList_some,List.singleton_append]
    rw [List.append_assoc,List.cons_append,← List.append_assoc (seqs _) (pseqs _)]
    rw [List.append_assoc,← List.append_assoc (seqs _) (pseqs _)] at hn hnd
    exact (List.perm_middle.nodup_iff).2 (List.nodup_cons.2 ⟨hn,hnd⟩)
   ·have hq : seqOf (pageW r true) = none:=rfl
    rw [hq];exact hnd
 ·exact h
theorem FlashOk.wipe {f : List Block} (h : FlashOk f) {i : Nat} (hi : i < 4) (t : Bool) : FlashOk (wipeF f i t):=by
 obtain ⟨hl,hb⟩:=h.bl hi
 unfold wipeF
 rw [blockAt_get hl]
 split
 ·exact h
 ·rename_i hw
  obtain ⟨h1,h2,h3,h4,h5⟩:=blockB_iff.1 hb
  have hbl : ∀ st,(blank st).r = rec0:=fun _=>rfl
  refine ⟨by simpa using h.len,fun b hm=>?_,?_⟩
  ·rcases mem_set hm with hm | rfl
   ·exact h.blocks b hm
   ·refine blockB_iff.2 ⟨rfl,by dsimp only;omega,by dsimp only;omega,fun p hp=>?_,?_⟩
    ·obtain rfl:=List.eq_of_mem_replicate hp
     cases t <;> rfl
    ·cases t <;> rfl
  ·have hnd:=h.nd
   rw [seqs_at f i hl] at hnd
   rw [seqs_set f i hl]
   refine List.Nodup.sublist ?_ hnd
   refine List.Sublist.append (List.Sublist.refl _) (List.Sublist.append ?_ (List.Sublist.refl _))
   have : pseqs (List.replicate 4 (blank (tornSt t))) = []:=by cases t <;> rfl
   rw [this];exact List.nil_sublist _
structure StepOk (x : Step) : Prop where
 fit : Fit x
 r : x.kind = 3 → recOkB x.r = true
theorem StoreP.step {s : Store} (h : StoreP s) {x : Step} (hx : StepOk x) (t : Bool) : StoreP (doStep s x t):=by
 have hf:=flashOk_iff.1 h.flash
 unfold doStep
 by_cases h1 : x.kind = 1
 ·rw [if_pos h1];split
  ·exact h
  ·exact ⟨h.flash,by simp [h.disk]⟩
 ·have hb:=hx.fit.block h1
  rw [if_neg h1];split
  ·exact ⟨flashOk_iff.2 (hf.wipe (by omega) t),h.disk⟩
  ·split
   ·exact ⟨flashOk_iff.2 (hf.write (by omega) (hx.r ‹_›) t),h.disk⟩
   ·exact h
theorem StoreP.shape {s : Store} (h : StoreP s) : Shape s:=
 ⟨flashOk_len h.flash,fun b hb=>(flashOk_block h.flash hb).1,fun b hb=>by have:=flashOk_block h.flash hb;omega,h.disk⟩
theorem StoreP.all {xs : List Step} {s : Store} (h : StoreP s) (hx : ∀ x ∈ xs,StepOk x) : StoreP (doAll s xs):=
 foldl_inv (fun s x=>doStep s x false) StoreP xs s h fun s x hm hs=>hs.step (hx x hm) false
theorem StoreP.to {xs : List Step} {s : Store} (h : StoreP s) (hx : ∀ x ∈ xs,StepOk x) (cut : Int) (t : Bool) : StoreP (toSteps s xs cut t):=by
 have h1:=h.all (xs:=xs.take cut.toNat) fun x hm=>hx x (List.mem_of_mem_take hm)
 unfold toSteps
 split
 ·rename_i hc
  simp only [Bool.and_eq_true,decide_eq_true_eq] at hc
  have hl : cut.toNat < xs.length:=by omega
  rw [List.getElem?_eq_getElem hl]
  exact h1.step (hx _ (List.getElem_mem _)) true
 ·exact h1
theorem openScan_lt (f : List Block) : ∀ (rest : List Block) (i : Nat) (out : Int),i + rest.length = f.length → -1 ≤ out → out < f.length → (openScan f i out rest).2 = true → 0 ≤ (openScan f i out rest).1 ∧ (openScan f i out rest).1 < f.length
 | [],i,out,hl,h0,h1,h2=>by
  simp only [openScan,decide_eq_true_eq] at h2 ⊢
  split <;> omega
 | b :: rest,i,out,hl,h0,h1,h2=>by
  simp only [List.length_cons] at hl
  rw [openScan] at h2 ⊢
  split
  ·dsimp only;omega
  ·rename_i hc
   rw [if_neg hc] at h2
   refine openScan_lt f rest (i + 1) _ (by omega) ?_ ?_ h2
   ·unfold openStep;split <;> omega
   ·unfold openStep;split <;> omega
theorem openB_lt {f : List Block} (h : (openB f).2 = true) : 0 ≤ (openB f).1 ∧ (openB f).1 < f.length:=openScan_lt f f 0 (-1) (by simp) (by omega) (by omega) h
theorem liveP_ok {f : List Block} (h : FlashOk f) {b : Block} (hb : b ∈ f) {p : Page} (hp : p ∈ b.pages) (hl : p.state = 1) : recOkB p.r = true:=by
 have:=(blockB_iff.1 (h.blocks b hb)).2.2.2.1 p hp
 unfold pageOkB at this
 rwa [if_pos hl] at this
theorem recOkB_iff {r : Rec} : recOkB r = true ↔ (1 ≤ r.kind ∧ r.kind ≤ 2) ∧ (1 ≤ r.seq ∧ r.seq ≤ 600) ∧ (1 ≤ r.addr ∧ r.addr ≤ 6) ∧ (0 ≤ r.val ∧ r.val ≤ 9):=by
 simp only [recOkB,Bool.and_eq_true,inB_iff,and_assoc]
theorem roomSteps_ok {f : List Block} (h : FlashOk f) {b : Block} (hb : b ∈ f) : ∀ x ∈ roomSteps f b.pages,StepOk x ∧ x.kind = 1:=by
 intro x hx
 obtain ⟨p,hp,hm⟩:=List.mem_flatMap.1 hx
 unfold roomOne at hm
 split at hm
 ·rename_i hc
  obtain rfl:=List.mem_singleton.1 hm
  have h1 : p.state = 1:=by have:=hc.1;simp only [liveP,Bool.and_eq_true,beq_iff_eq] at this;exact this.1
  have hr:=recOkB_iff.1 (liveP_ok h hb hp h1)
  exact ⟨⟨⟨fun _=>hr.2.2.1,fun h=>absurd rfl h⟩,fun h=>(by cases h)⟩,rfl⟩
 ·cases hm
theorem room_block {f : List Block} (h : FlashOk f) : 0 ≤ (room f).2.1 ∧ (room f).2.1 ≤ 3:=by
 have h4:=h.len
 unfold room
 split
 ·rename_i hc;have:=openB_lt hc;dsimp only;omega
 ·have:=old_lt (f:=f) (by omega);dsimp only;omega
theorem room_ok {f : List Block} (h : FlashOk f) : ∀ x ∈ (room f).1,StepOk x:=by
 have h4:=h.len
 unfold room
 split
 ·intro x hx;cases hx
 ·have ho:=old_lt (f:=f) (by omega)
  intro x hx
  rcases List.mem_append.1 hx with hx | hx
  ·exact (roomSteps_ok h (blockAt_mem ho) x hx).1
  ·obtain rfl:=List.mem_singleton.1 hx
   exact ⟨⟨fun h=>(by cases h),fun _=>by dsimp only;omega⟩,fun h=>(by cases h)⟩
theorem write_ok {f : List Block} (h : FlashOk f) (kind addr val : Int) : ∀ x ∈ writeSteps f kind addr val,StepOk x:=by
 unfold writeSteps
 split
 ·rename_i hc
  simp only [Bool.and_eq_true] at hc
  intro x hx
  rcases List.mem_append.1 hx with hx | hx
  ·exact room_ok h x hx
  ·obtain rfl:=List.mem_singleton.1 hx
   exact ⟨⟨fun h=>(by cases h),fun _=>room_block h⟩,fun _=>hc.2⟩
 ·intro x hx;cases hx
theorem flush_ok {s : Store} (h : FlashOk s.flash) {n : Nat} (hn : n < 6) : ∀ x ∈ flushSteps s n,StepOk x:=by
 unfold flushSteps
 split
 ·split
  ·intro x hx;cases hx
  ·intro x hx
   rcases List.mem_cons.1 hx with rfl | hx
   ·exact ⟨⟨fun _=>by dsimp only;omega,fun h=>absurd rfl h⟩,fun h=>(by cases h)⟩
   ·exact write_ok h _ _ _ x hx
 ·intro x hx;cases hx
theorem fill_ok {s : Store} (h : FlashOk s.flash) (n : Nat) : ∀ x ∈ fillSteps s n,StepOk x:=by
 unfold fillSteps
 split
 ·intro x hx;cases hx
 ·exact write_ok h _ _ _
theorem addrStep_ok {g : Nat → List Step} (h : ∀ n,n < 6 → ∀ x ∈ g n,StepOk x) (a : Int) : ∀ x ∈ addrStep g a,StepOk x:=by
 unfold addrStep
 split
 ·rename_i hc;have:=inB_iff.1 hc;exact h _ (by omega)
 ·intro x hx;cases hx
theorem play_ok {s : Store} (h : FlashOk s.flash) (e : Event) : ∀ x ∈ playSteps s e,StepOk x:=by
 unfold playSteps putSteps
 split
 ·exact write_ok h _ _ _
 ·split
  ·exact addrStep_ok (fun n hn=>flush_ok h hn) _
  ·split
   ·exact addrStep_ok (fun n _=>fill_ok h n) _
   ·intro x hx;cases hx
end Go.Bu
namespace Go.Bu
open Go Go.RowKit Go.Plan Go.Proofs
theorem toSteps_len (s : Store) (xs : List Step) (cut : Int) (t : Bool) : (toSteps s xs cut t).flash.length = s.flash.length ∧ (toSteps s xs cut t).disk.length = s.disk.length:=by
 unfold toSteps
 have h1:=doAll_len (xs.take cut.toNat) s
 split
 ·have h2:=doStep_len (doAll s (xs.take cut.toNat)) ((xs[cut.toNat]?).getD ⟨0,0,0,0,rec0⟩) true
  exact ⟨h2.1.trans h1.1,h2.2.trans h1.2⟩
 ·exact h1
theorem l12To_v (c : SC) (s t : Store) (sv : Value) (xs : List Step) (cut : Int) (torn : Bool) (w : World) (h : OwnS c w s) (hs : Shape s) (hx : StepsAt c w sv xs) (hf : ∀ x ∈ xs,Fit x) (hn : xs.length ≤ 1000) (hc : -1000000 ≤ cut)
  (hl : s.flash.length = t.flash.length ∧ s.disk.length = t.disk.length) :
  Calls Tryz.prog 68 #[.agg #[c.fv t,c.dv t],sv,.int .i64 cut,.bool torn] w (RetOv c w (c.fv t) (c.dv t) (toSteps s xs cut torn)):=by
 obtain ⟨h1,h2⟩:=SC.same (c:=c) hl
 have:=l12To_c c s sv xs cut torn w h hs hx hf hn hc
 rw [h1,h2] at this
 refine this.mono fun e w' ⟨he,hc,ho⟩=>⟨?_,hc,ho⟩
 obtain ⟨h3,h4⟩:=SC.same (c:=c) (toSteps_len s xs cut torn)
 rw [he,h3,h4,h1,h2]
theorem OwnS.v {c : SC} {w : World} {s t : Store} (h : OwnS c w s) (hl : s.flash.length = t.flash.length ∧ s.disk.length = t.disk.length) : StoreV w (c.fv t) (c.dv t) s:=by
 obtain ⟨h1,h2⟩:=SC.same (c:=c) hl
 rw [← h1,← h2];exact ⟨h.fl,h.dk⟩
def allStep (s : Store) (n : Nat) : Store:=doAll s (flushSteps s n)
def addrs6 : List Nat:=[0,1,2,3,4,5]
def playAllS (s : Store) : Store:=addrs6.foldl allStep s
def playDoS (s : Store) (e : Event) : Store:=if e.kind = 4 then playAllS s else if e.c < 0 then s else toSteps s (playSteps s e) e.c e.torn
theorem addrs6_get {k : Nat} (h : k < addrs6.length) : addrs6[k] = k:=by
 have : k < 6:=h
 rcases (show k = 0 ∨ k = 1 ∨ k = 2 ∨ k = 3 ∨ k = 4 ∨ k = 5 by omega) with rfl | rfl | rfl | rfl | rfl | rfl <;> rfl
theorem toSteps_all (s : Store) (xs : List Step) : toSteps s xs xs.length false = doAll s xs:=by
 unfold toSteps;simp
theorem addrStep_at (g : Nat → List Step) (n : Nat) (h : n < 6) : addrStep g ((n : Int) + 1) = g n:=by
 unfold addrStep;rw [inB_iff.2 (by omega)];simp
theorem StoreP.allStep {s : Store} (h : StoreP s) {n : Nat} (hn : n < 6) : StoreP (allStep s n):=h.all (flush_ok (flashOk_iff.1 h.flash) hn)
theorem StoreP.playAll {s : Store} (h : StoreP s) : StoreP (playAllS s):=by
 refine foldl_inv Bu.allStep StoreP addrs6 s h fun s n hn hs=>hs.allStep ?_
 simp [addrs6] at hn;omega
theorem StoreP.play {s : Store} (h : StoreP s) (e : Event) : StoreP (playDoS s e):=by
 unfold playDoS
 split
 ·exact h.playAll
 ·split
  ·exact h
  ·exact h.to (play_ok (flashOk_iff.1 h.flash) e) _ _
theorem allStep_len (s : Store) (n : Nat) : (allStep s n).flash.length = s.flash.length ∧ (allStep s n).disk.length = s.disk.length:=doAll_len _ s
theorem flush_le {s : Store} (h : flashOkB s.flash = true) (n : Nat) : (flushSteps s n).length ≤ 7:=by
 have:=write_le h 2 ((n : Int) + 1) (readN s n)
 unfold flushSteps;(repeat' split) <;> simp <;> omega
set_option maxRecDepth 20000 in
set_option maxHeartbeats 4000000 in
theorem l21All_c (c : SC) (s : Store) (w : World) (h : OwnS c w s) (hs : StoreP s) :
  Calls Tryz.prog 146 #[.agg #[c.fv s,c.dv s]] w (RetO c w (playAllS s)):=by
 have HNB:=Lib.hid h.new
 have HS:=Lib.hid hs
 obtain ⟨A,hA⟩ : ∃ A,playAllS s = A:=⟨_,rfl⟩
 rw [hA]
 have HA : Hid ((addrs6.drop 0).foldl allStep s = A):=Lib.hid hA
 clear hA hs
 go_enter Tryz.func146,Tryz.ntmps146
 go_wp2_with fail
 go_loopw [3] (fun y wr=>∃ (k : Nat) (s1 : Store),k ≤ 6 ∧ y = .int .i64 ((k : Int) + 1) ∧ Chg c.L w wr ∧ OwnS c wr s1 ∧ Hid (StoreP s1) ∧ Hid (s1.flash.length = s.flash.length ∧ s1.disk.length = s.disk.length) ∧
  Hid ((addrs6.drop k).foldl allStep s1 = A) ∧ wr.heap[w.heap.size]? = some (.cells #[c.fv s,c.dv s] 26 (0,0)) ∧ wr.heap[w.heap.size + 1]? = some (.cells #[.slice none 0 0,.slice none 0 0] 26 (0,0))) (fun y _=>7 - (intOf y).toNat)
 case atStart =>
  exact ⟨0,s,by omega,rfl,Chg.of_ext (by go_grown),h.ext (by go_grown),HS,Lib.hid ⟨rfl,rfl⟩,HA,hg_alloc (hg_new rfl),hg_new (by simp)⟩
 case round =>
  obtain ⟨k,s1,hk,rfl,hC,hO,HS1,HE,HR,G0,G1⟩:=hrel
  obtain ⟨g0,gf0⟩:=cellsK G0
  obtain ⟨g1,gf1⟩:=cellsK G1
  have l0:=heap_lt G0
  have l1:=heap_lt G1
  by_cases hlt : k < 6
  ·have hq:=addrStep_at (flushSteps s1) k hlt
   have hfo:=flush_ok (flashOk_iff.1 HS1.out.flash) hlt
   have hfl:=flush_le HS1.out.flash k
   have ht:=toSteps_all s1 (flushSteps s1 k)
   have hsp:=HS1.out.allStep hlt
   have hal:=allStep_len s1 k
   rw [foldl_drop _ _ _ _ hlt,addrs6_get hlt,show allStep s1 k = doAll s1 (flushSteps s1 k) from rfl] at HR
   rw [show allStep s1 k = doAll s1 (flushSteps s1 k) from rfl] at hsp hal
   have HT:=Lib.hid ht;have HFO:=Lib.hid hfo;have HQ:=Lib.hid hq;have HSP:=Lib.hid hsp;have HAL:=Lib.hid hal
   clear ht hfo hq hsp hal
   go_wp2_with fail
   refine (l12Flush_c _ _ s1 ((k : Int) + 1) _ (hO.v HE.out) HS1.out).mono ?_;rintro e1 w1 ⟨sv,rfl,hx1,hS,hsl⟩
   rw [HQ.out] at hS hsl
   generalize flushSteps s1 k = FS at *
   have hat:=hS.at_ (c:=c) fun b hb hm=>by have:=hO.lt b hm;omega
   obtain ⟨sa,scap,rfl⟩:=hS.form
   have HAT:=Lib.hid hat
   replace G0:=keep_ext hx1 G0
   replace G1:=keep_ext hx1 G1
   clear g0 gf0 g1 gf1 hat hS
   obtain ⟨g0,gf0⟩:=cellsK G0
   obtain ⟨g1,gf1⟩:=cellsK G1
   go_wp2_with fail
   refine (l12To_v c s1 s _ FS FS.length false _ (hO.ext hx1) HS1.out.shape HAT.out (fun x hm=>(HFO.out x hm).fit) (by omega) (by omega) HE.out).mono ?_;rintro e2 w2 ⟨rfl,hC2,hO2⟩
   rw [HT.out] at hO2
   have HC2:=Lib.hid (hC.trans (Chg.trans (Chg.of_ext hx1) hC2));have HO2:=Lib.hid hO2
   replace G0:=hC2.keep G0 (HNB.out _ (by omega))
   replace G1:=hC2.keep G1 (HNB.out _ (by omega))
   clear hC2 hO2 g0 gf0 g1 gf1
   obtain ⟨g0,gf0⟩:=cellsK G0
   obtain ⟨g1,gf1⟩:=cellsK G1
   go_wp2_with fail
   refine ⟨⟨k + 1,doAll s1 FS,by omega,by go_num,?_,?_,HSP,Lib.hid ⟨HAL.out.1.trans HE.out.1,HAL.out.2.trans HE.out.2⟩,HR,hgo (by (repeat (first | with_reducible apply hg_here | (with_reducible apply hg_set;focus (dsimp only;omega)) | with_reducible apply hg_alloc));with_reducible exact G0) ?_,(by (repeat (first | with_reducible apply hg_here | (with_reducible apply hg_set;focus (dsimp only;omega)) | with_reducible apply hg_alloc));with_reducible exact G1)⟩,by simp [intOf];omega⟩
   ·have hc:=HC2.out
    ((repeat (first | with_reducible (refine Chg.set2 ?_ ?_);focus (exact Or.inr (by dsimp only;omega)) | with_reducible refine Chg.alloc2 ?_));with_reducible exact hc)
   ·have ho:=HO2.out
    ((repeat (first | (with_reducible apply OwnS.set2;focus (exact HNB.out _ (by dsimp only;omega))) | with_reducible apply OwnS.alloc2));with_reducible exact ho)
   ·simp
  ·obtain rfl : k = 6:=by omega
   have hsA : s1 = A:=HR.out
   subst hsA
   clear HR HA
   go_wp2_with fail
   refine bodyPost_ret (v:=.agg #[c.fv s,c.dv s]) (by simp [results,Tryz.results146,go_sem,g0,gf0,g1,gf1]) rfl ?_
   obtain ⟨q1,q2⟩:=SC.same (c:=c) HE.out
   refine ⟨by rw [q1,q2],?_,?_⟩
   ·((repeat (first | with_reducible (refine Chg.set2 ?_ ?_);focus (exact Or.inr (by dsimp only;omega)) | with_reducible refine Chg.alloc2 ?_));with_reducible exact hC)
   ·((repeat (first | (with_reducible apply OwnS.set2;focus (exact HNB.out _ (by dsimp only;omega))) | with_reducible apply OwnS.alloc2));with_reducible exact hO)
theorem playAllS_len (s : Store) : (playAllS s).flash.length = s.flash.length ∧ (playAllS s).disk.length = s.disk.length:=
 foldl_inv allStep (fun t=>t.flash.length = s.flash.length ∧ t.disk.length = s.disk.length) addrs6 s ⟨rfl,rfl⟩ fun t n _ ht=>⟨(allStep_len t n).1.trans ht.1,(allStep_len t n).2.trans ht.2⟩
theorem playDoS_len (s : Store) (e : Event) : (playDoS s e).flash.length = s.flash.length ∧ (playDoS s e).disk.length = s.disk.length:=by
 unfold playDoS
 split
 ·exact playAllS_len s
 ·split
  ·exact ⟨rfl,rfl⟩
  ·exact toSteps_len _ _ _ _
theorem play_le {s : Store} (h : flashOkB s.flash = true) (e : Event) : (playSteps s e).length ≤ 7:=by
 unfold playSteps putSteps
 split
 ·have:=write_le h 1 e.a e.b;omega
 ·split
  ·unfold addrStep;split
   ·exact flush_le h _
   ·simp
  ·split
   ·unfold addrStep;split
    ·unfold fillSteps;split
     ·simp
     ·have:=write_le h 2 (((e.a - 1).toNat : Int) + 1) (s.disk.getD (e.a - 1).toNat 0);omega
    ·simp
   ·simp
set_option maxRecDepth 20000 in
set_option maxHeartbeats 4000000 in
theorem l21Do_c (c : SC) (s : Store) (e : Event) (w : World) (h : OwnS c w s) (hs : StoreP s) :
  Calls Tryz.prog 133 #[.agg #[c.fv s,c.dv s],eventA e] w (RetO c w (playDoS s e)):=by
 have HNB:=Lib.hid h.new
 have HS:=Lib.hid hs
 obtain ⟨k,a,b,cut,torn⟩:=e
 by_cases h4 : k = 4
 ·subst h4
  rw [show playDoS s ⟨4,a,b,cut,torn⟩ = playAllS s from rfl]
  clear hs
  go_enter Tryz.func133,Tryz.ntmps133
  go_wp2_with fail
  refine (l21All_c c s _ (h.ext (by go_grown)) HS.out).mono ?_;rintro e1 w1 ⟨rfl,hC,hO⟩
  obtain ⟨q1,q2⟩:=SC.same (c:=c) (playAllS_len s)
  have G2:=hC.keep (hg_new (b:=w.heap.size + 1 + 1) (by simp)) (HNB.out _ (by omega))
  obtain ⟨g2,gf2⟩:=cellsK G2
  have HC:=Lib.hid (Chg.trans (Chg.of_ext (by go_grown)) hC : Chg c.L w w1);have HO:=Lib.hid hO
  have HR : Hid (RetO c w (playAllS s) (.returned (.agg #[c.fv s,c.dv s])) ((w1.setCell ⟨w.heap.size + 1 + 1,0,none⟩ (c.fv s)).setCell ⟨w.heap.size + 1 + 1,1,none⟩ (c.dv s))):=by
   refine Lib.hid ⟨by rw [q1,q2],?_,?_⟩
   ·have hc:=HC.out
    ((repeat (first | with_reducible (refine Chg.set2 ?_ ?_);focus (exact Or.inr (by dsimp only;omega)) | with_reducible refine Chg.alloc2 ?_));with_reducible exact hc)
   ·have ho:=HO.out
    ((repeat (first | (with_reducible apply OwnS.set2;focus (exact HNB.out _ (by dsimp only;omega))) | with_reducible apply OwnS.alloc2));with_reducible exact ho)
  rw [q1,q2]
  clear hC hO q1 q2
  generalize playAllS s = s2 at *
  go_wp2_with fail
  exact bodyPost_ret (v:=.agg #[c.fv s,c.dv s]) (by simp [results,Tryz.results133,go_sem,g2,gf2]) rfl HR.out
 by_cases hc0 : cut < 0
 ·rw [show playDoS s ⟨k,a,b,cut,torn⟩ = s from by unfold playDoS;rw [if_neg h4,if_pos hc0]]
  have hkf : (k == 4) = false:=by simpa using h4
  clear h4 hs
  go_enter Tryz.func133,Tryz.ntmps133
  go_wp2_with fail
  refine bodyPost_ret (v:=.agg #[c.fv s,c.dv s]) (by simp [results,Tryz.results133,go_sem]) rfl ⟨rfl,?_,?_⟩
  ·exact Chg.of_ext (by go_grown)
  ·exact h.ext (by go_grown)
 ·have hq : playDoS s ⟨k,a,b,cut,torn⟩ = toSteps s (playSteps s ⟨k,a,b,cut,torn⟩) cut torn:=by unfold playDoS;rw [if_neg h4,if_neg hc0]
  rw [hq]
  have hkf : (k == 4) = false:=by simpa using h4
  have hfo:=play_ok (flashOk_iff.1 hs.flash) ⟨k,a,b,cut,torn⟩
  have hle:=play_le hs.flash ⟨k,a,b,cut,torn⟩
  have HFO:=Lib.hid hfo;have HLE:=Lib.hid hle
  obtain ⟨PS,hps⟩ : ∃ PS,playSteps s ⟨k,a,b,cut,torn⟩ = PS:=⟨_,rfl⟩
  have HPS:=Lib.hid hps
  rw [hps]
  have hst : ∀ w',Ext w w' → Calls Tryz.prog 147 #[.agg #[c.fv s,c.dv s],eventA ⟨k,a,b,cut,torn⟩] w' (RetP w' (SΦ w.heap.size PS)):=fun w' hx =>
   (l21Steps_c _ _ s ⟨k,a,b,cut,torn⟩ w' ((h.ext hx).v ⟨rfl,rfl⟩) hs).mono fun e w'' h=>by rw [hps] at h;exact RetS.weak h hx.size
  have HST:=Lib.hid hst
  clear h4 hs hq hps hfo hle hst
  go_enter Tryz.func133,Tryz.ntmps133
  go_wp2_with fail
  refine wp_region_ext [3] [0,1,2,4,5,6,7,3] [] [8,9] (by kernel_rfl) (by kernel_rfl) ?late ?_
  case late=>exact fun f hf=>absurd hf List.not_mem_nil
  iterate 3
   refine Rob.y (v:=?_) rfl rfl (fun w1 hx hH=>?_) ?_;rotate_left
   ·(obtain ⟨hcx,hfx⟩:=bcell hx);go_simp;first | done | rfl
   simp only [Act.put,slA,slB,slC]
  refine Rob.y (v:=?_) rfl rfl (fun w1 hx hH=>?_) ?_;rotate_left
  ·go_simp;first | done | rfl | exact (Bool.not_not _).symm
  simp only [Act.put,slA,slB,slC]
  refine Rob.y (v:=?_) rfl rfl (fun w1 hx hH=>?_) ?_;rotate_left
  ·(obtain ⟨hcx,hfx⟩:=bcell hx);go_simp;first | done | rfl
  simp only [Act.put,slA,slB,slC]
  refine Rob.y (v:=?_) rfl rfl (fun w1 hx hH=>?_) ?_;rotate_left
  ·go_simp;first | done | rfl | exact (Bool.not_not _).symm
  simp only [Act.put,slA,slB,slC]
  refine Rob.y (v:=?_) rfl rfl (fun w1 hx hH=>?_) ?_;rotate_left
  ·(obtain ⟨hcx,hfx⟩:=bcell hx);go_simp;first | done | rfl
  simp only [Act.put,slA,slB,slC]
  refine Rob.c ((fun lo hi v w'=>SΦ w.heap.size PS v w')) rfl rfl rfl (fun _ _=>ext_trans) (fun _ _ _ _ _=>fun h hx=>h.ext hx) (fun w1 hx hH=>?_) (fun lo3 hi3 v3 hlo3 hhi3 hv3=>?_)
  ·unfold RunTo;go_simp;exact ((HST.out _ (ext_trans (by go_grown) hx))).mono fun e w' h=>h.to
  simp only [Act.put,slA,slB,slC]
  refine fin_tail (fun w2 hx2 _=>?_)
  simp only [dstOf,List.getElem?_cons_succ,List.getElem?_cons_zero,Option.bind_some,Act.put,slA,slB,slC,List.filterMap_cons,List.filterMap_nil]
  obtain ⟨hX2,⟨bb,hbb,hS⟩,hsl⟩:=hx2
  have X2 : Ext w w2:=ext_trans (by go_grown) hX2
  have hO:=h.ext X2
  have hat:=hS.at_ (c:=c) fun b' hb' hm=>by have:=h.lt b' hm;omega
  obtain ⟨sa,scap,rfl⟩:=hS.form
  have HAT:=Lib.hid hat;clear hat hS
  have G2:=keep_ext hX2 (hg_new (b:=w.heap.size + 1 + 1) (by simp))
  obtain ⟨g2,gf2⟩:=cellsK G2
  go_wp2_with (go_at_call 68;refine (l12To_v c s s _ PS cut torn _ hO HS.out.shape HAT.out (fun x hm=>(HFO.out x (by rw [HPS.out];exact hm)).fit) (by omega) (by omega) ⟨rfl,rfl⟩).mono ?_;rintro e3 w3 ⟨rfl,hC3,hO3⟩;have HC3:=Lib.hid (Chg.trans (Chg.of_ext X2) hC3);have HO3:=Lib.hid hO3;replace G2:=hC3.keep G2 (HNB.out _ (by omega));clear hC3 hO3 g2 gf2;obtain ⟨g2,gf2⟩:=cellsK G2)
  have l2:=heap_lt G2
  obtain ⟨q1,q2⟩:=SC.same (c:=c) (toSteps_len s PS cut torn)
  refine bodyPost_ret (v:=.agg #[c.fv s,c.dv s]) (by simp [results,Tryz.results133,go_sem,g2,gf2]) rfl ⟨by rw [q1,q2],?_,?_⟩
  ·have hc:=HC3.out
   ((repeat (first | with_reducible (refine Chg.set2 ?_ ?_);focus (exact Or.inr (by dsimp only;omega)) | with_reducible refine Chg.alloc2 ?_));with_reducible exact hc)
  ·have ho:=HO3.out
   ((repeat (first | (with_reducible apply OwnS.set2;focus (exact HNB.out _ (by dsimp only;omega))) | with_reducible apply OwnS.alloc2));with_reducible exact ho)
end Go.Bu
namespace Go.Bu
open Go Go.RowKit Go.Plan Go.Proofs
def Rk (w : World) (R K : Nat) : Prop:=∃ bv xs p,Rd w R bv xs p ∧ p + K ≤ 1000000
theorem Rk.lt {w : World} {R K : Nat} (h : Rk w R K) : R < w.heap.size:=by obtain ⟨bv,xs,p,h,_⟩:=h;exact h.lt
theorem Rk.ext {w w' : World} {R K : Nat} (h : Rk w R K) (hx : Ext w w') : Rk w' R K:=by obtain ⟨bv,xs,p,h,hp⟩:=h;exact ⟨bv,xs,p,h.ext hx,hp⟩
theorem Rk.less {w : World} {R K K' : Nat} (h : Rk w R K) (hk : K' ≤ K) : Rk w R K':=by obtain ⟨bv,xs,p,h,hp⟩:=h;exact ⟨bv,xs,p,h,by omega⟩
theorem Rk.set2 {w : World} {R K : Nat} {a : Addr} {u : Value} (ha : R < a.block) (h : Rk w R K) : Rk (w.setCell a u) R K:=by obtain ⟨bv,xs,p,h,hp⟩:=h;exact ⟨bv,xs,p,h.set ha u,hp⟩
theorem Rk.alloc2 {w : World} {R K : Nat} {o : Obj} (h : Rk w R K) : Rk (w.alloc o) R K:=h.ext (ext_alloc (ext_refl _) _)
theorem Rk.chg {w w' : World} {R K : Nat} {L : List Nat} (h : Rk w R K) (hx : Chg L w w') (hL : ∀ b ∈ L,R < b) : Rk w' R K:=by
 obtain ⟨bv,xs,p,h,hp⟩:=h
 have hk : ∀ b,b ≤ R → w'.heap[b]? = w.heap[b]?:=fun b hb=>hx.block b (Nat.lt_of_le_of_lt hb h.lt) fun hm=>by have:=hL b hm;omega
 exact ⟨bv,xs,p,⟨by rw [hk R (Nat.le_refl _)];exact h.cells,Sl.same (plain_kept _) h.bytes (fun b hb=>hk b (Nat.le_of_lt hb)) (fun b hb=>hb),h.small,h.len⟩,hp⟩
def Pick (R K : Nat) (m : Int) (w : World) (e : Ending) (w' : World) : Prop:=∃ r : Int,e = .returned (.int .i64 r) ∧ 0 ≤ r ∧ (0 < m → r < m) ∧ Chg [R] w w' ∧ Rk w' R K
theorem pick_k (R : Nat) {K : Nat} (m : Int) (w : World) (h : Rk w R (K + 1)) (hm : m ≤ 1000:=by omega) : Calls Tryz.prog 36 #[.pointer (some ⟨R,0,none⟩),.int .i64 m] w (Pick R K m w):=by
 obtain ⟨bv,xs,p,h,hp⟩:=h
 exact (pick_c R bv xs p m w h (by omega) (by omega)).mono fun e w' ⟨r,he,h0,h1,hc,hr⟩=>⟨r,he,h0,h1,hc,bv,xs,p + 1,hr,by omega⟩
def DrawV (R K : Nat) (w : World) (Φ : Value → World → Prop) (e : Ending) (w' : World) : Prop:=∃ v,e = .returned v ∧ Chg [R] w w' ∧ Rk w' R K ∧ Φ v w'
theorem Chg.then_sets {L : List Nat} {w w1 w2 w3 : World} (h : Chg L w w1) (hc : Chg L w2 w3) (h2 : Chg L w w2) : Chg L w w3:=h2.trans hc
structure EventD (e : Event) : Prop where
 kind : 1 ≤ e.kind ∧ e.kind ≤ 4
 a : 1 ≤ e.a ∧ e.a ≤ 6
 b : 0 ≤ e.b ∧ e.b ≤ 9
 c : 0 ≤ e.c ∧ e.c ≤ 9
set_option maxHeartbeats 2000000 in
theorem l71Event_c (R K : Nat) (w : World) (h : Rk w R (K + 7)) :
  Calls Tryz.prog 132 #[.pointer (some ⟨R,0,none⟩)] w (DrawV R K w fun v _=>∃ e : Event,v = eventA e ∧ EventD e):=by
 have hR:=h.lt
 have HK:=h;clear h
 go_enter Tryz.func132,Tryz.ntmps132
 have C:=Chg.refl [R] w
 go_wp2_with fail
 refine (pick_k R 6 _ (by ((repeat (first | (with_reducible apply Rk.set2;focus (dsimp only;omega)) | with_reducible apply Rk.alloc2));with_reducible exact HK))).mono ?_;rintro e1 w1 ⟨r1,rfl,a1,b1,hC,HK1⟩
 replace C:=C.then_sets hC (by ((repeat (first | with_reducible (refine Chg.set2 ?_ ?_);focus (exact Or.inr (by dsimp only;omega)) | with_reducible refine Chg.alloc2 ?_));with_reducible exact C))
 have G2:=hC.keep (hg_new (b:=w.heap.size) rfl) (by simp;omega)
 replace HK:=HK1;clear HK1 hC
 go_wp2_with fail
 refine (pick_k R 10 _ (by ((repeat (first | (with_reducible apply Rk.set2;focus (dsimp only;omega)) | with_reducible apply Rk.alloc2));with_reducible exact HK))).mono ?_;rintro e2 w2 ⟨r2,rfl,a2,b2,hC,HK1⟩
 replace C:=C.then_sets hC (by ((repeat (first | with_reducible (refine Chg.set2 ?_ ?_);focus (exact Or.inr (by dsimp only;omega)) | with_reducible refine Chg.alloc2 ?_));with_reducible exact C))
 replace G2:=hC.keep (by (repeat (first | with_reducible apply hg_here | (with_reducible apply hg_set;focus (dsimp only;omega)) | with_reducible apply hg_alloc));with_reducible exact G2) (by simp;omega)
 replace HK:=HK1;clear HK1 hC
 have l2:=heap_lt G2
 go_wp2_with fail
 refine (pick_k R 12 _ (by ((repeat (first | (with_reducible apply Rk.set2;focus (dsimp only;omega)) | with_reducible apply Rk.alloc2));with_reducible exact HK))).mono ?_;rintro e3 w3 ⟨r3,rfl,a3,b3,hC,HK1⟩
 replace C:=C.then_sets hC (by ((repeat (first | with_reducible (refine Chg.set2 ?_ ?_);focus (exact Or.inr (by dsimp only;omega)) | with_reducible refine Chg.alloc2 ?_));with_reducible exact C))
 replace G2:=hC.keep (by (repeat (first | with_reducible apply hg_here | (with_reducible apply hg_set;focus (dsimp only;omega)) | with_reducible apply hg_alloc));with_reducible exact G2) (by simp;omega)
 have G3:=hC.keep (hg_new (b:=w2.heap.size) rfl) (by simp;omega)
 replace HK:=HK1;clear HK1 hC
 have l2:=heap_lt G2;have l3:=heap_lt G3
 obtain ⟨g2,gf2⟩:=cellsK G2
 obtain ⟨g3,gf3⟩:=cellsK G3
 have m3:=b3 (by omega)
 go_wp2_with (go_at_call 36;((with_reducible refine (pick_k R _ _ (by ((repeat (first | (with_reducible apply Rk.set2;focus (dsimp only;omega)) | with_reducible apply Rk.alloc2));with_reducible exact HK))).mono ?_));rintro e1 w1 ⟨r,rfl,hr0,hr1,hC,HK1⟩;replace C:=C.then_sets hC (by ((repeat (first | with_reducible (refine Chg.set2 ?_ ?_);focus (exact Or.inr (by dsimp only;omega)) | with_reducible refine Chg.alloc2 ?_));with_reducible exact C));replace HK:=HK1;clear HK1;replace G2:=hC.keep (b:=w.heap.size) (by (repeat (first | with_reducible apply hg_here | (with_reducible apply hg_set;focus (dsimp only;omega)) | with_reducible apply hg_alloc));with_reducible exact G2) (by simp;omega);(try clear g2 gf2);obtain ⟨g2,gf2⟩:=cellsK G2;have l2:=heap_lt G2;replace G3:=hC.keep (b:=w2.heap.size) (by (repeat (first | with_reducible apply hg_here | (with_reducible apply hg_set;focus (dsimp only;omega)) | with_reducible apply hg_alloc));with_reducible exact G3) (by simp;omega);(try clear g3 gf3);obtain ⟨g3,gf3⟩:=cellsK G3;have l3:=heap_lt G3;clear hC)
 all_goals
  try simp only [beq_iff_eq,Bool.not_eq_true,beq_eq_false_iff_ne,ne_eq,bne_iff_ne,bne_eq_false_iff_eq,decide_eq_true_eq,decide_eq_false_iff_not] at *
  refine bodyPost_ret (by simp [results,Tryz.results132,go_sem,g2,gf2,g3,gf3];exact ⟨rfl,rfl,rfl,rfl,rfl⟩) rfl ⟨_,rfl,(by ((repeat (first | with_reducible (refine Chg.set2 ?_ ?_);focus (exact Or.inr (by dsimp only;omega)) | with_reducible refine Chg.alloc2 ?_));with_reducible exact C)),Rk.less (by ((repeat (first | (with_reducible apply Rk.set2;focus (dsimp only;omega)) | with_reducible apply Rk.alloc2));with_reducible exact HK)) (by omega),⟨_,_,_,_,_⟩,rfl,⟨by dsimp only;omega,by dsimp only;omega,by dsimp only;omega,by dsimp only;omega⟩⟩
end Go.Bu
namespace Go.Bu
open Go Go.RowKit Go.Plan Go.Proofs
def FlashP (lo hi : Nat) (v : Value) (w : World) : Prop:=∃ B bs,OwnFlash w v newFlash B bs ∧ (B :: bs).Nodup ∧ ∀ b ∈ B :: bs,lo ≤ b ∧ b < hi
theorem FlashP.ext {lo hi : Nat} {v : Value} {w w' : World} (h : FlashP lo hi v w) (hx : Ext w w') : FlashP lo hi v w':=by
 obtain ⟨B,bs,h1,h2,h3⟩:=h;exact ⟨B,bs,h1.ext hx,h2,h3⟩
theorem FlashP.form {lo hi : Nat} {v : Value} {w : World} (h : FlashP lo hi v w) : ∃ a cap,v = .slice a 4 cap:=by
 obtain ⟨B,bs,⟨rows,⟨T,o,cap,hv,_⟩,hr,_⟩,_⟩:=h;exact ⟨_,_,by rw [hv,hr];rfl⟩
theorem cells2 {w : World} {B T : Nat} {c0 c1 : Value} (h : w.heap[B]? = some (.cells #[c0,c1] T (0,0))) : w.cell? ⟨B,0,none⟩ = some c0 ∧ w.cell? ⟨B,1,none⟩ = some c1 ∧ ∀ j,w.frozen? ⟨B,j,none⟩ = false:=
 ⟨by rw [cell_block h];rfl,by rw [cell_block h];rfl,frozen_block h⟩
def FlashNews (w : World) (e : Ending) (w' : World) : Prop:=∃ v,e = .returned v ∧ RetC w FlashP v w'
theorem FlashNews.to {w w' : World} {e : Ending} (h : FlashNews w e w') : ∃ v,e = .returned v ∧ RetC w FlashP v w':=h
theorem specFlashNews (w : World) : Calls Tryz.prog 91 #[] w (FlashNews w):=
 (specFlashNew_c w).mono fun e w' ⟨v,B,bs,he,hx,ho,hn,hb⟩=>⟨v,he,hx,B,bs,ho,hn,fun b hm=>⟨hb b hm,ho.lt b hm⟩⟩
theorem implFlashNews (w : World) : Calls Tryz.prog 54 #[] w (FlashNews w):=
 (implFlashNew_c w).mono fun e w' ⟨v,B,bs,he,hx,ho,hn,hb⟩=>⟨v,he,hx,B,bs,ho,hn,fun b hm=>⟨hb b hm,ho.lt b hm⟩⟩
theorem OwnV.six {w : World} {B T : Nat} (h : w.heap[B]? = some (.cells #[.int .i64 0,.int .i64 0,.int .i64 0,.int .i64 0,.int .i64 0,.int .i64 0] T (0,0))) : OwnInts w (.slice (some ⟨B,0,none⟩) 6 6) newStore.disk B:=by
 refine ⟨T,0,0,rfl,_,h,fun i x hx j u hu=>?_⟩
 have hi : i < 6:=(List.getElem?_eq_some_iff.1 hx).1
 have hj : j < 1:=(List.getElem?_eq_some_iff.1 hu).1
 obtain rfl : j = 0:=by omega
 rcases (show i = 0 ∨ i = 1 ∨ i = 2 ∨ i = 3 ∨ i = 4 ∨ i = 5 by omega) with rfl | rfl | rfl | rfl | rfl | rfl <;> (simp [newStore] at hx;subst hx;simp at hu;subst hu;rfl)
def StoreNews (w : World) (e : Ending) (w' : World) : Prop:=∃ f d L,e = .returned (.agg #[f,d]) ∧ Ext w w' ∧ OwnStore w' f d newStore L ∧ L.Nodup ∧ ∀ b ∈ L,w.heap.size ≤ b
set_option maxHeartbeats 1000000 in
theorem specStoreNew_c (w : World) : Calls Tryz.prog 53 #[] w (StoreNews w):=by
 have hmk : ∀ w : World,(Instr.makeSlice 24 (.int .i64 6) (.int .i64 6)).run Tryz.prog w = .ok (.slice (some ⟨w.heap.size,0,none⟩) 6 6) (w.alloc (.cells #[.int .i64 0,.int .i64 0,.int .i64 0,.int .i64 0,.int .i64 0,.int .i64 0] 3)):=fun w=>by kernel_rfl
 go_enter Tryz.func53,Tryz.ntmps53
 go_wp2_with fail
 refine wp_region_ext [0] [0] [(1,.cells #[.int .i64 0,.int .i64 0,.int .i64 0,.int .i64 0,.int .i64 0,.int .i64 0] 3,fun b=>.slice (some ⟨b,0,none⟩) 6 6)] [2,3] (by kernel_rfl) (by kernel_rfl) ?late ?_
 case late =>
  intro f hf
  obtain rfl:=List.mem_singleton.1 hf
  refine ⟨_,rfl,fun a w=>?_⟩
  go_simp
 refine Rob.c (FlashP) rfl rfl rfl (fun _ _=>ext_trans) (fun _ _ _ _ _=>fun h hx=>h.ext hx) (fun w1 hx hH=>?_) (fun lo0 hi0 v0 hlo0 hhi0 hv0=>?_)
 ·unfold RunTo;go_simp;exact (specFlashNews _).mono fun e w' h=>h.to
 simp only [Act.put,slA,slB,slC]
 refine fin_one (fun w1 b hS hH hb hlt ho hout=>?_)
 simp only [dstOf,List.getElem?_cons_succ,List.getElem?_cons_zero,Option.bind_some,Act.put,slA,slB,slC,List.filterMap_cons,List.filterMap_nil]
 obtain ⟨hx1,hP⟩:=hS
 obtain ⟨a,cap,rfl⟩:=hP.form
 have G0:=keep_ext hx1 (alloc_get_new rfl)
 obtain ⟨c0,c1,cf⟩:=cells2 G0
 have hlo : w.heap.size < lo0:=by simp at hlo0;omega
 have hbw : w.heap.size < b:=by simp at hb;omega
 have HD:=Lib.hid (OwnV.six ho);have HP:=Lib.hid hP
 have HO:=Lib.hid hout
 have X1 : Ext w w1:=ext_trans (ext_alloc (ext_refl _) _) hx1
 clear hmk hv0 hP ho hout G0
 refine wpList_plain rfl (fun K hK=>?_)
 go_simp
 refine hK _ _ ?_
 clear hK K
 refine wpList_plain rfl (fun K hK=>?_)
 go_simp
 refine hK _ _ ?_
 clear hK K
 refine wpList_nil ?_
 go_wp2
 refine bodyPost_ret (v:=.agg #[.slice a 4 cap,.slice (some ⟨b,0,none⟩) 6 6]) (by simp [results,Tryz.results53,go_sem,c0,c1,cf]) rfl ?_
 obtain ⟨B,bs,hO,hn,hbs⟩:=HP.out
 have hkeep : ∀ (u1 u2 : Value) (x : Nat),x ≠ w.heap.size → ((w1.setCell ⟨w.heap.size,0,none⟩ u1).setCell ⟨w.heap.size,1,none⟩ u2).heap[x]? = w1.heap[x]?:=fun u1 u2 x hx=>by rw [setCell_other hx,setCell_other hx]
 refine ⟨_,_,B :: bs ++ [b],rfl,ext_set (ext_set X1 (Nat.le_refl _) _) (Nat.le_refl _) _,⟨B,bs,b,rfl,hO.keep fun x hm=>hkeep _ _ x (by have:=hbs x hm;omega),HD.out.keep (hkeep _ _ b (by omega))⟩,?_,fun x hm=>?_⟩
 ·rw [List.nodup_append]
  refine ⟨hn,by simp,fun x hm y hy=>?_⟩
  rw [List.mem_singleton] at hy
  subst hy
  rintro rfl
  have:=HO.out (lo0,hi0) (by simp)
  have:=hbs x hm
  simp at *
  omega
 ·rcases List.mem_append.1 hm with hm | hm
  ·have:=hbs x hm;omega
  ·rw [List.mem_singleton] at hm;omega
set_option maxHeartbeats 1000000 in
theorem implStoreNew_c (w : World) : Calls Tryz.prog 24 #[] w (StoreNews w):=by
 have hmk : ∀ w : World,(Instr.makeSlice 24 (.int .i64 6) (.int .i64 6)).run Tryz.prog w = .ok (.slice (some ⟨w.heap.size,0,none⟩) 6 6) (w.alloc (.cells #[.int .i64 0,.int .i64 0,.int .i64 0,.int .i64 0,.int .i64 0,.int .i64 0] 3)):=fun w=>by kernel_rfl
 go_enter Tryz.func24,Tryz.ntmps24
 go_wp2_with fail
 refine wp_region_ext [0] [0] [(1,.cells #[.int .i64 0,.int .i64 0,.int .i64 0,.int .i64 0,.int .i64 0,.int .i64 0] 3,fun b=>.slice (some ⟨b,0,none⟩) 6 6)] [2,3] (by kernel_rfl) (by kernel_rfl) ?late ?_
 case late =>
  intro f hf
  obtain rfl:=List.mem_singleton.1 hf
  refine ⟨_,rfl,fun a w=>?_⟩
  go_simp
 refine Rob.c (FlashP) rfl rfl rfl (fun _ _=>ext_trans) (fun _ _ _ _ _=>fun h hx=>h.ext hx) (fun w1 hx hH=>?_) (fun lo0 hi0 v0 hlo0 hhi0 hv0=>?_)
 ·unfold RunTo;go_simp;exact (implFlashNews _).mono fun e w' h=>h.to
 simp only [Act.put,slA,slB,slC]
 refine fin_one (fun w1 b hS hH hb hlt ho hout=>?_)
 simp only [dstOf,List.getElem?_cons_succ,List.getElem?_cons_zero,Option.bind_some,Act.put,slA,slB,slC,List.filterMap_cons,List.filterMap_nil]
 obtain ⟨hx1,hP⟩:=hS
 obtain ⟨a,cap,rfl⟩:=hP.form
 have G0:=keep_ext hx1 (alloc_get_new rfl)
 obtain ⟨c0,c1,cf⟩:=cells2 G0
 have hlo : w.heap.size < lo0:=by simp at hlo0;omega
 have hbw : w.heap.size < b:=by simp at hb;omega
 have HD:=Lib.hid (OwnV.six ho);have HP:=Lib.hid hP
 have HO:=Lib.hid hout
 have X1 : Ext w w1:=ext_trans (ext_alloc (ext_refl _) _) hx1
 clear hmk hv0 hP ho hout G0
 refine wpList_plain rfl (fun K hK=>?_)
 go_simp
 refine hK _ _ ?_
 clear hK K
 refine wpList_plain rfl (fun K hK=>?_)
 go_simp
 refine hK _ _ ?_
 clear hK K
 refine wpList_nil ?_
 go_wp2
 refine bodyPost_ret (v:=.agg #[.slice a 4 cap,.slice (some ⟨b,0,none⟩) 6 6]) (by simp [results,Tryz.results24,go_sem,c0,c1,cf]) rfl ?_
 obtain ⟨B,bs,hO,hn,hbs⟩:=HP.out
 have hkeep : ∀ (u1 u2 : Value) (x : Nat),x ≠ w.heap.size → ((w1.setCell ⟨w.heap.size,0,none⟩ u1).setCell ⟨w.heap.size,1,none⟩ u2).heap[x]? = w1.heap[x]?:=fun u1 u2 x hx=>by rw [setCell_other hx,setCell_other hx]
 refine ⟨_,_,B :: bs ++ [b],rfl,ext_set (ext_set X1 (Nat.le_refl _) _) (Nat.le_refl _) _,⟨B,bs,b,rfl,hO.keep fun x hm=>hkeep _ _ x (by have:=hbs x hm;omega),HD.out.keep (hkeep _ _ b (by omega))⟩,?_,fun x hm=>?_⟩
 ·rw [List.nodup_append]
  refine ⟨hn,by simp,fun x hm y hy=>?_⟩
  rw [List.mem_singleton] at hy
  subst hy
  rintro rfl
  have:=HO.out (lo0,hi0) (by simp)
  have:=hbs x hm
  simp at *
  omega
 ·rcases List.mem_append.1 hm with hm | hm
  ·have:=hbs x hm;omega
  ·rw [List.mem_singleton] at hm;omega
def PairNews (w : World) (e : Ending) (w' : World) : Prop:=∃ f d g h L K,e = .returned (.agg #[f,d,g,h,.int .i64 0]) ∧ Ext w w' ∧ OwnStore w' f d newStore L ∧ OwnStore w' g h newStore K ∧ (L ++ K).Nodup ∧ ∀ b ∈ L ++ K,w.heap.size ≤ b
theorem OwnStore.forms {w : World} {f d : Value} {s : Store} {L : List Nat} (h : OwnStore w f d s L) : ∃ a m c b n e,f = .slice a m c ∧ d = .slice b n e:=by
 obtain ⟨B,bs,D,rfl,⟨rows,⟨T,o,cap,hv,_⟩,_⟩,⟨T',o',cap',hv',_⟩⟩:=h
 exact ⟨_,_,_,_,_,_,hv,hv'⟩
set_option maxHeartbeats 1000000 in
theorem specPairNew_c (w : World) : Calls Tryz.prog 64 #[] w (PairNews w):=by
 go_enter Tryz.func64,Tryz.ntmps64
 go_wp2_with fail
 refine (specStoreNew_c _).mono ?_;rintro e1 w1 ⟨f,d,L,rfl,hx1,hO1,hn1,hb1⟩
 obtain ⟨a1,m1,c1,a2,m2,c2,rfl,rfl⟩:=hO1.forms
 have G0:=keep_ext hx1 (alloc_get_new rfl)
 have X1 : Ext w w1:=ext_trans (ext_alloc (ext_refl _) _) hx1
 simp at hb1
 go_wp2_with fail
 refine (specStoreNew_c _).mono ?_;rintro e2 w2 ⟨g,h,K,rfl,hx2,hO2,hn2,hb2⟩
 obtain ⟨a3,m3,c3,a4,m4,c4,rfl,rfl⟩:=hO2.forms
 replace G0:=keep_ext hx2 G0
 have hlt1:=hO1.lt
 have z1:=hx1.size
 simp at z1
 have X2 : Ext w w2:=ext_trans X1 hx2
 have HO1:=Lib.hid (hO1.ext hx2);have HO2:=Lib.hid hO2
 clear hO1 hO2 X1
 have hc : ∀ j (hj : j < 5),(w2.cell? ⟨w.heap.size,j,none⟩).isSome = true:=fun j hj=>by
  rw [cell_block G0]
  rcases (show j = 0 ∨ j = 1 ∨ j = 2 ∨ j = 3 ∨ j = 4 by omega) with rfl | rfl | rfl | rfl | rfl <;> rfl
 obtain ⟨q0,q1,q2,q3,q4,qf⟩:=cells5 G0
 go_wp2_with fail
 refine bodyPost_ret (v:=.agg #[.slice a1 m1 c1,.slice a2 m2 c2,.slice a3 m3 c3,.slice a4 m4 c4,.int .i64 0]) (by simp [results,Tryz.results64,go_sem,q0,q1,q2,q3,q4,qf]) rfl ?_
 have hk : ∀ x,x ≠ w.heap.size → (setAll w2 w.heap.size 0 [.slice a1 m1 c1,.slice a2 m2 c2,.slice a3 m3 c3,.slice a4 m4 c4,.int .i64 0]).heap[x]? = w2.heap[x]?:=fun x hx=>setAll_other _ hx _ _ _
 refine ⟨_,_,_,_,L,K,rfl,ext_setAll X2 (Nat.le_refl _) 0 [.slice a1 m1 c1,.slice a2 m2 c2,.slice a3 m3 c3,.slice a4 m4 c4,.int .i64 0],HO1.out.keep fun x hm=>hk x (by have:=hb1 x hm;omega),HO2.out.keep fun x hm=>hk x (by have:=hb2 x hm;omega),?_,fun x hm=>?_⟩
 ·rw [List.nodup_append]
  exact ⟨hn1,hn2,fun x hx y hy e=>by have:=hlt1 x hx;have:=hb2 y hy;omega⟩
 ·rcases List.mem_append.1 hm with hm | hm
  ·have:=hb1 x hm;omega
  ·have:=hb2 x hm;omega
end Go.Bu
namespace Go.Bu
open Go Go.RowKit Go.Plan Go.Proofs
abbrev ERow (base : Nat) (w : World) (v : Value) (xs : List Event) : Prop:=w.ownsRow base 168 5 v xs.length (xs.flatMap eventC)
theorem ERow.nil (base : Nat) (w : World) : ERow base w (.slice none 0 0) []:=⟨rfl,.inl ⟨rfl,rfl⟩⟩
theorem ERow.empty {base : Nat} {w : World} {B : Nat} (h : w.heap[B]? = some (.cells #[] 168 (0,0))) (hb : base ≤ B) : ERow base w (.slice (some ⟨B,0,none⟩) 0 0) []:=⟨rfl,.inr ⟨B,0,#[],rfl,hb,h,Nat.le_refl _,by simp,rfl,rfl⟩⟩
theorem ERow.one {base : Nat} {w : World} {B : Nat} {y : Event} (h : w.heap[B]? = some (.cells (eventC y).toArray 168 (0,0))) (hb : base ≤ B) : ERow base w (.slice (some ⟨B,0,none⟩) 1 1) [y]:=
 ⟨rfl,.inr ⟨B,1,_,rfl,hb,h,Nat.le_refl _,by simp [maxLen],rfl,rfl⟩⟩
theorem ERow.ext {base : Nat} {w w' : World} {v : Value} {xs : List Event} (h : ERow base w v xs) (hx : Ext w w') : ERow base w' v xs:=ownsRow_ext h hx
theorem ERow.form {base : Nat} {w : World} {v : Value} {xs : List Event} (h : ERow base w v xs) : ∃ a cap,v = .slice a xs.length cap:=by
 obtain ⟨_,h2⟩:=h
 rcases h2 with ⟨rfl,h0⟩ | ⟨g,cap,cur,rfl,_⟩
 ·exact ⟨none,0,by rw [h0]⟩
 ·exact ⟨_,cap,rfl⟩
theorem ERow.events {base : Nat} {w : World} {v : Value} {xs : List Event} (h : ERow base w v xs) : Events (Old w) w v xs:=by
 rcases h.2 with ⟨rfl,h0⟩ | ⟨g,cap,cur,rfl,_,hh,_,_,_,ht⟩
 ·have : xs = []:=List.length_eq_zero_iff.1 h0
  subst this
  exact ⟨none,0,rfl,fun i x hx=>by simp at hx⟩
 ·refine ⟨_,cap,rfl,fun i x hx=>⟨g,0,eventC x,rfl,heap_lt hh,rfl,fun j u hu=>?_⟩⟩
  have:=flat_get (enc:=eventC) (n:=5) (fun _=>rfl) xs i x j u hx hu
  rw [← ht] at this
  have hlt:=(List.getElem?_eq_some_iff.1 this).1
  rw [List.length_take] at hlt
  rw [List.getElem?_take_of_lt (by omega)] at this
  rw [cell_block hh,Nat.zero_add]
  simpa using this
theorem wpList_appEvent {w : World} {ops : Array Oper} {rest : List Oper} {o : Oper} {a : Act} {Q : Exit → Act → World → Prop} (hgd : o.guard = none) (s x : Operand)
  (ho : o.op = .call { callee:=.builtin .append,args:=#[s,x],argTypes:=#[137,137] }) {base : Nat} {v : Value} {xs : List Event} (hs : a.eval s = v) (hown : ERow base w v xs)
  {B : Nat} {y : Event} (hx : a.eval x = .slice (some ⟨B,0,none⟩) 1 1) (hB : w.heap[B]? = some (.cells (eventC y).toArray 168 (0,0))) (hlen : xs.length ≤ 1000000) (hbase : base ≤ w.heap.size)
  (h : ∀ v' w',ERow base w' v' (xs ++ [y]) → w.grownBy w' v.ownBlock → wpList Tryz.prog ops Q rest (a.put o.dst v') w') : wpList Tryz.prog ops Q (o :: rest) a w:=by
 refine wpList_app hgd s x 137 ho base 168 5 40 Tryz.underlying137 (by kernel_rfl) (by omega) v xs.length (xs.flatMap eventC) hs hown ⟨B,0,none⟩ 1 1 (eventC y) hx rfl (fun j u hu=>?_) (by simp [Value.oneCell']) (by simp [maxLen];omega) (by omega) hbase (fun v' w' h1 h2=>h v' w' ?_ h2)
 ·rw [Addr.add_mid,cell_block hB,Nat.zero_add];simpa using hu
 ·show w'.ownsRow _ _ _ _ _ _
  rw [List.length_append,List.flatMap_append];simpa using h1
theorem Chg.then_new {R : Nat} {L : List Nat} {w w1 w2 : World} (h : Chg [R] w w1) (hc : Chg L w1 w2) (hL : ∀ b ∈ L,w.heap.size ≤ b) : Chg [R] w w2:=
 ⟨hc.os.trans h.os,hc.tape.trans h.tape,hc.output.trans h.output,Nat.le_trans h.size hc.size,fun k hk hn=>by
  rw [hc.block k (Nat.lt_of_lt_of_le hk h.size) fun hm=>by have:=hL k hm;omega];exact h.block k hk hn⟩
theorem Chg.grown {L : List Nat} {w w1 w2 : World} {v : Value} (h : Chg L w w1) {base : Nat} {e : TypeId} {size n : Nat} {xs : List Value} (ho : w1.ownsRow base e size v n xs) (hb : w.heap.size ≤ base) (hg : w1.grownBy w2 v.ownBlock) : Chg L w w2:=
 ⟨hg.os.trans h.os,hg.tape.trans h.tape,hg.output.trans h.output,Nat.le_trans h.size hg.size,fun k hk hn=>by
  rw [hg.block k (Nat.lt_of_lt_of_le hk h.size) fun e=>by have:=(ho.lt k e.symm).1;omega];exact h.block k hk hn⟩
theorem OwnS.grown {c : SC} {w w' : World} {s : Store} (h : OwnS c w s) {v : Value} {base : Nat} {e : TypeId} {size n : Nat} {xs : List Value} (ho : w.ownsRow base e size v n xs) (hb : ∀ b ∈ c.L,b < base) (hg : w.grownBy w' v.ownBlock) : OwnS c w' s:=
 h.keep fun b hm=>hg.block b (h.lt b hm) fun e=>by have:=(ho.lt b e.symm).1;have:=hb b hm;omega
theorem Rk.grown {w w' : World} {R K : Nat} (h : Rk w R K) {v : Value} {base : Nat} {e : TypeId} {size n : Nat} {xs : List Value} (ho : w.ownsRow base e size v n xs) (hb : R < base) (hg : w.grownBy w' v.ownBlock) : Rk w' R K:=by
 obtain ⟨bv,xs',p,h,hp⟩:=h
 have hk : ∀ b,b ≤ R → w'.heap[b]? = w.heap[b]?:=fun b hbR=>hg.block b (Nat.lt_of_le_of_lt hbR h.lt) fun e=>by have:=(ho.lt b e.symm).1;omega
 exact ⟨bv,xs',p,⟨by rw [hk R (Nat.le_refl _)];exact h.cells,Sl.same (plain_kept _) h.bytes (fun b hb=>hk b (Nat.le_of_lt hb)) (fun b hb=>hb),h.small,h.len⟩,hp⟩
theorem row_chg {L : List Nat} {w w' : World} {base : Nat} {e : TypeId} {size n : Nat} {v : Value} {xs : List Value} (h : w.ownsRow base e size v n xs) (hx : Chg L w w') (hL : ∀ b ∈ L,b < base) : w'.ownsRow base e size v n xs:=by
 obtain ⟨h1,h2⟩:=h
 refine ⟨h1,h2.imp id fun ⟨g,cap,cur,hv,hb,hh,hr⟩=>⟨g,cap,cur,hv,hb,hx.keep hh fun hm=>by have:=hL g hm;omega,hr⟩⟩
theorem keep_row {W w w' : World} {b : Nat} {o : Obj} {base size m : Nat} {e : TypeId} {u : Value} {ys : List Value} (h : w.heap[b]? = some o) (hu : W.ownsRow base e size u m ys) (hb : W.heap.size ≤ b) (hg : w.grownBy w' u.ownBlock) : w'.heap[b]? = some o:=by
 rw [hg.block b (heap_lt h) fun e=>by have:=(hu.lt b e.symm).2;omega];exact h
theorem l21Do_v (c : SC) (s t : Store) (e : Event) (w : World) (h : OwnS c w s) (hs : StoreP s) (hl : s.flash.length = t.flash.length ∧ s.disk.length = t.disk.length) :
  Calls Tryz.prog 133 #[.agg #[c.fv t,c.dv t],eventA e] w (RetOv c w (c.fv t) (c.dv t) (playDoS s e)):=by
 obtain ⟨h1,h2⟩:=SC.same (c:=c) hl
 have:=l21Do_c c s e w h hs
 rw [h1,h2] at this
 refine this.mono fun e' w' ⟨he,hc,ho⟩=>⟨?_,hc,ho⟩
 obtain ⟨h3,h4⟩:=SC.same (c:=c) (playDoS_len s e)
 rw [he,h3,h4,h1,h2]
theorem newStore_ok : StoreP newStore:=⟨by decide,rfl⟩
def PlayΦ (w : World) (v : Value) (w' : World) : Prop:=∃ (c : SC) (s : Store) (ev : Value) (es : List Event) (H : Nat),v = .tuple #[ev,.agg #[c.fv s,c.dv s]] ∧ OwnS c w' s ∧ StoreP s ∧ (∀ b ∈ c.L,w.heap.size ≤ b ∧ b < H) ∧ w.heap.size ≤ H ∧ ERow H w' ev es ∧ (∀ e ∈ es,EventD e) ∧ es.length ≤ 57
set_option maxRecDepth 20000 in
set_option maxHeartbeats 4000000 in
theorem l71Play_c (R K : Nat) (w : World) (h : Rk w R (K + 1 + 57 * 7)) :
  Calls Tryz.prog 106 #[.pointer (some ⟨R,0,none⟩)] w (DrawV R K w (PlayΦ w)):=by
 have hR:=h.lt
 have HK:=h;clear h
 have C:=Chg.refl [R] w
 go_enter Tryz.func106,Tryz.ntmps106
 go_wp2_with fail
 refine (specStoreNew_c _).mono ?_;rintro e1 w1 hsn
 obtain ⟨fv,dv,L,rfl,hx1,hOS,hnd,hLb⟩:=hsn
 obtain ⟨c,rfl,rfl,rfl,hO⟩:=hOS.at_ hnd
 obtain ⟨s0,hs0⟩ : ∃ s0,newStore = s0:=⟨_,rfl⟩
 have hP0 : StoreP s0:=hs0 ▸ newStore_ok
 rw [hs0] at hO ⊢
 clear hs0 hOS hnd
 have hb0 : ∀ b ∈ c.L,w.heap.size < b ∧ b < w1.heap.size:=fun b hb=>⟨by have:=hLb b hb;simp at this;omega,hO.lt b hb⟩
 have HB:=Lib.hid hb0
 have HP:=Lib.hid hP0
 replace C:=C.then_sets (Chg.of_ext hx1) (by ((repeat (first | with_reducible (refine Chg.set2 ?_ ?_);focus (exact Or.inr (by dsimp only;omega)) | with_reducible refine Chg.alloc2 ?_));with_reducible exact C))
 replace HK:=Rk.ext (by ((repeat (first | (with_reducible apply Rk.set2;focus (dsimp only;omega)) | with_reducible apply Rk.alloc2));with_reducible exact HK)) hx1
 have G3:=keep_ext hx1 (hg_new (b:=w.heap.size) rfl)
 have l3:=heap_lt G3
 have HO:=Lib.hid hO
 have HRL : Hid (∀ b ∈ c.L,b ∉ [R]):=Lib.hid fun b hb=>by have:=hb0 b hb;simp;omega
 clear hLb hb0 hP0 hO hx1
 go_wp2_with fail
 refine (pick_k R _ _ (by ((repeat (first | (with_reducible apply Rk.set2;focus (dsimp only;omega)) | with_reducible apply Rk.alloc2));with_reducible exact HK))).mono ?_;rintro e2 w2 ⟨r,rfl,hr0,hr1,hC,HK1⟩
 replace C:=C.then_sets hC (by ((repeat (first | with_reducible (refine Chg.set2 ?_ ?_);focus (exact Or.inr (by dsimp only;omega)) | with_reducible refine Chg.alloc2 ?_));with_reducible exact C))
 replace HK:=HK1;clear HK1
 replace G3:=hC.keep (b:=w.heap.size) (by (repeat (first | with_reducible apply hg_here | (with_reducible apply hg_set;focus (dsimp only;omega)) | with_reducible apply hg_alloc));with_reducible exact G3) (by simp;omega)
 have G4:=hC.keep (b:=w1.heap.size) (hg_alloc (hg_new rfl)) (by simp;omega)
 have GE:=hC.keep (b:=w1.heap.size + 1) (hg_new (by simp)) (by simp;omega)
 have hO2 : OwnS c w2 s0:=((HO.out.alloc2).alloc2).chg hC HRL.out
 obtain ⟨n0,rfl⟩ : ∃ n : Nat,r = n:=⟨r.toNat,by omega⟩
 have hn57:=hr1 (by omega)
 have HO2:=Lib.hid hO2
 clear hC hO2 HO hr1 hr0
 go_wp2_with fail
 go_loopw [5,6] (fun ev y wr=>∃ (n : Nat) (s : Store) (es : List Event),y = .int .i64 n ∧ n + es.length ≤ 57 ∧ Chg [R] w wr ∧ OwnS c wr s ∧ Hid (StoreP s) ∧ Hid (s.flash.length = s0.flash.length ∧ s.disk.length = s0.disk.length) ∧ ERow (w1.heap.size + 1) wr ev es ∧ Hid (∀ e ∈ es,EventD e) ∧ Rk wr R (K + 7 * n) ∧
  wr.heap[w.heap.size]? = some (.cells #[.slice none 0 0,.slice none 0 0] 26 (0,0)) ∧ wr.heap[w1.heap.size]? = some (.cells #[c.fv s0,c.dv s0] 26 (0,0))) (fun _ y _=>(intOf y).toNat)
 case atStart=>exact ⟨n0,s0,[],rfl,by simp;omega,C,HO2.out,HP,Lib.hid ⟨rfl,rfl⟩,ERow.empty GE (by omega),Lib.hid (by simp),HK.less (by omega),G3,G4⟩
 case round =>
  clear C HO2 G3 G4 GE HK HP
  obtain ⟨n,s,es,rfl,hne,C,hO,HP,HE,hrow,HD,HK,G3,G4⟩:=hrel
  obtain ⟨ea,ecap,rfl⟩:=hrow.form
  have l4:=heap_lt G4
  obtain ⟨g3,gf3⟩:=cellsK G3
  obtain ⟨g4,gf4⟩:=cellsK G4
  have HO:=Lib.hid hO;have HROW:=Lib.hid hrow
  clear hO hrow
  rcases n with _ | n
  ·go_wp2_with fail
   refine wp_region_ext [] [0,1,2] [] [3] (by kernel_rfl) (by kernel_rfl) ?late ?_
   case late=>exact fun f hf=>absurd hf List.not_mem_nil
   refine Rob.y (v:=?_) rfl rfl (fun w1 hx hH=>?_) ?_;rotate_left
   ·go_simp;first | done | rfl | exact (Bool.not_not _).symm
   simp only [Act.put,slA,slB,slC]
   refine Rob.y (v:=?_) rfl rfl (fun w1 hx hH=>?_) ?_;rotate_left
   ·(obtain ⟨hcx,hfx⟩:=bcell hx);go_simp;first | done | rfl
   simp only [Act.put,slA,slB,slC]
   refine Rob.y (v:=?_) rfl rfl (fun w1 hx hH=>?_) ?_;rotate_left
   ·go_simp;first | done | rfl | exact (Bool.not_not _).symm
   simp only [Act.put,slA,slB,slC]
   refine fin_tail (fun w5 hx5 _=>?_)
   simp only [dstOf,List.getElem?_cons_succ,List.getElem?_cons_zero,Option.bind_some,Act.put,slA,slB,slC,List.filterMap_cons,List.filterMap_nil]
   replace G3:=keep_ext hx5 G3
   replace G4:=keep_ext hx5 G4
   clear g3 gf3 g4 gf4
   obtain ⟨g3,gf3⟩:=cellsK G3
   have l3:=heap_lt G3
   have C5:=C.trans (Chg.of_ext hx5)
   have HK5:=HK.ext hx5
   go_wp2_with fail
   obtain ⟨q1,q2⟩:=SC.same (c:=c) HE.out
   refine bodyPost_ret (v:=.tuple #[.slice ea es.length ecap,.agg #[c.fv s0,c.dv s0]]) (by simp [results,Tryz.results106,go_sem,g3,gf3]) rfl ⟨_,rfl,(by ((repeat (first | with_reducible (refine Chg.set2 ?_ ?_);focus (exact Or.inr (by dsimp only;omega)) | with_reducible refine Chg.alloc2 ?_));with_reducible exact C5)),Rk.less (by ((repeat (first | (with_reducible apply Rk.set2;focus (dsimp only;omega)) | with_reducible apply Rk.alloc2));with_reducible exact HK5)) (by omega),c,s,.slice ea es.length ecap,es,w1.heap.size + 1,by rw [q1,q2],?_,HP.out,fun b hb=>⟨by have:=HB.out b hb;omega,by have:=HB.out b hb;omega⟩,by omega,?_,HD.out,by omega⟩
   ·have ho:=HO.out.ext hx5
    have hnb : ∀ b,b ≤ w.heap.size → b ∉ c.L:=fun b hb hm=>by have:=HB.out b hm;omega
    exact (ho.set (hnb _ (Nat.le_refl _)) _).set (hnb _ (Nat.le_refl _)) _
   ·have hr:=HROW.out.ext hx5
    refine row_chg (L:=[w.heap.size]) hr ?_ (by simp;omega)
    exact ((Chg.refl _ _).set (.inl (by simp)) _).set (.inl (by simp)) _
  ·have hpos : (0 : Int) < ((n + 1 : Nat) : Int):=by omega
   go_wp2_with fail
   refine (l71Event_c R (K + 7 * n) _ (HK.less (by omega))).mono ?_;rintro e3 w3 ⟨v,rfl,hC,HK3,e,rfl,hE⟩
   have C3:=C.trans hC
   have hO3:=HO.out.chg hC HRL.out
   have hrow3 : ERow (w1.heap.size + 1) w3 (.slice ea es.length ecap) es:=row_chg HROW.out hC (by simp;omega)
   replace G3:=hC.keep G3 (by simp;omega)
   replace G4:=hC.keep G4 (by simp;omega)
   have l4':=heap_lt G4
   have HO3:=Lib.hid hO3;have HR3:=Lib.hid hrow3
   have HE3:=Lib.hid hE
   clear hO3 hrow3 hE hC HK C g3 gf3 g4 gf4
   go_wp2_with (refine wpList_appEvent rfl _ _ rfl rfl ((HR3.out.ext (ext_alloc (ext_refl _) _)).ext (ext_alloc (ext_refl _) _)) (y:=e) rfl (hg_new (by simp)) (by omega) (by simp;omega) (fun v' w' hS' hg=>?_);replace G3:=keep_grown (hg_alloc (hg_alloc G3)) (by decide) ((HR3.out.ext (ext_alloc (ext_refl _) _)).ext (ext_alloc (ext_refl _) _)) hg;replace G4:=keep_grown (hg_alloc (hg_alloc G4)) (by decide) ((HR3.out.ext (ext_alloc (ext_refl _) _)).ext (ext_alloc (ext_refl _) _)) hg;have G7:=keep_row (hg_alloc (hg_new (b:=w3.heap.size) rfl)) HR3.out (Nat.le_refl _) hg;obtain ⟨g4,gf4⟩:=cellsK G4;obtain ⟨g7,gf7⟩:=cellsK G7)
   have hra : ERow (w1.heap.size + 1) ((w3.alloc (.cells (eventC e).toArray 168)).alloc (.cells (eventC e).toArray 168)) (.slice ea es.length ecap) es:=(HR3.out.ext (ext_alloc (ext_refl _) _)).ext (ext_alloc (ext_refl _) _)
   have hOa:=((HO3.out.alloc2).alloc2).grown hra (fun b hb=>by have:=HB.out b hb;omega) hg
   have Ca:=Chg.grown ((C3.alloc _).alloc _) hra (by omega) hg
   have HKa:=Rk.grown ((HK3.alloc2).alloc2) hra (by omega) hg
   refine (l21Do_v c s s0 e _ hOa HP.out HE.out).mono ?_;rintro e4 w4 ⟨rfl,hC4,hO4⟩
   have C4:=Ca.then_new hC4 (fun b hb=>by have:=HB.out b hb;omega)
   replace G3:=hC4.keep G3 (fun hm=>by have:=HB.out _ hm;omega)
   replace G4:=hC4.keep G4 (fun hm=>by have:=HB.out _ hm;omega)
   have hrow4:=row_chg hS' hC4 (fun b hb=>by have:=HB.out b hb;omega)
   have HK4:=HKa.chg hC4 (fun b hb=>by have:=HB.out b hb;omega)
   obtain ⟨hl1,hl2⟩:=playDoS_len s e
   have HPn:=Lib.hid (HP.out.play e)
   have HO4:=Lib.hid hO4;have HR4:=Lib.hid hrow4
   have l44:=heap_lt G4
   clear g4 gf4 g7 gf7 hO4 hrow4 hra hOa hS' hg hC4 G7
   obtain ⟨g4,gf4⟩:=cellsK G4
   generalize playDoS s e = s2 at *
   go_wp2_with fail
   refine ⟨⟨n,s2,es ++ [e],by go_num,by simp;omega,(by ((repeat (first | with_reducible (refine Chg.set2 ?_ ?_);focus (exact Or.inr (by dsimp only;omega)) | with_reducible refine Chg.alloc2 ?_));with_reducible exact C4)),?_,HPn,Lib.hid ⟨hl1.trans HE.out.1,hl2.trans HE.out.2⟩,?_,Lib.hid fun x hx=>?_,Rk.less (by ((repeat (first | (with_reducible apply Rk.set2;focus (dsimp only;omega)) | with_reducible apply Rk.alloc2));with_reducible exact HK4)) (by omega),(by (repeat (first | with_reducible apply hg_here | (with_reducible apply hg_set;focus (dsimp only;omega)) | with_reducible apply hg_alloc));with_reducible exact G3),hgo (by (repeat (first | with_reducible apply hg_here | (with_reducible apply hg_set;focus (dsimp only;omega)) | with_reducible apply hg_alloc));with_reducible exact G4) ?_⟩,by simp [intOf];try omega⟩
   ·have hnb : w1.heap.size ∉ c.L:=fun hm=>by have:=HB.out _ hm;omega
    exact (HO4.out.set hnb _).set hnb _
   ·refine row_chg (L:=[w1.heap.size]) HR4.out ?_ (by simp)
    exact ((Chg.refl _ _).set (.inl (by simp)) _).set (.inl (by simp)) _
   ·rcases List.mem_append.1 hx with hx | hx
    ·exact HD.out x hx
    ·obtain rfl:=List.mem_singleton.1 hx;exact HE3.out
   ·simp
end Go.Bu
namespace Go.Bu
open Go Go.RowKit Go.Plan Go.Proofs
theorem chgcell {R : Nat} {W w1 : World} (h : Chg [R] W w1) : (∀ b o,b < W.heap.size → b ≠ R → w1.cell? ⟨b,o,none⟩ = W.cell? ⟨b,o,none⟩) ∧ (∀ b o,b < W.heap.size → b ≠ R → w1.frozen? ⟨b,o,none⟩ = W.frozen? ⟨b,o,none⟩):=
 ⟨fun b o hb hn=>by unfold World.cell?;rw [h.block b hb (by simpa using hn)],fun b o hb hn=>by unfold World.frozen?;rw [h.block b hb (by simpa using hn)]⟩
section
variable {P : Program} {l : List Oper} {Q : Exit → Act → World → Prop} {ch L heads : List Nat} {lates : Lates} {tail : List Nat} {B0 : Nat} {S : World → Prop} {iv : List (Nat × Nat)} {H : Nat} {a : Act}
 {fin : (World → Prop) → List (Nat × Nat) → Nat → Act → Prop} {R K K1 : Nat} {W : World}
theorem wp_region_rd (hk : Rk W R K) (ch heads : List Nat) (lates : Lates) (tail : List Nat) {id : Nat} {a : Act} (hm : P.follows .mixedOrders = true)
  (hok : okPlan l ch heads (lates.map (·.1)) tail = true)
  (hlate : ∀ f ∈ lates,∃ o,l[f.1]? = some o ∧ ∀ (a : Act) (w : World),(execOp a.eval o).run P w = .ok (.value (f.2.2 w.heap.size)) (w.alloc f.2.1))
  (h : Rob P l ch W.heap.size (Fin P l Q W.heap.size lates tail) heads (Chg [R] W) (fun w=>Rk w R K) [] W.heap.size a) : (Code.region id l.toArray true).wp P Q a W:=
 wp_region_planC ch heads lates tail hm hok hlate _ (Chg.of_ext (ext_drew W)) (fun _ _ h1 h2=>h1.trans (Chg.of_ext h2)) _ (hk.ext (ext_drew W)) (fun _ _ h1 h2=>h1.ext h2) h
theorem wp_region_rdM (hk : Rk W R K) (ch heads : List Nat) (lates : Lates) (mid tail : List Nat) {id : Nat} {a : Act} (hm : P.follows .mixedOrders = true)
  (hok : okPlanM l ch heads (lates.map (·.1)) mid tail = true)
  (hlate : ∀ f ∈ lates,∃ o,l[f.1]? = some o ∧ ∀ (a : Act) (w : World),(execOp a.eval o).run P w = .ok (.value (f.2.2 w.heap.size)) (w.alloc f.2.1))
  (h : Rob P l ch W.heap.size (FinM P l Q W.heap.size lates mid tail) heads (Chg [R] W) (fun w=>Rk w R K) [] W.heap.size a) : (Code.region id l.toArray true).wp P Q a W:=
 wp_region_planM ch heads lates mid tail hm hok hlate _ (Chg.of_ext (ext_drew W)) (fun _ _ h1 h2=>h1.trans (Chg.of_ext h2)) _ (hk.ext (ext_drew W)) (fun _ _ h1 h2=>h1.ext h2) h
theorem spare_rd {w w' : World} (hR : R < B0) (h : Chg [R] w w') : Spare B0 iv w w':=⟨h.size,fun b hb hl _=>h.block b hl (by simp;omega)⟩
def DrawR (R K : Nat) (w : World) (Φ : Value → Prop) (v : Value) (w' : World) : Prop:=Chg [R] w w' ∧ Rk w' R K ∧ Φ v
def PickΦ (m : Int) (v : Value) : Prop:=∃ r : Int,v = .int .i64 r ∧ 0 ≤ r ∧ (0 < m → r < m)
theorem Pick.run {m : Int} {w w' : World} {e : Ending} (h : Pick R K m w e w') : ∃ v,e = .returned v ∧ DrawR R K w (PickΦ m) v w':=by
 obtain ⟨r,he,h0,h1,hc,hk⟩:=h;exact ⟨_,he,hc,hk,r,rfl,h0,h1⟩
theorem DrawV.run {Φ : Value → Prop} {w w' : World} {e : Ending} (h : DrawV R K w (fun v _=>Φ v) e w') : ∃ v,e = .returned v ∧ DrawR R K w Φ v w':=by
 obtain ⟨v,he,hc,hk,hp⟩:=h;exact ⟨v,he,hc,hk,hp⟩
theorem Rob.draw0 {i : Nat} {o : Oper} (Φ : Value → Prop) (ho : l[i]? = some o) (hc : ch.contains i = true) (hg : Region.wanted o (yielded l.toArray a.tmps) = true) (hR : R < B0)
  (hS : ∀ w w',S w → Chg [R] w w' → S w') (hrun : ∀ w1,S w1 → Rk w1 R K1 → H ≤ w1.heap.size → RunTo P o a.eval w1 (DrawR R K w1 Φ))
  (h : ∀ (lo hi : Nat) (v : Value),Φ v → H ≤ lo → lo ≤ hi → Rob P l ch B0 fin L S (fun w=>Rk w R K) (iv ++ [(lo,hi)]) hi (a.put o.dst v)) : Rob P l ch B0 fin (i :: L) S (fun w=>Rk w R K1) iv H a:=by
 refine Rob.w (fun _ _ v _=>Φ v) (fun _ _ _ w=>Rk w R K) ho hc hg (fun _ _ _ _ _ h _=>h) (fun _ _ _ _ _ h hx=>h.ext hx) (fun w1 hs hk hh=>?_) (fun lo hi v h1 h2 ⟨_,hv,_⟩=>?_)
 ·have:=hrun w1 hs hk hh
  unfold RunTo at *
  revert this
  generalize (execOp a.eval o).run P w1 = r
  cases r with
  | ok n w' =>
   cases n <;> intro this
   case value v=>exact ⟨spare_rd hR this.1,hS _ _ hs this.1,this.2.2,this.2.1⟩
   case skip=>exact ⟨spare_rd hR this.1,hS _ _ hs this.1,this.2.2,this.2.1⟩
   case enter f args=>exact Calls.mono this fun e w'' ⟨v,he,h1,h2,h3⟩=>⟨v,he,spare_rd hR h1,hS _ _ hs h1,h3,h2⟩
   case row row args=>exact Rows.mono this fun v w'' ⟨h1,h2,h3⟩=>⟨spare_rd hR h1,hS _ _ hs h1,h3,h2⟩
   all_goals exact this
  | halt x w'=>exact fun h=>h
 ·rw [show (fun w=>S w ∧ Φ v) = S from funext fun w=>by simp [hv]]
  exact h lo hi v hv h1 h2
theorem Rob.pick {i : Nat} {o : Oper} {m : Int} (ho : l[i]? = some o) (hc : ch.contains i = true) (hg : Region.wanted o (yielded l.toArray a.tmps) = true) (hR : R < B0)
  (hS : ∀ w w',S w → Chg [R] w w' → S w') (hrun : ∀ w1,S w1 → Rk w1 R (K + 1) → H ≤ w1.heap.size → RunTo P o a.eval w1 (DrawR R K w1 (PickΦ m)))
  (h : ∀ (lo hi : Nat) (r : Int),0 ≤ r → (0 < m → r < m) → H ≤ lo → lo ≤ hi → Rob P l ch B0 fin L S (fun w=>Rk w R K) (iv ++ [(lo,hi)]) hi (a.put o.dst (.int .i64 r))) : Rob P l ch B0 fin (i :: L) S (fun w=>Rk w R (K + 1)) iv H a:=
 Rob.draw0 _ ho hc hg hR hS hrun fun lo hi v ⟨r,hv,h0,h1⟩ hl hh=>by subst hv;exact h lo hi r h0 h1 hl hh
end
set_option maxHeartbeats 2000000 in
theorem l71Rec_c (R K : Nat) (w : World) (h : Rk w R (K + 6)) :
  Calls Tryz.prog 134 #[.pointer (some ⟨R,0,none⟩)] w (DrawV R K w fun v _=>∃ r : Rec,v = recA r):=by
 have hR:=h.lt
 have HK:=h;clear h
 go_enter Tryz.func134,Tryz.ntmps134
 have C:=Chg.refl [R] w
 go_wp2_with fail
 refine (pick_k R 2 _ (by ((repeat (first | (with_reducible apply Rk.set2;focus (dsimp only;omega)) | with_reducible apply Rk.alloc2));with_reducible exact HK))).mono ?_;rintro e1 w1 ⟨r1,rfl,a1,b1,hC,HK1⟩
 replace C:=C.then_sets hC (by ((repeat (first | with_reducible (refine Chg.set2 ?_ ?_);focus (exact Or.inr (by dsimp only;omega)) | with_reducible refine Chg.alloc2 ?_));with_reducible exact C))
 have G2:=hC.keep (hg_new (b:=w.heap.size) rfl) (by simp;omega)
 replace HK:=HK1;clear HK1 hC
 go_wp2_with fail
 refine (pick_k R 40 _ (by ((repeat (first | (with_reducible apply Rk.set2;focus (dsimp only;omega)) | with_reducible apply Rk.alloc2));with_reducible exact HK))).mono ?_;rintro e2 w2 ⟨r2,rfl,a2,b2,hC,HK1⟩
 replace C:=C.then_sets hC (by ((repeat (first | with_reducible (refine Chg.set2 ?_ ?_);focus (exact Or.inr (by dsimp only;omega)) | with_reducible refine Chg.alloc2 ?_));with_reducible exact C))
 replace G2:=hC.keep (b:=w.heap.size) (by (repeat (first | with_reducible apply hg_here | (with_reducible apply hg_set;focus (dsimp only;omega)) | with_reducible apply hg_alloc));with_reducible exact G2) (by simp;omega)
 replace HK:=HK1;clear HK1 hC
 go_wp2_with fail
 refine (pick_k R 6 _ (by ((repeat (first | (with_reducible apply Rk.set2;focus (dsimp only;omega)) | with_reducible apply Rk.alloc2));with_reducible exact HK))).mono ?_;rintro e3 w3 ⟨r3,rfl,a3,b3,hC,HK1⟩
 replace C:=C.then_sets hC (by ((repeat (first | with_reducible (refine Chg.set2 ?_ ?_);focus (exact Or.inr (by dsimp only;omega)) | with_reducible refine Chg.alloc2 ?_));with_reducible exact C))
 replace G2:=hC.keep (b:=w.heap.size) (by (repeat (first | with_reducible apply hg_here | (with_reducible apply hg_set;focus (dsimp only;omega)) | with_reducible apply hg_alloc));with_reducible exact G2) (by simp;omega)
 replace HK:=HK1;clear HK1 hC
 go_wp2_with fail
 refine (pick_k R 10 _ (by ((repeat (first | (with_reducible apply Rk.set2;focus (dsimp only;omega)) | with_reducible apply Rk.alloc2));with_reducible exact HK))).mono ?_;rintro e4 w4 ⟨r4,rfl,a4,b4,hC,HK1⟩
 replace C:=C.then_sets hC (by ((repeat (first | with_reducible (refine Chg.set2 ?_ ?_);focus (exact Or.inr (by dsimp only;omega)) | with_reducible refine Chg.alloc2 ?_));with_reducible exact C))
 replace G2:=hC.keep (b:=w.heap.size) (by (repeat (first | with_reducible apply hg_here | (with_reducible apply hg_set;focus (dsimp only;omega)) | with_reducible apply hg_alloc));with_reducible exact G2) (by simp;omega)
 replace HK:=HK1;clear HK1 hC
 have l2:=heap_lt G2
 go_wp2_with fail
 refine (pick_k R 20 _ (by ((repeat (first | (with_reducible apply Rk.set2;focus (dsimp only;omega)) | with_reducible apply Rk.alloc2));with_reducible exact HK))).mono ?_;rintro e5 w5 ⟨r5,rfl,a5,b5,hC,HK1⟩
 replace C:=C.then_sets hC (by ((repeat (first | with_reducible (refine Chg.set2 ?_ ?_);focus (exact Or.inr (by dsimp only;omega)) | with_reducible refine Chg.alloc2 ?_));with_reducible exact C))
 replace G2:=hC.keep (b:=w.heap.size) (by (repeat (first | with_reducible apply hg_here | (with_reducible apply hg_set;focus (dsimp only;omega)) | with_reducible apply hg_alloc));with_reducible exact G2) (by simp;omega)
 have G3:=hC.keep (hg_new (b:=w4.heap.size) rfl) (by simp;omega)
 replace HK:=HK1;clear HK1 hC
 have l2:=heap_lt G2;have l3:=heap_lt G3
 obtain ⟨g2,gf2⟩:=cellsK G2
 obtain ⟨g3,gf3⟩:=cellsK G3
 go_wp2_with (first
  | (go_at_call 36;((with_reducible refine (pick_k R 4 _ (by ((repeat (first | (with_reducible apply Rk.set2;focus (dsimp only;omega)) | with_reducible apply Rk.alloc2));with_reducible exact HK))).mono ?_));rintro e1 w1 ⟨r,rfl,hr0,hr1,hC,HK1⟩;replace C:=C.then_sets hC (by ((repeat (first | with_reducible (refine Chg.set2 ?_ ?_);focus (exact Or.inr (by dsimp only;omega)) | with_reducible refine Chg.alloc2 ?_));with_reducible exact C));replace HK:=HK1;clear HK1;replace G2:=hC.keep (b:=w.heap.size) (by (repeat (first | with_reducible apply hg_here | (with_reducible apply hg_set;focus (dsimp only;omega)) | with_reducible apply hg_alloc));with_reducible exact G2) (by simp;omega);(try clear g2 gf2);obtain ⟨g2,gf2⟩:=cellsK G2;have l2:=heap_lt G2;replace G3:=hC.keep (b:=w4.heap.size) (by (repeat (first | with_reducible apply hg_here | (with_reducible apply hg_set;focus (dsimp only;omega)) | with_reducible apply hg_alloc));with_reducible exact G3) (by simp;omega);(try clear g3 gf3);obtain ⟨g3,gf3⟩:=cellsK G3;have l3:=heap_lt G3;clear hC)
  | ((go_at_call 36;((with_reducible refine (pick_k R 3 _ (by ((repeat (first | (with_reducible apply Rk.set2;focus (dsimp only;omega)) | with_reducible apply Rk.alloc2));with_reducible exact HK))).mono ?_));rintro e1 w1 ⟨r,rfl,hr0,hr1,hC,HK1⟩;replace C:=C.then_sets hC (by ((repeat (first | with_reducible (refine Chg.set2 ?_ ?_);focus (exact Or.inr (by dsimp only;omega)) | with_reducible refine Chg.alloc2 ?_));with_reducible exact C));replace HK:=HK1;clear HK1;replace G2:=hC.keep (b:=w.heap.size) (by (repeat (first | with_reducible apply hg_here | (with_reducible apply hg_set;focus (dsimp only;omega)) | with_reducible apply hg_alloc));with_reducible exact G2) (by simp;omega);(try clear g2 gf2);obtain ⟨g2,gf2⟩:=cellsK G2;have l2:=heap_lt G2;replace G3:=hC.keep (b:=w4.heap.size) (by (repeat (first | with_reducible apply hg_here | (with_reducible apply hg_set;focus (dsimp only;omega)) | with_reducible apply hg_alloc));with_reducible exact G3) (by simp;omega);(try clear g3 gf3);obtain ⟨g3,gf3⟩:=cellsK G3;have l3:=heap_lt G3;have G5:=hC.keep (b:=w5.heap.size) (hg_new (by simp)) (by simp;omega);(try clear g5 gf5);obtain ⟨g5,gf5⟩:=cellsK G5;have l5:=heap_lt G5;clear hC);rcases (show r = 0 ∨ r = 1 ∨ r = 2 by have:=hr1 (by omega);omega) with rfl | rfl | rfl)
  | ((go_at_call 36;((with_reducible refine (pick_k R 2 _ (by ((repeat (first | (with_reducible apply Rk.set2;focus (dsimp only;omega)) | with_reducible apply Rk.alloc2));with_reducible exact HK))).mono ?_));rintro e1 w1 ⟨r,rfl,hr0,hr1,hC,HK1⟩;replace C:=C.then_sets hC (by ((repeat (first | with_reducible (refine Chg.set2 ?_ ?_);focus (exact Or.inr (by dsimp only;omega)) | with_reducible refine Chg.alloc2 ?_));with_reducible exact C));replace HK:=HK1;clear HK1;replace G2:=hC.keep (b:=w.heap.size) (by (repeat (first | with_reducible apply hg_here | (with_reducible apply hg_set;focus (dsimp only;omega)) | with_reducible apply hg_alloc));with_reducible exact G2) (by simp;omega);(try clear g2 gf2);obtain ⟨g2,gf2⟩:=cellsK G2;have l2:=heap_lt G2;replace G3:=hC.keep (b:=w4.heap.size) (by (repeat (first | with_reducible apply hg_here | (with_reducible apply hg_set;focus (dsimp only;omega)) | with_reducible apply hg_alloc));with_reducible exact G3) (by simp;omega);(try clear g3 gf3);obtain ⟨g3,gf3⟩:=cellsK G3;have l3:=heap_lt G3;have G5:=hC.keep (b:=w5.heap.size) (hg_new (by simp)) (by simp;omega);(try clear g5 gf5);obtain ⟨g5,gf5⟩:=cellsK G5;have l5:=heap_lt G5;clear hC);rcases (show r = 0 ∨ r = 1 by have:=hr1 (by omega);omega) with rfl | rfl))
 all_goals
  refine bodyPost_ret (by simp [results,Tryz.results134,go_sem,g2,gf2,g3,gf3];exact ⟨rfl,rfl,rfl,rfl⟩) rfl ⟨_,rfl,(by ((repeat (first | with_reducible (refine Chg.set2 ?_ ?_);focus (exact Or.inr (by dsimp only;omega)) | with_reducible refine Chg.alloc2 ?_));with_reducible exact C)),Rk.less (by ((repeat (first | (with_reducible apply Rk.set2;focus (dsimp only;omega)) | with_reducible apply Rk.alloc2));with_reducible exact HK)) (by omega),⟨_,_,_,_⟩,rfl⟩
theorem FlashAt.chg {c : SC} {w w' : World} {f : List Block} {L : List Nat} (h : FlashAt c w f) (hx : Chg L w w') (hL : ∀ b ∈ c.fl,b ∉ L) : FlashAt c w' f:=h.keep fun b hb=>hx.block b (h.lt b hb) (hL b hb)
theorem FlashAt.set2 {c : SC} {w : World} {f : List Block} {p : Addr} {u : Value} (hp : p.block ∉ c.fl) (h : FlashAt c w f) : FlashAt c (w.setCell p u) f:=h.keep fun b hb=>Below.heap_setCell _ _ _ _ (by rintro rfl;exact hp hb)
theorem FlashAt.alloc2 {c : SC} {w : World} {f : List Block} {o : Obj} (h : FlashAt c w f) : FlashAt c (w.alloc o) f:=h.ext (ext_alloc (ext_refl _) _)
end Go.Bu
namespace Go.Bu
open Go Go.RowKit Go.Plan Go.Proofs
theorem OwnAt.tail {α : Type} {n : Nat} {enc : α → List Value} {T : TypeId} {w : World} {B o : Nat} {xs : List α} (h : OwnAt n enc T w B o xs) : OwnAt n enc T w B (o + n) xs.tail:=by
 obtain ⟨c,hc,hi⟩:=h
 refine ⟨c,hc,fun i x hx j u hu=>?_⟩
 rw [List.getElem?_tail] at hx
 have:=hi (i + 1) x hx j u hu
 rw [Nat.succ_mul] at this
 rw [show o + n + i * n + j = o + (i * n + n) + j by omega];exact this
def SC.tl (c : SC) : SC:=⟨⟨c.F.b,c.F.o + 2,c.F.cap,c.F.T⟩,c.ps.tail,c.D⟩
theorem rowsOf_tail (f : List Block) (ps : List At) : rowsOf f.tail ps.tail = (rowsOf f ps).tail:=by cases f <;> cases ps <;> simp [rowsOf]
theorem FlashAt.tail {c : SC} {w : World} {f : List Block} (h : FlashAt c w f) : FlashAt c.tl w f.tail:=by
 refine ⟨?_,by simp [SC.tl,h.len],fun i x p hx hp=>h.pages (i + 1) x p (by rw [← List.getElem?_tail];exact hx) (by rw [← List.getElem?_tail];exact hp)⟩
 show OwnAt 2 rowC _ w _ _ (rowsOf f.tail c.ps.tail)
 rw [rowsOf_tail];exact h.row.tail
theorem SC.tl_sub (c : SC) : List.Sublist c.tl.fl c.fl:=((List.tail_sublist _).map _).cons_cons _
def SC.cut (c : SC) (k : Nat) (p : At) : SC:=⟨c.F,c.ps.set k ⟨p.b,p.o + 5,p.cap,p.T⟩,c.D⟩
theorem SC.cut_fl {c : SC} {k : Nat} {p : At} (hp : c.ps[k]? = some p) : (c.cut k p).fl = c.fl:=by
 unfold SC.fl SC.cut
 congr 1
 apply List.ext_getElem?
 intro j
 rw [List.getElem?_map,List.getElem?_map,List.getElem?_set]
 by_cases hkj : k = j
 ·subst hkj;rw [if_pos rfl,hp,if_pos (List.getElem?_eq_some_iff.1 hp).1];rfl
 ·rw [if_neg hkj]
theorem zipWith_set2 {f : List Block} {ps : List At} {i : Nat} {x : Block} {p : At} (h : ps.length = f.length) : rowsOf (f.set i x) (ps.set i p) = (rowsOf f ps).set i (rowOf x p):=by
 unfold rowsOf
 apply List.ext_getElem?
 intro j
 rw [List.getElem?_zipWith,List.getElem?_set,List.getElem?_set,List.getElem?_set,List.getElem?_zipWith]
 by_cases hij : i = j
 ·subst hij
  rw [if_pos rfl,if_pos rfl,if_pos rfl]
  by_cases hf : i < f.length
  ·rw [if_pos hf,if_pos (by omega),if_pos (by rw [List.length_zipWith];omega)]
  ·rw [if_neg hf,if_neg (by omega),if_neg (by rw [List.length_zipWith];omega)]
 ·rw [if_neg hij,if_neg hij,if_neg hij]
theorem FlashAt.cut {c : SC} {w : World} {f : List Block} (h : FlashAt c w f) (hnd : c.fl.Nodup) {k : Nat} {p : At} {x : Block} (hx : f[k]? = some x) (hp : c.ps[k]? = some p) :
  FlashAt (c.cut k p) (w.setCell ⟨c.F.b,c.F.o + k * 2,none⟩ ((⟨p.b,p.o + 5,p.cap,p.T⟩ : At).v (x.pages.length - 1))) (f.set k ⟨x.pages.tail,x.worn⟩):=by
 obtain ⟨hk,rfl⟩:=List.getElem?_eq_some_iff.1 hx
 have hrl : k < (rowsOf f c.ps).length:=by rw [rowsOf_len h.len];exact hk
 have hget : (rowsOf f c.ps)[k] = rowOf f[k] p:=by
  have:=rowsOf_get (List.getElem?_eq_getElem hk) hp
  rw [List.getElem?_eq_getElem hrl] at this;exact Option.some.inj this
 refine ⟨?_,by simp [SC.cut,h.len],fun j y q hy hq=>?_⟩
 ·show OwnAt 2 rowC _ _ _ _ (rowsOf (f.set k _) (c.ps.set k _))
  rw [zipWith_set2 h.len]
  exact OwnAt.set1 (n:=2) (enc:=rowC) (fun _=>rfl) h.row hrl (j:=0) (by omega) _ _ (by rw [hget];simp [rowOf])
 ·replace hq : (c.ps.set k (⟨p.b,p.o + 5,p.cap,p.T⟩ : At))[j]? = some q:=hq
  rw [List.getElem?_set] at hy hq
  by_cases hkj : k = j
  ·subst hkj
   rw [if_pos rfl,if_pos hk] at hy
   rw [if_pos rfl,if_pos (by rw [h.len];exact hk)] at hq
   obtain rfl:=Option.some.inj hy;obtain rfl:=Option.some.inj hq
   exact (h.pages k f[k] p (List.getElem?_eq_getElem hk) hp).tail.keep (Below.heap_setCell _ _ _ _ (SC.F_ne hnd hp))
  ·rw [if_neg hkj] at hy hq
   exact (h.pages j y q hy hq).keep (Below.heap_setCell _ _ _ _ (SC.F_ne hnd hq))
def DrawnF (w : World) (v : Value) (w' : World) : Prop:=∃ (c : SC) (f : List Block),v = c.F.v f.length ∧ FlashAt c w' f ∧ c.fl.Nodup ∧ (∀ b ∈ c.fl,w.heap.size ≤ b) ∧ f.length ≤ 4 ∧ ∀ b ∈ f,b.pages.length ≤ 4
set_option maxRecDepth 20000 in
set_option maxHeartbeats 4000000 in
theorem l71Flash_c (R K : Nat) (w : World) (h : Rk w R (K + 20 + 1 + 57 * 7)) :
  Calls Tryz.prog 107 #[.pointer (some ⟨R,0,none⟩)] w (DrawV R K w (DrawnF w)):=by
 have hR:=h.lt
 have HK:=h;clear h
 have C:=Chg.refl [R] w
 go_enter Tryz.func107,Tryz.ntmps107
 go_wp2_with fail
 refine (l71Play_c R (K + 20) _ HK).mono ?_;rintro e1 w1 ⟨v1,rfl,C1,HK1,c,s,ev,es,H0,rfl,hO,hP,hL,hH,hrow,hD,hel⟩
 obtain ⟨ea,ecap,rfl⟩:=hrow.form
 have hsh:=hP.shape
 have hnd:=SC.fl_nd hO.nd
 have HND:=Lib.hid hnd
 have FA:=hO.flash
 have HL:=Lib.hid hL
 have HRF : Hid (∀ b ∈ c.fl,b ∉ [R]):=Lib.hid fun b hb=>by have:=hL b (fl_L b hb);simp;omega
 have HNF : Hid (∀ b,w1.heap.size ≤ b → b ∉ c.fl):=Lib.hid fun b hb hm=>by have:=FA.lt b hm;omega
 have HSH:=Lib.hid hsh
 replace HK:=HK1
 replace C:=C1
 have hsz:=C1.size
 have hf4:=hsh.flash
 have H4 : Hid (∀ b ∈ s.flash,b.pages.length = 4):=Lib.hid hsh.pages
 have HFL : Hid (∀ b ∈ c.fl,w.heap.size ≤ b):=Lib.hid fun b hb=>(HL.out b (fl_L b hb)).1
 have hFb:=HL.out _ (fl_L _ (show c.F.b ∈ c.fl by simp [SC.fl]))
 have hFlt:=FA.lt _ (show c.F.b ∈ c.fl by simp [SC.fl])
 have hfv : c.fv s = c.F.v 4:=by unfold SC.fv;rw [hf4]
 rw [hfv]
 obtain ⟨da,dn,dc,hdv⟩ : ∃ a n k,c.dv s = .slice a n k:=⟨_,_,_,rfl⟩
 rw [hdv]
 clear hfv hdv
 generalize s.flash = f at *
 clear hsh hO hP hL hH hrow hD hel HK1 C1 hnd
 have HF4:=Lib.hid hf4
 clear hf4
 go_wp2_with fail
 refine (pick_k R 20 _ (by ((repeat (first | (with_reducible apply Rk.set2;focus (dsimp only;omega)) | with_reducible apply Rk.alloc2));with_reducible exact HK))).mono ?_;rintro e2 w2 ⟨r,rfl,hr0,hr1,hC,HK1⟩
 replace C:=C.then_sets hC (by ((repeat (first | with_reducible (refine Chg.set2 ?_ ?_);focus (exact Or.inr (by dsimp only;omega)) | with_reducible refine Chg.alloc2 ?_));with_reducible exact C))
 replace HK:=HK1;clear HK1
 have G4:=hC.keep (hg_new (b:=w1.heap.size) rfl) (by simp;omega)
 replace FA:=FlashAt.chg (by ((repeat (first | (with_reducible apply FlashAt.set2;focus (exact HNF.out _ (by dsimp only;omega))) | with_reducible apply FlashAt.alloc2));with_reducible exact FA)) hC HRF.out
 have l4:=heap_lt G4
 obtain ⟨g4,gf4⟩:=cellsK G4
 clear hC
 go_wp2_with fail
 ·clear hr1
  refine wp_region_rd HK [4,9,11,13] [0,1,2,3,8,10,12,4,5,6,7,9,11,13,14,15] [] [16] (by kernel_rfl) (by kernel_rfl) ?late ?_
  case late=>exact fun f hf=>absurd hf List.not_mem_nil
  iterate 7
   refine Rob.y (v:=?_) rfl rfl (fun w1 hx hH=>?_) ?_;rotate_left
   ·go_simp;first | done | rfl | exact (Bool.not_not _).symm
   simp only [Act.put,slA,slB,slC]
  refine Rob.pick (m:=4) rfl rfl rfl (by omega) (fun _ _ h hx=>h.trans hx) (fun w1 hx HK hH=>?_) (fun lo4 hi4 r4 hrl4 hru4 hlo4 hhi4=>?_)
  ·unfold RunTo;go_simp;exact (pick_k R _ _ HK).mono fun e w' h=>h.run
  simp only [Act.put,slA,slB,slC]
  obtain ⟨i,rfl⟩ : ∃ i : Nat,r4 = i:=⟨r4.toNat,by omega⟩
  have hiI : (i : Int) < 4:=hru4 (by omega)
  have hI : i < f.length:=by have:=HF4.out;omega
  obtain ⟨p,hp⟩ : ∃ p,c.ps[i]? = some p:=⟨_,List.getElem?_eq_getElem (by rw [FA.len];exact hI)⟩
  obtain ⟨x,hX⟩ : ∃ x,f[i]? = some x:=⟨_,List.getElem?_eq_getElem hI⟩
  have hpx:=H4.out x (List.mem_of_getElem? hX)
  obtain ⟨q1,q2⟩:=FA.two' hX hp
  rw [hpx] at q1
  have hF1 : c.F.b < w2.heap.size:=FA.lt _ (by simp [SC.fl])
  have hF2 : c.F.b ≠ R:=by omega
  refine Rob.y (v:=?_) rfl rfl (fun w1 hx hH=>?_) ?_;rotate_left
  ·(obtain ⟨hcx,hfx⟩:=chgcell hx);go_simp;first | done | rfl
  simp only [Act.put,slA,slB,slC]
  refine Rob.y (v:=?_) rfl rfl (fun w1 hx hH=>?_) ?_;rotate_left
  ·go_simp;first | done | rfl | exact (Bool.not_not _).symm
  simp only [Act.put,slA,slB,slC]
  refine Rob.y (v:=?_) rfl rfl (fun w1 hx hH=>?_) ?_;rotate_left
  ·(obtain ⟨hcx,hfx⟩:=chgcell hx);go_simp;first | done | rfl
  simp only [Act.put,slA,slB,slC]
  refine Rob.pick (m:=4) rfl rfl rfl (by omega) (fun _ _ h hx=>h.trans hx) (fun w1 hx HK hH=>?_) (fun lo9 hi9 r9 hrl9 hru9 hlo9 hhi9=>?_)
  ·unfold RunTo;go_simp;exact (pick_k R _ _ HK).mono fun e w' h=>h.run
  simp only [Act.put,slA,slB,slC]
  obtain ⟨k,rfl⟩ : ∃ k : Nat,r9 = k:=⟨r9.toNat,by omega⟩
  have hkI : (k : Int) < 4:=hru9 (by omega)
  refine Rob.pick (m:=4) rfl rfl rfl (by omega) (fun _ _ h hx=>h.trans hx) (fun w1 hx HK hH=>?_) (fun lo11 hi11 r11 hrl11 hru11 hlo11 hhi11=>?_)
  ·unfold RunTo;go_simp;exact (pick_k R _ _ HK).mono fun e w' h=>h.run
  simp only [Act.put,slA,slB,slC]
  refine Rob.draw0 (K:=K + 10) (fun v=>∃ r,v = recA r) rfl rfl rfl (by omega) (fun _ _ h hx=>h.trans hx) (fun w1 hx HK hH=>?_) (fun lo13 hi13 v13 hv13 hlo13 hhi13=>?_)
  ·unfold RunTo;go_simp;exact (l71Rec_c R _ _ HK).mono fun e w' h=>h.run
  simp only [Act.put,slA,slB,slC]
  obtain ⟨rr,rfl⟩:=hv13
  refine Rob.y (v:=?_) rfl rfl (fun w1 hx hH=>?_) ?_;rotate_left
  ·go_simp;first | done | rfl | exact (Bool.not_not _).symm
  simp only [Act.put,slA,slB,slC]
  refine Rob.y (v:=?_) rfl rfl (fun w1 hx hH=>?_) ?_;rotate_left
  ·(obtain ⟨hcx,hfx⟩:=chgcell hx);go_simp;first | done | rfl
  simp only [Act.put,slA,slB,slC]
  refine fin_tailC (fun w3 hx3 HK3 _=>?_)
  simp only [dstOf,List.getElem?_cons_succ,List.getElem?_cons_zero,Option.bind_some,Act.put,slA,slB,slC,List.filterMap_cons,List.filterMap_nil]
  have FA3:=FlashAt.chg FA hx3 HRF.out
  have hpl : p.b ∈ c.fl:=List.mem_cons_of_mem _ (List.mem_map.2 ⟨p,List.mem_of_getElem? hp,rfl⟩)
  have hkl : k < x.pages.length:=by rw [hpx];omega
  have hth:=FA3.there hX hp hkl
  have hF:=FA3.page' HND.out hX hp hkl ⟨r11,rr⟩
  have hC:=setAll_chg (L:=c.fl) (o:=p.o + k * 5) (Chg.refl _ w3) hpl (pageC ⟨r11,rr⟩)
  have C3:=(C.trans hx3).then_new hC HFL.out
  have HK4:=HK3.chg hC (fun b hb=>by have:=HFL.out b hb;omega)
  have HF:=Lib.hid hF;have HC3:=Lib.hid C3;clear hF hC C3
  refine wpList_store_mid rfl 116 _ _ rfl p.b (p.o + k * 5) (pageC ⟨r11,rr⟩).toArray rfl rfl hth (by kernel_rfl) (by simp [Value.oneCell']) ?_
  refine wpList_nil ?_
  change Exit.inBlock _ _ _ _ (setAll w3 p.b (p.o + k * 5) (pageC ⟨r11,rr⟩))
  generalize setAll w3 p.b (p.o + k * 5) (pageC ⟨r11,rr⟩) = w4 at *
  go_wp2_with fail
  refine bodyPost_ret (v:=c.F.v 4) (by simp [results,Tryz.results107,go_sem]) rfl ⟨_,rfl,HC3.out,HK4.less (by omega),c,_,by rw [List.length_set,HF4.out],HF.out,HND.out,HFL.out,by rw [List.length_set,HF4.out];omega,fun b hb=>?_⟩
  rcases List.mem_or_eq_of_mem_set hb with hb | rfl
  ·rw [H4.out b hb];omega
  ·simp [hpx]
 ·refine (pick_k R 4 _ HK).mono ?_;rintro e3 w3 ⟨r3,rfl,a3,b3,hC,HK1⟩
  replace C:=C.trans hC
  replace HK:=HK1;clear HK1
  replace FA:=FlashAt.chg FA hC HRF.out
  obtain ⟨i,rfl⟩ : ∃ i : Nat,r3 = i:=⟨r3.toNat,by omega⟩
  have hiI : (i : Int) < 4:=b3 (by omega)
  have hI : i < f.length:=by have:=HF4.out;omega
  obtain ⟨p,hp⟩ : ∃ p,c.ps[i]? = some p:=⟨_,List.getElem?_eq_getElem (by rw [FA.len];exact hI)⟩
  have l3:=hC.size
  clear hC hr1
  go_wp2_with ((go_at_call 36;((with_reducible refine (pick_k R 3 _ (by ((repeat (first | (with_reducible apply Rk.set2;focus (dsimp only;omega)) | with_reducible apply Rk.alloc2));with_reducible exact HK))).mono ?_));rintro e1 w1 ⟨r,rfl,hr0,hr1,hC,HK1⟩;replace C:=C.then_sets hC (by ((repeat (first | with_reducible (refine Chg.set2 ?_ ?_);focus (exact Or.inr (by dsimp only;omega)) | with_reducible refine Chg.alloc2 ?_));with_reducible exact C));replace HK:=HK1;clear HK1;have G5:=hC.keep (b:=w3.heap.size) (hg_new (by simp)) (by simp;omega);(try clear g5 gf5);obtain ⟨g5,gf5⟩:=cellsK G5;have l5:=heap_lt G5;replace FA:=FlashAt.chg (by ((repeat (first | (with_reducible apply FlashAt.set2;focus (exact HNF.out _ (by dsimp only;omega))) | with_reducible apply FlashAt.alloc2));with_reducible exact FA)) hC HRF.out;clear hC);obtain ⟨q1,q2⟩:=FA.two hI hp;have q3:=FA.row.frozen;rcases (show r = 0 ∨ r = 1 ∨ r = 2 by have:=hr1 (by omega);omega) with rfl | rfl | rfl)
  all_goals
   refine bodyPost_ret (v:=c.F.v 4) (by simp [results,Tryz.results107,go_sem]) rfl ⟨_,rfl,(by ((repeat (first | with_reducible (refine Chg.set2 ?_ ?_);focus (exact Or.inr (by dsimp only;omega)) | with_reducible refine Chg.alloc2 ?_));with_reducible exact C)),Rk.less (by ((repeat (first | (with_reducible apply Rk.set2;focus (dsimp only;omega)) | with_reducible apply Rk.alloc2));with_reducible exact HK)) (by omega),c,f.set i ⟨f[i].pages,_⟩,by rw [List.length_set,HF4.out],FA.worn HND.out hI hp _,HND.out,HFL.out,by rw [List.length_set,HF4.out];omega,fun b hb=>?_⟩
   rcases List.mem_or_eq_of_mem_set hb with hb | rfl
   ·rw [H4.out b hb];omega
   ·exact Nat.le_of_eq (H4.out f[i] (List.getElem_mem _))
 ·refine bodyPost_ret (v:=c.tl.F.v 3) ?_ rfl ⟨_,rfl,C,HK.less (by omega),c.tl,f.tail,by rw [List.length_tail,HF4.out],FA.tail,HND.out.sublist c.tl_sub,fun b hb=>HFL.out b (c.tl_sub.subset hb),by rw [List.length_tail,HF4.out];omega,fun b hb=>by rw [H4.out b (List.mem_of_mem_tail hb)];omega⟩
  simp [results,Tryz.results107,go_sem,SC.tl]
 ·refine (pick_k R 4 _ HK).mono ?_;rintro e3 w3 ⟨r3,rfl,a3,b3,hC,HK1⟩
  replace C:=C.trans hC
  replace HK:=HK1;clear HK1
  replace FA:=FlashAt.chg FA hC HRF.out
  obtain ⟨i,rfl⟩ : ∃ i : Nat,r3 = i:=⟨r3.toNat,by omega⟩
  have hiI : (i : Int) < 4:=b3 (by omega)
  have hI : i < f.length:=by have:=HF4.out;omega
  obtain ⟨p,hp⟩ : ∃ p,c.ps[i]? = some p:=⟨_,List.getElem?_eq_getElem (by rw [FA.len];exact hI)⟩
  obtain ⟨x,hX⟩ : ∃ x,f[i]? = some x:=⟨_,List.getElem?_eq_getElem hI⟩
  have hpx:=H4.out x (List.mem_of_getElem? hX)
  obtain ⟨q1,q2⟩:=FA.two' hX hp
  rw [hpx] at q1
  have q3:=FA.row.frozen
  have l3:=hC.size
  clear hC hr1
  go_wp2_with fail
  have hcut:=FA.cut HND.out hX hp
  rw [hpx] at hcut
  refine bodyPost_ret (v:=c.F.v 4) (by simp [results,Tryz.results107,go_sem]) rfl ⟨_,rfl,(by ((repeat (first | with_reducible (refine Chg.set2 ?_ ?_);focus (exact Or.inr (by dsimp only;omega)) | with_reducible refine Chg.alloc2 ?_));with_reducible exact C)),Rk.less (by ((repeat (first | (with_reducible apply Rk.set2;focus (dsimp only;omega)) | with_reducible apply Rk.alloc2));with_reducible exact HK)) (by omega),c.cut i p,f.set i ⟨x.pages.tail,x.worn⟩,by rw [List.length_set,HF4.out];rfl,?_,by rw [SC.cut_fl hp];exact HND.out,by rw [SC.cut_fl hp];exact HFL.out,by rw [List.length_set,HF4.out];omega,fun b hb=>?_⟩
  ·exact hcut
  ·rcases List.mem_or_eq_of_mem_set hb with hb | rfl
   ·rw [H4.out b hb];omega
   ·simp [hpx]
 ·refine bodyPost_ret (v:=c.F.v 4) (by simp [results,Tryz.results107,go_sem]) rfl ⟨_,rfl,C,HK.less (by omega),c,f,by rw [HF4.out],FA,HND.out,HFL.out,by rw [HF4.out];omega,fun b hb=>by rw [H4.out b hb];omega⟩
end Go.Bu
namespace Go.Bu
open Go Go.RowKit Go.Plan Go.Proofs
def DrawnS (w : World) (v : Value) (w' : World) : Prop:=∃ (c : SC) (s : Store),v = .agg #[c.fv s,c.dv s] ∧ OwnS c w' s ∧ (∀ b ∈ c.L,w.heap.size ≤ b) ∧ s.flash.length ≤ 4 ∧ (∀ b ∈ s.flash,b.pages.length ≤ 4) ∧ s.disk.length ≤ 6
def SC.dt (c : SC) : SC:=⟨c.F,c.ps,⟨c.D.b,c.D.o + 1,c.D.cap,c.D.T⟩⟩
theorem OwnS.dt {c : SC} {w : World} {s : Store} (h : OwnS c w s) : OwnS c.dt w ⟨s.flash,s.disk.tail⟩:=⟨⟨h.flash.row,h.flash.len,h.flash.pages⟩,h.disk.tail,h.nd⟩
theorem OwnS.disk1 {c : SC} {w : World} {s : Store} (h : OwnS c w s) {i : Nat} (hi : i < s.disk.length) (z : Int) : OwnS c (w.setCell ⟨c.D.b,c.D.o + i,none⟩ (.int .i64 z)) ⟨s.flash,s.disk.set i z⟩:=by
 refine ⟨h.flash.keep fun b hb=>Below.heap_setCell _ _ _ _ (SC.D_ne h.nd b hb),?_,h.nd⟩
 have:=OwnAt.set1 (n:=1) (enc:=intC) (fun _=>rfl) h.disk hi (j:=0) (by omega) (.int .i64 z) z rfl
 simpa using this
theorem OwnS.reflash {c c' : SC} {w : World} {s : Store} {f : List Block} (h : OwnS c w s) (hf : FlashAt c' w f) (hnd : c'.fl.Nodup) (hb : ∀ b ∈ c'.fl,c.D.b < b) : OwnS ⟨c'.F,c'.ps,c.D⟩ w ⟨f,s.disk⟩:=by
 refine ⟨⟨hf.row,hf.len,hf.pages⟩,h.disk,?_⟩
 show (c'.fl ++ [c.D.b]).Nodup
 refine List.nodup_append.2 ⟨hnd,by simp,fun a ha b hb'=>?_⟩
 obtain rfl:=List.mem_singleton.1 hb'
 have:=hb a ha;omega
theorem OwnS.worn {c : SC} {w : World} {s : Store} (h : OwnS c w s) {i : Nat} {p : At} (hi : i < s.flash.length) (hp : c.ps[i]? = some p) (n : Int) : OwnS c (w.setCell ⟨c.F.b,c.F.o + i * 2 + 1,none⟩ (.int .i64 n)) ⟨s.flash.set i ⟨s.flash[i].pages,n⟩,s.disk⟩:=
 ⟨h.flash.worn (SC.fl_nd h.nd) hi hp n,h.disk.keep (Below.heap_setCell _ _ _ _ (SC.D_ne h.nd _ (by simp [SC.fl])).symm),h.nd⟩
theorem four_int (a b c d : Int) {k : Nat} (h : k < 4) : ∃ z : Int,(#[.int .i64 a,.int .i64 b,.int .i64 c,.int .i64 d] : Array Value)[k]? = some (.int .i64 z):=by
 rcases (show k = 0 ∨ k = 1 ∨ k = 2 ∨ k = 3 by omega) with rfl | rfl | rfl | rfl
 all_goals exact ⟨_,rfl⟩
set_option maxRecDepth 20000 in
set_option maxHeartbeats 4000000 in
theorem l71Store_c (R K : Nat) (w : World) (h : Rk w R (K + 420 + 1 + 1 + 57 * 7)) :
  Calls Tryz.prog 66 #[.pointer (some ⟨R,0,none⟩)] w (DrawV R K w (DrawnS w)):=by
 have hR:=h.lt
 have HK:=h;clear h
 have C:=Chg.refl [R] w
 go_enter Tryz.func66,Tryz.ntmps66
 go_wp2_with fail
 refine (l71Play_c R (K + 420 + 1) _ (by ((repeat (first | (with_reducible apply Rk.set2;focus (dsimp only;omega)) | with_reducible apply Rk.alloc2));with_reducible exact HK))).mono ?_;rintro e1 w1 ⟨v1,rfl,C1,HK1,c,s,ev,es,H0,rfl,OS,hP,hL,hH,hrow,hD,hel⟩
 obtain ⟨ea,ecap,rfl⟩:=hrow.form
 have hsh:=hP.shape
 have hsz:=C1.size
 have G2:=C1.keep (hg_new (b:=w.heap.size) rfl) (by simp;omega)
 simp only [World.alloc,Array.size_push] at hL hsz
 have HLB : Hid (∀ b ∈ c.L,w.heap.size < b ∧ b < w1.heap.size):=Lib.hid fun b hb=>⟨by have:=hL b hb;omega,OS.lt b hb⟩
 have HRL : Hid (∀ b ∈ c.L,b ∉ [R]):=Lib.hid fun b hb=>by have:=HLB.out b hb;simp;omega
 have HNB : Hid (∀ b,(b ≤ w.heap.size ∨ w1.heap.size ≤ b) → b ∉ c.L):=Lib.hid fun b hb hm=>by have:=HLB.out b hm;omega
 have hFb:=HLB.out _ (fl_L _ (show c.F.b ∈ c.fl by simp [SC.fl]))
 have hDb:=HLB.out c.D.b (by simp [SC.L])
 have HF4 : Hid (s.flash.length = 4):=Lib.hid hsh.flash
 have HD6 : Hid (s.disk.length = 6):=Lib.hid hP.disk
 have H4 : Hid (∀ b ∈ s.flash,b.pages.length = 4):=Lib.hid hsh.pages
 have hfv : c.fv s = c.F.v 4:=by unfold SC.fv;rw [hsh.flash]
 have hdv : c.dv s = c.D.v 6:=by unfold SC.dv;rw [hP.disk]
 rw [hfv,hdv]
 replace HK:=HK1
 replace C:=C.then_sets C1 (by ((repeat (first | with_reducible (refine Chg.set2 ?_ ?_);focus (exact Or.inr (by dsimp only;omega)) | with_reducible refine Chg.alloc2 ?_));with_reducible exact C))
 clear hsh hP hL hH hrow hD hel HK1 C1 hfv hdv
 have l2:=heap_lt G2
 go_wp2_with fail
 refine (pick_k R 30 _ (by ((repeat (first | (with_reducible apply Rk.set2;focus (dsimp only;omega)) | with_reducible apply Rk.alloc2));with_reducible exact HK))).mono ?_;rintro e2 w2 ⟨r,rfl,hr0,hr1,hC,HK1⟩
 replace C:=C.then_sets hC (by ((repeat (first | with_reducible (refine Chg.set2 ?_ ?_);focus (exact Or.inr (by dsimp only;omega)) | with_reducible refine Chg.alloc2 ?_));with_reducible exact C))
 replace HK:=HK1;clear HK1
 replace G2:=hC.keep (b:=w.heap.size) (by (repeat (first | with_reducible apply hg_here | (with_reducible apply hg_set;focus (dsimp only;omega)) | with_reducible apply hg_alloc));with_reducible exact G2) (by simp;omega)
 have G4:=hC.keep (hg_new (b:=w1.heap.size) rfl) (by simp;omega)
 replace OS:=OwnS.chg (by ((repeat (first | (with_reducible apply OwnS.set2;focus (exact HNB.out _ (by dsimp only;omega))) | with_reducible apply OwnS.alloc2));with_reducible exact OS)) hC HRL.out
 have l4:=heap_lt G4
 obtain ⟨g2,gf2⟩:=cellsK G2
 obtain ⟨g4,gf4⟩:=cellsK G4
 clear hC hr1
 have hn4 : w1.heap.size ≠ R:=by omega
 go_wp2_with fail
 ·skip
  refine wp_region_rdM HK [3,6] [0,1,2,5,3,6] [(4,.cells #[.int .i64 (-1),.int .i64 10,.int .i64 0,.int .i64 5] 3 (0,0),fun b=>.slice (some ⟨b,0,none⟩) 4 4)] [7,8] [9,10] (by kernel_rfl) (by kernel_rfl) ?late ?_
  case late =>
   intro f hf
   obtain rfl:=List.mem_singleton.1 hf
   refine ⟨_,rfl,fun a w=>?_⟩
   go_simp
  refine Rob.y (v:=?_) rfl rfl (fun w1 hx hH=>?_) ?_;rotate_left
  ·go_simp;first | done | rfl | exact (Bool.not_not _).symm
  simp only [Act.put,slA,slB,slC]
  refine Rob.y (v:=?_) rfl rfl (fun w1 hx hH=>?_) ?_;rotate_left
  ·(obtain ⟨hcx,hfx⟩:=chgcell hx);go_simp;first | done | rfl
  simp only [Act.put,slA,slB,slC]
  iterate 2
   refine Rob.y (v:=?_) rfl rfl (fun w1 hx hH=>?_) ?_;rotate_left
   ·go_simp;first | done | rfl | exact (Bool.not_not _).symm
   simp only [Act.put,slA,slB,slC]
  refine Rob.pick (m:=6) rfl rfl rfl (by omega) (fun _ _ h hx=>h.trans hx) (fun w1 hx HK hH=>?_) (fun lo3 hi3 r3 hrl3 hru3 hlo3 hhi3=>?_)
  ·unfold RunTo;go_simp;exact (pick_k R _ _ HK).mono fun e w' h=>h.run
  simp only [Act.put,slA,slB,slC]
  obtain ⟨i,rfl⟩ : ∃ i : Nat,r3 = i:=⟨r3.toNat,by omega⟩
  have hiI : (i : Int) < 6:=hru3 (by omega)
  refine Rob.pick (m:=4) rfl rfl rfl (by omega) (fun _ _ h hx=>h.trans hx) (fun w1 hx HK hH=>?_) (fun lo6 hi6 r6 hrl6 hru6 hlo6 hhi6=>?_)
  ·unfold RunTo;go_simp;exact (pick_k R _ _ HK).mono fun e w' h=>h.run
  simp only [Act.put,slA,slB,slC]
  obtain ⟨k,rfl⟩ : ∃ k : Nat,r6 = k:=⟨r6.toNat,by omega⟩
  have hkI : (k : Int) < 4:=hru6 (by omega)
  obtain ⟨z,hz⟩:=four_int (-1) 10 0 5 (show k < 4 by omega)
  have HZ:=Lib.hid hz
  clear hz
  refine fin_oneM (fun w3 lb hx3 HK3 _ hge hlt hob hout=>?_)
  simp only [dstOf,List.getElem?_cons_succ,List.getElem?_cons_zero,Option.bind_some,Act.put,slA,slB,slC,List.filterMap_cons,List.filterMap_nil]
  refine Mid.y (v:=?_) rfl rfl ?_ ?_;rotate_left
  ·go_simp;rfl
  simp only [dstOf,List.getElem?_cons_succ,List.getElem?_cons_zero,Option.bind_some,Act.put,slA,slB,slC,List.filterMap_cons,List.filterMap_nil]
  have k2 : w3.cell? ⟨lb,k,none⟩ = some (.int .i64 z):=by rw [cell_block hob];exact HZ.out
  refine Mid.y (v:=.int .i64 z) rfl rfl ?_ ?_
  ·go_simp
  simp only [dstOf,List.getElem?_cons_succ,List.getElem?_cons_zero,Option.bind_some,Act.put,slA,slB,slC,List.filterMap_cons,List.filterMap_nil]
  refine Mid.nil ?_
  simp only [dstOf,List.getElem?_cons_succ,List.getElem?_cons_zero,Option.bind_some,Act.put,slA,slB,slC,List.filterMap_cons,List.filterMap_nil]
  have hdl : i < s.disk.length:=by rw [HD6.out];omega
  have OS3:=OS.chg hx3 HRL.out
  have hdc : w3.cell? ⟨c.D.b,c.D.o + i,none⟩ = some (.int .i64 s.disk[i]):=by have:=OS3.disk.cell (List.getElem?_eq_getElem hdl) (j:=0) rfl;simpa using this
  have hdf:=OS3.disk.frozen
  have hne : R ≠ w1.heap.size:=by omega
  have C3:=C.trans hx3
  have G23:=hx3.keep G2 (by simp;omega)
  have G43:=hx3.keep G4 (by simp;omega)
  obtain ⟨g23,gf23⟩:=cellsK G23
  obtain ⟨g43,gf43⟩:=cellsK G43
  have l4':=heap_lt G43
  have HO3:=Lib.hid (OS3.disk1 hdl z)
  clear OS3
  go_wp2_with fail
  refine bodyPost_ret (v:=.agg #[c.F.v 4,c.D.v 6]) (by simp [results,Tryz.results66,go_sem,g23,gf23,g43,gf43]) rfl ⟨_,rfl,(by ((repeat (first | with_reducible (refine Chg.set2 ?_ ?_);focus (exact Or.inr (by dsimp only;omega)) | with_reducible refine Chg.alloc2 ?_));with_reducible exact C3)),Rk.less (by ((repeat (first | (with_reducible apply Rk.set2;focus (dsimp only;omega)) | with_reducible apply Rk.alloc2));with_reducible exact HK3)) (by omega),c,⟨s.flash,s.disk.set i z⟩,by simp only [SC.fv,SC.dv,List.length_set,HF4.out,HD6.out],?_,fun b hb=>by have:=HLB.out b hb;omega,by rw [HF4.out];omega,fun b hb=>by rw [H4.out b hb];omega,by rw [List.length_set,HD6.out];omega⟩
  have HO4:=HO3.out
  ((repeat (first | (with_reducible apply OwnS.set2;focus (exact HNB.out _ (by dsimp only;omega))) | with_reducible apply OwnS.alloc2));with_reducible exact HO4)
 ·have HO:=Lib.hid OS.dt
  refine bodyPost_ret (v:=.agg #[c.F.v 4,c.dt.D.v 5]) (by simp [results,Tryz.results66,go_sem,g2,gf2,g4,gf4,SC.dt]) rfl ⟨_,rfl,(by ((repeat (first | with_reducible (refine Chg.set2 ?_ ?_);focus (exact Or.inr (by dsimp only;omega)) | with_reducible refine Chg.alloc2 ?_));with_reducible exact C)),Rk.less (by ((repeat (first | (with_reducible apply Rk.set2;focus (dsimp only;omega)) | with_reducible apply Rk.alloc2));with_reducible exact HK)) (by omega),c.dt,⟨s.flash,s.disk.tail⟩,by simp only [SC.fv,SC.dv,SC.dt,List.length_tail,HF4.out,HD6.out],?_,fun b hb=>by have:=HLB.out b hb;omega,by rw [HF4.out];omega,fun b hb=>by rw [H4.out b hb];omega,by rw [List.length_tail,HD6.out];omega⟩
  have HNB : Hid (∀ b,(b ≤ w.heap.size ∨ w1.heap.size ≤ b) → b ∉ c.dt.L):=HNB
  have HO1:=HO.out
  ((repeat (first | (with_reducible apply OwnS.set2;focus (exact HNB.out _ (by dsimp only;omega))) | with_reducible apply OwnS.alloc2));with_reducible exact HO1)
 ·refine (l71Flash_c R K _ (HK.less (by omega))).mono ?_;rintro e3 w3 ⟨v3,rfl,hC,HK3,c',f',rfl,hF,hnd',hb',hl',hp'⟩
  have C3:=C.trans hC
  have OS3:=OS.chg hC HRL.out
  have HO:=Lib.hid (OS3.reflash hF hnd' (fun b hb=>by have:=hb' b hb;omega))
  have HNB : Hid (∀ b,(b ≤ w.heap.size ∨ b = w1.heap.size) → b ∉ (⟨c'.F,c'.ps,c.D⟩ : SC).L):=Lib.hid fun b hb hm=>by
   rcases List.mem_append.1 hm with hm | hm
   ·have:=hb' b hm;omega
   ·have hbD : b = c.D.b:=List.mem_singleton.1 hm;omega
  have HLB3 : Hid (∀ b ∈ (⟨c'.F,c'.ps,c.D⟩ : SC).L,w.heap.size ≤ b):=Lib.hid fun b hm=>by
   rcases List.mem_append.1 hm with hm | hm
   ·have:=hb' b hm;omega
   ·have hbD : b = c.D.b:=List.mem_singleton.1 hm;omega
  have HP3:=Lib.hid hp'
  replace G2:=hC.keep G2 (by simp;omega)
  replace G4:=hC.keep G4 (by simp;omega)
  have l4':=heap_lt G4
  clear g2 gf2 g4 gf4 hF hnd' hb' hC OS3 hp'
  obtain ⟨g2,gf2⟩:=cellsK G2
  obtain ⟨g4,gf4⟩:=cellsK G4
  go_wp2_with fail
  refine bodyPost_ret (v:=.agg #[c'.F.v f'.length,c.D.v 6]) (by simp [results,Tryz.results66,go_sem,g2,gf2,g4,gf4]) rfl ⟨_,rfl,(by ((repeat (first | with_reducible (refine Chg.set2 ?_ ?_);focus (exact Or.inr (by dsimp only;omega)) | with_reducible refine Chg.alloc2 ?_));with_reducible exact C3)),Rk.less (by ((repeat (first | (with_reducible apply Rk.set2;focus (dsimp only;omega)) | with_reducible apply Rk.alloc2));with_reducible exact HK3)) (by omega),⟨c'.F,c'.ps,c.D⟩,⟨f',s.disk⟩,by simp only [SC.fv,SC.dv,HD6.out],?_,HLB3.out,hl',HP3.out,by rw [HD6.out];omega⟩
  have HO1:=HO.out
  ((repeat (first | (with_reducible apply OwnS.set2;focus (exact HNB.out _ (by dsimp only;omega))) | with_reducible apply OwnS.alloc2));with_reducible exact HO1)
 ·go_wp2_with fail
  go_loopw [5] (fun y wr=>∃ (n : Nat) (s' : Store),y = .int .i64 n ∧ n ≤ 4 ∧ Chg [R] w wr ∧ OwnS c wr s' ∧ Hid (s'.flash.length = 4 ∧ s'.disk.length = 6 ∧ ∀ b ∈ s'.flash,b.pages.length = 4) ∧ Rk wr R K ∧
   wr.heap[w.heap.size]? = some (.cells #[.slice none 0 0,.slice none 0 0] 26 (0,0)) ∧ wr.heap[w1.heap.size]? = some (.cells #[c.F.v 4,c.D.v 6] 26 (0,0))) (fun y _=>4 - (intOf y).toNat)
  case atStart=>exact ⟨0,s,rfl,by omega,C,OS,Lib.hid ⟨HF4.out,HD6.out,H4.out⟩,HK.less (by omega),G2,G4⟩
  case round =>
   clear C OS G2 G4 HK g2 gf2 g4 gf4 l2 l4
   obtain ⟨n,s',rfl,hn,C,OS,HS,HK,G2,G4⟩:=hrel
   obtain ⟨g2,gf2⟩:=cellsK G2
   obtain ⟨g4,gf4⟩:=cellsK G4
   have l4:=heap_lt G4
   by_cases hlt : n < 4
   ·have hns : n < s'.flash.length:=by rw [HS.out.1];exact hlt
    have hnI : (n : Int) < 4:=by omega
    obtain ⟨p,hp⟩ : ∃ p,c.ps[n]? = some p:=⟨_,List.getElem?_eq_getElem (by rw [OS.flash.len];exact hns)⟩
    obtain ⟨q1,q2⟩:=OS.flash.two hns hp
    have q3:=OS.flash.row.frozen
    have OS2:=Lib.hid (OS.worn hns hp 200)
    clear OS
    go_wp2_with fail
    refine ⟨⟨n + 1,_,by go_num,by omega,(by ((repeat (first | with_reducible (refine Chg.set2 ?_ ?_);focus (exact Or.inr (by dsimp only;omega)) | with_reducible refine Chg.alloc2 ?_));with_reducible exact C)),OS2.out,Lib.hid ⟨by rw [List.length_set];exact HS.out.1,HS.out.2.1,fun b hb=>?_⟩,(by ((repeat (first | (with_reducible apply Rk.set2;focus (dsimp only;omega)) | with_reducible apply Rk.alloc2));with_reducible exact HK)),(by (repeat (first | with_reducible apply hg_here | (with_reducible apply hg_set;focus (dsimp only;omega)) | with_reducible apply hg_alloc));with_reducible exact G2),(by (repeat (first | with_reducible apply hg_here | (with_reducible apply hg_set;focus (dsimp only;omega)) | with_reducible apply hg_alloc));with_reducible exact G4)⟩,by simp [intOf];omega⟩
    rcases List.mem_or_eq_of_mem_set hb with hb | rfl
    ·exact HS.out.2.2 b hb
    ·exact HS.out.2.2 s'.flash[n] (List.getElem_mem _)
   ·obtain rfl : n = 4:=by omega
    go_wp2_with fail
    refine bodyPost_ret (v:=.agg #[c.F.v 4,c.D.v 6]) (by simp [results,Tryz.results66,go_sem,g2,gf2,g4,gf4]) rfl ⟨_,rfl,(by ((repeat (first | with_reducible (refine Chg.set2 ?_ ?_);focus (exact Or.inr (by dsimp only;omega)) | with_reducible refine Chg.alloc2 ?_));with_reducible exact C)),(by ((repeat (first | (with_reducible apply Rk.set2;focus (dsimp only;omega)) | with_reducible apply Rk.alloc2));with_reducible exact HK)),c,s',by simp only [SC.fv,SC.dv,HS.out.1,HS.out.2.1],?_,fun b hb=>by have:=HLB.out b hb;omega,by rw [HS.out.1];omega,fun b hb=>by rw [HS.out.2.2 b hb];omega,by rw [HS.out.2.1];omega⟩
    ((repeat (first | (with_reducible apply OwnS.set2;focus (exact HNB.out _ (by dsimp only;omega))) | with_reducible apply OwnS.alloc2));with_reducible exact OS)
 ·refine bodyPost_ret (v:=.agg #[c.F.v 4,c.D.v 6]) (by simp [results,Tryz.results66,go_sem,g2,gf2,g4,gf4]) rfl ⟨_,rfl,(by ((repeat (first | with_reducible (refine Chg.set2 ?_ ?_);focus (exact Or.inr (by dsimp only;omega)) | with_reducible refine Chg.alloc2 ?_));with_reducible exact C)),Rk.less (by ((repeat (first | (with_reducible apply Rk.set2;focus (dsimp only;omega)) | with_reducible apply Rk.alloc2));with_reducible exact HK)) (by omega),c,s,by simp only [SC.fv,SC.dv,HF4.out,HD6.out],?_,fun b hb=>by have:=HLB.out b hb;omega,by rw [HF4.out];omega,fun b hb=>by rw [H4.out b hb];omega,by rw [HD6.out];omega⟩
  ((repeat (first | (with_reducible apply OwnS.set2;focus (exact HNB.out _ (by dsimp only;omega))) | with_reducible apply OwnS.alloc2));with_reducible exact OS)
end Go.Bu
namespace Go.Plan
open Go Go.RowKit
abbrev Rnd (l : Nat) : Fence:=Fence.wide.inRound l
def noDefer (ops : Array Oper) : Bool:=ops.toList.all fun o=>match o.op with | .defer _=>false | _=>true
theorem rows_in {P : Program} {l n : Nat} {row : String} {args : Array Value} {w : World} {R : Value → World → Prop} (h : Rows P row args w R) : RowsIn (Rnd l) n P row args w R:=fun c cs _=>by
 obtain ⟨v,w',hR,hs⟩:=h c cs
 exact ⟨v,w',hR,stepsIn_wide.2 hs⟩
theorem calls_in {P : Program} {l n : Nat} {f : FuncId} {args : Array Value} {w : World} {R : Ending → World → Prop} (h : Calls P f args w R) : CallsIn (Rnd l) n P f args w R:=CallsIn.inRound l (callsIn_wide.2 h)
def QN (K : Act → World → Prop) : Exit → Act → World → Prop
 | .normal,a,w=>K a w
 | _,_,_=>False
theorem qn_mk {K : Act → World → Prop} {a : Act} {w : World} (h : K a w) : QN K .normal a w:=h
theorem qn_out {K : Act → World → Prop} : ¬ LetsOut (QN K):=fun ⟨_,_,h⟩=>h
theorem oper_in {P : Program} {l n : Nat} {o : Oper} {a : Act} {w : World} {K K' : Act → World → Prop} {K0 : Act → World → Prop} {Q : Exit → Act → World → Prop} (hd : ∀ c,o.op ≠ .defer c) (hK : ∀ a w,K a w → K' a w)
  (h : o.wp P a w K (QN K0)) : o.wpIn (Rnd l) n P a w K' Q:=by
 refine ⟨fun _ _=>trivial,?_⟩
 rw [Oper.semAt_eq _ _ _ hd]
 unfold Oper.wp at h
 generalize (execOp a.eval o).run P w = r at *
 cases r with
 | ok x w' =>
  cases x <;> simp only [Oper.upon,Oper.uponIn] at h ⊢
  case value v=>exact hK _ _ h
  case skip=>exact hK _ _ h
  case defer d=>exact hK _ _ h
  case enter f args=>exact ⟨fun h=>(by cases h),calls_in (Calls.mono h fun e w'' he=>(by cases e <;> first | exact hK _ _ he | exact he.elim | exact (qn_out he).elim))⟩
  case row row args=>exact ⟨fun h=>(by cases h),rows_in (Rows.mono h fun _ _ he=>hK _ _ he)⟩
 | halt x w'=>cases x <;> simp only [Oper.upon,Oper.uponIn] at h ⊢ <;> exact h.elim
theorem any_in {P : Program} {l n : Nat} {md : Region.Mode} {ops : Array Oper} {Q : Exit → Act → World → Prop} (hd : noDefer ops = true) :
  ∀ (fuel : Nat) (listed : Array Bool) (a : Act) (w : World),wpAny P md ops (QN (Q .normal)) fuel listed a w → wpAnyIn (Rnd l) n P md ops Q fuel listed a w:=by
 intro fuel
 induction fuel with
 | zero=>exact fun _ _ _ h=>h
 | succ fuel ih =>
  intro listed a w h
  refine ⟨h.1,fun i hi=>?_⟩
  have h1:=h.2 i hi
  unfold wpOp at h1
  unfold wpOpIn
  cases ho : ops[i]? with
  | none=>rw [ho] at h1;exact ih _ _ _ h1
  | some o =>
   simp only [ho] at h1 ⊢
   have hdo : ∀ c,o.op ≠ .defer c:=fun c e=>by
    have hm : o ∈ ops.toList:=by
     obtain ⟨hl,rfl⟩:=Array.getElem?_eq_some_iff.1 ho
     simp
    have:=List.all_eq_true.1 hd o hm
    rw [e] at this;cases this
   by_cases hw : Region.wanted o (yielded ops a.tmps) = true
   ·rw [if_pos hw] at h1 ⊢
    exact oper_in hdo (fun a w h=>ih _ _ _ h) (h1.resolve_right fun h=>qn_out h.2)
   ·rw [if_neg hw] at h1 ⊢
    exact ⟨fun _ _=>trivial,ih _ _ _ h1⟩
section
variable {P : Program} {l : List Oper} {Q : Exit → Act → World → Prop} {lp n : Nat}
theorem wpIn_region_planM (ch heads : List Nat) (lates : Lates) (mid tail : List Nat) {id : Nat} {a : Act} {w : World} (hm : P.follows .mixedOrders = true)
  (hok : okPlanM l ch heads (lates.map (·.1)) mid tail = true) (hdf : noDefer l.toArray = true)
  (hlate : ∀ f ∈ lates,∃ o,l[f.1]? = some o ∧ ∀ (a : Act) (w : World),(execOp a.eval o).run P w = .ok (.value (f.2.2 w.heap.size)) (w.alloc f.2.1))
  (S : World → Prop) (hS : S w.drew) (hst : ∀ w w',S w → Ext w w' → S w') (C : World → Prop) (hC : C w.drew) (hstC : ∀ w w',C w → Ext w w' → C w')
  (h : Rob P l ch w.heap.size (FinM P l (QN (Q .normal)) w.heap.size lates mid tail) heads S C [] w.heap.size a) : (Code.region id l.toArray true).wpIn (Rnd lp) n P Q a w:=by
 obtain ⟨st,hSl,hT,hTo,hD⟩:=Static.of hok
 refine wpIn_region_any hm (any_in hdf _ _ _ _ ?_)
 have hun : ∀ i,¬ On (Array.replicate l.toArray.size false) i:=fun i=>by
  unfold On;simp [Array.getD_eq_getD_getElem?,Array.getElem?_replicate];split <;> simp
 refine rob_sound st hSl hT hTo hD hlate _ _ a w.drew [] heads S C [] w.heap.size a (fun _=>0) ?_ ⟨rfl,h,by simp,fun i o _ hi=>absurd hi (hun i),fun i hi=>(by cases hi),fun i _=>hun i,fun i _=>hun i,hst,hS,hstC,hC,Nat.le_refl _,Nat.le_refl _,fun p hp=>(by cases hp),rfl,rfl,fun t _=>rfl,fun f _ hf=>absurd hf (hun _),fun f _ g _ hf=>absurd hf (hun _)⟩
 unfold unl
 exact Nat.le_trans (List.length_filter_le _ _) (by simp)
theorem wpIn_region_ext (ch heads : List Nat) (lates : Lates) (tail : List Nat) {id : Nat} {a : Act} {w : World} (hm : P.follows .mixedOrders = true)
  (hok : okPlan l ch heads (lates.map (·.1)) tail = true) (hdf : noDefer l.toArray = true)
  (hlate : ∀ f ∈ lates,∃ o,l[f.1]? = some o ∧ ∀ (a : Act) (w : World),(execOp a.eval o).run P w = .ok (.value (f.2.2 w.heap.size)) (w.alloc f.2.1))
  (h : Rob P l ch w.heap.size (Fin P l (QN (Q .normal)) w.heap.size lates tail) heads (Ext w) (fun _=>True) [] w.heap.size a) : (Code.region id l.toArray true).wpIn (Rnd lp) n P Q a w:=
 wpIn_region_planM ch heads lates [] tail hm hok hdf hlate (Ext w) (Below.refl _ _).drew (fun _ _ h1 h2=>ext_trans h1 h2) (fun _=>True) trivial (fun _ _ _ _=>trivial) h
end
end Go.Plan
namespace Go.Bu
open Go Go.RowKit Go.Plan Go.Proofs Go.Shelf
attribute [local go_sem] Oper.semAt_some
abbrev Spot:=Nat × Nat × Page
def page0 : Page:=⟨0,⟨0,0,0,0⟩⟩
def spB (i : Nat) (ps : List Page) (k : Nat) : List Spot:=(List.range k).map fun j=>(i,j,ps.getD j page0)
def spF (f : List Block) (i : Nat) : List Spot:=(List.range i).flatMap fun a=>spB a ((f[a]?).getD ⟨[],0⟩).pages ((f[a]?).getD ⟨[],0⟩).pages.length
theorem spB_succ (i : Nat) (ps : List Page) (k : Nat) (h : k < ps.length) : spB i ps (k + 1) = spB i ps k ++ [(i,k,ps[k])]:=by
 unfold spB;rw [List.range_succ,List.map_append];simp [List.getElem?_eq_getElem h]
theorem spF_succ (f : List Block) (i : Nat) (h : i < f.length) : spF f (i + 1) = spF f i ++ spB i f[i].pages f[i].pages.length:=by
 unfold spF;rw [List.range_succ,List.flatMap_append];simp [List.getElem?_eq_getElem h]
theorem spF_len_succ (f : List Block) (i : Nat) (h : i < f.length) : (spF f (i + 1)).length = (spF f i).length + f[i].pages.length:=by rw [spF_succ f i h,List.length_append];simp [spB]
theorem spF_le (f : List Block) {i j : Nat} (h : i ≤ j) (hj : j ≤ f.length) : (spF f i).length ≤ (spF f j).length:=by
 induction j with
 | zero=>obtain rfl : i = 0:=by omega
         exact Nat.le_refl _
 | succ j ih =>
  by_cases hij : i = j + 1
  ·subst hij;exact Nat.le_refl _
  ·have:=ih (by omega) (by omega)
   rw [spF_len_succ f j (by omega)];omega
def encS (x : Spot) : Array Value:=#[.agg #[.int .i64 x.1,.int .i64 x.2.1],pageA x.2.2]
theorem grownBy_ext {w w' : World} (h : Ext w w') : w.grownBy w' none:=⟨h.os,h.tape,h.output,h.size,fun k hk _=>h.block k hk⟩
theorem eachPage_c (a : Option Addr) (n cap : Nat) (w : World) : Calls Tryz.prog 90 #[.slice a n cap] w fun e w'=>e = .returned (.func (.func 125) #[] #[.pointer (some ⟨w.heap.size,0,none⟩)]) ∧ w' = w.alloc (.cells #[.slice a n cap] 23):=by
 go_enter Tryz.func90,Tryz.ntmps90
 go_wp2
 go_ret
 exact ⟨rfl,rfl⟩
def InF (f : List Block) (x : Spot) : Prop:=∃ b,f[x.1]? = some b ∧ b.pages[x.2.1]? = some x.2.2
abbrev SpotIn (f : List Block):={ x : Spot // InF f x }
def KpD (D : Nat → Prop) (W W' : World) : Prop:=W.heap.size ≤ W'.heap.size ∧ Same D W W'
theorem KpD.trans {D : Nat → Prop} {a b c : World} (h : KpD D a b) (k : KpD D b c) : KpD D a c:=⟨Nat.le_trans h.1 k.1,fun i hi=>(k.2 i hi).trans (h.2 i hi)⟩
theorem KpD.of_below {D : Nat → Prop} {n : Nat} {a b : World} (h : Below n a b) (hD : ∀ i,D i → i < n) : KpD D a b:=⟨h.size,fun i hi=>h.block i (hD i hi)⟩
theorem KpD.of_chg {D : Nat → Prop} {L : List Nat} {a b : World} (h : Chg L a b) (hD : ∀ i,D i → i < a.heap.size ∧ i ∉ L) : KpD D a b:=⟨h.size,fun i hi=>h.block i (hD i hi).1 (hD i hi).2⟩
theorem KpD.put {D : Nat → Prop} {w : World} (hD : ∀ i,D i → i < w.heap.size) (W : World) (l : Nat) (o o' : Obj) (hl : w.heap.size ≤ l) : KpD D W (W.putObj l o'):=
 ⟨by simp,fun i hi=>World.putObj_heap_other (fun e=>by have:=hD i hi;omega)⟩
set_option maxRecDepth 20000 in
set_option maxHeartbeats 2000000 in
theorem each_stops (n : Nat) (hn : 1 ≤ n) (D : Nat → Prop) (B : Nat) (v : Value) (f : List Block) (w : World) (hB : w.cell? ⟨B,0,none⟩ = some v) (hDB : D B) (hD : ∀ i,D i → i < w.heap.size) (hf : Flash D w v f) (hl : f.length ≤ 1048576) (hp : ∀ b ∈ f,b.pages.length ≤ 1048576) :
  SeqStopsK Fence.wide n Tryz.prog 125 #[.pointer (some ⟨B,0,none⟩)] (fun x : SpotIn f=>encS x.1) (KpD D) (fun xs=>xs.map (·.1) = spF f f.length) (fun _=>True) (spF f f.length).length w:=by
 intro l J Jx W hW hJ hJx hY h0
 have HP:=Lib.hid hp
 have HY:=Lib.hid hY
 have HJ:=Lib.hid hJ
 have h00 : ∃ pre : List (SpotIn f),pre.map (·.1) = spF f 0 ∧ J pre W:=⟨[],rfl,h0⟩
 have H0:=Lib.hid h00
 clear hp hY hJ hJx h0 h00
 have hX0:=KpD.of_below hW hD
 have hBW : W.cell? ⟨B,0,none⟩ = some v:=by rw [cell_same hX0.2 hDB];exact hB
 have HX0:=Lib.hid hX0
 clear hX0 hW
 obtain ⟨a,cap,rfl⟩:=hf.form
 refine callsIn_of_wp Tryz.func125 rfl trivial ?_ rfl
 simp only [Tryz.ntmps125,List.size_toArray,List.length_cons,List.length_nil,Nat.reduceAdd,Nat.reduceSub,Array.replicate_succ,Array.replicate_zero,List.push_toArray,List.append_toArray,List.nil_append,List.cons_append]
 gi_wp2
 gi_loopw [9] (fun y wr=>∃ i : Nat,i ≤ f.length ∧ y = .int .i64 i ∧ Hid (∃ pre : List (SpotIn f),pre.map (·.1) = spF f i ∧ J pre wr) ∧ Hid (KpD D w wr)) (fun y _=>f.length - (intOf y).toNat)
 case atStart=>exact ⟨0,by omega,rfl,H0,HX0⟩
 case round =>
  clear H0 HX0 hBW
  obtain ⟨i,hi,rfl,HJi,HX⟩:=hrel
  by_cases hlt : i < f.length
  ·obtain ⟨b,o,pv,rfl,hb,hpp,e0,e1⟩:=Flash.at2 (Sl.same blockE_kept hf HX.out.2 (fun _ h=>h)) hlt
   obtain ⟨pa,pcap,rfl⟩:=hpp.form
   have hpl:=HP.out f[i] (List.getElem_mem _)
   have hJB : ∃ pre : List (SpotIn f),pre.map (·.1) = spF f i ++ spB i f[i].pages 0 ∧ J pre (wr.alloc (.cells #[.slice pa f[i].pages.length pcap,.int .i64 f[i].worn] 114)):=by
    obtain ⟨pre,h1,h2⟩:=HJi.out
    exact ⟨pre,by rw [show spB i f[i].pages 0 = [] from rfl,List.append_nil];exact h1,HJ.out _ _ _ none h2 (World.grownBy_alloc _ _ none) (fun r e=>by cases e)⟩
   have HJB:=Lib.hid hJB
   have hX2 : KpD D w (wr.alloc (.cells #[.slice pa f[i].pages.length pcap,.int .i64 f[i].worn] 114)):=HX.out.trans ⟨by simp,fun j hj=>alloc_get_old (Nat.lt_of_lt_of_le (hD j hj) HX.out.1)⟩
   have HX2:=Lib.hid hX2
   have HPP:=Lib.hid (Sl.same (plain_kept _) hpp (D':=D) (w':=wr) (fun _ _=>rfl) (fun _ h=>h))
   have HS:=Lib.hid HX.out.2
   clear hJB HJi HX hX2 hpp
   gi_wp2
   gi_loopw [17] (fun y wr2=>∃ k : Nat,k ≤ f[i].pages.length ∧ y = .int .i64 k ∧ Hid (∃ pre : List (SpotIn f),pre.map (·.1) = spF f i ++ spB i f[i].pages k ∧ J pre wr2) ∧ Hid (KpD D w wr2)) (fun y _=>f[i].pages.length - (intOf y).toNat)
   case atStart=>exact ⟨0,by omega,rfl,HJB,HX2⟩
   case round =>
    clear HJB HX2 e0 e1
    obtain ⟨k,hk,rfl,HJk,HX⟩:=hrel
    by_cases hkl : k < f[i].pages.length
    ·obtain ⟨b2,o2,rfl,hb2,q0,q1,q2,q3,q4⟩:=Pages.at5 (Sl.same (plain_kept _) HPP.out (D':=D) (w':=wr) (fun j hj=>(HX.out.2 j hj).trans (HS.out j hj).symm) (fun _ h=>h)) hkl
     have hlen : (spF f i ++ spB i f[i].pages k).length < (spF f f.length).length:=by
      have h1:=spF_len_succ f i hlt
      have h2:=spF_le f (i:=i + 1) (j:=f.length) (by omega) (Nat.le_refl _)
      rw [List.length_append];simp only [spB,List.length_map,List.length_range];omega
     obtain ⟨pre,hpre,hJp⟩:=HJk.out
     have hJP : J pre (wr.alloc (.cells (pageC f[i].pages[k]).toArray 116)):=HJ.out _ _ _ none hJp (World.grownBy_alloc _ _ none) (fun r e=>by cases e)
     obtain ⟨fn,tmps,assign,body,hy,hR⟩:=HY.out pre ⟨(i,k,f[i].pages[k]),⟨f[i],List.getElem?_eq_getElem hlt,List.getElem?_eq_getElem hkl⟩⟩ _ hJP (by rw [← List.length_map (·.1),hpre];exact hlen)
     have HR:=Lib.hid hR
     have HPRE : Hid ((pre ++ [⟨(i,k,f[i].pages[k]),⟨f[i],List.getElem?_eq_getElem hlt,List.getElem?_eq_getElem hkl⟩⟩] : List (SpotIn f)).map (·.1) = spF f i ++ spB i f[i].pages (k + 1)):=Lib.hid (by rw [List.map_append,hpre,spB_succ i _ k hkl];simp)
     have hXP : KpD D w (wr.alloc (.cells (pageC f[i].pages[k]).toArray 116)):=HX.out.trans ⟨by simp,fun j hj=>alloc_get_old (Nat.lt_of_lt_of_le (hD j hj) HX.out.1)⟩
     have HXP:=Lib.hid hXP
     clear hR hlen hJP hJp HJk hpre hXP HX
     dsimp only [encS] at hy
     gi_wp2
     refine HR.out.mono ?_
     rintro e W3 (⟨rfl,hJ3,hk3⟩ | ⟨rfl,hJx3⟩)
     ·have HX3:=Lib.hid (HXP.out.trans hk3)
      have HJ3 : Hid (∃ pre : List (SpotIn f),pre.map (·.1) = spF f i ++ spB i f[i].pages (k + 1) ∧ J pre W3):=Lib.hid ⟨_,HPRE.out,hJ3⟩
      clear HR hy HXP hJ3 hk3 HPRE
      gi_wp2
      exact ⟨⟨k + 1,by omega,by go_num,HJ3,HX3⟩,by simp [intOf];omega⟩
     ·clear HR hy HXP HPRE
      gi_wp2
      refine bodyPost_ret (results_none rfl _ _ _) rfl ?_
      exact ⟨⟨_,rfl⟩,.inr ⟨_,trivial,hJx3⟩⟩
    ·obtain rfl : k = f[i].pages.length:=by omega
     rw [← spF_succ f i hlt] at HJk
     gi_wp2
     exact ⟨⟨i + 1,by omega,by go_num,HJk,HX⟩,by simp [intOf];omega⟩
  ·obtain rfl : i = f.length:=by omega
   obtain ⟨pre,h1,h2⟩:=HJi.out
   gi_wp2
   go_end0
   exact ⟨⟨_,rfl⟩,.inl ⟨pre,h1,h2⟩⟩
end Go.Bu
namespace Go.Bu
open Go Go.RowKit Go.Plan Go.Proofs
set_option maxHeartbeats 400000 in
theorem freePages_c (pv : Value) (ps : List Page) (worn : Int) (w : World) (h : Pages (Old w) w pv ps) (hn : ps.length ≤ 1048576) :
  Calls Tryz.prog 121 #[.agg #[pv,.int .i64 worn]] w (Ret w (.int .i64 (cleanN ps))):=by
 obtain ⟨a,cap,rfl⟩:=h.form
 obtain ⟨A,hA⟩ : ∃ A,cleanN ps = A:=⟨_,rfl⟩
 rw [hA]
 unfold cleanN at hA
 have HA:=Lib.hid hA;clear hA
 go_enter Tryz.func121,Tryz.ntmps121
 have X0:=ext_refl w
 go_wp2
 go_loopw [3,9] (fun n y wr=>∃ (k : Nat) (m : Int),k ≤ ps.length ∧ y = .int .i64 k ∧ n = .int .i64 m ∧ 0 ≤ m ∧ m ≤ k ∧ Ext w wr ∧ Hid ((ps.drop k).foldl cleanStep m = A)) (fun _ y _=>ps.length - (intOf y).toNat)
 case atStart=>exact ⟨0,0,by omega,rfl,rfl,by omega,by omega,(by ((repeat (first | with_reducible (refine ext_set2 ?_ ?_);focus (first | exact Nat.le_refl _ | (dsimp only;omega) | (simp;omega)) | with_reducible refine ext_alloc2 ?_));with_reducible exact X0)),HA⟩
 case round =>
  obtain ⟨k,m,hk,rfl,rfl,hm0,hm1,hx,HR⟩:=hrel
  by_cases hlt : k < ps.length
  ·obtain ⟨b,o,rfl,hb,e0,e1,e2,e3,e4⟩:=(h.ext hx).at5 hlt
   rw [foldl_drop _ _ _ _ hlt] at HR
   go_wp2
   all_goals
    try simp only [beq_iff_eq,Bool.not_eq_true,beq_eq_false_iff_ne,ne_eq,bne_iff_ne,bne_eq_false_iff_eq,decide_eq_true_eq,decide_eq_false_iff_not] at *
    refine ⟨⟨k + 1,cleanStep m ps[k],by omega,by go_num,?_,?_,?_,(by ((repeat (first | with_reducible (refine ext_set2 ?_ ?_);focus (first | exact Nat.le_refl _ | (dsimp only;omega) | (simp;omega)) | with_reducible refine ext_alloc2 ?_));with_reducible exact hx)),HR⟩,by simp [intOf];omega⟩
    ·first | rw [cleanStep,if_pos (by assumption)] | rw [cleanStep,if_neg (by assumption)]
    ·unfold cleanStep;split <;> omega
    ·unfold cleanStep;split <;> omega
  ·obtain rfl : k = ps.length:=by omega
   rw [foldl_end] at HR
   have hr:=HR.out
   subst hr
   go_wp2
   go_ret
   exact ⟨rfl,(by ((repeat (first | with_reducible (refine ext_set2 ?_ ?_);focus (first | exact Nat.le_refl _ | (dsimp only;omega) | (simp;omega)) | with_reducible refine ext_alloc2 ?_));with_reducible exact hx))⟩
def partB (ps : List Page) : Bool:=decide (0 < cleanN ps) && decide (cleanN ps < 4)
theorem partlyUsed_c (pv : Value) (ps : List Page) (worn : Int) (w : World) (h : Pages (Old w) w pv ps) (hn : ps.length ≤ 1048576) :
  Calls Tryz.prog 119 #[.agg #[pv,.int .i64 worn]] w (Ret w (.bool (partB ps))):=by
 obtain ⟨a,cap,rfl⟩:=h.form
 obtain ⟨A,hA⟩ : ∃ A,cleanN ps = A:=⟨_,rfl⟩
 have hp : partB ps = (decide (0 < A) && decide (A < 4)):=by unfold partB;rw [hA]
 rw [hp]
 have HC : ∀ w',Ext w w' → Calls Tryz.prog 121 #[.agg #[.slice a ps.length cap,.int .i64 worn]] w' (Ret w' (.int .i64 A)):=fun w' hx=>hA ▸ freePages_c _ ps worn w' (h.ext hx) hn
 clear hp hA
 go_enter Tryz.func119,Tryz.ntmps119
 go_wp2_with fail
 refine (HC _ (ext_alloc (ext_refl _) _)).mono ?_;rintro e1 w1 ⟨rfl,hx1⟩
 have X1 : Ext w w1:=ext_trans (ext_alloc (ext_refl _) _) hx1
 go_wp2
 all_goals
  try simp only [beq_iff_eq,Bool.not_eq_true,beq_eq_false_iff_ne,ne_eq,bne_iff_ne,bne_eq_false_iff_eq,decide_eq_true_eq,decide_eq_false_iff_not] at *
  go_ret
  exact ⟨by simp [*];try omega,X1⟩
def freeScan : Bool → List Page → Bool
 | _,[]=>true
 | fr,p :: ps=>if fr && p.state != 0 then false else freeScan (p.state == 0) ps
def shapeB (ps : List Page) (worn : Int) : Bool:=ps.length == 4 && inB worn 0 200 && freeScan false ps
theorem freeScan_drop (fr : Bool) (ps : List Page) (k : Nat) (h : k < ps.length) : freeScan fr (ps.drop k) = if fr && ps[k].state != 0 then false else freeScan (ps[k].state == 0) (ps.drop (k + 1)):=by
 rw [List.drop_eq_getElem_cons h,freeScan]
set_option maxHeartbeats 400000 in
theorem blockShape_c (pv : Value) (ps : List Page) (worn : Int) (w : World) (h : Pages (Old w) w pv ps) (hn : ps.length ≤ 1048576) :
  Calls Tryz.prog 141 #[.agg #[pv,.int .i64 worn]] w (Ret w (.bool (shapeB ps worn))):=by
 obtain ⟨a,cap,rfl⟩:=h.form
 obtain ⟨A,hA⟩ : ∃ A,freeScan false ps = A:=⟨_,rfl⟩
 have X0:=ext_refl w
 by_cases h4 : ps.length = 4
 ·by_cases hw : 0 ≤ worn ∧ worn ≤ 200
  ·have hs : shapeB ps worn = A:=by unfold shapeB;rw [hA,h4,inB_iff.2 hw];rfl
   rw [hs]
   have HA : Hid (freeScan false (ps.drop 0) = A):=Lib.hid (by rw [List.drop_zero];exact hA)
   clear hs hA
   obtain ⟨hw0,hw1⟩:=hw
   go_enter Tryz.func141,Tryz.ntmps141
   go_wp2
   go_loopw [3,23] (fun n y wr=>∃ (k : Nat) (fr : Bool),k ≤ 4 ∧ y = .int .i64 k ∧ n = .bool fr ∧ Ext w wr ∧ Hid (freeScan fr (ps.drop k) = A)) (fun _ y _=>4 - (intOf y).toNat)
   case atStart=>exact ⟨0,false,by omega,rfl,rfl,(by ((repeat (first | with_reducible (refine ext_set2 ?_ ?_);focus (first | exact Nat.le_refl _ | (dsimp only;omega) | (simp;omega)) | with_reducible refine ext_alloc2 ?_));with_reducible exact X0)),HA⟩
   case round =>
    obtain ⟨k,fr,hk,rfl,rfl,hx,HR⟩:=hrel
    by_cases hlt : k < 4
    ·have hkl : k < ps.length:=by omega
     obtain ⟨b,o,rfl,hb,e0,e1,e2,e3,e4⟩:=(h.ext hx).at5 hkl
     rw [freeScan_drop _ _ _ hkl] at HR
     cases fr
     ·go_wp2
      refine ⟨⟨k + 1,ps[k].state == 0,by omega,by go_num,rfl,(by ((repeat (first | with_reducible (refine ext_set2 ?_ ?_);focus (first | exact Nat.le_refl _ | (dsimp only;omega) | (simp;omega)) | with_reducible refine ext_alloc2 ?_));with_reducible exact hx)),Lib.hid ?_⟩,by simp [intOf];omega⟩
      have hr:=HR.out
      simpa using hr
     ·go_wp2
      ·rename_i hst
       have hr:=HR.out
       rw [hst] at hr
       replace hr : false = A:=hr
       subst hr
       go_ret
       exact ⟨rfl,(by ((repeat (first | with_reducible (refine ext_set2 ?_ ?_);focus (first | exact Nat.le_refl _ | (dsimp only;omega) | (simp;omega)) | with_reducible refine ext_alloc2 ?_));with_reducible exact hx))⟩
      ·rename_i hst
       refine ⟨⟨k + 1,ps[k].state == 0,by omega,by go_num,rfl,(by ((repeat (first | with_reducible (refine ext_set2 ?_ ?_);focus (first | exact Nat.le_refl _ | (dsimp only;omega) | (simp;omega)) | with_reducible refine ext_alloc2 ?_));with_reducible exact hx)),Lib.hid ?_⟩,by simp [intOf];omega⟩
       have hr:=HR.out
       rw [hst] at hr
       simpa using hr
    ·obtain rfl : k = 4:=by omega
     have hr:=HR.out
     rw [← h4,List.drop_length] at hr
     subst hr
     go_wp2
     go_ret
     exact ⟨rfl,(by ((repeat (first | with_reducible (refine ext_set2 ?_ ?_);focus (first | exact Nat.le_refl _ | (dsimp only;omega) | (simp;omega)) | with_reducible refine ext_alloc2 ?_));with_reducible exact hx))⟩
  ·have hs : shapeB ps worn = false:=by unfold shapeB;rw [show inB worn 0 200 = false from inB_no.2 (by omega)];simp
   rw [hs]
   clear hA hs
   go_enter Tryz.func141,Tryz.ntmps141
   go_wp2
   all_goals
    try simp only [beq_iff_eq,Bool.not_eq_true,beq_eq_false_iff_ne,ne_eq,bne_iff_ne,bne_eq_false_iff_eq,decide_eq_true_eq,decide_eq_false_iff_not] at *
    first
    | (exfalso;omega)
    | (go_ret;exact ⟨rfl,(by ((repeat (first | with_reducible (refine ext_set2 ?_ ?_);focus (first | exact Nat.le_refl _ | (dsimp only;omega) | (simp;omega)) | with_reducible refine ext_alloc2 ?_));with_reducible exact X0))⟩)
 ·have hs : shapeB ps worn = false:=by unfold shapeB;simp [h4]
  rw [hs]
  clear hA hs
  go_enter Tryz.func141,Tryz.ntmps141
  go_wp2
  all_goals
   try simp only [beq_iff_eq,Bool.not_eq_true,beq_eq_false_iff_ne,ne_eq,bne_iff_ne,bne_eq_false_iff_eq,decide_eq_true_eq,decide_eq_false_iff_not] at *
   first
   | (exfalso;omega)
   | (go_ret;exact ⟨rfl,(by ((repeat (first | with_reducible (refine ext_set2 ?_ ?_);focus (first | exact Nat.le_refl _ | (dsimp only;omega) | (simp;omega)) | with_reducible refine ext_alloc2 ?_));with_reducible exact X0))⟩)
end Go.Bu
namespace Go.Bu
open Go Go.RowKit Go.Plan Go.Proofs
abbrev RV (v : Value) : Option (DataW Value × List MemPlace):=some (.held v,[])
def MapOf (P : Program) (k : TypeId) (w : World) (b n : Nat) (g : Int → Option Value) : Prop:=
 ∃ D : DataW Value,w.ownsMap P k RV b n D ∧ ∀ x : Int,(Lit.int .i64 x).wf = true → ∀ z,D.atKey (.int .i64 x) z = match g x with | some v=>.held v | none=>z
section
variable {P : Program} {k e t : TypeId} {w : World} {b n : Nat} {g : Int → Option Value}
theorem MapOf.lookup (h : MapOf P k w b n g) (hk : P.underlying k = some (.int .i64)) (ht : P.underlying t = some (.map k e)) {z : Value} (hz : (zeroValue e).run P w = .ok z w) {x : Int} (hx : (Lit.int .i64 x).wf = true) (c : Bool) :
  (Instr.lookup t (.map (some b)) (.int .i64 x) c).run P w = .ok (if c then .tuple #[(g x).getD z,.bool (g x).isSome] else (g x).getD z) w:=by
 obtain ⟨D,⟨es,clock,hb,F,hs,rfl⟩,hg⟩:=h
 have h1:=hg x hx .nil
 rcases Maps.fit_look c (Maps.int_keyed hk) ht hz hb F (Maps.keyOf_int_mk hk hx) with ⟨hrun,_,hat⟩ | ⟨e0,y,_,_,hrun,hR,hat,_⟩
 ·rw [hat] at h1
  cases hgx : g x with
  | none=>rw [hrun];rfl
  | some v=>rw [hgx] at h1;cases h1
 ·rw [hat] at h1
  obtain rfl:=Option.some.inj hR
  cases hgx : g x with
  | none=>rw [hgx] at h1;cases h1
  | some v =>
   rw [hgx] at h1
   injection h1 with h1
   subst h1
   rw [hrun];rfl
theorem MapOf.update (h : MapOf P k w b n g) (hk : P.underlying k = some (.int .i64)) (ht : P.underlying t = some (.map k e)) (hn : n < maxLen) {x : Int} (hx : (Lit.int .i64 x).wf = true) (v : Value) :
  ∃ w',(Instr.mapUpdate t (.map (some b)) (.int .i64 x) v).run P w = .ok () w' ∧ MapOf P k w' b (n + 1) (fun y=>if y = x then some v else g y) ∧ w.grownBy w' (some b):=by
 obtain ⟨D,hD,hg⟩:=h
 have hkey:=Maps.keyOf_int_mk (P:=P) hk hx
 obtain ⟨w',h1,h2,h3⟩:=hD.update (Maps.int_keyed hk) ht hn (val:=v) (d:=.held v) (ps:=[]) hkey rfl
 refine ⟨w',h1,⟨_,h2,fun y hy z=>?_⟩,h3⟩
 dsimp only
 by_cases hyx : y = x
 ·subst hyx
  rw [if_pos rfl]
  obtain ⟨es,clock,_,_,_,hd⟩:=hD
  exact Maps.atKey_put_same ⟨_,hd⟩ ((Maps.int_keyed hk).key hkey) _ _
 ·rw [if_neg hyx,Maps.atKey_put_other (by simp;exact hyx)]
  exact hg y hy z
theorem MapOf.kept {w' : World} {row : Option Nat} (h : MapOf P k w b n g) (hg : w.grownBy w' row) (hne : some b ≠ row) : MapOf P k w' b n g:=by
 obtain ⟨D,hD,h1⟩:=h
 exact ⟨D,hD.kept hg hne,h1⟩
theorem MapOf.alloc2 {o : Obj} (h : MapOf P k w b n g) : MapOf P k (w.alloc o) b n g:=h.kept (World.grownBy_alloc w o none) (by simp)
theorem MapOf.lt (h : MapOf P k w b n g) : b < w.heap.size:=by obtain ⟨D,⟨es,clock,hb,_⟩,_⟩:=h;exact heap_lt hb
theorem MapOf.chg {L : List Nat} {w' : World} (h : MapOf P k w b n g) (hx : Chg L w w') (hb : b ∉ L) : MapOf P k w' b n g:=by
 obtain ⟨D,⟨es,clock,hb',F,hs,hd⟩,h1⟩:=h
 exact ⟨D,⟨es,clock,by rw [hx.block b (heap_lt hb') hb];exact hb',F,hs,hd⟩,h1⟩
theorem MapOf.ext {w' : World} (h : MapOf P k w b n g) (hx : Ext w w') : MapOf P k w' b n g:=h.chg (L:=[]) (Chg.of_ext hx) (by simp)
theorem MapOf.made (P : Program) (k : TypeId) (w : World) : MapOf P k (w.alloc (.map #[] 0)) w.heap.size 0 (fun _=>none):=
 ⟨_,World.ownsMap_made w P k RV,fun x _ z=>rfl⟩
theorem wpList_mapUpd {ops : Array Oper} {rest : List Oper} {o : Oper} {a : Act} {Q : Exit → Act → World → Prop} (hg : o.guard = none) (m x v : Operand) (hop : o.op = Op.mapUpdate t m x v)
  (hk : P.underlying k = some (.int .i64)) (ht : P.underlying t = some (.map k e)) (hm : a.eval m = .map (some b)) (h : MapOf P k w b n g) (hn : n < maxLen) {y : Int} (hx : a.eval x = .int .i64 y) (hy : (Lit.int .i64 y).wf = true) {val : Value} (hv : a.eval v = val)
  (hK : ∀ w',MapOf P k w' b (n + 1) (fun z=>if z = y then some val else g z) → w.grownBy w' (some b) → wpList P ops Q rest (a.put o.dst undef) w') : wpList P ops Q (o :: rest) a w:=by
 refine wpList_plain hg fun K' hK'=>?_
 obtain ⟨w',hrun,r1,r2⟩:=h.update hk ht hn hy val
 unfold Oper.wp
 simp [execOp,hop,hm,hx,hv,hrun,Result.andThen]
 exact hK' _ _ (hK w' r1 r2)
end
theorem i64_wf {x : Int} (h0 : -9223372036854775808 ≤ x) (h1 : x ≤ 9223372036854775807) : (Lit.int .i64 x).wf = true:=by
 have h2 : IntKind.i64.min = -9223372036854775808:=by decide
 simp [Lit.wf,h2];omega
def metG (L : List Int) (x : Int) : Option Value:=if L.contains x then some (.int .i64 1) else none
theorem metG_cons (L : List Int) (x : Int) : (fun z=>if z = x then some (.int .i64 1) else metG L z) = metG (x :: L):=by
 funext z
 unfold metG
 by_cases h : z = x
 ·subst h;simp
 ·simp [h]
end Go.Bu