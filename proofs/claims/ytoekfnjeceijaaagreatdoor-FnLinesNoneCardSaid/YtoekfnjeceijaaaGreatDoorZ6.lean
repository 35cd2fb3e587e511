/- By which steps the program writes a record: stepsWrite, StepsPut, StepsFlush, StepsFill. The laws' marks: what they write into a result, and that it is held. The program's copies: pagesCopy, flashCopy, storeCopy. The reference's copies of blocks, stores, pairs, in memory of their own. A value put in both stores of a pair, as the reference does it in place: l23Put. The laws' marks of disks, stores and pairs. Both stores of a pair while they are changed (the program's twins); PairLose. PairMend and PairBack of the reference. The program's FlashWipe and FlashWrite: each leaves a flash of its own. The program's actions: what each closure does to a store, and the queue that holds them. What each of the program's closures does to a store. The program's queue of actions. The program's StepsTo: a store behind so many steps, in new memory. The program's StoreRead and copyValues. The program's StepsFlush, StepsFill and PlaySteps. -/import Derived.Test.YtoekfnjeceijaaaGreatDoorZ5
import Derived.Test.YtoekfnjeceijaaaGreatDoorZ2
import Derived.Test.YtoekfnjeceijaaaGreatDoorZ4
import Derived.Deep.MidRow
import Derived.Laws.IdiomCopy
set_option maxHeartbeats 2000000
set_option linter.unusedVariables false
set_option linter.unusedSimpArgs false
namespace Go.Bu
open Go Go.RowKit Go.Plan Go.Proofs
theorem diskStep_c (r : Rec) (w : World) : Calls Tryz.prog 148 #[recA r] w (Ret w (stepA ⟨1,r.addr,r.val,0,rec0⟩)):=by
 go_enter Tryz.func148,Tryz.ntmps148
 go_wp2
 refine bodyPost_ret (v:=stepA ⟨1,r.addr,r.val,0,rec0⟩) (by simp [results,Tryz.results148,go_sem,rec0]) rfl ⟨rfl,?_⟩
 have X:=ext_refl w
 ((repeat (first | with_reducible (refine ext_set2 ?_ ?_);focus (first | exact Nat.le_refl _ | (dsimp only;omega) | (simp;omega)) | with_reducible refine ext_alloc2 ?_));with_reducible exact X)
theorem writeSteps_no {f : List Block} {kind addr val : Int} (h : recOkB ⟨kind,next f,addr,val⟩ = false) : writeSteps f kind addr val = []:=by
 unfold writeSteps;rw [h,if_neg (by simp)]
theorem writeSteps_open {f : List Block} {kind addr val : Int} (h : recOkB ⟨kind,next f,addr,val⟩ = true) (ho : (openB f).2 = true) : writeSteps f kind addr val = [⟨3,0,0,(openB f).1,⟨kind,next f,addr,val⟩⟩]:=by
 unfold writeSteps room;rw [h,if_pos ho];rfl
theorem writeSteps_worn {f : List Block} {kind addr val : Int} (ho : (openB f).2 = false) (hw : ¬ (blockAt f (old f)).worn < 200) : writeSteps f kind addr val = []:=by
 unfold writeSteps room;rw [ho,if_neg (show ¬ (false = true) by simp),decide_eq_false hw];rfl
theorem writeSteps_old {f : List Block} {kind addr val : Int} (h : recOkB ⟨kind,next f,addr,val⟩ = true) (ho : (openB f).2 = false) (hw : (blockAt f (old f)).worn < 200) :
  writeSteps f kind addr val = roomSteps f (blockAt f (old f)).pages ++ [⟨2,0,0,(old f : Int),rec0⟩] ++ [⟨3,0,0,(old f : Int),⟨kind,next f,addr,val⟩⟩]:=by
 unfold writeSteps room;rw [h,ho,if_neg (show ¬ (false = true) by simp),decide_eq_true hw];rfl
set_option maxRecDepth 20000 in
set_option maxHeartbeats 4000000 in
theorem stepsWrite_c (v : Value) (f : List Block) (kind addr val : Int) (w : World) (h : Flash (Old w) w v f) (hok : flashOkB f = true) :
  Calls Tryz.prog 147 #[v,.int .i64 kind,.int .i64 addr,.int .i64 val] w (RetS w (writeSteps f kind addr val)):=by
 have hFN:=fun (w' : World) (hx : Ext w w')=>implFindNext_c v f w' (h.ext hx) hok
 have hFO:=fun (w' : World) (hx : Ext w w')=>implFindOpen_c v f w' (h.ext hx) hok
 have hFD:=fun (w' : World) (hx : Ext w w')=>implFindOld_c v f w' (h.ext hx) hok
 have hFL:=fun (j : Nat) (x : Block) (p : Page) (w' : World) (hx : Ext w w') (h1 : f[old f]? = some x) (h2 : x.pages[j]? = some p)=>implFindLive_c v f (old f) j x p w' (h.ext hx) hok h1 h2
 have HLEN:=Lib.hid (write_le hok kind addr val)
 have hF:=flashOk_iff.1 hok
 have h4:=hF.len
 have hol : old f < f.length:=old_lt (by omega)
 have hb4 : f[old f].pages.length = 4:=(flashOk_block hok (List.getElem_mem _)).1
 have hbw:=(flashOk_block hok (List.getElem_mem hol)).2.2.1
 have e1:=writeSteps_no (f:=f) (kind:=kind) (addr:=addr) (val:=val)
 have e2:=writeSteps_open (f:=f) (kind:=kind) (addr:=addr) (val:=val)
 have e3:=writeSteps_worn (f:=f) (kind:=kind) (addr:=addr) (val:=val)
 have e4:=writeSteps_old (f:=f) (kind:=kind) (addr:=addr) (val:=val)
 rw [blockAt_get hol] at e3 e4
 have hms:=maxSeq_bd hok
 generalize writeSteps f kind addr val = WS at *
 generalize next f = nx at *
 generalize (openB f).1 = ob at *
 obtain ⟨a,cap,rfl⟩:=h.form
 rw [h4] at h hFN hFO hFD hFL ⊢
 cases hrok : recOkB ⟨kind,nx,addr,val⟩
 ·obtain rfl:=e1 hrok
  clear e2 e3 e4
  go_enter Tryz.func147,Tryz.ntmps147
  go_wp2_with fail
  refine (hFN _ (ext_refl _)).mono ?_;rintro e1 w1 ⟨rfl,hx1⟩
  clear hFN
  go_wp2_with fail
  refine (implRecOk_c ⟨kind,nx,addr,val⟩ _).mono ?_;rw [hrok];rintro e2 w2 ⟨rfl,hx2⟩
  have G9:=keep_ext hx2 (hg_new (b:=w1.heap.size) rfl)
  have X2 : Ext w w2:=ext_trans hx1 (ext_trans (ext_alloc (ext_refl _) _) hx2)
  have S9:=hx1.size
  clear hx1 hx2
  obtain ⟨g9,gf9⟩:=cellsK G9
  have l9:=heap_lt G9
  go_wp2_with fail
  go_ret
  exact ⟨_,rfl,X2,SRow.nil _ _,by simp⟩
 ·cases hop : (openB f).2
  ·rw [hop] at hFO
   obtain ⟨b,o,pv,rfl,hb,hpp,c0,c1⟩:=h.at2 hol
   obtain ⟨pa,pcap,rfl⟩:=hpp.form
   rw [hb4] at hpp c0
   have hb' : b < w.heap.size:=hb
   have hbo : f[old f]? = some f[old f]:=List.getElem?_eq_getElem hol
   have hFLV:=fun (j : Nat) (p : Page) (w' : World) (hx : Ext w w') (hp : f[old f].pages[j]? = some p)=>hFL j _ p w' hx hbo hp
   clear hFL hbo
   have hbf : old f < 4:=by omega
   by_cases hw : f[old f].worn < 200
   ·have hWS:=e4 hrok hop hw
    have HWS:=Lib.hid hWS
    clear e1 e2 e3 e4 hWS
    have hwn : (f[old f].worn == 200) = false:=by rw [beq_eq_false_iff_ne];omega
    generalize f[old f].worn = wn at *
    go_enter Tryz.func147,Tryz.ntmps147
    go_wp2_with fail
    refine (hFN _ (ext_refl _)).mono ?_;rintro e1 w1 ⟨rfl,hx1⟩
    clear hFN
    go_wp2_with fail
    refine (implRecOk_c ⟨kind,nx,addr,val⟩ _).mono ?_;rw [hrok];rintro e2 w2 ⟨rfl,hx2⟩
    have G9:=keep_ext hx2 (hg_new (b:=w1.heap.size) rfl)
    have X2 : Ext w w2:=ext_trans hx1 (ext_trans (ext_alloc (ext_refl _) _) hx2)
    have S9:=hx1.size
    clear hx1 hx2
    obtain ⟨g9,gf9⟩:=cellsK G9
    have l9:=heap_lt G9
    go_wp2_with fail
    refine (hFO _ X2).mono ?_;rintro e3 w3 ⟨rfl,hx3⟩
    have X3:=ext_trans X2 hx3
    replace G9:=keep_ext hx3 G9
    clear hFO hx3 g9 gf9 X2 l9
    go_wp2_with fail
    refine (hFD _ X3).mono ?_;rintro e4 w4 ⟨rfl,hx4⟩
    have X4:=ext_trans X3 hx4
    replace G9:=keep_ext hx4 G9
    clear hFD hx4 X3
    obtain ⟨hc4,hf4⟩:=bcell X4
    have hbi : (old f : Int) < 4:=by omega
    have hbi0 : ¬ (old f : Int) < 0:=by omega
    have S1 : w.heap.size ≤ w1.heap.size:=S9
    obtain ⟨RS,hRS⟩ : ∃ RS,roomSteps f f[old f].pages = RS:=⟨_,rfl⟩
    rw [hRS] at HWS
    have HR0 : Hid (([] : List Step) ++ roomSteps f (f[old f].pages.drop 0) = RS):=Lib.hid hRS
    have HPO : Hid (∀ p ∈ f[old f].pages,pageOkB p = true):=Lib.hid fun p hp=>hF.pg (List.getElem_mem _) p hp
    clear hRS
    go_wp2_with fail
    go_loopw [13,49] (fun v y wr=>∃ (k : Nat) (acc : List Step),k ≤ 4 ∧ y = .int .i64 k ∧ SRow w.heap.size wr v acc ∧ acc.length ≤ k ∧ Ext w wr ∧ Hid (acc ++ roomSteps f (f[old f].pages.drop k) = RS) ∧ wr.heap[w1.heap.size]? = some (.cells #[.int .i64 kind,.int .i64 nx,.int .i64 addr,.int .i64 val] 78 (0,0))) (fun _ y _=>4 - (intOf y).toNat)
    case atStart=>exact ⟨0,[],by omega,rfl,SRow.nil _ _,by simp,X4,HR0,G9⟩
    case round =>
     clear G9 X4 HR0 hc4 hf4 c0 c1
     obtain ⟨k,acc,hk,rfl,hS,hal,hX,HR,G9⟩:=hrel
     obtain ⟨sa,scap,rfl⟩:=hS.form
     have hs0:=heap_lt G9
     by_cases hlt : k < 4
     ·have hkl : k < f[old f].pages.length:=by omega
      obtain ⟨b2,o2,rfl,hb2,d0,d1,d2,d3,d4⟩:=hpp.at5 hkl
      have hb2' : b2 < w.heap.size:=hb2
      rw [roomSteps_drop _ _ _ hkl,← List.append_assoc] at HR
      have hlv:=fun (w' : World) (hx : Ext w w')=>hFLV k _ w' hx (List.getElem?_eq_getElem hkl)
      have hone : roomOne f f[old f].pages[k] = if liveP f f[old f].pages[k] = true ∧ f[old f].pages[k].r.kind = 1 then [diskStepOf f[old f].pages[k]] else []:=rfl
      have HONE:=Lib.hid hone
      obtain ⟨lv,hlvv⟩ : ∃ lv,liveP f f[old f].pages[k] = lv:=⟨_,rfl⟩
      rw [hlvv] at hlv HONE
      clear hone hlvv hFLV
      generalize f[old f].pages[k] = p at *
      obtain ⟨hc,hf⟩:=bcell hX
      have hdt:=fun w'=>isDirty_c p.r w'
      have hds:=fun w'=>diskStep_c p.r w'
      obtain ⟨kd,hkd⟩ : ∃ kd,(p.r.kind == 1) = kd:=⟨_,rfl⟩
      rw [hkd] at hdt
      dsimp only [recA] at hdt hds
      have HKD:=Lib.hid hkd
      clear hkd
      cases kd
      ·have hno : roomOne f p = []:=by rw [HONE.out,if_neg (fun h=>by have:=HKD.out;rw [h.2] at this;cases this)]
       have HR2 : Hid (acc ++ roomSteps f (f[old f].pages.drop (k + 1)) = RS):=Lib.hid (by have:=HR.out;rwa [hno,List.append_nil] at this)
       go_wp2_with fail
       refine (hdt _).mono ?_;rintro e5 w5 ⟨rfl,hx5⟩
       have X5:=ext_trans (ext_alloc hX _) hx5
       have hS5:=hS.ext (ext_trans (ext_alloc (ext_refl _) _) hx5)
       have G7:=keep_ext hx5 (hg_new (b:=wr.heap.size) rfl)
       have H5:=ext_trans (ext_alloc (ext_refl _) _) hx5
       replace G9:=keep_ext H5 G9
       clear hc hf d0 d1 d2 d3 d4 hdt
       go_wp2_with fail
       go_roundw
       case rel=>exact ⟨k + 1,acc,by omega,by go_num,hS5,by omega,X5,HR2,G9⟩
       case measure=>simp [intOf];omega
      ·cases lv
       ·have hno : roomOne f p = []:=by rw [HONE.out,if_neg (fun h=>by cases h.1)]
        have HR2 : Hid (acc ++ roomSteps f (f[old f].pages.drop (k + 1)) = RS):=Lib.hid (by have:=HR.out;rwa [hno,List.append_nil] at this)
        go_wp2_with fail
        refine (hdt _).mono ?_;rintro e5 w5 ⟨rfl,hx5⟩
        have X5:=ext_trans (ext_alloc hX _) hx5
        have hS5:=hS.ext (ext_trans (ext_alloc (ext_refl _) _) hx5)
        have G7:=keep_ext hx5 (hg_new (b:=wr.heap.size) rfl)
        have H5:=ext_trans (ext_alloc (ext_refl _) _) hx5
        replace G9:=keep_ext H5 G9
        clear hc hf d0 d1 d2 d3 d4 hdt
        go_wp2_with fail
        refine (hlv _ X5).mono ?_;rintro e6 w6 ⟨rfl,hx6⟩
        go_wp2_with fail
        go_roundw
        case rel=>exact ⟨k + 1,acc,by omega,by go_num,hS5.ext hx6,by omega,ext_trans X5 hx6,HR2,keep_ext hx6 G9⟩
        case measure=>simp [intOf];omega
       ·have hyes : roomOne f p = [diskStepOf p]:=by rw [HONE.out,if_pos ⟨rfl,by simpa using HKD.out⟩]
        have HR2 : Hid ((acc ++ [diskStepOf p]) ++ roomSteps f (f[old f].pages.drop (k + 1)) = RS):=Lib.hid (by have:=HR.out;rwa [hyes] at this)
        go_wp2_with fail
        refine (hdt _).mono ?_;rintro e5 w5 ⟨rfl,hx5⟩
        have X5:=ext_trans (ext_alloc hX _) hx5
        have hS5:=hS.ext (ext_trans (ext_alloc (ext_refl _) _) hx5)
        have G7:=keep_ext hx5 (hg_new (b:=wr.heap.size) rfl)
        have H5:=ext_trans (ext_alloc (ext_refl _) _) hx5
        replace G9:=keep_ext H5 G9
        clear hc hf d0 d1 d2 d3 d4 hdt
        go_wp2_with fail
        refine (hlv _ X5).mono ?_;rintro e6 w6 ⟨rfl,hx6⟩
        have X6:=ext_trans X5 hx6
        have hS6:=hS5.ext hx6
        replace G7:=keep_ext hx6 G7
        replace G9:=keep_ext hx6 G9
        obtain ⟨g7,gf7⟩:=cellsK G7
        have l7:=heap_lt G7
        go_wp2_with fail
        refine (hds _).mono ?_;rintro e7 w7 ⟨rfl,hx7⟩
        have X7:=ext_trans X6 hx7
        have hS7:=hS6.ext hx7
        replace G9:=keep_ext hx7 G9
        have HS7:=Lib.hid hS7
        have hwz:=X7.size
        clear hS hS5 hS6 hS7 g7 gf7
        go_wp2_with (refine wpList_appStep rfl _ _ rfl rfl (HS7.out.ext (ext_alloc (ext_refl _) _)) (y:=diskStepOf p) rfl (hg_new rfl) (by omega) (by simp;omega) (fun v' w' hS' hg=>?_))
        go_roundw
        case rel=>exact ⟨k + 1,acc ++ [diskStepOf p],by omega,by go_num,hS',by simp;omega,ext_grown (ext_alloc X7 _) (HS7.out.ext (ext_alloc (ext_refl _) _)) hg,HR2,keep_grown (hg_alloc G9) (by decide) (HS7.out.ext (ext_alloc (ext_refl _) _)) hg⟩
        case measure=>simp [intOf];omega
     ·obtain rfl : k = 4:=by omega
      have hr : acc = RS:=by have:=HR.out;rw [List.drop_eq_nil_of_le (by omega)] at this;simpa [roomSteps] using this
      subst hr
      clear HR
      have HS:=Lib.hid hS
      have hwz:=hX.size
      clear hS
      obtain ⟨g9,gf9⟩:=cellsK G9
      rw [show ((4 : Nat) : Int) = 4 from rfl]
      go_wp2_with (first
       | (refine wpList_appStep rfl _ _ rfl rfl (HS5.out.ext (ext_alloc (ext_refl _) _)) (y:=⟨3,0,0,(old f : Int),⟨kind,nx,addr,val⟩⟩) rfl (hg_new rfl) (by simp;omega) (by simp;omega) (fun v6 w6 hS6 hg6=>?_))
       | (refine wpList_appStep rfl _ _ rfl rfl (HS.out.ext (ext_alloc (ext_refl _) _)) (y:=⟨2,0,0,(old f : Int),rec0⟩) rfl (hg_new rfl) (by omega) (by simp;omega) (fun v5 w5 hS5 hg5=>?_);have X5:=ext_grown (ext_alloc hX _) (HS.out.ext (ext_alloc (ext_refl _) _)) hg5;replace G9:=keep_grown (hg_alloc G9) (by decide) (HS.out.ext (ext_alloc (ext_refl _) _)) hg5;clear g9 gf9;obtain ⟨g9,gf9⟩:=cellsK G9;have l9:=heap_lt G9;have HS5:=Lib.hid hS5;have hwz5:=X5.size;clear hS5;clear HS))
      go_ret
      refine ⟨_,rfl,ext_grown (ext_alloc X5 _) (HS5.out.ext (ext_alloc (ext_refl _) _)) hg6,?_,by have:=HLEN.out;omega⟩
      rw [HWS.out];exact hS6
   ·obtain rfl:=e3 hop hw
    have hwn : f[old f].worn = 200:=by omega
    rw [hwn] at c1
    clear e1 e2 e4 hw hwn
    go_enter Tryz.func147,Tryz.ntmps147
    go_wp2_with fail
    refine (hFN _ (ext_refl _)).mono ?_;rintro e1 w1 ⟨rfl,hx1⟩
    clear hFN
    go_wp2_with fail
    refine (implRecOk_c ⟨kind,nx,addr,val⟩ _).mono ?_;rw [hrok];rintro e2 w2 ⟨rfl,hx2⟩
    have G9:=keep_ext hx2 (hg_new (b:=w1.heap.size) rfl)
    have X2 : Ext w w2:=ext_trans hx1 (ext_trans (ext_alloc (ext_refl _) _) hx2)
    have S9:=hx1.size
    clear hx1 hx2
    obtain ⟨g9,gf9⟩:=cellsK G9
    have l9:=heap_lt G9
    go_wp2_with fail
    refine (hFO _ X2).mono ?_;rintro e3 w3 ⟨rfl,hx3⟩
    have X3:=ext_trans X2 hx3
    replace G9:=keep_ext hx3 G9
    clear hFO hx3 g9 gf9 X2 l9
    go_wp2_with fail
    refine (hFD _ X3).mono ?_;rintro e4 w4 ⟨rfl,hx4⟩
    have X4:=ext_trans X3 hx4
    replace G9:=keep_ext hx4 G9
    clear hFD hx4 X3
    obtain ⟨hc4,hf4⟩:=bcell X4
    have hbi : (old f : Int) < 4:=by omega
    have hbi0 : ¬ (old f : Int) < 0:=by omega
    go_wp2_with fail
    go_ret
    exact ⟨_,rfl,X4,SRow.nil _ _,by simp⟩
  ·obtain rfl:=e2 hrok hop
   rw [hop] at hFO
   clear e1 e3 e4
   go_enter Tryz.func147,Tryz.ntmps147
   go_wp2_with fail
   refine (hFN _ (ext_refl _)).mono ?_;rintro e1 w1 ⟨rfl,hx1⟩
   clear hFN
   go_wp2_with fail
   refine (implRecOk_c ⟨kind,nx,addr,val⟩ _).mono ?_;rw [hrok];rintro e2 w2 ⟨rfl,hx2⟩
   have G9:=keep_ext hx2 (hg_new (b:=w1.heap.size) rfl)
   have X2 : Ext w w2:=ext_trans hx1 (ext_trans (ext_alloc (ext_refl _) _) hx2)
   have S9:=hx1.size
   clear hx1 hx2
   obtain ⟨g9,gf9⟩:=cellsK G9
   have l9:=heap_lt G9
   go_wp2_with fail
   refine (hFO _ X2).mono ?_;rintro e3 w3 ⟨rfl,hx3⟩
   have X3:=ext_trans X2 hx3
   replace G9:=keep_ext hx3 G9
   clear hFO hx3 g9 gf9
   obtain ⟨g9,gf9⟩:=cellsK G9
   go_wp2_with fail
   go_ret
   refine ⟨_,rfl,ext_alloc X3 _,SRow.one (y:=⟨3,0,0,ob,⟨kind,nx,addr,val⟩⟩) (hg_new rfl) X3.size,by simp⟩
def putSteps2 (s : Store) (addr val : Int) : List Step:=if storeOkB s = true then writeSteps s.flash 1 addr val else []
set_option maxRecDepth 20000 in
set_option maxHeartbeats 4000000 in
theorem implStepsPut_c (fv dv : Value) (s : Store) (addr val : Int) (w : World) (h : StoreV w fv dv s) (hs : Small s) :
  Calls Tryz.prog 149 #[.agg #[fv,dv],.int .i64 addr,.int .i64 val] w (RetS w (putSteps2 s addr val)):=by
 have hSO:=fun (w' : World) (hx : Ext w w')=>implStoreOk_c fv dv s w' (h.ext hx) hs.2.1 hs.2.2
 have hSW:=fun (w' : World) (hx : Ext w w') (hok : flashOkB s.flash = true)=>stepsWrite_c fv s.flash 1 addr val w' (h.1.ext hx) hok
 unfold putSteps2
 obtain ⟨a1,n1,rfl⟩:=h.1.form
 obtain ⟨a2,n2,rfl⟩:=h.2.form
 clear h hs
 cases hok : storeOkB s
 ·rw [hok] at hSO
  rw [if_neg (by simp)]
  go_enter Tryz.func149,Tryz.ntmps149
  go_wp2_with fail
  refine (hSO _ (ext_alloc (ext_refl _) _)).mono ?_;rintro e1 w1 ⟨rfl,hx1⟩
  have G0:=keep_ext hx1 (hg_new (b:=w.heap.size) rfl)
  obtain ⟨g0,gf0⟩:=cellsK G0
  have l0:=heap_lt G0
  have X1:=ext_trans (ext_alloc (ext_refl w) _) hx1
  go_wp2_with fail
  go_ret
  exact ⟨_,rfl,X1,SRow.nil _ _,by simp⟩
 ·rw [hok] at hSO
  rw [if_pos rfl]
  have hsw:=fun (w' : World) (hx : Ext w w')=>hSW w' hx (storeOk_flash hok)
  clear hSW hok
  go_enter Tryz.func149,Tryz.ntmps149
  go_wp2_with fail
  refine (hSO _ (ext_alloc (ext_refl _) _)).mono ?_;rintro e1 w1 ⟨rfl,hx1⟩
  have G0:=keep_ext hx1 (hg_new (b:=w.heap.size) rfl)
  obtain ⟨g0,gf0⟩:=cellsK G0
  have l0:=heap_lt G0
  have X1:=ext_trans (ext_alloc (ext_refl w) _) hx1
  go_wp2_with fail
  refine (hsw _ X1).mono ?_;rintro e2 w2 ⟨v,rfl,hx2,hS,hl⟩
  go_wp2_with fail
  go_ret
  exact ⟨_,rfl,ext_trans X1 hx2,hS.base X1.size,hl⟩
end Go.Bu
namespace Go.Bu
open Go Go.RowKit Go.Plan Go.Proofs
def PagesAt (w : World) (rows : List (Value × Int)) (gs : List Block) (bs : List Nat) : Prop:=∀ (i : Nat) x r b,gs[i]? = some x → rows[i]? = some r → bs[i]? = some b → r.2 = x.worn ∧ OwnPages w r.1 x.pages b
end Go.Bu
namespace Go.Bu
open Go Go.RowKit Go.Plan Go.Proofs
theorem flat_inv {α : Type} {n : Nat} {enc : α → List Value} (hn : ∀ x,(enc x).length = n) (h0 : 0 < n) : ∀ (xs : List α) (j : Nat) (v : Value),(xs.flatMap enc)[j]? = some v → ∃ x,xs[j / n]? = some x ∧ (enc x)[j % n]? = some v
 | [],j,v,h=>by simp at h
 | x :: xs,j,v,h=>by
  rw [List.flatMap_cons] at h
  by_cases hj : j < n
  ·rw [List.getElem?_append_left (by rw [hn];exact hj)] at h
   exact ⟨x,by rw [Nat.div_eq_of_lt hj];rfl,by rw [Nat.mod_eq_of_lt hj];exact h⟩
  ·rw [List.getElem?_append_right (by rw [hn];omega),hn] at h
   obtain ⟨y,h1,h2⟩:=flat_inv hn h0 xs (j - n) v h
   have e : j = (j - n) + n:=by omega
   have e1 : j / n = (j - n) / n + 1:=by rw [e,Nat.add_div_right _ h0,Nat.add_sub_cancel]
   have e2 : j % n = (j - n) % n:=by conv=>lhs;rw [e]
                                     exact Nat.add_mod_right _ _
   exact ⟨y,by rw [e1];exact h1,by rw [e2];exact h2⟩
theorem run_copy_n {P : Program} (w : World) (dT sT ty elem : TypeId) (b o dLen dCap : Nat) (a : Addr) (sLen sCap k : Nat) (cs : List Value)
  (hu : P.underlying dT = some (.slice elem)) (hs : (P.info? elem).map (·.size) = some k) (hn : cs.length = Nat.min sLen dLen * k)
  (hsrc : ∀ j v,cs[j]? = some v → w.cell? (a.add j) = some v) (hc : ∀ j,j < cs.length → (w.cell? ⟨b,o + j,none⟩).isSome = true) (hf : ∀ j,j < cs.length → w.frozen? ⟨b,o + j,none⟩ = false) (h1 : ∀ v ∈ cs,v.oneCell' = true) :
  (Builtin.copy_ #[dT,sT] ty #[.slice (some ⟨b,o,none⟩) dLen dCap,.slice (some a) sLen sCap]).run P w = .ok (goInt (Nat.min sLen dLen)) (w.setCells b o cs):=by
 have hl:=run_loadCells_list (P:=P) w a cs hsrc
 have hst:=run_storeCells_cells (P:=P) b o cs 0 w (by simpa using hc) (by simpa using hf) h1
 cases hq : P.info? elem with
 | none=>simp [hq] at hs
 | some i =>
  have hi : i.size = k:=by simpa [hq] using hs
  simp [Builtin.copy_,run_underlying hu,Builtin.lenOf,Builtin.firstCells,sizeOf,typeInfo,hq,hi,← hn,hl,hst]
def Stopped (p : Prop) : Prop:=p
theorem wpList_copyN {P : Program} {w : World} {ops : Array Oper} {rest : List Oper} {o : Oper} {a : Act} {Q : Exit → Act → World → Prop} (hgd : o.guard = none) (d s : Operand) (dT sT : TypeId)
  (ho : o.op = .call { callee:=.builtin .copy,args:=#[d,s],argTypes:=#[dT,sT] }) (elem : TypeId) (k : Nat) (hu : P.underlying dT = some (.slice elem)) (hsz : (P.info? elem).map (·.size) = some k)
  (b off dLen dCap : Nat) (ad : Addr) (sLen sCap : Nat) (hd : a.eval d = .slice (some ⟨b,off,none⟩) dLen dCap) (hs : a.eval s = .slice (some ad) sLen sCap) (cs : List Value) (hn : cs.length = Nat.min sLen dLen * k)
  (hsrc : ∀ j v,cs[j]? = some v → w.cell? (ad.add j) = some v) (hc : ∀ j,j < cs.length → (w.cell? ⟨b,off + j,none⟩).isSome = true) (hf : ∀ j,j < cs.length → w.frozen? ⟨b,off + j,none⟩ = false) (h1 : ∀ v ∈ cs,v.oneCell' = true)
  (hK : Stopped (wpList P ops Q rest (a.put o.dst (goInt (Nat.min sLen dLen))) (setAll w b off cs))) : wpList P ops Q (o :: rest) a w:=by
 refine wpList_plain hgd fun K' hK'=>?_
 have hrun:=run_copy_n (P:=P) w dT sT o.type elem b off dLen dCap ad sLen sCap k cs hu hsz hn hsrc hc hf h1
 unfold Oper.wp
 simp [execOp,ho,resolve,invoke,builtin,hd,hs,hrun,Result.andThen]
 exact hK' _ _ hK
theorem flat_len {α : Type} {n : Nat} {enc : α → List Value} (hn : ∀ x,(enc x).length = n) (xs : List α) : (xs.flatMap enc).length = xs.length * n:=by
 induction xs with
 | nil=>simp
 | cons x xs ih=>rw [List.flatMap_cons,List.length_append,ih,hn,List.length_cons,Nat.add_mul];omega
theorem Sl.flat {α : Type} {n : Nat} {enc : α → List Value} (hn : ∀ x,(enc x).length = n) (h0 : 0 < n) {D : Nat → Prop} {w : World} {b o len cap : Nat} {xs : List α} (h : Sl n (plain enc) D w (.slice (some ⟨b,o,none⟩) len cap) xs) :
  ∀ j v,(xs.flatMap enc)[j]? = some v → w.cell? (Addr.add ⟨b,o,none⟩ j) = some v:=by
 intro j v hj
 obtain ⟨x,h1,h2⟩:=flat_inv hn h0 xs j v hj
 obtain ⟨a',cap',hv,hx⟩:=h
 injection hv with e1 e2 e3
 obtain ⟨b',o',cs,ha,_,he,hc⟩:=hx _ _ h1
 subst e1
 injection ha with ha
 injection ha with hb ho
 subst hb;subst ho
 have he' : cs = enc x:=he
 subst he'
 have:=hc _ _ h2
 rw [show o + j / n * n + j % n = o + j by have:=Nat.div_add_mod j n;rw [Nat.mul_comm] at this;omega] at this
 unfold Addr.add
 split
 ·rename_i h0';subst h0';exact this
 ·exact this
theorem OwnV.filled {α : Type} {n : Nat} {enc : α → List Value} (hn : ∀ x,(enc x).length = n) {w : World} {B T : Nat} {c : Array Value} {xs : List α} (hB : w.heap[B]? = some (.cells c T (0,0))) (hc : c.size = xs.length * n) (cap : Nat) :
  OwnV n enc (setAll w B 0 (xs.flatMap enc)) (.slice (some ⟨B,0,none⟩) xs.length (xs.length + cap)) xs B:=by
 obtain ⟨c',h1,h2,h3⟩:=setAll_block (xs.flatMap enc) w 0 c hB (by rw [flat_len hn,hc];omega)
 refine ⟨T,0,cap,rfl,c',h1,fun i x hi j u hu=>?_⟩
 rw [h3,if_pos (Nat.zero_le _),Nat.sub_zero,Nat.zero_add]
 exact flat_get hn xs i x j u hi hu
theorem oneCell_page (ps : List Page) : ∀ v ∈ ps.flatMap pageC,v.oneCell' = true:=by
 intro v hv
 obtain ⟨p,_,hp⟩:=List.mem_flatMap.1 hv
 simp at hp
 rcases hp with rfl | rfl | rfl | rfl | rfl <;> rfl
set_option maxRecDepth 20000 in
theorem pagesCopy_c (pv : Value) (ps : List Page) (w : World) (h : Pages (Old w) w pv ps) (h4 : ps.length = 4) :
  Calls Tryz.prog 157 #[pv] w (fun e w'=>∃ B,e = .returned (.slice (some ⟨B,0,none⟩) 4 4) ∧ Ext w w' ∧ w.heap.size ≤ B ∧ OwnPages w' (.slice (some ⟨B,0,none⟩) 4 4) ps B):=by
 obtain ⟨a,cap,rfl⟩:=h.form
 obtain ⟨b,o,rfl,hb,-⟩:=h.at5 (k:=0) (by omega)
 have hfl:=Sl.flat (n:=5) (enc:=pageC) (fun _=>rfl) (by omega) h
 have hone:=oneCell_page ps
 have hlen : (ps.flatMap pageC).length = 20:=by rw [flat_len (n:=5) (fun _=>rfl),h4]
 have hfill:=fun (w : World) (B T : Nat) (c : Array Value) (hB : w.heap[B]? = some (.cells c T (0,0))) (hc : c.size = 20)=>OwnV.filled (n:=5) (enc:=pageC) (fun _=>rfl) (xs:=ps) hB (by rw [h4,hc]) 0
 rw [h4] at hfill
 rw [h4]
 have HF:=Lib.hid hfill
 generalize ps.flatMap pageC = cs at *
 have HFL:=Lib.hid hfl
 have HO:=Lib.hid hone
 clear hfl hone h hfill
 obtain ⟨c0,hc0⟩ : ∃ c0 : Array Value,#[.int .i64 0,.int .i64 0,.int .i64 0,.int .i64 0,.int .i64 0,.int .i64 0,.int .i64 0,.int .i64 0,.int .i64 0,.int .i64 0,.int .i64 0,.int .i64 0,.int .i64 0,.int .i64 0,.int .i64 0,.int .i64 0,.int .i64 0,.int .i64 0,.int .i64 0,.int .i64 0] = c0:=⟨_,rfl⟩
 have hs0 : c0.size = 20:=by rw [← hc0];rfl
 have hb' : b < w.heap.size:=hb
 go_enter Tryz.func157,Tryz.ntmps157
 go_wp2_with (refine wpList_copyN rfl _ _ 99 99 rfl 102 5 Tryz.underlying99 (by kernel_rfl) w.heap.size 0 4 4 ⟨b,o,none⟩ 4 cap rfl rfl cs (by rw [hlen];rfl) ?src ?cells ?frz HO.out ?_)
 case src =>
  intro j v hj
  have:=HFL.out j v hj
  have hadd : Addr.add ⟨b,o,none⟩ j = ⟨b,o + j,none⟩:=by unfold Addr.add;split <;> simp_all
  rw [hadd] at this ⊢
  unfold World.cell? at this ⊢
  rw [alloc_get_old hb'];exact this
 case cells=>intro j hj;rw [cell_block (alloc_get_new rfl),Nat.zero_add,Array.getElem?_eq_getElem (by omega)];rfl
 case frz=>intro j hj;exact frozen_block (alloc_get_new rfl) _
 unfold Stopped
 go_wp2_with fail
 have G0 : (w.alloc (.cells c0 127)).heap[w.heap.size]? = some (.cells c0 127 (0,0)):=hg_new rfl
 have hO:=HF.out _ _ _ _ G0 hs0
 have hX:=ext_setAll (ext_alloc (ext_refl w) (.cells c0 127)) (Nat.le_refl _) 0 cs
 refine bodyPost_ret (v:=.slice (some ⟨w.heap.size,0,none⟩) 4 4) (by simp [results,Tryz.results157,go_sem]) rfl ⟨w.heap.size,rfl,hX,Nat.le_refl _,hO⟩
def CopyΦ (w : World) (f : List Block) (e : Ending) (w' : World) : Prop:=∃ B bs cap,e = .returned (.slice (some ⟨B,0,none⟩) 4 cap) ∧ Ext w w' ∧ OwnFlash w' (.slice (some ⟨B,0,none⟩) 4 cap) f B bs ∧ (B :: bs).Nodup ∧ ∀ b ∈ B :: bs,w.heap.size ≤ b
set_option maxRecDepth 20000 in
set_option maxHeartbeats 2000000 in
theorem flashCopy_c (v : Value) (f : List Block) (w : World) (h : Flash (Old w) w v f) (h4 : f.length = 4) (hp : ∀ b ∈ f,b.pages.length = 4) :
  Calls Tryz.prog 141 #[v] w (CopyΦ w f):=by
 obtain ⟨a,cap,rfl⟩:=h.form
 rw [h4] at h ⊢
 have H4:=Lib.hid h4
 have HP:=Lib.hid hp
 clear h4 hp
 have hmk : ∀ w : World,(Instr.makeSlice 39 (.int .i64 4) (.int .i64 4)).run Tryz.prog w = .ok (.slice (some ⟨w.heap.size,0,none⟩) 4 4) (w.alloc (.cells #[.slice none 0 0,.int .i64 0,.slice none 0 0,.int .i64 0,.slice none 0 0,.int .i64 0,.slice none 0 0,.int .i64 0] 104)):=fun w=>by kernel_rfl
 have h0 : Filled 2 rowC (w.alloc (.cells #[.slice none 0 0,.int .i64 0,.slice none 0 0,.int .i64 0,.slice none 0 0,.int .i64 0,.slice none 0 0,.int .i64 0] 104)) w.heap.size 104 8 ([] : List (Value × Int)):=⟨_,alloc_get_new rfl,rfl,fun i x hx=>by simp at hx⟩
 have H0:=Lib.hid h0
 clear h0
 go_enter Tryz.func141,Tryz.ntmps141
 go_wp2_with fail
 clear hmk
 go_loopw [11] (fun i wr=>∃ (k : Nat) (rows : List (Value × Int)) (bs : List Nat),k ≤ 4 ∧ i = .int .i64 k ∧ Ext w wr ∧ Filled 2 rowC wr w.heap.size 104 8 rows ∧ rows.length = k ∧ bs.length = k ∧ bs.Nodup ∧ Hid (∀ b ∈ bs,w.heap.size < b) ∧ Hid (PagesAt wr rows (f.take k) bs)) (fun i _=>4 - (intOf i).toNat)
 case atStart=>exact ⟨0,[],[],Nat.zero_le _,rfl,ext_alloc (ext_refl _) _,H0.out,rfl,rfl,List.nodup_nil,Lib.hid (fun b hb=>by cases hb),Lib.hid (fun i x r b h=>by simp at h)⟩
 case round =>
  clear H0
  obtain ⟨k,rows,bs,hk,rfl,hX,hfl,hrl,hbl,hnd,HB,HPA⟩:=hrel
  by_cases hlt : k < 4
  ·have hkf : k < f.length:=by have:=H4.out;omega
   obtain ⟨b,o,pv,rfl,hb,hpp,e0,e1⟩:=h.at2 hkf
   have hb' : b < w.heap.size:=hb
   obtain ⟨hc,hf⟩:=bcell hX
   obtain ⟨pa,pcap,rfl⟩:=hpp.form
   have hp4:=HP.out f[k] (List.getElem_mem _)
   rw [hp4] at e0 hpp
   have HPC:=fun (w' : World) (hx : Ext wr w')=>pagesCopy_c (.slice pa 4 pcap) f[k].pages w' (hpp.ext (ext_trans hX hx)) hp4
   clear hp4
   have lB : w.heap.size < wr.heap.size:=by obtain ⟨c,hc,_⟩:=hfl;exact heap_lt hc
   go_wp2_with fail
   have G5 : (wr.alloc (.cells #[.slice pa 4 pcap,.int .i64 f[k].worn] 104)).heap[wr.heap.size]? = some (.cells #[.slice pa 4 pcap,.int .i64 f[k].worn] 104 (0,0)):=hg_new rfl
   have XA : Ext wr (wr.alloc (.cells #[.slice pa 4 pcap,.int .i64 f[k].worn] 104)):=ext_alloc (ext_refl _) _
   clear hc hf e0 e1
   refine wp_region_ext [4] [0,1,2,3,5,6,4,7,8] [] [9] (by kernel_rfl) (by kernel_rfl) ?late ?_
   case late=>exact fun f hf=>absurd hf List.not_mem_nil
   iterate 3
    refine Rob.y (v:=?_) rfl rfl (fun w1 hx hH=>?_) ?_;rotate_left
    ·go_simp;first | done | rfl | exact (Bool.not_not _).symm
    simp only [Act.put,slA,slB,slC]
   refine Rob.y (v:=?_) rfl rfl (fun w1 hx hH=>?_) ?_;rotate_left
   ·(have hE : Ext _ w1:=(by first | exact hx | exact hx.1);obtain ⟨g5,gf5⟩:=cellsK (keep_ext hE G5));go_simp;first | done | rfl
   simp only [Act.put,slA,slB,slC]
   refine Rob.y (v:=?_) rfl rfl (fun w1 hx hH=>?_) ?_;rotate_left
   ·go_simp;first | done | rfl | exact (Bool.not_not _).symm
   simp only [Act.put,slA,slB,slC]
   refine Rob.y (v:=?_) rfl rfl (fun w1 hx hH=>?_) ?_;rotate_left
   ·(have hE : Ext _ w1:=(by first | exact hx | exact hx.1);obtain ⟨g5,gf5⟩:=cellsK (keep_ext hE G5));go_simp;first | done | rfl
   simp only [Act.put,slA,slB,slC]
   refine Rob.c (fun lo hi v w'=>∃ B,v = .slice (some ⟨B,0,none⟩) 4 4 ∧ lo ≤ B ∧ B < hi ∧ OwnPages w' (.slice (some ⟨B,0,none⟩) 4 4) f[k].pages B) rfl rfl rfl (fun _ _=>ext_trans) (fun lo hi v w w' ⟨B,e,h1,h2,h3⟩ hx=>⟨B,e,h1,h2,h3.ext hx⟩) (fun w1 hx hH=>?_) (fun lo4 hi4 v4 hlo4 hhi4 hv4=>?_)
   ·unfold RunTo;go_simp;exact (HPC _ (ext_trans XA hx)).mono fun e w' ⟨B,he,hx',hB,hO⟩=>⟨_,he,hx',B,rfl,hB,hO.lt,hO⟩
   simp only [Act.put,slA,slB,slC]
   obtain ⟨_,b1,rfl,hb1,hb2,_⟩:=hv4
   refine Rob.y (v:=?_) rfl rfl (fun w1 hx hH=>?_) ?_;rotate_left
   ·go_simp;first | done | rfl | exact (Bool.not_not _).symm
   simp only [Act.put,slA,slB,slC]
   refine Rob.y (v:=?_) rfl rfl (fun w1 hx hH=>?_) ?_;rotate_left
   ·(have hE : Ext _ w1:=(by first | exact hx | exact hx.1);obtain ⟨g5,gf5⟩:=cellsK (keep_ext hE G5));go_simp;first | done | rfl
   simp only [Act.put,slA,slB,slC]
   refine fin_tail (fun w3 hx3 _=>?_)
   simp only [dstOf,List.getElem?_cons_succ,List.getElem?_cons_zero,Option.bind_some,Act.put,slA,slB,slC,List.filterMap_cons,List.filterMap_nil]
   obtain ⟨hx3,B',hB',-,-,hO1⟩:=hx3
   injection hB' with hB'
   injection hB' with hB'
   injection hB' with hB'
   subst hB'
   have X3:=ext_trans XA hx3
   have hfl1:=hfl.ext X3
   simp only [World.alloc,Array.size_push] at hlo4
   have hth:=hfl1.there (o:=k * 2) (m:=2) (by omega)
   have hF:=Filled.snoc (n:=2) (enc:=rowC) (fun _=>rfl) (.slice (some ⟨b1,0,none⟩) 4 4,f[k].worn) hfl1 (by rw [hrl];omega)
   rw [hrl] at hF
   have hXn:=ext_setAll (ext_trans hX X3) (Nat.le_refl _) (k * 2) (rowC (.slice (some ⟨b1,0,none⟩) 4 4,f[k].worn))
   have HF:=Lib.hid hF;have HXN:=Lib.hid hXn
   have HPN : Hid (PagesAt (setAll w3 w.heap.size (k * 2) (rowC (.slice (some ⟨b1,0,none⟩) 4 4,f[k].worn))) (rows ++ [(.slice (some ⟨b1,0,none⟩) 4 4,f[k].worn)]) (f.take (k + 1)) (bs ++ [b1])):=Lib.hid (by
    intro i x r b2 hx hr hbi
    rw [← take_snoc f k hkf] at hx
    by_cases hik : i < k
    ·rw [List.getElem?_append_left (by simp;omega)] at hx
     rw [List.getElem?_append_left (by omega)] at hr hbi
     obtain ⟨q1,q2⟩:=HPA.out i x r b2 hx hr hbi
     have:=HB.out b2 (List.mem_of_getElem? hbi)
     exact ⟨q1,(q2.ext X3).keep (setAll_other _ (by omega) _ _ _)⟩
    ·have hi : i = k:=by
      have:=(List.getElem?_eq_some_iff.1 hbi).1
      simp at this;omega
     subst hi
     rw [List.getElem?_append_right (by simp;omega)] at hx
     rw [List.getElem?_append_right (by omega)] at hr hbi
     simp [hbl] at hbi
     simp [hrl] at hr
     simp [show min i f.length = i by omega] at hx
     subst hbi;subst hr;subst hx
     exact ⟨rfl,hO1.keep (setAll_other _ (by omega) _ _ _)⟩)
   have HB2 : Hid (∀ b ∈ bs ++ [b1],w.heap.size < b):=Lib.hid (fun b hb=>by
    rcases List.mem_append.1 hb with hb | hb
    ·exact HB.out b hb
    ·rw [List.mem_singleton] at hb;omega)
   have hnd2 : (bs ++ [b1]).Nodup:=by
    rw [List.nodup_append]
    refine ⟨hnd,by simp,fun a ha b hb=>?_⟩
    rw [List.mem_singleton] at hb
    subst hb
    obtain ⟨i,hi,rfl⟩:=List.mem_iff_getElem.1 ha
    have:=(HPA.out i f[i] rows[i] bs[i] (by rw [List.getElem?_take_of_lt (by omega)];exact List.getElem?_eq_getElem (by omega)) (List.getElem?_eq_getElem (by omega)) (List.getElem?_eq_getElem hi)).2.lt
    omega
   clear hF hXn hfl1 hfl HPA HB hO1 hpp hnd HPC G5 XA
   refine wpList_store_mid rfl 104 _ _ rfl w.heap.size (k * 2) (rowC (.slice (some ⟨b1,0,none⟩) 4 4,f[k].worn)).toArray rfl rfl hth (by kernel_rfl) (by simp [Value.oneCell']) ?_
   change wpList _ _ _ _ _ (setAll w3 w.heap.size (k * 2) (rowC (.slice (some ⟨b1,0,none⟩) 4 4,f[k].worn)))
   generalize setAll w3 w.heap.size (k * 2) (rowC (.slice (some ⟨b1,0,none⟩) 4 4,f[k].worn)) = w4 at *
   refine wpList_nil ?_
   go_wp2_with fail
   go_roundw
   case rel=>exact ⟨k + 1,_,_,by omega,by go_num,HXN.out,HF.out,by simp [hrl],by simp [hbl],hnd2,HB2,HPN⟩
   case measure=>simp [intOf];omega
  ·obtain rfl : k = 4:=by omega
   go_wp2_with fail
   obtain ⟨c,g1,g2,g3⟩:=hfl
   refine bodyPost_ret (v:=.slice (some ⟨w.heap.size,0,none⟩) 4 4) (by simp [results,Tryz.results141,go_sem]) rfl ⟨w.heap.size,bs,4,rfl,hX,⟨rows,⟨104,0,0,by rw [hrl,Nat.add_zero],c,g1,g3⟩,by rw [hrl,H4.out],by rw [hbl,H4.out],?_⟩,List.nodup_cons.2 ⟨fun hm=>by have:=HB.out _ hm;omega,hnd⟩,fun b hb=>?_⟩
   ·have:=HPA.out;rw [List.take_of_length_le (by rw [H4.out];omega)] at this;exact this
   ·rcases List.mem_cons.1 hb with rfl | hb
    ·exact Nat.le_refl _
    ·exact Nat.le_of_lt (HB.out b hb)
def StoreCp (w : World) (s : Store) (e : Ending) (w' : World) : Prop:=∃ f' d' L,e = .returned (.agg #[f',d']) ∧ Ext w w' ∧ OwnStore w' f' d' s L ∧ L.Nodup ∧ ∀ b ∈ L,w.heap.size ≤ b
theorem oneCell_int (xs : List Int) : ∀ v ∈ xs.flatMap intC,v.oneCell' = true:=by
 intro v hv
 obtain ⟨p,_,hp⟩:=List.mem_flatMap.1 hv
 simp at hp
 subst hp;rfl
set_option maxRecDepth 20000 in
set_option maxHeartbeats 1000000 in
theorem storeCopy_c (fv dv : Value) (s : Store) (w : World) (h : StoreV w fv dv s) (h4 : s.flash.length = 4) (hp : ∀ b ∈ s.flash,b.pages.length = 4) (h6 : s.disk.length = 6) :
  Calls Tryz.prog 121 #[.agg #[fv,dv]] w (StoreCp w s):=by
 have hFC:=fun (w' : World) (hx : Ext w w')=>flashCopy_c fv s.flash w' (h.1.ext hx) h4 hp
 have hD:=h.2
 obtain ⟨fa,fcap,hfv⟩:=h.1.form
 obtain ⟨da,dcap,rfl⟩:=h.2.form
 obtain ⟨b,o,rfl,hb,-⟩:=hD.at1 (k:=0) (by omega)
 have hfl:=Sl.flat (n:=1) (enc:=intC) (fun _=>rfl) (by omega) hD
 have hone:=oneCell_int s.disk
 have hlen : (s.disk.flatMap intC).length = 6:=by rw [flat_len (n:=1) (fun _=>rfl),h6]
 have hfill:=fun (w : World) (B T : Nat) (c : Array Value) (hB : w.heap[B]? = some (.cells c T (0,0))) (hc : c.size = 6)=>OwnV.filled (n:=1) (enc:=intC) (fun _=>rfl) (xs:=s.disk) hB (by rw [h6,hc]) 0
 rw [h6] at hfill ⊢
 have HF:=Lib.hid hfill
 generalize s.disk.flatMap intC = cs at *
 have HFL:=Lib.hid hfl
 have HO:=Lib.hid hone
 rw [h4] at hfv
 subst hfv
 clear hfl hone hD hfill h4
 have hmk : ∀ w : World,(Instr.makeSlice 40 (.int .i64 6) (.int .i64 6)).run Tryz.prog w = .ok (.slice (some ⟨w.heap.size,0,none⟩) 6 6) (w.alloc (.cells #[.int .i64 0,.int .i64 0,.int .i64 0,.int .i64 0,.int .i64 0,.int .i64 0] 3)):=fun w=>by kernel_rfl
 have hb' : b < w.heap.size:=hb
 go_enter Tryz.func121,Tryz.ntmps121
 go_wp2_with (refine wpList_copyN rfl _ _ 40 40 rfl 3 1 Tryz.underlying40 (by kernel_rfl) (w.heap.size + 1 + 1) 0 6 6 ⟨b,o,none⟩ 6 dcap rfl rfl cs (by rw [hlen];rfl) ?src ?cells ?frz HO.out ?_)
 case src =>
  intro j v hj
  have:=HFL.out j v hj
  have hadd : Addr.add ⟨b,o,none⟩ j = ⟨b,o + j,none⟩:=by unfold Addr.add;split <;> simp_all
  rw [hadd] at this ⊢
  exact cell_ext (ext_alloc (ext_alloc (ext_alloc (ext_refl w) _) _) _) this
 case cells=>intro j hj;rw [cell_block (alloc_get_new (by simp)),Nat.zero_add,Array.getElem?_eq_getElem (by simp;omega)];rfl
 case frz=>intro j hj;exact frozen_block (alloc_get_new (by simp)) _
 unfold Stopped
 have G2 : (((w.alloc (.cells #[.slice fa 4 fcap,.slice (some ⟨b,o,none⟩) 6 dcap] 42)).alloc (.cells #[.slice none 0 0,.slice none 0 0] 42)).alloc (.cells #[.int .i64 0,.int .i64 0,.int .i64 0,.int .i64 0,.int .i64 0,.int .i64 0] 3)).heap[w.heap.size + 1 + 1]? = some (.cells #[.int .i64 0,.int .i64 0,.int .i64 0,.int .i64 0,.int .i64 0,.int .i64 0] 3 (0,0)):=hg_new (by simp)
 have G1 : (((w.alloc (.cells #[.slice fa 4 fcap,.slice (some ⟨b,o,none⟩) 6 dcap] 42)).alloc (.cells #[.slice none 0 0,.slice none 0 0] 42)).alloc (.cells #[.int .i64 0,.int .i64 0,.int .i64 0,.int .i64 0,.int .i64 0,.int .i64 0] 3)).heap[w.heap.size + 1]? = some (.cells #[.slice none 0 0,.slice none 0 0] 42 (0,0)):=hg_alloc (hg_new (by simp))
 have G0 : (((w.alloc (.cells #[.slice fa 4 fcap,.slice (some ⟨b,o,none⟩) 6 dcap] 42)).alloc (.cells #[.slice none 0 0,.slice none 0 0] 42)).alloc (.cells #[.int .i64 0,.int .i64 0,.int .i64 0,.int .i64 0,.int .i64 0,.int .i64 0] 3)).heap[w.heap.size]? = some (.cells #[.slice fa 4 fcap,.slice (some ⟨b,o,none⟩) 6 dcap] 42 (0,0)):=hg_alloc (hg_alloc (hg_new rfl))
 have XW : Ext w (((w.alloc (.cells #[.slice fa 4 fcap,.slice (some ⟨b,o,none⟩) 6 dcap] 42)).alloc (.cells #[.slice none 0 0,.slice none 0 0] 42)).alloc (.cells #[.int .i64 0,.int .i64 0,.int .i64 0,.int .i64 0,.int .i64 0,.int .i64 0] 3)):=ext_alloc (ext_alloc (ext_alloc (ext_refl w) _) _) _
 have hsz : (((w.alloc (.cells #[.slice fa 4 fcap,.slice (some ⟨b,o,none⟩) 6 dcap] 42)).alloc (.cells #[.slice none 0 0,.slice none 0 0] 42)).alloc (.cells #[.int .i64 0,.int .i64 0,.int .i64 0,.int .i64 0,.int .i64 0,.int .i64 0] 3)).heap.size = w.heap.size + 3:=by simp
 obtain ⟨W0,hW0⟩ : ∃ W0,((w.alloc (.cells #[.slice fa 4 fcap,.slice (some ⟨b,o,none⟩) 6 dcap] 42)).alloc (.cells #[.slice none 0 0,.slice none 0 0] 42)).alloc (.cells #[.int .i64 0,.int .i64 0,.int .i64 0,.int .i64 0,.int .i64 0,.int .i64 0] 3) = W0:=⟨_,rfl⟩
 rw [hW0] at G0 G1 G2 XW hsz ⊢
 clear hW0
 have hO:=HF.out _ _ _ _ G2 rfl
 have X1:=ext_setAll XW (B:=w.heap.size + 1 + 1) (by omega) 0 cs
 have G0':=(setAll_other (w.heap.size + 1 + 1) (b:=w.heap.size) (by omega) cs W0 0).trans G0
 have G1':=(setAll_other (w.heap.size + 1 + 1) (b:=w.heap.size + 1) (by omega) cs W0 0).trans G1
 have hz1 : (setAll W0 (w.heap.size + 1 + 1) 0 cs).heap.size = w.heap.size + 3:=by rw [setAll_size,hsz]
 obtain ⟨W1,hW1⟩ : ∃ W1,setAll W0 (w.heap.size + 1 + 1) 0 cs = W1:=⟨_,rfl⟩
 rw [hW1] at hO X1 G0' G1' hz1 ⊢
 clear hW1
 have HO1:=Lib.hid hO
 have HZ1:=Lib.hid hz1
 clear G0 G1 G2 hO HF HFL HO XW hsz hz1
 obtain ⟨g0,gf0⟩:=cellsK G0'
 have l0:=heap_lt G0'
 go_wp2_with fail
 refine (hFC _ X1).mono ?_;rintro e2 w2 ⟨B,bs,c2,rfl,hx2,hO2,hn2,hb2⟩
 have X2:=ext_trans X1 hx2
 have HO2:=Lib.hid hO2
 have HN2:=Lib.hid hn2
 have HB2:=Lib.hid hb2
 replace G1':=keep_ext hx2 G1'
 have hO1:=HO1.out.ext hx2
 have HO1':=Lib.hid hO1
 clear hFC hO2 hn2 hb2 g0 gf0 l0 G0' hx2 hO1 HO1
 obtain ⟨g1,gf1⟩:=cellsK G1'
 have l1:=heap_lt G1'
 go_wp2_with fail
 refine bodyPost_ret (v:=.agg #[.slice (some ⟨B,0,none⟩) 4 c2,.slice (some ⟨w.heap.size + 1 + 1,0,none⟩) 6 6]) (by simp [results,Tryz.results121,go_sem,g1,gf1]) rfl ⟨_,_,B :: bs ++ [w.heap.size + 1 + 1],rfl,?_,⟨B,bs,w.heap.size + 1 + 1,rfl,?_,?_⟩,?_,?_⟩
 ·((repeat (first | with_reducible (refine ext_set2 ?_ ?_);focus (first | exact Nat.le_refl _ | (dsimp only;omega) | (simp;omega)) | with_reducible refine ext_alloc2 ?_));with_reducible exact X2)
 ·refine HO2.out.keep fun b hb=>?_
  have:=HB2.out b hb;have:=HZ1.out
  rw [setCell_other (by omega),setCell_other (by omega)]
 ·exact HO1'.out.keep (by rw [setCell_other (by omega),setCell_other (by omega)])
 ·rw [List.nodup_append]
  refine ⟨HN2.out,by simp,fun x hx y hy e=>?_⟩
  rw [List.mem_singleton] at hy
  have:=HB2.out x hx;have:=HZ1.out;omega
 ·intro b hb
  rcases List.mem_append.1 hb with hb | hb
  ·have:=HB2.out b hb;have:=HZ1.out;omega
  ·rw [List.mem_singleton] at hb;omega
end Go.Bu
namespace Go.Bu
open Go Go.RowKit Go.Plan Go.Proofs
section
variable {P : Program} {l : List Oper} {ch L : List Nat} {B0 : Nat} {S C : World → Prop} {iv : List (Nat × Nat)} {H : Nat} {a : Act} {fin : (World → Prop) → List (Nat × Nat) → Nat → Act → Prop}
end
theorem rowForm {base n m : Nat} {e : TypeId} {w : World} {v : Value} {xs : List Value} (h : w.ownsRow base e n v m xs) : ∃ a cap,v = .slice a m cap:=by
 rcases h.2 with ⟨rfl,h0⟩ | ⟨g,cap,cur,rfl,_⟩
 ·exact ⟨none,0,by rw [h0]⟩
 ·exact ⟨_,cap,rfl⟩
section
variable {P : Program} {l : List Oper} {ch L : List Nat} {B0 : Nat} {S : World → Prop} {iv : List (Nat × Nat)} {H : Nat} {a : Act} {fin : (World → Prop) → List (Nat × Nat) → Nat → Act → Prop}
 {w0 W : World} {base size n : Nat} {e : TypeId} {v : Value} {xs : List Value}
theorem Rob.appR {i : Nat} {o : Oper} {s x : Operand} {t : TypeId} {ob : Obj} {lo : Nat} (bytes : Nat) (cs : List Value) (m : Nat) (ho : l[i]? = some o) (hc : ch.contains i = true) (hg : Region.wanted o (yielded l.toArray a.tmps) = true)
  (hop : o.op = .call { callee:=.builtin .append,args:=#[s,x],argTypes:=#[t,t] }) (hs : a.eval s = v) (hx : a.eval x = .slice (some ⟨lo,0,none⟩) m m)
  (ht : P.underlying t = some (.slice e)) (hi : (P.info? e).bind (fun i=>i.zero.map fun z=>(z.cells.size,i.size,i.bytes)) = some (size,size,bytes)) (hsz : 0 < size)
  (hob : ob = .cells cs.toArray e (0,0)) (hcs : cs.length = m * size) (h1 : ∀ u ∈ cs,u.oneCell' = true) (h63 : n + m ≤ maxLen) (hbytes : (n + m) * bytes ≤ 140737488355328) (hbase : base ≤ B0) (hBH : W.heap.size ≤ H) (hW : w0.heap.size = base) (hown : W.ownsRow base e size v n xs) (hlo : W.heap.size ≤ lo) (hB : B0 = W.heap.size)
  (hSA : ∀ w,S w → SA w0 W base e size v n xs w) (hSl : ∀ w,S w → w.heap[lo]? = some ob)
  (hSk : ∀ w w',S w → SA w0 W base e size v n xs w' → (∀ b,W.heap.size ≤ b → b < w.heap.size → w'.heap[b]? = w.heap[b]?) → S w')
  (h : ∀ lo' hi' v',H ≤ lo' → (∃ w' : World,w'.ownsRow base e size v' (n + m) (xs ++ cs)) → Rob P l ch B0 fin L (fun w=>S w ∧ w.ownsRow base e size v' (n + m) (xs ++ cs)) (fun _=>True) (iv ++ [(lo',hi')]) hi' (a.put o.dst v')) :
  Rob P l ch B0 fin (i :: L) S (fun _=>True) iv H a:=by
 have hvl : ∀ k,v.ownBlock = some k → k < W.heap.size:=fun k hk=>(hown.lt k hk).2
 refine ⟨o,ho,.inr ⟨hc,hg,fun lo' hi' v' w1=>w1.ownsRow base e size v' (n + m) (xs ++ cs),fun _ _ _ _=>True,⟨fun lo' hi' v' w1 w2 h hx=>ownsRow_ext h hx,fun _ _ _ _ _ _ _=>trivial⟩,fun w1 hsw _ hw=>?_,fun lo' hi' v' hh1 hh2 ⟨_,hv,_⟩=>h lo' hi' v' hh1 ⟨_,hv⟩⟩⟩
 have hSA1:=hSA w1 hsw
 have hlo1:=hSl w1 hsw
 obtain ⟨inf,hi1,hi2⟩:=Option.bind_eq_some_iff.1 hi
 obtain ⟨z,hz,he⟩:=Option.map_eq_some_iff.1 hi2
 obtain ⟨hzs,he⟩:=Prod.mk.inj he
 obtain ⟨hsize,hby⟩:=Prod.mk.inj he
 subst hob
 have hnews : ∀ j u,cs[j]? = some u → w1.cell? ((⟨lo,0,none⟩ : Addr).add j) = some u:=fun j u hu=>by
  rw [Addr.add_mid,cell_block hlo1,Nat.zero_add];simpa using hu
 obtain ⟨v',w',hr,hown',hgr,_⟩:=run_append_own (P:=P) w1 base t o.type e inf z size bytes ht hi1 hz hsize hby hzs hsz v n xs hSA1.own ⟨lo,0,none⟩ m m cs hcs hnews h1 h63 hbytes (by have:=hSA1.siz;omega)
 subst hsize hby
 have hkeep:=app_keeps (P:=P) w1 base t o.type e inf z ht hi1 hz v n xs hSA1.own ⟨lo,0,none⟩ m m cs hcs hnews h1 h63 hbytes hr
 unfold RunTo execOp
 simp only [hop,resolve,invoke,builtin,Sem.run_bind,Sem.run_pure,Result.andThen_ok,List.map_toArray,List.map_cons,List.map_nil,hs,hx,hr]
 have hlb : ∀ b,b < w1.heap.size → some b ≠ v.ownBlock → w'.heap[b]? = w1.heap[b]?:=fun b hb hn=>hgr.block b hb hn
 have hSA2 : SA w0 W base e inf.size v n xs w':=by
  refine ⟨?_,Nat.le_trans hSA1.siz hgr.size,fun b hb hn=>?_,hkeep⟩
  ·have ho2:=hSA1.own
   rw [← hW] at ho2
   exact ext_grown hSA1.ext ho2 hgr
  ·rw [hlb b (Nat.lt_of_lt_of_le hb hSA1.siz) hn];exact hSA1.same b hb hn
 refine ⟨⟨hgr.size,fun b hb hbl _=>hlb b hbl fun e=>?_⟩,hSk w1 w' hsw hSA2 (fun b hb hbl=>hlb b hbl fun e=>?_),hown',trivial⟩
 ·have:=hvl b e.symm;omega
 ·have:=hvl b e.symm;omega
end
end Go.Bu
namespace Go.Bu
open Go Go.RowKit Go.Plan Go.Proofs
abbrev SC.f4 (c : SC) : Value:=c.F.v 4
abbrev SC.d6 (c : SC) : Value:=c.D.v 6
theorem StoreP.lens {s : Store} (h : StoreP s) : s.flash.length = newStore.flash.length ∧ s.disk.length = newStore.disk.length:=⟨flashOk_len h.flash,h.disk⟩
theorem OwnS.at4 {c : SC} {w : World} {s : Store} (h : OwnS c w s) (hp : StoreP s) : StoreV w c.f4 c.d6 s:=h.v (t:=newStore) hp.lens
end Go.Bu
namespace Go.Bu
open Go Go.RowKit Go.Plan Go.Proofs
structure Shape4 (s : Store) : Prop where
 flash : s.flash.length = 4
 pages : ∀ b ∈ s.flash,b.pages.length = 4
 disk : s.disk.length = 6
end Go.Bu
namespace Go.Bu
open Go Go.RowKit Go.Plan Go.Proofs
theorem storeOk_shape {s : Store} (h : storeOkB s = true) : Shape4 s:=
 ⟨flashOk_len (storeOk_flash h),fun b hb=>(flashOk_block (storeOk_flash h) hb).1,storeOk_disk h⟩
end Go.Bu
namespace Go.Bu
open Go Go.RowKit Go.Plan Go.Proofs
theorem StoreP.shape4 {s : Store} (h : StoreP s) : Shape4 s:=⟨flashOk_len h.flash,fun b hb=>(flashOk_block h.flash hb).1,h.disk⟩
theorem storeOk_P {s : Store} (h : storeOkB s = true) : StoreP s:=⟨storeOk_flash h,storeOk_disk h⟩
theorem OwnStore.at4 {w : World} {f d : Value} {s : Store} {L : List Nat} (h : OwnStore w f d s L) (hnd : L.Nodup) (hp : StoreP s) : ∃ c : SC,c.L = L ∧ f = c.f4 ∧ d = c.d6 ∧ OwnS c w s:=by
 obtain ⟨c,h1,h2,h3,h4⟩:=h.at_ hnd
 exact ⟨c,h1,by rw [h2];simp only [SC.fv,hp.lens.1];rfl,by rw [h3];simp only [SC.dv,hp.lens.2];rfl,h4⟩
end Go.Bu
namespace Go.Bu
open Go Go.RowKit Go.Plan Go.Proofs
set_option maxHeartbeats 1000000 in
theorem implSeqUsed_c (v : Value) (f : List Block) (n : Int) (w : World) (h : Flash (Old w) w v f) (hn : f.length ≤ 1048576) (hp : ∀ b ∈ f,b.pages.length ≤ 1048576) :
  Calls Tryz.prog 162 #[v,.int .i64 n] w (Ret w (.bool (seqUsed f n))):=by
 obtain ⟨a,cap,rfl⟩:=h.form
 obtain ⟨A,hA⟩ : ∃ A,seqUsed f n = A:=⟨_,rfl⟩
 rw [hA]
 unfold seqUsed at hA
 have HP:=Lib.hid hp;clear hp
 have HA:=Lib.hid hA;clear hA
 go_enter Tryz.func162,Tryz.ntmps162
 go_wp2
 go_loopw [11] (fun y wr=>∃ (i : Nat),i ≤ f.length ∧ y = .int .i64 i ∧ Ext w wr ∧ Hid ((f.drop i).any (fun b=>b.pages.any (isSeq n)) = A)) (fun y _=>f.length - (intOf y).toNat)
 case atStart=>exact ⟨0,by omega,rfl,ext_refl _,HA⟩
 case round =>
  obtain ⟨i,hi,rfl,hX,HR⟩:=hrel
  by_cases hlt : i < f.length
  ·obtain ⟨b,o,pv,rfl,hb,hpp,h0,h1⟩:=h.at2 hlt
   have hb' : b < w.heap.size:=hb
   obtain ⟨pa,pcap,rfl⟩:=hpp.form
   have hpl:=HP.out f[i] (List.getElem_mem _)
   rw [any_drop _ _ _ hlt] at HR
   obtain ⟨hc,hf⟩:=bcell hX
   have XB : Ext w (wr.alloc (.cells #[.slice pa f[i].pages.length pcap,.int .i64 f[i].worn] 104)):=ext_alloc hX _
   go_wp2
   clear hc hf h0 h1
   go_loopw [18] (fun y wr=>∃ (k : Nat),k ≤ f[i].pages.length ∧ y = .int .i64 k ∧ Ext w wr ∧ Hid (((f[i].pages.drop k).any (isSeq n) || (f.drop (i + 1)).any (fun b=>b.pages.any (isSeq n))) = A)) (fun y _=>f[i].pages.length - (intOf y).toNat)
   case atStart=>exact ⟨0,by omega,rfl,XB,HR⟩
   case round =>
    clear HR XB hX
    obtain ⟨k,hk,rfl,hX,HR⟩:=hrel
    by_cases hlk : k < f[i].pages.length
    ·obtain ⟨b2,o2,rfl,hb2,e0,e1,e2,e3,e4⟩:=hpp.at5 hlk
     have hb2' : b2 < w.heap.size:=hb2
     rw [any_drop _ _ _ hlk] at HR
     have hq : isSeq n f[i].pages[k] = (f[i].pages[k].state == 1 && f[i].pages[k].r.seq == n):=rfl
     have HQ:=Lib.hid hq;clear hq
     obtain ⟨hc,hf⟩:=bcell hX
     go_wp2
     all_goals try
      go_ret
      have hr:=HR.out
      try simp only [beq_iff_eq,Bool.not_eq_true,beq_eq_false_iff_ne,ne_eq,bne_iff_ne,bne_eq_false_iff_eq,decide_eq_true_eq,decide_eq_false_iff_not] at *
      rw [HQ.out,show (f[i].pages[k].state == 1 && f[i].pages[k].r.seq == n) = true from by simp [*]] at hr
      exact ⟨by rw [← hr];simp,ext_alloc hX _⟩
     all_goals
      have hr:=HR.out
      try simp only [beq_iff_eq,Bool.not_eq_true,beq_eq_false_iff_ne,ne_eq,bne_iff_ne,bne_eq_false_iff_eq,decide_eq_true_eq,decide_eq_false_iff_not] at *
      rw [HQ.out,show (f[i].pages[k].state == 1 && f[i].pages[k].r.seq == n) = false from by simp [*],Bool.false_or] at hr
      exact ⟨⟨k + 1,by omega,by go_num,ext_alloc hX _,Lib.hid hr⟩,by simp [intOf];omega⟩
    ·obtain rfl : k = f[i].pages.length:=by omega
     rw [List.drop_length,List.any_nil,Bool.false_or] at HR
     go_wp2
     exact ⟨⟨i + 1,by omega,by go_num,hX,HR⟩,by simp [intOf];omega⟩
  ·obtain rfl : i = f.length:=by omega
   rw [List.drop_length,List.any_nil] at HR
   have hr:=HR.out
   subst hr
   go_wp2
   go_ret
   exact ⟨rfl,hX⟩
theorem FlashAt.own {c : SC} {w : World} {f : List Block} (h : FlashAt c w f) : OwnFlash w (c.F.v f.length) f c.F.b (c.ps.map (·.b)):=by
 refine ⟨rowsOf f c.ps,⟨c.F.T,c.F.o,c.F.cap,?_,h.row⟩,rowsOf_len h.len,by simp [h.len],fun i x r b hx hr hb=>?_⟩
 ·show Value.slice _ _ _ = _;rw [rowsOf_len h.len]
 ·rw [List.getElem?_map] at hb
  obtain ⟨p,hp,rfl⟩:=Option.map_eq_some_iff.1 hb
  rw [rowsOf_get hx hp] at hr
  obtain rfl:=Option.some.inj hr
  exact ⟨rfl,p.T,p.o,p.cap,rfl,h.pages i x p hx hp⟩
theorem OwnFlash.at_ {w : World} {v : Value} {f : List Block} {B : Nat} {bs : List Nat} (h : OwnFlash w v f B bs) : ∃ c : SC,c.fl = B :: bs ∧ v = c.F.v f.length ∧ FlashAt c w f:=by
 obtain ⟨rows,⟨T,o,cap,rfl,hrow⟩,h2,h3,h4⟩:=h
 have hex : ∀ i : Fin bs.length,∃ p : At,p.b = bs[i] ∧ ∀ x r,f[i.1]? = some x → rows[i.1]? = some r → r = rowOf x p ∧ OwnAt 5 pageC p.T w p.b p.o x.pages:=by
  intro i
  have hi:=i.2
  have hif : i.1 < f.length:=by omega
  have hir : i.1 < rows.length:=by omega
  obtain ⟨h5,T',o',cap',hv,h6⟩:=h4 i.1 f[i.1] rows[i.1] bs[i.1] (List.getElem?_eq_getElem hif) (List.getElem?_eq_getElem hir) (List.getElem?_eq_getElem hi)
  refine ⟨⟨bs[i.1],o',cap',T'⟩,rfl,fun x r hx hr=>?_⟩
  rw [List.getElem?_eq_getElem hif] at hx;rw [List.getElem?_eq_getElem hir] at hr
  obtain rfl:=Option.some.inj hx;obtain rfl:=Option.some.inj hr
  exact ⟨Prod.ext hv h5,h6⟩
 obtain ⟨g,hg⟩:=Classical.axiomOfChoice hex
 have hps : (List.ofFn g).map (·.b) = bs:=by
  apply List.ext_getElem
  ·simp
  ·intro i h1 h2;simp;exact (hg ⟨i,by simpa using h1⟩).1
 refine ⟨⟨⟨B,o,cap,T⟩,List.ofFn g,⟨0,0,0,0⟩⟩,by simp [SC.fl,hps],?_,⟨?_,by simp;omega,fun i x p hx hp=>?_⟩⟩
 ·show Value.slice _ _ _ = _;rw [h2]
 ·have : rowsOf f (List.ofFn g) = rows:=by
   apply List.ext_getElem
   ·rw [rowsOf_len (by simp;omega)];omega
   ·intro i h1 h2'
    have hib : i < bs.length:=by omega
    have hif : i < f.length:=by omega
    have:=rowsOf_get (f:=f) (ps:=List.ofFn g) (List.getElem?_eq_getElem hif) (p:=g ⟨i,hib⟩) (by simp [hib])
    rw [List.getElem?_eq_getElem h1] at this
    rw [Option.some.inj this]
    exact ((hg ⟨i,hib⟩).2 f[i] rows[i] (List.getElem?_eq_getElem hif) (List.getElem?_eq_getElem h2')).1.symm
  rw [this];exact hrow
 ·have hip : i < bs.length:=by have:=(List.getElem?_eq_some_iff.1 hp).1;simpa using this
  have hpe : p = g ⟨i,hip⟩:=by
   have:=hp
   simp [hip] at this;exact this.symm
  subst hpe
  exact ((hg ⟨i,hip⟩).2 x rows[i] hx (List.getElem?_eq_getElem (by omega))).2
theorem nodup_set {α : Type} : ∀ (xs : List α) (i : Nat) (y : α),xs.Nodup → y ∉ xs → (xs.set i y).Nodup
 | [],_,_,h,_=>by simp
 | x :: xs,0,y,h,hy=>by
  rw [List.set_cons_zero,List.nodup_cons]
  exact ⟨fun hm=>hy (List.mem_cons_of_mem _ hm),(List.nodup_cons.1 h).2⟩
 | x :: xs,i + 1,y,h,hy=>by
  rw [List.set_cons_succ,List.nodup_cons]
  obtain ⟨h1,h2⟩:=List.nodup_cons.1 h
  refine ⟨fun hm=>?_,nodup_set xs i y h2 fun hm=>hy (List.mem_cons_of_mem _ hm)⟩
  rcases mem_set hm with hm | rfl
  ·exact h1 hm
  ·exact hy (by simp)
def FlashΦ (w : World) (b : Bool) (f : List Block) (e : Ending) (w' : World) : Prop:=∃ a cap B bs,e = .returned (.tuple #[.slice a 4 cap,.bool b]) ∧ Ext w w' ∧ OwnFlash w' (.slice a 4 cap) f B bs ∧ (B :: bs).Nodup ∧ ∀ x ∈ B :: bs,w.heap.size ≤ x
theorem FlashAt.renew {c : SC} {w w3 w4 : World} {f : List Block} (h : FlashAt c w f) (hnd : c.fl.Nodup) {i : Nat} (hi : i < f.length) {v4 : Value} {ps : List Page} {n : Int} {B1 : Nat} (hx : Ext w w3) (hB : w.heap.size ≤ B1) (hO : OwnPages w3 v4 ps B1)
  (h4 : w4 = setAll w3 c.F.b (c.F.o + i * 2) (rowC (v4,n))) : OwnFlash w4 (c.F.v f.length) (f.set i ⟨ps,n⟩) c.F.b ((c.ps.map (·.b)).set i B1) ∧ (c.F.b :: (c.ps.map (·.b)).set i B1).Nodup:=by
 subst h4
 have h3:=h.ext hx
 have hlt:=h.lt
 have hip : i < c.ps.length:=by rw [h.len];exact hi
 have hB1 : B1 ∉ c.fl:=fun hm=>by have:=hlt _ hm;omega
 have hbF : B1 ≠ c.F.b:=fun e=>hB1 (by rw [e];simp [SC.fl])
 refine ⟨⟨(rowsOf f c.ps).set i (v4,n),⟨c.F.T,c.F.o,c.F.cap,?_,OwnAt.set (n:=2) (enc:=rowC) (fun _=>rfl) (by omega) h3.row (by rw [rowsOf_len h.len];exact hi) (v4,n)⟩,by simp [rowsOf_len h.len],by simp [h.len],fun j x r b hx' hr hb=>?_⟩,?_⟩
 ·show Value.slice _ _ _ = _;rw [List.length_set,rowsOf_len h.len]
 ·by_cases hji : i = j
  ·subst hji
   rw [List.getElem?_set_self (by simpa using hi)] at hx'
   rw [List.getElem?_set_self (by rw [rowsOf_len h.len];exact hi)] at hr
   rw [List.getElem?_set_self (by simpa using hip)] at hb
   obtain rfl:=Option.some.inj hx';obtain rfl:=Option.some.inj hr;obtain rfl:=Option.some.inj hb
   exact ⟨rfl,hO.keep (setAll_other _ hbF _ _ _)⟩
  ·rw [List.getElem?_set_ne hji] at hx' hr hb
   rw [List.getElem?_map] at hb
   obtain ⟨p,hp,rfl⟩:=Option.map_eq_some_iff.1 hb
   rw [rowsOf_get hx' hp] at hr
   obtain rfl:=Option.some.inj hr
   exact ⟨rfl,p.T,p.o,p.cap,rfl,(h3.pages j x p hx' hp).keep (setAll_other _ (SC.F_ne hnd hp) _ _ _)⟩
 ·unfold SC.fl at hnd hB1
  obtain ⟨n1,n2⟩:=List.nodup_cons.1 hnd
  refine List.nodup_cons.2 ⟨fun hm=>?_,nodup_set _ _ _ n2 fun hm=>hB1 (List.mem_cons_of_mem _ hm)⟩
  rcases mem_set hm with hm | hm
  ·exact n1 hm
  ·exact hbF hm.symm
theorem CopyΦ.at_ {w w' : World} {f : List Block} {e : Ending} (h4 : f.length = 4) (h : CopyΦ w f e w') : ∃ c : SC,e = .returned (c.F.v 4) ∧ Ext w w' ∧ FlashAt c w' f ∧ c.fl.Nodup ∧ ∀ b ∈ c.fl,w.heap.size ≤ b:=by
 obtain ⟨B,bs,cap,rfl,hx,ho,hn,hb⟩:=h
 obtain ⟨c,h1,h2,h3⟩:=ho.at_
 exact ⟨c,by rw [h2,h4],hx,h3,by rw [h1];exact hn,by rw [h1];exact hb⟩
set_option maxRecDepth 20000 in
set_option maxHeartbeats 4000000 in
theorem implFlashWipe_c (v : Value) (f : List Block) (i : Nat) (torn : Bool) (w : World) (h : Flash (Old w) w v f) (hok : flashOkB f = true) (hi : i < 4) :
  Calls Tryz.prog 154 #[v,.int .i64 i,.bool torn] w (FlashΦ w (wipeOk f i) (wipeF f i torn)):=by
 have hps:=pages_short hok
 have hFO:=fun (w' : World) (hx : Ext w w')=>implFlashOk_c v f w' (h.ext hx) hps
 rw [hok] at hFO
 have hF:=flashOk_iff.1 hok
 have h4:=hF.len
 have hp4 : ∀ b ∈ f,b.pages.length = 4:=fun b hb=>(blockB_iff.1 (hF.blocks b hb)).1
 have hFC:=fun (w' : World) (hx : Ext w w')=>flashCopy_c v f w' (h.ext hx) h4 hp4
 have hil : i < f.length:=by omega
 have hwn:=(flashOk_block hok (List.getElem_mem hil)).2
 have hq : wipeF f i torn = if 200 ≤ f[i].worn then f else f.set i ⟨List.replicate 4 (blank (tornSt torn)),f[i].worn + 1⟩:=by unfold wipeF;rw [blockAt_get hil]
 have hq2 : wipeOk f i = !decide (200 ≤ f[i].worn):=by unfold wipeOk;rw [blockAt_get hil]
 have H4:=Lib.hid h4
 have hp4i:=hp4 f[i] (List.getElem_mem hil)
 obtain ⟨a,cap,rfl⟩:=h.form
 rw [h4] at h hFO hFC ⊢
 have hi4 : (i : Int) < 4:=by omega
 have hi0 : ¬ (i : Int) < 0:=by omega
 clear hF hok hps h4 hp4
 by_cases hw : f[i].worn = 200
 ·rw [hq,hq2,if_pos (by omega),decide_eq_true (by omega)]
  clear hq hq2
  rw [hw] at hwn
  go_enter Tryz.func154,Tryz.ntmps154
  go_wp2_with fail
  refine (hFO _ (ext_refl _)).mono ?_;rintro e1 w1 ⟨rfl,hx1⟩
  clear hFO
  go_wp2_with (go_at_call 151;refine (blockOk_c _ _).mono ?_;rw [inB_iff.2 (by omega)];rintro e w' ⟨rfl,rfl⟩)
  refine (hFC _ hx1).mono ?_;intro e2 w2 hcp
  obtain ⟨c,rfl,hx2,hA,hnd,hb⟩:=CopyΦ.at_ H4.out hcp
  have X2:=ext_trans hx1 hx2
  have hbs : ∀ b ∈ c.fl,w.heap.size ≤ b:=fun b hbm=>Nat.le_trans hx1.size (hb b hbm)
  have hip : i < c.ps.length:=by rw [hA.len];exact hil
  obtain ⟨p,hp⟩ : ∃ p,c.ps[i]? = some p:=⟨_,List.getElem?_eq_getElem hip⟩
  obtain ⟨t0,t1⟩:=hA.two hil hp
  have tf:=hA.row.frozen
  have lF:=hA.row.lt
  rw [hp4i] at t0
  clear hFC hcp hb hip
  rw [hw] at t1
  go_wp2_with fail
  refine bodyPost_ret (v:=.tuple #[c.F.v 4,.bool false]) (by simp [results,Tryz.results154,go_sem]) rfl ⟨_,_,c.F.b,c.ps.map (·.b),rfl,X2,?_,(by unfold SC.fl at hnd;exact hnd),(by unfold SC.fl at hbs;exact hbs)⟩
  have:=hA.own
  rwa [H4.out] at this
 ·rw [hq,hq2,if_neg (by omega),decide_eq_false (by omega)]
  clear hq hq2
  have hwb : (f[i].worn == 200) = false:=by rw [beq_eq_false_iff_ne];exact hw
  cases torn
  ·rw [show tornSt false = 0 from rfl]
   go_enter Tryz.func154,Tryz.ntmps154
   go_wp2_with fail
   refine (hFO _ (ext_refl _)).mono ?_;rintro e1 w1 ⟨rfl,hx1⟩
   clear hFO
   go_wp2_with (go_at_call 151;refine (blockOk_c _ _).mono ?_;rw [inB_iff.2 (by omega)];rintro e w' ⟨rfl,rfl⟩)
   refine (hFC _ hx1).mono ?_;intro e2 w2 hcp
   obtain ⟨c,rfl,hx2,hA,hnd,hb⟩:=CopyΦ.at_ H4.out hcp
   have X2:=ext_trans hx1 hx2
   have hbs : ∀ b ∈ c.fl,w.heap.size ≤ b:=fun b hbm=>Nat.le_trans hx1.size (hb b hbm)
   have hip : i < c.ps.length:=by rw [hA.len];exact hil
   obtain ⟨p,hp⟩ : ∃ p,c.ps[i]? = some p:=⟨_,List.getElem?_eq_getElem hip⟩
   obtain ⟨t0,t1⟩:=hA.two hil hp
   have tf:=hA.row.frozen
   have lF:=hA.row.lt
   rw [hp4i] at t0
   clear hFC hcp hb hip
   have hwn2:=hwn
   have HA:=Lib.hid hA
   clear hA hp
   have lF2 : c.F.b < w2.heap.size:=lF
   obtain ⟨wn,hwnd⟩ : ∃ wn,f[i].worn = wn:=⟨_,rfl⟩
   rw [hwnd] at t1 hwb hwn2
   have hw0 : 0 ≤ wn:=hwn2.1
   have hw1 : wn ≤ 200:=hwn2.2.1
   have hwrap : IntKind.i64.wrap (wn + 1) = wn + 1:=IntWalk.i64_in _ (by omega)
   clear hwn2
   go_wp2_with fail
   have HPG:=fun (w' : World)=>pagesOf_c (blank 0) w'
   dsimp only [blank,rec0] at HPG
   refine wp_region_ext [4] [0,1,2,3,5,6,7,8,9,10,4,11,12] [] [13] (by kernel_rfl) (by kernel_rfl) ?late ?_
   case late=>exact fun f hf=>absurd hf List.not_mem_nil
   iterate 6
    refine Rob.y (v:=?_) rfl rfl (fun w1 hx hH=>?_) ?_;rotate_left
    ·go_simp;first | done | rfl | exact (Bool.not_not _).symm
    simp only [Act.put,slA,slB,slC]
   refine Rob.y (v:=?_) rfl rfl (fun w1 hx hH=>?_) ?_;rotate_left
   ·(have hE : Ext _ w1:=(by first | exact hx | exact hx.1);obtain ⟨hcx,hfx⟩:=bcell hE);go_simp;first | done | rfl
   simp only [Act.put,slA,slB,slC]
   refine Rob.y (v:=?_) rfl rfl (fun w1 hx hH=>?_) ?_;rotate_left
   ·go_simp;first | done | rfl | exact (Bool.not_not _).symm
   simp only [Act.put,slA,slB,slC]
   refine Rob.y (v:=?_) rfl rfl (fun w1 hx hH=>?_) ?_;rotate_left
   ·(have hE : Ext _ w1:=(by first | exact hx | exact hx.1);obtain ⟨hcx,hfx⟩:=bcell hE);go_simp;first | done | rfl
   simp only [Act.put,slA,slB,slC]
   refine Rob.y (v:=?_) rfl rfl (fun w1 hx hH=>?_) ?_;rotate_left
   ·go_simp;first | done | rfl | exact (Bool.not_not _).symm
   simp only [Act.put,slA,slB,slC]
   refine Rob.c (fun lo hi v w'=>∃ B o cap,v = .slice (some ⟨B,o,none⟩) 4 (4 + cap) ∧ lo ≤ B ∧ B < hi ∧ OwnPages w' (.slice (some ⟨B,o,none⟩) 4 (4 + cap)) (List.replicate 4 (blank 0)) B) rfl rfl rfl (fun _ _=>ext_trans) (fun lo hi v w w' ⟨B,o,cp,e,h1,h2,h3⟩ hx=>⟨B,o,cp,e,h1,h2,h3.ext hx⟩) (fun w1 hx hH=>?_) (fun lo4 hi4 v4 hlo4 hhi4 hv4=>?_)
   ·unfold RunTo;go_simp;exact (HPG _).mono fun e w' ⟨v,B,he,hx',hB,hO⟩=>(by obtain ⟨T,o,cp,rfl,ha⟩:=hO;exact ⟨_,he,hx',B,o,cp,rfl,hB,ha.lt,T,o,cp,rfl,ha⟩)
   simp only [Act.put,slA,slB,slC]
   obtain ⟨_,b1,o1,cp1,rfl,hb1,hb2,_⟩:=hv4
   refine Rob.y (v:=?_) rfl rfl (fun w1 hx hH=>?_) ?_;rotate_left
   ·go_simp;first | done | rfl | exact (Bool.not_not _).symm
   simp only [Act.put,slA,slB,slC]
   refine Rob.y (v:=?_) rfl rfl (fun w1 hx hH=>?_) ?_;rotate_left
   ·(have hE : Ext _ w1:=(by first | exact hx | exact hx.1);obtain ⟨hcx,hfx⟩:=bcell hE);go_simp;first | done | rfl
   simp only [Act.put,slA,slB,slC]
   refine fin_tail (fun w3 hx3 _=>?_)
   simp only [dstOf,List.getElem?_cons_succ,List.getElem?_cons_zero,Option.bind_some,Act.put,slA,slB,slC,List.filterMap_cons,List.filterMap_nil]
   obtain ⟨hx3,B',o',cp',hB',-,-,hO1⟩:=hx3
   injection hB' with hB' _ hcp'
   injection hB' with hB'
   injection hB' with hB' hoo'
   subst hB';subst hoo'
   obtain rfl : cp1 = cp':=by omega
   have hth : w3.there c.F.b (c.F.o + i * 2) 2:=by
    intro j hj
    have h0:=cell_ext hx3 t0
    have h1:=cell_ext hx3 t1
    have hfr:=(frozen_ext hx3 lF2 (c.F.o + i * 2 + j)).trans (tf _)
    refine ⟨?_,hfr⟩
    match j,hj with
    | 0,_=>rw [Nat.add_zero,h0];rfl
    | 1,_=>rw [h1];rfl
   have hre:=fun w4 h4=>(HA.out.renew (w3:=w3) (w4:=w4) (v4:=.slice (some ⟨b1,o1,none⟩) 4 (4 + cp1)) (ps:=List.replicate 4 (blank 0)) (n:=wn + 1) hnd hil hx3 (Nat.le_trans hlo4 hb1) hO1 h4)
   rw [H4.out] at hre
   have hC:=setAll_chg (L:=[c.F.b]) (b:=c.F.b) (o:=c.F.o + i * 2) (Chg.of_ext hx3) (by simp) (rowC (.slice (some ⟨b1,o1,none⟩) 4 (4 + cp1),wn + 1))
   have HC:=Lib.hid hC
   have HRE:=Lib.hid hre
   clear hre hC t0 t1 tf lF hO1
   refine wpList_store_mid rfl 104 _ _ rfl c.F.b (c.F.o + i * 2) (rowC (.slice (some ⟨b1,o1,none⟩) 4 (4 + cp1),wn + 1)).toArray rfl rfl hth (by kernel_rfl) (by simp [Value.oneCell']) ?_
   change wpList _ _ _ _ _ (setAll w3 c.F.b (c.F.o + i * 2) (rowC (.slice (some ⟨b1,o1,none⟩) 4 (4 + cp1),wn + 1)))
   have hre:=HRE.out _ rfl
   have hC:=HC.out
   generalize setAll w3 c.F.b (c.F.o + i * 2) (rowC (.slice (some ⟨b1,o1,none⟩) 4 (4 + cp1),wn + 1)) = w4 at *
   refine wpList_nil ?_
   go_wp2_with fail
   have hFb : w.heap.size ≤ c.F.b:=hbs _ (by simp [SC.fl])
   refine bodyPost_ret (v:=.tuple #[c.F.v 4,.bool true]) (by simp [results,Tryz.results154,go_sem]) rfl ⟨_,_,c.F.b,(c.ps.map (·.b)).set i b1,rfl,hC.ext X2 (by simp;omega),?_,hre.2,?_⟩
   ·exact hre.1
   ·intro x hx
    rcases List.mem_cons.1 hx with rfl | hx
    ·exact hFb
    ·rcases mem_set hx with hx | rfl
     ·exact hbs _ (by unfold SC.fl;exact List.mem_cons_of_mem _ hx)
     ·have:=X2.size;omega
  ·rw [show tornSt true = 2 from rfl]
   go_enter Tryz.func154,Tryz.ntmps154
   go_wp2_with fail
   refine (hFO _ (ext_refl _)).mono ?_;rintro e1 w1 ⟨rfl,hx1⟩
   clear hFO
   go_wp2_with (go_at_call 151;refine (blockOk_c _ _).mono ?_;rw [inB_iff.2 (by omega)];rintro e w' ⟨rfl,rfl⟩)
   refine (hFC _ hx1).mono ?_;intro e2 w2 hcp
   obtain ⟨c,rfl,hx2,hA,hnd,hb⟩:=CopyΦ.at_ H4.out hcp
   have X2:=ext_trans hx1 hx2
   have hbs : ∀ b ∈ c.fl,w.heap.size ≤ b:=fun b hbm=>Nat.le_trans hx1.size (hb b hbm)
   have hip : i < c.ps.length:=by rw [hA.len];exact hil
   obtain ⟨p,hp⟩ : ∃ p,c.ps[i]? = some p:=⟨_,List.getElem?_eq_getElem hip⟩
   obtain ⟨t0,t1⟩:=hA.two hil hp
   have tf:=hA.row.frozen
   have lF:=hA.row.lt
   rw [hp4i] at t0
   clear hFC hcp hb hip
   have hwn2:=hwn
   have HA:=Lib.hid hA
   clear hA hp
   have lF2 : c.F.b < w2.heap.size:=lF
   obtain ⟨wn,hwnd⟩ : ∃ wn,f[i].worn = wn:=⟨_,rfl⟩
   rw [hwnd] at t1 hwb hwn2
   have hw0 : 0 ≤ wn:=hwn2.1
   have hw1 : wn ≤ 200:=hwn2.2.1
   have hwrap : IntKind.i64.wrap (wn + 1) = wn + 1:=IntWalk.i64_in _ (by omega)
   clear hwn2
   go_wp2_with fail
   have HPG:=fun (w' : World)=>pagesOf_c (blank 2) w'
   dsimp only [blank,rec0] at HPG
   refine wp_region_ext [4] [0,1,2,3,5,6,7,8,9,10,4,11,12] [] [13] (by kernel_rfl) (by kernel_rfl) ?late ?_
   case late=>exact fun f hf=>absurd hf List.not_mem_nil
   iterate 6
    refine Rob.y (v:=?_) rfl rfl (fun w1 hx hH=>?_) ?_;rotate_left
    ·go_simp;first | done | rfl | exact (Bool.not_not _).symm
    simp only [Act.put,slA,slB,slC]
   refine Rob.y (v:=?_) rfl rfl (fun w1 hx hH=>?_) ?_;rotate_left
   ·(have hE : Ext _ w1:=(by first | exact hx | exact hx.1);obtain ⟨hcx,hfx⟩:=bcell hE);go_simp;first | done | rfl
   simp only [Act.put,slA,slB,slC]
   refine Rob.y (v:=?_) rfl rfl (fun w1 hx hH=>?_) ?_;rotate_left
   ·go_simp;first | done | rfl | exact (Bool.not_not _).symm
   simp only [Act.put,slA,slB,slC]
   refine Rob.y (v:=?_) rfl rfl (fun w1 hx hH=>?_) ?_;rotate_left
   ·(have hE : Ext _ w1:=(by first | exact hx | exact hx.1);obtain ⟨hcx,hfx⟩:=bcell hE);go_simp;first | done | rfl
   simp only [Act.put,slA,slB,slC]
   refine Rob.y (v:=?_) rfl rfl (fun w1 hx hH=>?_) ?_;rotate_left
   ·go_simp;first | done | rfl | exact (Bool.not_not _).symm
   simp only [Act.put,slA,slB,slC]
   refine Rob.c (fun lo hi v w'=>∃ B o cap,v = .slice (some ⟨B,o,none⟩) 4 (4 + cap) ∧ lo ≤ B ∧ B < hi ∧ OwnPages w' (.slice (some ⟨B,o,none⟩) 4 (4 + cap)) (List.replicate 4 (blank 2)) B) rfl rfl rfl (fun _ _=>ext_trans) (fun lo hi v w w' ⟨B,o,cp,e,h1,h2,h3⟩ hx=>⟨B,o,cp,e,h1,h2,h3.ext hx⟩) (fun w1 hx hH=>?_) (fun lo4 hi4 v4 hlo4 hhi4 hv4=>?_)
   ·unfold RunTo;go_simp;exact (HPG _).mono fun e w' ⟨v,B,he,hx',hB,hO⟩=>(by obtain ⟨T,o,cp,rfl,ha⟩:=hO;exact ⟨_,he,hx',B,o,cp,rfl,hB,ha.lt,T,o,cp,rfl,ha⟩)
   simp only [Act.put,slA,slB,slC]
   obtain ⟨_,b1,o1,cp1,rfl,hb1,hb2,_⟩:=hv4
   refine Rob.y (v:=?_) rfl rfl (fun w1 hx hH=>?_) ?_;rotate_left
   ·go_simp;first | done | rfl | exact (Bool.not_not _).symm
   simp only [Act.put,slA,slB,slC]
   refine Rob.y (v:=?_) rfl rfl (fun w1 hx hH=>?_) ?_;rotate_left
   ·(have hE : Ext _ w1:=(by first | exact hx | exact hx.1);obtain ⟨hcx,hfx⟩:=bcell hE);go_simp;first | done | rfl
   simp only [Act.put,slA,slB,slC]
   refine fin_tail (fun w3 hx3 _=>?_)
   simp only [dstOf,List.getElem?_cons_succ,List.getElem?_cons_zero,Option.bind_some,Act.put,slA,slB,slC,List.filterMap_cons,List.filterMap_nil]
   obtain ⟨hx3,B',o',cp',hB',-,-,hO1⟩:=hx3
   injection hB' with hB' _ hcp'
   injection hB' with hB'
   injection hB' with hB' hoo'
   subst hB';subst hoo'
   obtain rfl : cp1 = cp':=by omega
   have hth : w3.there c.F.b (c.F.o + i * 2) 2:=by
    intro j hj
    have h0:=cell_ext hx3 t0
    have h1:=cell_ext hx3 t1
    have hfr:=(frozen_ext hx3 lF2 (c.F.o + i * 2 + j)).trans (tf _)
    refine ⟨?_,hfr⟩
    match j,hj with
    | 0,_=>rw [Nat.add_zero,h0];rfl
    | 1,_=>rw [h1];rfl
   have hre:=fun w4 h4=>(HA.out.renew (w3:=w3) (w4:=w4) (v4:=.slice (some ⟨b1,o1,none⟩) 4 (4 + cp1)) (ps:=List.replicate 4 (blank 2)) (n:=wn + 1) hnd hil hx3 (Nat.le_trans hlo4 hb1) hO1 h4)
   rw [H4.out] at hre
   have hC:=setAll_chg (L:=[c.F.b]) (b:=c.F.b) (o:=c.F.o + i * 2) (Chg.of_ext hx3) (by simp) (rowC (.slice (some ⟨b1,o1,none⟩) 4 (4 + cp1),wn + 1))
   have HC:=Lib.hid hC
   have HRE:=Lib.hid hre
   clear hre hC t0 t1 tf lF hO1
   refine wpList_store_mid rfl 104 _ _ rfl c.F.b (c.F.o + i * 2) (rowC (.slice (some ⟨b1,o1,none⟩) 4 (4 + cp1),wn + 1)).toArray rfl rfl hth (by kernel_rfl) (by simp [Value.oneCell']) ?_
   change wpList _ _ _ _ _ (setAll w3 c.F.b (c.F.o + i * 2) (rowC (.slice (some ⟨b1,o1,none⟩) 4 (4 + cp1),wn + 1)))
   have hre:=HRE.out _ rfl
   have hC:=HC.out
   generalize setAll w3 c.F.b (c.F.o + i * 2) (rowC (.slice (some ⟨b1,o1,none⟩) 4 (4 + cp1),wn + 1)) = w4 at *
   refine wpList_nil ?_
   go_wp2_with fail
   have hFb : w.heap.size ≤ c.F.b:=hbs _ (by simp [SC.fl])
   refine bodyPost_ret (v:=.tuple #[c.F.v 4,.bool true]) (by simp [results,Tryz.results154,go_sem]) rfl ⟨_,_,c.F.b,(c.ps.map (·.b)).set i b1,rfl,hC.ext X2 (by simp;omega),?_,hre.2,?_⟩
   ·exact hre.1
   ·intro x hx
    rcases List.mem_cons.1 hx with rfl | hx
    ·exact hFb
    ·rcases mem_set hx with hx | rfl
     ·exact hbs _ (by unfold SC.fl;exact List.mem_cons_of_mem _ hx)
     ·have:=X2.size;omega
set_option maxRecDepth 20000 in
set_option maxHeartbeats 4000000 in
theorem implFlashWrite_c (v : Value) (f : List Block) (i : Nat) (r : Rec) (torn : Bool) (w : World) (h : Flash (Old w) w v f) (hok : flashOkB f = true) (hi : i < 4) (hrec : recOkB r = true) :
  Calls Tryz.prog 156 #[v,.int .i64 i,recA r,.bool torn] w (FlashΦ w (writeOk f i r) (writeF f i r torn)):=by
 have hps:=pages_short hok
 have hFO:=fun (w' : World) (hx : Ext w w')=>implFlashOk_c v f w' (h.ext hx) hps
 rw [hok] at hFO
 have hRO:=fun (w' : World)=>implRecOk_c r w'
 rw [hrec] at hRO
 have hF:=flashOk_iff.1 hok
 have h4:=hF.len
 have hp4 : ∀ b ∈ f,b.pages.length = 4:=fun b hb=>(blockB_iff.1 (hF.blocks b hb)).1
 have hFC:=fun (w' : World) (hx : Ext w w')=>flashCopy_c v f w' (h.ext hx) h4 hp4
 have hil : i < f.length:=by omega
 have hq : writeF f i r torn = if writeOk f i r then f.set i ⟨f[i].pages.set (4 - (cleanN f[i].pages).toNat) (pageW r torn),f[i].worn⟩ else f:=by unfold writeF;rw [blockAt_get hil]
 have hq2 : writeOk f i r = !(decide (cleanN f[i].pages = 0) || seqUsed f r.seq):=by unfold writeOk;rw [blockAt_get hil]
 have hcb:=(blockB_free (hF.blocks _ (List.getElem_mem hil))).2.2
 have H4:=Lib.hid h4
 have HPS:=Lib.hid hps
 have hp4i:=hp4 f[i] (List.getElem_mem hil)
 obtain ⟨m,hm⟩ : ∃ m : Nat,cleanN f[i].pages = m:=⟨(cleanN f[i].pages).toNat,by omega⟩
 have hm4 : m ≤ 4:=by omega
 have HM:=Lib.hid hm
 rw [hm] at hq hq2
 have hfp:=fun (c : SC) (p : At) (w' : World) (hA : FlashAt c w' f) (hp : c.ps[i]? = some p)=>freePages_c (p.v 4) f[i].pages f[i].worn w' (by
  have h1:=(hA.pages i f[i] p (List.getElem?_eq_getElem hil) hp)
  have h2:=h1.of (D:=Old w') h1.lt (4 + p.cap)
  rwa [hp4i] at h2) (by omega)
 rw [hm] at hfp
 have hsq:=fun (c : SC) (w' : World) (hA : FlashAt c w' f)=>implSeqUsed_c (c.F.v f.length) f r.seq w' hA.flash (by omega) hps
 rw [h4] at hsq
 obtain ⟨su,hsu⟩ : ∃ su,seqUsed f r.seq = su:=⟨_,rfl⟩
 rw [hsu] at hsq hq2
 obtain ⟨a,cap,rfl⟩:=h.form
 rw [h4] at h hFO hFC ⊢
 have hi4 : (i : Int) < 4:=by omega
 have hi0 : ¬ (i : Int) < 0:=by omega
 have HQ:=Lib.hid hq
 have HQ2:=Lib.hid hq2
 have HFP:=Lib.hid hfp
 have HSQ:=Lib.hid hsq
 obtain ⟨rk,rs,ra,rv⟩:=r
 dsimp only [recA] at hRO ⊢
 clear hF hok hps h4 hp4 hq hq2 hcb hm hsu hfp hsq hrec
 by_cases hm0 : m = 0
 ·subst hm0
  have hw0 : writeOk f i ⟨rk,rs,ra,rv⟩ = false:=by rw [HQ2.out];simp
  rw [HQ.out,hw0,if_neg (by simp)]
  go_enter Tryz.func156,Tryz.ntmps156
  go_wp2_with fail
  refine (hFO _ (ext_alloc (ext_refl _) _)).mono ?_;rintro e1 w1 ⟨rfl,hx1⟩
  have X1:=ext_trans (ext_alloc (ext_refl w) _) hx1
  have G6:=keep_ext hx1 (hg_new (b:=w.heap.size) rfl)
  obtain ⟨g6,gf6⟩:=cellsK G6
  clear hFO hx1
  go_wp2_with (go_at_call 151;refine (blockOk_c _ _).mono ?_;rw [inB_iff.2 (by omega)];rintro e w' ⟨rfl,rfl⟩)
  refine (hRO _).mono ?_;rintro e2 w2 ⟨rfl,hx2⟩
  have X2:=ext_trans X1 hx2
  replace G6:=keep_ext hx2 G6
  clear hRO hx2 X1 g6 gf6
  go_wp2_with fail
  refine (hFC _ X2).mono ?_;intro e3 w3 hcp
  obtain ⟨c,rfl,hx3,hA,hnd,hb⟩:=CopyΦ.at_ H4.out hcp
  have X3:=ext_trans X2 hx3
  replace G6:=keep_ext hx3 G6
  have hbs : Hid (∀ b ∈ c.fl,w.heap.size ≤ b):=Lib.hid fun b hbm=>Nat.le_trans X2.size (hb b hbm)
  have hip : i < c.ps.length:=by rw [hA.len];exact hil
  obtain ⟨p,hp⟩ : ∃ p,c.ps[i]? = some p:=⟨_,List.getElem?_eq_getElem hip⟩
  obtain ⟨t0,t1⟩:=hA.two hil hp
  have tf:=hA.row.frozen
  have lF:=hA.row.lt
  rw [hp4i] at t0
  have HA:=Lib.hid hA
  have HP:=Lib.hid hp
  clear hFC hcp hb hip hx3 hA hp
  go_wp2_with fail
  refine (HFP.out c p _ HA.out HP.out).mono ?_;rintro e4 w4 ⟨rfl,hx4⟩
  have X4:=ext_trans X3 hx4
  replace G6:=keep_ext hx4 G6
  have HA4:=Lib.hid (HA.out.ext hx4)
  obtain ⟨g6,gf6⟩:=cellsK G6
  have l6:=heap_lt G6
  clear t0 t1 tf lF HA hx4
  go_wp2_with fail
  refine bodyPost_ret (v:=.tuple #[c.F.v 4,.bool false]) (by simp [results,Tryz.results156,go_sem]) rfl ⟨_,_,c.F.b,c.ps.map (·.b),rfl,X4,?_,(by unfold SC.fl at hnd;exact hnd),(by have:=hbs.out;unfold SC.fl at this;exact this)⟩
  have:=HA4.out.own
  rwa [H4.out] at this
 ·have hmf : (((m : Nat) : Int) == 0) = false:=by simp;omega
  cases su with
  | true =>
   have hw0 : writeOk f i ⟨rk,rs,ra,rv⟩ = false:=by rw [HQ2.out];simp
   rw [HQ.out,hw0,if_neg (by simp)]
   go_enter Tryz.func156,Tryz.ntmps156
   go_wp2_with fail
   refine (hFO _ (ext_alloc (ext_refl _) _)).mono ?_;rintro e1 w1 ⟨rfl,hx1⟩
   have X1:=ext_trans (ext_alloc (ext_refl w) _) hx1
   have G6:=keep_ext hx1 (hg_new (b:=w.heap.size) rfl)
   obtain ⟨g6,gf6⟩:=cellsK G6
   clear hFO hx1
   go_wp2_with (go_at_call 151;refine (blockOk_c _ _).mono ?_;rw [inB_iff.2 (by omega)];rintro e w' ⟨rfl,rfl⟩)
   refine (hRO _).mono ?_;rintro e2 w2 ⟨rfl,hx2⟩
   have X2:=ext_trans X1 hx2
   replace G6:=keep_ext hx2 G6
   clear hRO hx2 X1 g6 gf6
   go_wp2_with fail
   refine (hFC _ X2).mono ?_;intro e3 w3 hcp
   obtain ⟨c,rfl,hx3,hA,hnd,hb⟩:=CopyΦ.at_ H4.out hcp
   have X3:=ext_trans X2 hx3
   replace G6:=keep_ext hx3 G6
   have hbs : Hid (∀ b ∈ c.fl,w.heap.size ≤ b):=Lib.hid fun b hbm=>Nat.le_trans X2.size (hb b hbm)
   have hip : i < c.ps.length:=by rw [hA.len];exact hil
   obtain ⟨p,hp⟩ : ∃ p,c.ps[i]? = some p:=⟨_,List.getElem?_eq_getElem hip⟩
   obtain ⟨t0,t1⟩:=hA.two hil hp
   have tf:=hA.row.frozen
   have lF:=hA.row.lt
   rw [hp4i] at t0
   have HA:=Lib.hid hA
   have HP:=Lib.hid hp
   clear hFC hcp hb hip hx3 hA hp
   go_wp2_with fail
   refine (HFP.out c p _ HA.out HP.out).mono ?_;rintro e4 w4 ⟨rfl,hx4⟩
   have X4:=ext_trans X3 hx4
   replace G6:=keep_ext hx4 G6
   have HA4:=Lib.hid (HA.out.ext hx4)
   obtain ⟨g6,gf6⟩:=cellsK G6
   have l6:=heap_lt G6
   clear t0 t1 tf lF HA hx4
   go_wp2_with fail
   refine (HSQ.out c _ HA4.out).mono ?_;rintro e5 w5 ⟨rfl,hx5⟩
   go_wp2_with fail
   refine bodyPost_ret (v:=.tuple #[c.F.v 4,.bool false]) (by simp [results,Tryz.results156,go_sem]) rfl ⟨_,_,c.F.b,c.ps.map (·.b),rfl,ext_trans X4 hx5,?_,(by unfold SC.fl at hnd;exact hnd),(by have:=hbs.out;unfold SC.fl at this;exact this)⟩
   have:=(HA4.out.ext hx5).own
   rwa [H4.out] at this
  | false =>
   have hw0 : writeOk f i ⟨rk,rs,ra,rv⟩ = true:=by rw [HQ2.out];simp;omega
   rw [HQ.out,hw0,if_pos rfl,Int.toNat_natCast]
   have hkl : 4 - m < f[i].pages.length:=by omega
   have hk4 : ((4 : Int) - (m : Int)) = ((4 - m : Nat) : Int):=by omega
   generalize 4 - m = k at *
   have HK4:=Lib.hid hk4
   have hkw : IntKind.i64.wrap ((4 : Int) - (m : Int)) = (k : Int):=by rw [HK4.out];exact IntWalk.i64_in _ (by omega)
   have hk5 : (k : Int) < 4:=by omega
   have HKW:=Lib.hid hkw
   clear hk4 hkw hw0
   cases torn
   ·go_enter Tryz.func156,Tryz.ntmps156
    go_wp2_with fail
    refine (hFO _ (ext_alloc (ext_refl _) _)).mono ?_;rintro e1 w1 ⟨rfl,hx1⟩
    have X1:=ext_trans (ext_alloc (ext_refl w) _) hx1
    have G6:=keep_ext hx1 (hg_new (b:=w.heap.size) rfl)
    obtain ⟨g6,gf6⟩:=cellsK G6
    clear hFO hx1
    go_wp2_with (go_at_call 151;refine (blockOk_c _ _).mono ?_;rw [inB_iff.2 (by omega)];rintro e w' ⟨rfl,rfl⟩)
    refine (hRO _).mono ?_;rintro e2 w2 ⟨rfl,hx2⟩
    have X2:=ext_trans X1 hx2
    replace G6:=keep_ext hx2 G6
    clear hRO hx2 X1 g6 gf6
    go_wp2_with fail
    refine (hFC _ X2).mono ?_;intro e3 w3 hcp
    obtain ⟨c,rfl,hx3,hA,hnd,hb⟩:=CopyΦ.at_ H4.out hcp
    have X3:=ext_trans X2 hx3
    replace G6:=keep_ext hx3 G6
    have hbs : Hid (∀ b ∈ c.fl,w.heap.size ≤ b):=Lib.hid fun b hbm=>Nat.le_trans X2.size (hb b hbm)
    have hip : i < c.ps.length:=by rw [hA.len];exact hil
    obtain ⟨p,hp⟩ : ∃ p,c.ps[i]? = some p:=⟨_,List.getElem?_eq_getElem hip⟩
    obtain ⟨t0,t1⟩:=hA.two hil hp
    have tf:=hA.row.frozen
    have lF:=hA.row.lt
    rw [hp4i] at t0
    have HA:=Lib.hid hA
    have HP:=Lib.hid hp
    clear hFC hcp hb hip hx3 hA hp
    go_wp2_with fail
    refine (HFP.out c p _ HA.out HP.out).mono ?_;rintro e4 w4 ⟨rfl,hx4⟩
    have X4:=ext_trans X3 hx4
    replace G6:=keep_ext hx4 G6
    have HA4:=Lib.hid (HA.out.ext hx4)
    obtain ⟨g6,gf6⟩:=cellsK G6
    have l6:=heap_lt G6
    clear t0 t1 tf lF HA hx4
    go_wp2_with fail
    refine (HSQ.out c _ HA4.out).mono ?_;rintro e5 w5 ⟨rfl,hx5⟩
    have X5:=ext_trans X4 hx5
    replace G6:=keep_ext hx5 G6
    clear g6 gf6
    obtain ⟨g6,gf6⟩:=cellsK G6
    have l5:=heap_lt G6
    have HA5:=Lib.hid (HA4.out.ext hx5)
    obtain ⟨t0,t1⟩:=HA5.out.two hil HP.out
    have tf:=HA5.out.row.frozen
    have lF:=HA5.out.row.lt
    rw [hp4i] at t0
    clear HA4 hx5
    have hkw:=HKW.out
    go_wp2_with fail
    have XP : Ext w5 (w5.alloc (.cells #[.int .i64 1,.int .i64 rk,.int .i64 rs,.int .i64 ra,.int .i64 rv] 102)):=ext_alloc (ext_refl _) _
    have GP : (w5.alloc (.cells #[.int .i64 1,.int .i64 rk,.int .i64 rs,.int .i64 ra,.int .i64 rv] 102)).heap[w5.heap.size]? = some (.cells #[.int .i64 1,.int .i64 rk,.int .i64 rs,.int .i64 ra,.int .i64 rv] 102 (0,0)):=hg_new rfl
    have HD0:=fun (w' : World) (hx : Ext w5 w')=>cell_ext hx t0
    have HDF:=fun (w' : World) (hx : Ext w5 w') (j : Nat)=>(frozen_ext hx lF j).trans (tf j)
    clear t0 t1 g6 gf6
    refine wp_region_ext [] [0,1,2,3,4,5,6,7,8] [] [9] (by kernel_rfl) (by kernel_rfl) ?late ?_
    case late=>exact fun f hf=>absurd hf List.not_mem_nil
    iterate 2
     refine Rob.y (v:=?_) rfl rfl (fun w1 hx hH=>?_) ?_;rotate_left
     ·go_simp;first | done | rfl | exact (Bool.not_not _).symm
     simp only [Act.put,slA,slB,slC]
    refine Rob.y (v:=?_) rfl rfl (fun w1 hx hH=>?_) ?_;rotate_left
    ·(obtain ⟨gq,gqf⟩:=cellsK (keep_ext hx GP);have d0:=HD0 _ (ext_trans XP hx);have df:=HDF _ (ext_trans XP hx));go_simp;first | done | rfl
    simp only [Act.put,slA,slB,slC]
    refine Rob.y (v:=?_) rfl rfl (fun w1 hx hH=>?_) ?_;rotate_left
    ·go_simp;first | done | rfl | exact (Bool.not_not _).symm
    simp only [Act.put,slA,slB,slC]
    refine Rob.y (v:=?_) rfl rfl (fun w1 hx hH=>?_) ?_;rotate_left
    ·(obtain ⟨gq,gqf⟩:=cellsK (keep_ext hx GP);have d0:=HD0 _ (ext_trans XP hx);have df:=HDF _ (ext_trans XP hx));go_simp;first | done | rfl
    simp only [Act.put,slA,slB,slC]
    iterate 2
     refine Rob.y (v:=?_) rfl rfl (fun w1 hx hH=>?_) ?_;rotate_left
     ·go_simp;first | done | rfl | exact (Bool.not_not _).symm
     simp only [Act.put,slA,slB,slC]
    iterate 2
     refine Rob.y (v:=?_) rfl rfl (fun w1 hx hH=>?_) ?_;rotate_left
     ·(obtain ⟨gq,gqf⟩:=cellsK (keep_ext hx GP);have d0:=HD0 _ (ext_trans XP hx);have df:=HDF _ (ext_trans XP hx));go_simp;first | done | rfl
     simp only [Act.put,slA,slB,slC]
    refine fin_tail (fun w7 hx7 _=>?_)
    simp only [dstOf,List.getElem?_cons_succ,List.getElem?_cons_zero,Option.bind_some,Act.put,slA,slB,slC,List.filterMap_cons,List.filterMap_nil]
    have hX7 : Ext w5 w7:=ext_trans XP hx7
    have X7:=ext_trans X5 hX7
    have h7:=HA5.out.ext hX7
    have hth:=h7.there (List.getElem?_eq_getElem hil) HP.out hkl
    have hF:=h7.page' hnd (List.getElem?_eq_getElem hil) HP.out hkl (pageW ⟨rk,rs,ra,rv⟩ false)
    have hpl : p.b ∈ c.fl:=List.mem_cons_of_mem _ (List.mem_map.2 ⟨p,List.mem_of_getElem? HP.out,rfl⟩)
    have hC:=setAll_chg (o:=p.o + k * 5) (Chg.of_ext hX7) hpl (pageC (pageW ⟨rk,rs,ra,rv⟩ false))
    have HF:=Lib.hid hF;have HC3:=Lib.hid hC;clear hF hC h7 HD0 HDF
    refine wpList_store_mid rfl 102 _ _ rfl p.b (p.o + k * 5) (pageC (pageW ⟨rk,rs,ra,rv⟩ false)).toArray rfl rfl hth (by kernel_rfl) (by simp [Value.oneCell',pageW]) ?_
    change wpList _ _ _ _ _ (setAll w7 p.b (p.o + k * 5) (pageC (pageW ⟨rk,rs,ra,rv⟩ false)))
    have hC:=HC3.out
    have hF:=HF.out
    generalize setAll w7 p.b (p.o + k * 5) (pageC (pageW ⟨rk,rs,ra,rv⟩ false)) = w8 at *
    refine wpList_nil ?_
    go_wp2_with fail
    have hXE : Ext w w8:=(hC.ext X5 fun b hb=>hbs.out b hb)
    refine bodyPost_ret (v:=.tuple #[c.F.v 4,.bool true]) (by simp [results,Tryz.results156,go_sem]) rfl ⟨_,_,c.F.b,c.ps.map (·.b),rfl,hXE,?_,(by unfold SC.fl at hnd;exact hnd),(by have:=hbs.out;unfold SC.fl at this;exact this)⟩
    have:=hF.own
    rw [List.length_set,H4.out] at this
    exact this
   ·go_enter Tryz.func156,Tryz.ntmps156
    go_wp2_with fail
    refine (hFO _ (ext_alloc (ext_refl _) _)).mono ?_;rintro e1 w1 ⟨rfl,hx1⟩
    have X1:=ext_trans (ext_alloc (ext_refl w) _) hx1
    have G6:=keep_ext hx1 (hg_new (b:=w.heap.size) rfl)
    obtain ⟨g6,gf6⟩:=cellsK G6
    clear hFO hx1
    go_wp2_with (go_at_call 151;refine (blockOk_c _ _).mono ?_;rw [inB_iff.2 (by omega)];rintro e w' ⟨rfl,rfl⟩)
    refine (hRO _).mono ?_;rintro e2 w2 ⟨rfl,hx2⟩
    have X2:=ext_trans X1 hx2
    replace G6:=keep_ext hx2 G6
    clear hRO hx2 X1 g6 gf6
    go_wp2_with fail
    refine (hFC _ X2).mono ?_;intro e3 w3 hcp
    obtain ⟨c,rfl,hx3,hA,hnd,hb⟩:=CopyΦ.at_ H4.out hcp
    have X3:=ext_trans X2 hx3
    replace G6:=keep_ext hx3 G6
    have hbs : Hid (∀ b ∈ c.fl,w.heap.size ≤ b):=Lib.hid fun b hbm=>Nat.le_trans X2.size (hb b hbm)
    have hip : i < c.ps.length:=by rw [hA.len];exact hil
    obtain ⟨p,hp⟩ : ∃ p,c.ps[i]? = some p:=⟨_,List.getElem?_eq_getElem hip⟩
    obtain ⟨t0,t1⟩:=hA.two hil hp
    have tf:=hA.row.frozen
    have lF:=hA.row.lt
    rw [hp4i] at t0
    have HA:=Lib.hid hA
    have HP:=Lib.hid hp
    clear hFC hcp hb hip hx3 hA hp
    go_wp2_with fail
    refine (HFP.out c p _ HA.out HP.out).mono ?_;rintro e4 w4 ⟨rfl,hx4⟩
    have X4:=ext_trans X3 hx4
    replace G6:=keep_ext hx4 G6
    have HA4:=Lib.hid (HA.out.ext hx4)
    obtain ⟨g6,gf6⟩:=cellsK G6
    have l6:=heap_lt G6
    clear t0 t1 tf lF HA hx4
    go_wp2_with fail
    refine (HSQ.out c _ HA4.out).mono ?_;rintro e5 w5 ⟨rfl,hx5⟩
    have X5:=ext_trans X4 hx5
    replace G6:=keep_ext hx5 G6
    clear g6 gf6
    obtain ⟨g6,gf6⟩:=cellsK G6
    have l5:=heap_lt G6
    have HA5:=Lib.hid (HA4.out.ext hx5)
    obtain ⟨t0,t1⟩:=HA5.out.two hil HP.out
    have tf:=HA5.out.row.frozen
    have lF:=HA5.out.row.lt
    rw [hp4i] at t0
    clear HA4 hx5
    have hkw:=HKW.out
    go_wp2_with fail
    have XP : Ext w5 (w5.alloc (.cells #[.int .i64 2,.int .i64 0,.int .i64 0,.int .i64 0,.int .i64 0] 102)):=ext_alloc (ext_refl _) _
    have GP : (w5.alloc (.cells #[.int .i64 2,.int .i64 0,.int .i64 0,.int .i64 0,.int .i64 0] 102)).heap[w5.heap.size]? = some (.cells #[.int .i64 2,.int .i64 0,.int .i64 0,.int .i64 0,.int .i64 0] 102 (0,0)):=hg_new rfl
    have HD0:=fun (w' : World) (hx : Ext w5 w')=>cell_ext hx t0
    have HDF:=fun (w' : World) (hx : Ext w5 w') (j : Nat)=>(frozen_ext hx lF j).trans (tf j)
    clear t0 t1 g6 gf6
    refine wp_region_ext [] [0,1,2,3,4,5,6,7,8] [] [9] (by kernel_rfl) (by kernel_rfl) ?late ?_
    case late=>exact fun f hf=>absurd hf List.not_mem_nil
    iterate 2
     refine Rob.y (v:=?_) rfl rfl (fun w1 hx hH=>?_) ?_;rotate_left
     ·go_simp;first | done | rfl | exact (Bool.not_not _).symm
     simp only [Act.put,slA,slB,slC]
    refine Rob.y (v:=?_) rfl rfl (fun w1 hx hH=>?_) ?_;rotate_left
    ·(obtain ⟨gq,gqf⟩:=cellsK (keep_ext hx GP);have d0:=HD0 _ (ext_trans XP hx);have df:=HDF _ (ext_trans XP hx));go_simp;first | done | rfl
    simp only [Act.put,slA,slB,slC]
    refine Rob.y (v:=?_) rfl rfl (fun w1 hx hH=>?_) ?_;rotate_left
    ·go_simp;first | done | rfl | exact (Bool.not_not _).symm
    simp only [Act.put,slA,slB,slC]
    refine Rob.y (v:=?_) rfl rfl (fun w1 hx hH=>?_) ?_;rotate_left
    ·(obtain ⟨gq,gqf⟩:=cellsK (keep_ext hx GP);have d0:=HD0 _ (ext_trans XP hx);have df:=HDF _ (ext_trans XP hx));go_simp;first | done | rfl
    simp only [Act.put,slA,slB,slC]
    iterate 2
     refine Rob.y (v:=?_) rfl rfl (fun w1 hx hH=>?_) ?_;rotate_left
     ·go_simp;first | done | rfl | exact (Bool.not_not _).symm
     simp only [Act.put,slA,slB,slC]
    iterate 2
     refine Rob.y (v:=?_) rfl rfl (fun w1 hx hH=>?_) ?_;rotate_left
     ·(obtain ⟨gq,gqf⟩:=cellsK (keep_ext hx GP);have d0:=HD0 _ (ext_trans XP hx);have df:=HDF _ (ext_trans XP hx));go_simp;first | done | rfl
     simp only [Act.put,slA,slB,slC]
    refine fin_tail (fun w7 hx7 _=>?_)
    simp only [dstOf,List.getElem?_cons_succ,List.getElem?_cons_zero,Option.bind_some,Act.put,slA,slB,slC,List.filterMap_cons,List.filterMap_nil]
    have hX7 : Ext w5 w7:=ext_trans XP hx7
    have X7:=ext_trans X5 hX7
    have h7:=HA5.out.ext hX7
    have hth:=h7.there (List.getElem?_eq_getElem hil) HP.out hkl
    have hF:=h7.page' hnd (List.getElem?_eq_getElem hil) HP.out hkl (pageW ⟨rk,rs,ra,rv⟩ true)
    have hpl : p.b ∈ c.fl:=List.mem_cons_of_mem _ (List.mem_map.2 ⟨p,List.mem_of_getElem? HP.out,rfl⟩)
    have hC:=setAll_chg (o:=p.o + k * 5) (Chg.of_ext hX7) hpl (pageC (pageW ⟨rk,rs,ra,rv⟩ true))
    have HF:=Lib.hid hF;have HC3:=Lib.hid hC;clear hF hC h7 HD0 HDF
    refine wpList_store_mid rfl 102 _ _ rfl p.b (p.o + k * 5) (pageC (pageW ⟨rk,rs,ra,rv⟩ true)).toArray rfl rfl hth (by kernel_rfl) (by simp [Value.oneCell',pageW]) ?_
    change wpList _ _ _ _ _ (setAll w7 p.b (p.o + k * 5) (pageC (pageW ⟨rk,rs,ra,rv⟩ true)))
    have hC:=HC3.out
    have hF:=HF.out
    generalize setAll w7 p.b (p.o + k * 5) (pageC (pageW ⟨rk,rs,ra,rv⟩ true)) = w8 at *
    refine wpList_nil ?_
    go_wp2_with fail
    have hXE : Ext w w8:=(hC.ext X5 fun b hb=>hbs.out b hb)
    refine bodyPost_ret (v:=.tuple #[c.F.v 4,.bool true]) (by simp [results,Tryz.results156,go_sem]) rfl ⟨_,_,c.F.b,c.ps.map (·.b),rfl,hXE,?_,(by unfold SC.fl at hnd;exact hnd),(by have:=hbs.out;unfold SC.fl at this;exact this)⟩
    have:=hF.own
    rw [List.length_set,H4.out] at this
    exact this
end Go.Bu
namespace Go.Bu
open Go Go.RowKit Go.Plan Go.Proofs
inductive StepV : Step → Prop
 | disk (a v : Int) (ha : 1 ≤ a ∧ a ≤ 6) (hv : 0 ≤ v ∧ v ≤ 9) : StepV ⟨1,a,v,0,rec0⟩
 | wipe (i : Nat) (hi : i < 4) : StepV ⟨2,0,0,(i : Int),rec0⟩
 | write (i : Nat) (hi : i < 4) (r : Rec) (hr : recOkB r = true) : StepV ⟨3,0,0,(i : Int),r⟩
theorem StepV.ok {x : Step} (h : StepV x) : StepOk x:=by
 cases h with
 | disk a v ha hv=>exact ⟨⟨fun _=>ha,fun h=>absurd rfl h⟩,fun h=>by cases h⟩
 | wipe i hi=>exact ⟨⟨fun h=>(by cases h),fun _=>by dsimp only;omega⟩,fun h=>by cases h⟩
 | write i hi r hr=>exact ⟨⟨fun h=>(by cases h),fun _=>by dsimp only;omega⟩,fun _=>hr⟩
theorem write_V {f : List Block} (h : FlashOk f) (kind addr val : Int) : ∀ x ∈ writeSteps f kind addr val,StepV x:=by
 have h4:=h.len
 intro x hx
 unfold writeSteps at hx
 split at hx
 ·rename_i hc
  simp only [Bool.and_eq_true] at hc
  have hb:=room_block h
  rcases List.mem_append.1 hx with hx | hx
  ·unfold room at hx
   split at hx
   ·cases hx
   ·have ho:=old_lt (f:=f) (by omega)
    rcases List.mem_append.1 hx with hx | hx
    ·obtain ⟨p,hp,hm⟩:=List.mem_flatMap.1 hx
     unfold roomOne at hm
     split at hm
     ·rename_i hcc
      obtain rfl:=List.mem_singleton.1 hm
      have h1 : p.state = 1:=by have:=hcc.1;simp only [liveP,Bool.and_eq_true,beq_iff_eq] at this;exact this.1
      have hr:=recOkB_iff.1 (liveP_ok h (blockAt_mem ho) hp h1)
      exact .disk _ _ hr.2.2.1 hr.2.2.2
     ·cases hm
    ·obtain rfl:=List.mem_singleton.1 hx
     exact .wipe _ (by omega)
  ·obtain rfl:=List.mem_singleton.1 hx
   have:=StepV.write (room f).2.1.toNat (by omega) ⟨kind,next f,addr,val⟩ hc.2
   rwa [show (((room f).2.1.toNat : Nat) : Int) = (room f).2.1 by omega] at this
 ·cases hx
theorem flush_V {s : Store} (h : FlashOk s.flash) {n : Nat} (hn : n < 6) : ∀ x ∈ flushSteps s n,StepV x:=by
 unfold flushSteps
 split
 ·rename_i hd
  split
  ·intro x hx;cases hx
  ·intro x hx
   rcases List.mem_cons.1 hx with rfl | hx
   ·unfold dirtyB at hd
    rw [Bool.and_eq_true,decide_eq_true_eq] at hd
    have hv : readN s n = (last s.flash ((n : Int) + 1)).val:=by unfold readN;rw [if_pos hd.1]
    have hok : recOkB (last s.flash ((n : Int) + 1)) = true:=by
     rcases last_spec h ((n : Int) + 1) with ⟨e,_⟩ | ⟨hW,_⟩
     ·rw [e] at hd;exact absurd hd.1 (by decide)
     ·exact hW.ok h
    have hr:=recOkB_iff.1 hok
    exact .disk _ _ (by omega) (by rw [hv];exact hr.2.2.2)
   ·exact write_V h _ _ _ x hx
 ·intro x hx;cases hx
theorem fill_V {s : Store} (h : FlashOk s.flash) (n : Nat) : ∀ x ∈ fillSteps s n,StepV x:=by
 unfold fillSteps
 split
 ·intro x hx;cases hx
 ·exact write_V h _ _ _
theorem addrStep_V {g : Nat → List Step} (h : ∀ n,n < 6 → ∀ x ∈ g n,StepV x) (a : Int) : ∀ x ∈ addrStep g a,StepV x:=by
 unfold addrStep
 split
 ·rename_i hc;have:=inB_iff.1 hc;exact h _ (by omega)
 ·intro x hx;cases hx
theorem play_V {s : Store} (h : FlashOk s.flash) (e : Event) : ∀ x ∈ playSteps s e,StepV x:=by
 unfold playSteps putSteps
 split
 ·exact write_V h _ _ _
 ·split
  ·exact addrStep_V (fun n hn=>flush_V h hn) _
  ·split
   ·exact addrStep_V (fun n _=>fill_V h n) _
   ·intro x hx;cases hx
set_option maxRecDepth 20000 in
set_option maxHeartbeats 4000000 in
theorem stepOk_c (x : Step) (hx : StepV x) (w : World) : Calls Tryz.prog 138 #[stepA x] w (Ret w (.bool true)):=by
 have X:=ext_refl w
 cases hx with
 | disk a v ha hv =>
  dsimp only [stepA,rec0]
  go_enter Tryz.func138,Tryz.ntmps138
  go_wp2_with (first | (go_at_call 145;refine (addrOk_c _ _).mono ?_;rw [inB_iff.2 ha];rintro e w' ⟨rfl,rfl⟩) | (go_at_call 63;refine (valOk_c _ _).mono ?_;rw [inB_iff.2 hv];rintro e w' ⟨rfl,rfl⟩))
  go_ret
  exact ⟨rfl,ext_alloc X _⟩
 | wipe i hi =>
  dsimp only [stepA,rec0]
  go_enter Tryz.func138,Tryz.ntmps138
  go_wp2_with (go_at_call 151;refine (blockOk_c _ _).mono ?_;rw [inB_iff.2 (by omega)];rintro e w' ⟨rfl,rfl⟩)
  go_ret
  exact ⟨rfl,ext_alloc X _⟩
 | write i hi r hr =>
  have hro:=fun w'=>implRecOk_c r w'
  rw [hr] at hro
  obtain ⟨rk,rs,ra,rv⟩:=r
  dsimp only [stepA,recA] at hro ⊢
  go_enter Tryz.func138,Tryz.ntmps138
  go_wp2_with (go_at_call 151;refine (blockOk_c _ _).mono ?_;rw [inB_iff.2 (by omega)];rintro e w' ⟨rfl,rfl⟩)
  refine (hro _).mono ?_;rintro e w1 ⟨rfl,hx⟩
  go_wp2_with fail
  go_ret
  exact ⟨rfl,ext_trans (ext_alloc X _) hx⟩
def actFn (x : Step) : FuncId:=if x.kind = 1 then 152 else if x.kind = 2 then 153 else 155
def actV (x : Step) (B : Nat) : Value:=.func (.func (actFn x)) #[] #[.pointer (some ⟨B,0,none⟩)]
set_option maxRecDepth 20000 in
set_option maxHeartbeats 4000000 in
theorem actionOf_c (x : Step) (hx : StepV x) (w : World) : Calls Tryz.prog 139 #[stepA x] w (fun e w'=>e = .returned (actV x w.heap.size) ∧ w' = w.alloc (.cells (stepC x).toArray 142)):=by
 have hmf : ∀ (fn : Fn) (first cap : Array Value) (w : World),(Instr.makeFunc fn first cap).run Tryz.prog w = .ok (.func fn first cap) w:=fun _ _ _ _=>rfl
 cases hx with
 | disk a v ha hv =>
  dsimp only [stepA,rec0]
  go_enter Tryz.func139,Tryz.ntmps139
  go_wp2
  go_ret
  exact ⟨rfl,rfl⟩
 | wipe i hi =>
  dsimp only [stepA,rec0]
  go_enter Tryz.func139,Tryz.ntmps139
  go_wp2
  go_ret
  exact ⟨rfl,rfl⟩
 | write i hi r hr =>
  dsimp only [stepA,rec0]
  go_enter Tryz.func139,Tryz.ntmps139
  go_wp2
  go_ret
  exact ⟨rfl,rfl⟩
structure StAt (w : World) (P : Nat) (L : List Nat) (s : Store) (f d : Value) : Prop where
 var : w.heap[P]? = some (.cells #[f,d] 42 (0,0))
 own : OwnStore w f d s L
 nd : (P :: L).Nodup
theorem StAt.lt {w : World} {P : Nat} {L : List Nat} {s : Store} {f d : Value} (h : StAt w P L s f d) : ∀ b ∈ P :: L,b < w.heap.size:=by
 intro b hb
 rcases List.mem_cons.1 hb with rfl | hb
 ·exact heap_lt h.var
 ·exact h.own.lt b hb
theorem StAt.keep {w w' : World} {P : Nat} {L : List Nat} {s : Store} {f d : Value} (h : StAt w P L s f d) (hk : ∀ b ∈ P :: L,w'.heap[b]? = w.heap[b]?) : StAt w' P L s f d:=
 ⟨by rw [hk P (by simp)];exact h.var,h.own.keep fun b hb=>hk b (by simp [hb]),h.nd⟩
theorem StAt.ext {w w' : World} {P : Nat} {L : List Nat} {s : Store} {f d : Value} (h : StAt w P L s f d) (hx : Ext w w') : StAt w' P L s f d:=h.keep fun b hb=>hx.block b (h.lt b hb)
def ActΦ (w : World) (P : Nat) (L : List Nat) (s' : Store) (e : Ending) (w' : World) : Prop:=e = .returned (.tuple #[]) ∧ Chg (P :: L) w w' ∧ ∃ f d L',StAt w' P L' s' f d ∧ ∀ b ∈ L',b ∈ L ∨ w.heap.size ≤ b
def FlashN (b : Bool) (f : List Block) (lo hi : Nat) (v : Value) (w : World) : Prop:=∃ a cap B bs,v = .tuple #[.slice a 4 cap,.bool b] ∧ OwnFlash w (.slice a 4 cap) f B bs ∧ (B :: bs).Nodup ∧ ∀ x ∈ B :: bs,lo ≤ x ∧ x < hi
theorem FlashN.ext {b : Bool} {f : List Block} {lo hi : Nat} {v : Value} {w w' : World} (h : FlashN b f lo hi v w) (hx : Ext w w') : FlashN b f lo hi v w':=by
 obtain ⟨a,cap,B,bs,he,ho,hn,hb⟩:=h;exact ⟨a,cap,B,bs,he,ho.ext hx,hn,hb⟩
theorem FlashN.form {b : Bool} {f : List Block} {lo hi : Nat} {v : Value} {w : World} (h : FlashN b f lo hi v w) : ∃ a cap,v = .tuple #[.slice a 4 cap,.bool b]:=by
 obtain ⟨a,cap,B,bs,he,_⟩:=h;exact ⟨a,cap,he⟩
theorem FlashN.own {b : Bool} {f : List Block} {lo hi : Nat} {a : Option Addr} {cap : Nat} {w : World} (h : FlashN b f lo hi (.tuple #[.slice a 4 cap,.bool b]) w) : ∃ B bs,OwnFlash w (.slice a 4 cap) f B bs ∧ (B :: bs).Nodup ∧ ∀ x ∈ B :: bs,lo ≤ x ∧ x < hi:=by
 obtain ⟨a',cap',B,bs,he,ho,hn,hb⟩:=h
 simp at he
 obtain ⟨rfl,rfl⟩:=he
 exact ⟨B,bs,ho,hn,hb⟩
theorem FlashΦ.to {w w' : World} {b : Bool} {f : List Block} {e : Ending} (h : FlashΦ w b f e w') : ∃ v,e = .returned v ∧ RetC w (FlashN b f) v w':=by
 obtain ⟨a,cap,B,bs,he,hx,ho,hn,hb⟩:=h
 exact ⟨_,he,hx,a,cap,B,bs,rfl,ho,hn,fun x hm=>⟨hb x hm,ho.lt x hm⟩⟩
theorem StAt.flash {w w3 w4 : World} {P : Nat} {L : List Nat} {s : Store} {f d : Value} (h : StAt w P L s f d) (hx : Ext w w3) {g : List Block} {v : Value} {B : Nat} {bs : List Nat} {lo hi : Nat} (hO : OwnFlash w3 v g B bs) (hn : (B :: bs).Nodup)
  (hb : ∀ x ∈ B :: bs,lo ≤ x ∧ x < hi) (hlo : w.heap.size ≤ lo) (hw : w4 = w3.setCell ⟨P,0,none⟩ v) : Chg (P :: L) w w4 ∧ ∃ L',StAt w4 P L' ⟨g,s.disk⟩ v d ∧ ∀ b ∈ L',b ∈ L ∨ w.heap.size ≤ b:=by
 subst hw
 have hlt:=h.lt
 obtain ⟨B0,bs0,D,hL,hF,hD⟩:=h.own
 have hPD : D ≠ P:=fun e=>by
  have hnd:=h.nd
  rw [hL,e] at hnd
  exact (List.nodup_cons.1 hnd).1 (by simp)
 have hDl:=hlt D (by rw [hL];simp)
 have hPl:=hlt P (by simp)
 refine ⟨(Chg.of_ext hx).set (p:=⟨P,0,none⟩) (.inl (by simp)) _,B :: bs ++ [D],⟨?_,⟨B,bs,D,rfl,hO.keep fun b hm=>setCell_other (by have:=hb b hm;omega),?_⟩,?_⟩,fun b hm=>?_⟩
 ·exact hgo (hg_here (keep_ext hx h.var)) rfl
 ·exact (hD.ext hx).keep (setCell_other hPD)
 ·refine List.nodup_cons.2 ⟨fun hm=>?_,List.nodup_append.2 ⟨hn,by simp,fun x hx y hy e=>?_⟩⟩
  ·rcases List.mem_append.1 hm with hm | hm
   ·have:=hb P hm;omega
   ·rw [List.mem_singleton] at hm;exact hPD hm.symm
  ·rw [List.mem_singleton] at hy
   have:=hb x hx;omega
 ·rcases List.mem_append.1 hm with hm | hm
  ·right;have:=hb b hm;omega
  ·left;rw [List.mem_singleton] at hm;rw [hL,hm];simp
end Go.Bu
namespace Go.Bu
open Go Go.RowKit Go.Plan Go.Proofs
set_option maxRecDepth 20000 in
set_option maxHeartbeats 4000000 in
theorem actDisk_c (a v : Int) (ha : 1 ≤ a ∧ a ≤ 6) (P B : Nat) (L : List Nat) (s : Store) (f d : Value) (torn : Bool) (w : World) (h : StAt w P L s f d) (h6 : s.disk.length = 6)
  (hB : w.heap[B]? = some (.cells (stepC ⟨1,a,v,0,rec0⟩).toArray 142 (0,0))) :
  Calls Tryz.prog 152 #[.pointer (some ⟨P,0,none⟩),.bool torn,.pointer (some ⟨B,0,none⟩)] w (ActΦ w P L (doStep s ⟨1,a,v,0,rec0⟩ torn)):=by
 cases torn
 ·have hds : doStep s ⟨1,a,v,0,rec0⟩ false = ⟨s.flash,s.disk.set (a - 1).toNat v⟩:=rfl
  rw [hds]
  obtain ⟨n,hn,rfl⟩ : ∃ n : Nat,n < 6 ∧ a = (n : Int) + 1:=⟨(a - 1).toNat,by omega,by omega⟩
  rw [show ((n : Int) + 1 - 1).toNat = n by omega]
  have hO:=h.own
  have hnd:=h.nd
  obtain ⟨fa,fn,fc,da,dn,dc,rfl,rfl⟩:=hO.forms
  obtain ⟨B0,bs,D,hL,hF,TD,od,dcap,hdv,hd⟩:=hO
  injection hdv with e1 e2 e3
  subst e1
  rw [h6] at e2 e3
  subst e2;subst e3
  obtain ⟨gp,gpf⟩:=cellsK h.var
  have hG:=h.var
  have lP:=heap_lt hG
  have lB:=heap_lt hB
  have hC:=hd.cell (k:=n) (List.getElem?_eq_getElem (by omega)) (j:=0) rfl
  have hfr:=hd.frozen (od + n)
  rw [Nat.mul_one,Nat.add_zero] at hC
  have lD:=hd.lt
  have hwr : IntKind.i64.wrap (n : Int) = (n : Int):=IntWalk.i64_in _ (by omega)
  have hn6 : (n : Int) < 6:=by omega
  have H:=Lib.hid h
  have HF:=Lib.hid hF
  have HD:=Lib.hid hd
  have HL:=Lib.hid hL
  have HN:=Lib.hid hnd
  have H6:=Lib.hid h6
  obtain ⟨dv,hdvv⟩ : ∃ dv : Int,s.disk[n]'(by omega) = dv:=⟨_,rfl⟩
  rw [hdvv] at hC
  clear hdvv hF hd hL hnd h hds h6
  go_enter Tryz.func152,Tryz.ntmps152
  go_wp2_with fail
  refine wp_region_ext [] [0,1,2,3,4,5,6,7,8,9] [] [10] (by kernel_rfl) (by kernel_rfl) ?late ?_
  case late=>exact fun f hf=>absurd hf List.not_mem_nil
  refine Rob.y (v:=?_) rfl rfl (fun w1 hx hH=>?_) ?_;rotate_left
  ·go_simp;first | done | rfl | exact (Bool.not_not _).symm
  simp only [Act.put,slA,slB,slC]
  refine Rob.y (v:=?_) rfl rfl (fun w1 hx hH=>?_) ?_;rotate_left
  ·(obtain ⟨gq,gqf⟩:=cellsK (keep_ext hx hG);obtain ⟨gb,gbf⟩:=cellsK (keep_ext hx hB));go_simp;first | done | rfl
  simp only [Act.put,slA,slB,slC]
  refine Rob.y (v:=?_) rfl rfl (fun w1 hx hH=>?_) ?_;rotate_left
  ·go_simp;first | done | rfl | exact (Bool.not_not _).symm
  simp only [Act.put,slA,slB,slC]
  refine Rob.y (v:=?_) rfl rfl (fun w1 hx hH=>?_) ?_;rotate_left
  ·(obtain ⟨gq,gqf⟩:=cellsK (keep_ext hx hG);obtain ⟨gb,gbf⟩:=cellsK (keep_ext hx hB));go_simp;first | done | rfl
  simp only [Act.put,slA,slB,slC]
  refine Rob.y (v:=?_) rfl rfl (fun w1 hx hH=>?_) ?_;rotate_left
  ·go_simp;first | done | rfl | exact (Bool.not_not _).symm
  simp only [Act.put,slA,slB,slC]
  refine Rob.y (v:=?_) rfl rfl (fun w1 hx hH=>?_) ?_;rotate_left
  ·(obtain ⟨gq,gqf⟩:=cellsK (keep_ext hx hG);obtain ⟨gb,gbf⟩:=cellsK (keep_ext hx hB));go_simp;first | done | rfl
  simp only [Act.put,slA,slB,slC]
  iterate 2
   refine Rob.y (v:=?_) rfl rfl (fun w1 hx hH=>?_) ?_;rotate_left
   ·go_simp;first | done | rfl | exact (Bool.not_not _).symm
   simp only [Act.put,slA,slB,slC]
  iterate 2
   refine Rob.y (v:=?_) rfl rfl (fun w1 hx hH=>?_) ?_;rotate_left
   ·(obtain ⟨gq,gqf⟩:=cellsK (keep_ext hx hG);obtain ⟨gb,gbf⟩:=cellsK (keep_ext hx hB));go_simp;first | done | rfl
   simp only [Act.put,slA,slB,slC]
  refine fin_tail (fun w3 hx3 _=>?_)
  simp only [dstOf,List.getElem?_cons_succ,List.getElem?_cons_zero,Option.bind_some,Act.put,slA,slB,slC,List.filterMap_cons,List.filterMap_nil]
  have c3:=cell_ext hx3 hC
  have f3:=(frozen_ext hx3 lD (od + n)).trans hfr
  refine wpList_plain rfl (fun K hK=>?_)
  go_simp
  refine hK _ _ ?_
  clear hK K
  refine wpList_nil ?_
  have hC3 : Chg (P :: L) w (w3.setCell ⟨D,od + n,none⟩ (.int .i64 v)):=(Chg.of_ext hx3).set (p:=⟨D,od + n,none⟩) (.inl (by rw [HL.out];simp)) _
  have hset:=OwnAt.set1 (n:=1) (enc:=intC) (fun _=>rfl) (HD.out.ext hx3) (k:=n) (by rw [H6.out];omega) (j:=0) (by omega) (.int .i64 v) v (by simp)
  rw [Nat.mul_one,Nat.add_zero] at hset
  have hne : ∀ b ∈ P :: (B0 :: bs),b ≠ D:=fun b hb e=>by
   have hnd:=HN.out
   rw [HL.out,← List.cons_append] at hnd
   exact (List.nodup_append.1 hnd).2.2 b hb D (by simp) e
  have hF3 : OwnFlash (w3.setCell ⟨D,od + n,none⟩ (.int .i64 v)) (.slice fa fn fc) s.flash B0 bs:=(HF.out.ext hx3).keep fun b hb=>setCell_other (hne b (List.mem_cons_of_mem _ hb))
  have hV3 : (w3.setCell ⟨D,od + n,none⟩ (.int .i64 v)).heap[P]? = _:=(setCell_other (hne P (by simp))).trans (keep_ext hx3 hG)
  have hSt : StAt (w3.setCell ⟨D,od + n,none⟩ (.int .i64 v)) P L ⟨s.flash,s.disk.set n v⟩ (.slice fa fn fc) (.slice (some ⟨D,od,none⟩) 6 (6 + dcap)):=
   ⟨hV3,⟨B0,bs,D,HL.out,hF3,TD,od,dcap,by simp [H6.out],hset⟩,HN.out⟩
  go_end0
  go_wp2_with fail
  exact ⟨rfl,hC3,_,_,L,hSt,fun b hb=>.inl hb⟩
 ·have hds : doStep s ⟨1,a,v,0,rec0⟩ true = s:=rfl
  rw [hds]
  go_enter Tryz.func152,Tryz.ntmps152
  go_wp2_with fail
  go_end0
  go_wp2_with fail
  exact ⟨rfl,Chg.refl _ _,_,_,L,h,fun b hb=>.inl hb⟩
theorem wipe_same {f : List Block} {i : Nat} {t : Bool} (h : wipeOk f i = false) : wipeF f i t = f:=by
 unfold wipeOk at h;unfold wipeF
 rw [if_pos (by simpa using h)]
theorem writeF_same {f : List Block} {i : Nat} {r : Rec} {t : Bool} (h : writeOk f i r = false) : writeF f i r t = f:=by
 unfold writeF;rw [h,if_neg (by simp)]
set_option maxRecDepth 20000 in
set_option maxHeartbeats 4000000 in
theorem actWipe_c (i : Nat) (hi : i < 4) (P B : Nat) (L : List Nat) (s : Store) (f d : Value) (torn : Bool) (w : World) (h : StAt w P L s f d) (hok : flashOkB s.flash = true)
  (hB : w.heap[B]? = some (.cells (stepC ⟨2,0,0,(i : Int),rec0⟩).toArray 142 (0,0))) :
  Calls Tryz.prog 153 #[.pointer (some ⟨P,0,none⟩),.bool torn,.pointer (some ⟨B,0,none⟩)] w (ActΦ w P L (doStep s ⟨2,0,0,(i : Int),rec0⟩ torn)):=by
 have hds : doStep s ⟨2,0,0,(i : Int),rec0⟩ torn = ⟨wipeF s.flash i torn,s.disk⟩:=by
  show (⟨wipeF s.flash ((i : Int)).toNat torn,s.disk⟩ : Store) = _;rw [Int.toNat_natCast]
 rw [hds]
 have hCW:=fun (w' : World) (hx : Ext w w')=>implFlashWipe_c f s.flash i torn w' (h.own.flash.ext hx) hok hi
 have HSM:=fun h1=>Lib.hid (wipe_same (f:=s.flash) (i:=i) (t:=torn) h1)
 obtain ⟨fa,fn,fc,da,dn,dc,rfl,rfl⟩:=h.own.forms
 obtain ⟨g,hg⟩ : ∃ g,wipeF s.flash i torn = g:=⟨_,rfl⟩
 rw [hg] at hCW HSM ⊢
 obtain ⟨k,hk⟩ : ∃ k,wipeOk s.flash i = k:=⟨_,rfl⟩
 rw [hk] at hCW HSM
 have hG:=h.var
 obtain ⟨gp,gpf⟩:=cellsK hG
 have lP:=heap_lt hG
 have lB:=heap_lt hB
 have H:=Lib.hid h
 clear h hg hk hds hok
 go_enter Tryz.func153,Tryz.ntmps153
 go_wp2_with fail
 refine wp_region_ext [7] [0,1,2,3,4,5,6,7,8,9,10,11,12] [] [] (by kernel_rfl) (by kernel_rfl) ?late ?_
 case late=>exact fun f hf=>absurd hf List.not_mem_nil
 refine Rob.y (v:=?_) rfl rfl (fun w1 hx hH=>?_) ?_;rotate_left
 ·go_simp;first | done | rfl | exact (Bool.not_not _).symm
 simp only [Act.put,slA,slB,slC]
 refine Rob.y (v:=?_) rfl rfl (fun w1 hx hH=>?_) ?_;rotate_left
 ·(have hE : Ext _ w1:=(by first | exact hx | exact hx.1);obtain ⟨gq,gqf⟩:=cellsK (keep_ext hE hG);obtain ⟨gb,gbf⟩:=cellsK (keep_ext hE hB));go_simp;first | done | rfl
 simp only [Act.put,slA,slB,slC]
 refine Rob.y (v:=?_) rfl rfl (fun w1 hx hH=>?_) ?_;rotate_left
 ·go_simp;first | done | rfl | exact (Bool.not_not _).symm
 simp only [Act.put,slA,slB,slC]
 refine Rob.y (v:=?_) rfl rfl (fun w1 hx hH=>?_) ?_;rotate_left
 ·(have hE : Ext _ w1:=(by first | exact hx | exact hx.1);obtain ⟨gq,gqf⟩:=cellsK (keep_ext hE hG);obtain ⟨gb,gbf⟩:=cellsK (keep_ext hE hB));go_simp;first | done | rfl
 simp only [Act.put,slA,slB,slC]
 refine Rob.y (v:=?_) rfl rfl (fun w1 hx hH=>?_) ?_;rotate_left
 ·go_simp;first | done | rfl | exact (Bool.not_not _).symm
 simp only [Act.put,slA,slB,slC]
 refine Rob.y (v:=?_) rfl rfl (fun w1 hx hH=>?_) ?_;rotate_left
 ·(have hE : Ext _ w1:=(by first | exact hx | exact hx.1);obtain ⟨gq,gqf⟩:=cellsK (keep_ext hE hG);obtain ⟨gb,gbf⟩:=cellsK (keep_ext hE hB));go_simp;first | done | rfl
 simp only [Act.put,slA,slB,slC]
 refine Rob.y (v:=?_) rfl rfl (fun w1 hx hH=>?_) ?_;rotate_left
 ·go_simp;first | done | rfl | exact (Bool.not_not _).symm
 simp only [Act.put,slA,slB,slC]
 refine Rob.c (FlashN k g) rfl rfl rfl (fun _ _=>ext_trans) (fun _ _ _ _ _=>fun h hx=>h.ext hx) (fun w1 hx hH=>?_) (fun lo7 hi7 v7 hlo7 hhi7 hv7=>?_)
 ·unfold RunTo;go_simp;exact (hCW _ hx).mono fun e w' h=>h.to
 simp only [Act.put,slA,slB,slC]
 obtain ⟨_,hv7⟩:=hv7
 obtain ⟨a7,c7,rfl⟩:=hv7.form
 refine Rob.y (v:=?_) rfl rfl (fun w1 hx hH=>?_) ?_;rotate_left
 ·go_simp;first | done | rfl | exact (Bool.not_not _).symm
 simp only [Act.put,slA,slB,slC]
 iterate 4
  refine Rob.y (v:=?_) rfl rfl (fun w1 hx hH=>?_) ?_;rotate_left
  ·go_simp;first | done | rfl | exact (Bool.not_not _).symm
  simp only [Act.put,slA,slB,slC]
 have HLO:=hlo7
 refine fin_nil (fun w3 hx3 _=>?_)
 obtain ⟨hx3,hM⟩:=hx3
 obtain ⟨B7,bs7,hO7,hn7,hb7⟩:=hM.own
 obtain ⟨z0,z1⟩:=cellsK (keep_ext hx3 hG)
 have hfl:=fun (w4 : World) (h4 : w4 = w3.setCell ⟨P,0,none⟩ (.slice a7 4 c7))=>H.out.flash hx3 hO7 hn7 hb7 HLO h4
 have HFL:=Lib.hid hfl
 have H3:=Lib.hid (H.out.ext hx3)
 clear hM hO7 hn7 hb7 hfl gp gpf hv7
 cases k
 ·have hs:=(HSM rfl).out
  subst hs
  go_wp2_with fail
  go_end0
  go_wp2_with fail
  exact ⟨rfl,Chg.of_ext hx3,_,_,L,H3.out,fun b hb=>.inl hb⟩
 ·go_wp2_with fail
  obtain ⟨hC,L',hS,hL⟩:=HFL.out _ rfl
  go_end0
  go_wp2_with fail
  exact ⟨rfl,hC,_,_,L',hS,hL⟩
set_option maxRecDepth 20000 in
set_option maxHeartbeats 4000000 in
theorem actWrite_c (i : Nat) (hi : i < 4) (r : Rec) (hrec : recOkB r = true) (P B : Nat) (L : List Nat) (s : Store) (f d : Value) (torn : Bool) (w : World) (h : StAt w P L s f d) (hok : flashOkB s.flash = true)
  (hB : w.heap[B]? = some (.cells (stepC ⟨3,0,0,(i : Int),r⟩).toArray 142 (0,0))) :
  Calls Tryz.prog 155 #[.pointer (some ⟨P,0,none⟩),.bool torn,.pointer (some ⟨B,0,none⟩)] w (ActΦ w P L (doStep s ⟨3,0,0,(i : Int),r⟩ torn)):=by
 have hds : doStep s ⟨3,0,0,(i : Int),r⟩ torn = ⟨writeF s.flash i r torn,s.disk⟩:=by
  show (⟨writeF s.flash ((i : Int)).toNat r torn,s.disk⟩ : Store) = _;rw [Int.toNat_natCast]
 rw [hds]
 have hCW:=fun (w' : World) (hx : Ext w w')=>implFlashWrite_c f s.flash i r torn w' (h.own.flash.ext hx) hok hi hrec
 have HSM:=fun h1=>Lib.hid (writeF_same (f:=s.flash) (i:=i) (r:=r) (t:=torn) h1)
 obtain ⟨fa,fn,fc,da,dn,dc,rfl,rfl⟩:=h.own.forms
 obtain ⟨rk,rs,ra,rv⟩:=r
 dsimp only [recA] at hCW
 obtain ⟨g,hg⟩ : ∃ g,writeF s.flash i ⟨rk,rs,ra,rv⟩ torn = g:=⟨_,rfl⟩
 rw [hg] at hCW HSM ⊢
 obtain ⟨k,hk⟩ : ∃ k,writeOk s.flash i ⟨rk,rs,ra,rv⟩ = k:=⟨_,rfl⟩
 rw [hk] at hCW HSM
 have hG:=h.var
 obtain ⟨gp,gpf⟩:=cellsK hG
 have lP:=heap_lt hG
 have lB:=heap_lt hB
 have H:=Lib.hid h
 clear h hg hk hds hok
 go_enter Tryz.func155,Tryz.ntmps155
 go_wp2_with fail
 refine wp_region_ext [9] [0,1,2,3,4,5,6,7,8,9,10,11,12,13,14] [] [] (by kernel_rfl) (by kernel_rfl) ?late ?_
 case late=>exact fun f hf=>absurd hf List.not_mem_nil
 refine Rob.y (v:=?_) rfl rfl (fun w1 hx hH=>?_) ?_;rotate_left
 ·go_simp;first | done | rfl | exact (Bool.not_not _).symm
 simp only [Act.put,slA,slB,slC]
 refine Rob.y (v:=?_) rfl rfl (fun w1 hx hH=>?_) ?_;rotate_left
 ·(have hE : Ext _ w1:=(by first | exact hx | exact hx.1);obtain ⟨gq,gqf⟩:=cellsK (keep_ext hE hG);obtain ⟨gb,gbf⟩:=cellsK (keep_ext hE hB));go_simp;first | done | rfl
 simp only [Act.put,slA,slB,slC]
 refine Rob.y (v:=?_) rfl rfl (fun w1 hx hH=>?_) ?_;rotate_left
 ·go_simp;first | done | rfl | exact (Bool.not_not _).symm
 simp only [Act.put,slA,slB,slC]
 refine Rob.y (v:=?_) rfl rfl (fun w1 hx hH=>?_) ?_;rotate_left
 ·(have hE : Ext _ w1:=(by first | exact hx | exact hx.1);obtain ⟨gq,gqf⟩:=cellsK (keep_ext hE hG);obtain ⟨gb,gbf⟩:=cellsK (keep_ext hE hB));go_simp;first | done | rfl
 simp only [Act.put,slA,slB,slC]
 refine Rob.y (v:=?_) rfl rfl (fun w1 hx hH=>?_) ?_;rotate_left
 ·go_simp;first | done | rfl | exact (Bool.not_not _).symm
 simp only [Act.put,slA,slB,slC]
 refine Rob.y (v:=?_) rfl rfl (fun w1 hx hH=>?_) ?_;rotate_left
 ·(have hE : Ext _ w1:=(by first | exact hx | exact hx.1);obtain ⟨gq,gqf⟩:=cellsK (keep_ext hE hG);obtain ⟨gb,gbf⟩:=cellsK (keep_ext hE hB));go_simp;first | done | rfl
 simp only [Act.put,slA,slB,slC]
 refine Rob.y (v:=?_) rfl rfl (fun w1 hx hH=>?_) ?_;rotate_left
 ·go_simp;first | done | rfl | exact (Bool.not_not _).symm
 simp only [Act.put,slA,slB,slC]
 refine Rob.y (v:=?_) rfl rfl (fun w1 hx hH=>?_) ?_;rotate_left
 ·(have hE : Ext _ w1:=(by first | exact hx | exact hx.1);obtain ⟨gq,gqf⟩:=cellsK (keep_ext hE hG);obtain ⟨gb,gbf⟩:=cellsK (keep_ext hE hB));go_simp;first | done | rfl
 simp only [Act.put,slA,slB,slC]
 refine Rob.y (v:=?_) rfl rfl (fun w1 hx hH=>?_) ?_;rotate_left
 ·go_simp;first | done | rfl | exact (Bool.not_not _).symm
 simp only [Act.put,slA,slB,slC]
 refine Rob.c (FlashN k g) rfl rfl rfl (fun _ _=>ext_trans) (fun _ _ _ _ _=>fun h hx=>h.ext hx) (fun w1 hx hH=>?_) (fun lo9 hi9 v9 hlo9 hhi9 hv9=>?_)
 ·unfold RunTo;go_simp;exact (hCW _ hx).mono fun e w' h=>h.to
 simp only [Act.put,slA,slB,slC]
 obtain ⟨_,hv9⟩:=hv9
 obtain ⟨a7,c7,rfl⟩:=hv9.form
 refine Rob.y (v:=?_) rfl rfl (fun w1 hx hH=>?_) ?_;rotate_left
 ·go_simp;first | done | rfl | exact (Bool.not_not _).symm
 simp only [Act.put,slA,slB,slC]
 iterate 4
  refine Rob.y (v:=?_) rfl rfl (fun w1 hx hH=>?_) ?_;rotate_left
  ·go_simp;first | done | rfl | exact (Bool.not_not _).symm
  simp only [Act.put,slA,slB,slC]
 have HLO:=hlo9
 refine fin_nil (fun w3 hx3 _=>?_)
 obtain ⟨hx3,hM⟩:=hx3
 obtain ⟨B7,bs7,hO7,hn7,hb7⟩:=hM.own
 obtain ⟨z0,z1⟩:=cellsK (keep_ext hx3 hG)
 have hfl:=fun (w4 : World) (h4 : w4 = w3.setCell ⟨P,0,none⟩ (.slice a7 4 c7))=>H.out.flash hx3 hO7 hn7 hb7 HLO h4
 have HFL:=Lib.hid hfl
 have H3:=Lib.hid (H.out.ext hx3)
 clear hM hO7 hn7 hb7 hfl gp gpf hv9
 cases k
 ·have hs:=(HSM rfl).out
  subst hs
  go_wp2_with fail
  go_end0
  go_wp2_with fail
  exact ⟨rfl,Chg.of_ext hx3,_,_,L,H3.out,fun b hb=>.inl hb⟩
 ·go_wp2_with fail
  obtain ⟨hC,L',hS,hL⟩:=HFL.out _ rfl
  go_end0
  go_wp2_with fail
  exact ⟨rfl,hC,_,_,L',hS,hL⟩
end Go.Bu
namespace Go.Bu
open Go Go.RowKit Go.Plan Go.Proofs
structure QAt (w : World) (Q G : Nat) (vals : List Value) : Prop where
 ex : ∃ (a : Option Addr) (c : Nat),w.heap[Q]? = some (.cells #[.slice a vals.length c] 192 (0,0)) ∧ vals.length ≤ c ∧ (vals = [] ∨ ∃ o,a = some ⟨G,o,none⟩ ∧ ∀ (i : Nat) v,vals[i]? = some v → w.cell? ⟨G,o + i,none⟩ = some v)
theorem QAt.lt {w : World} {Q G : Nat} {vals : List Value} (h : QAt w Q G vals) : Q < w.heap.size ∧ (vals ≠ [] → G < w.heap.size):=by
 obtain ⟨a,c,h1,h2,h3⟩:=h.ex
 refine ⟨heap_lt h1,fun hne=>?_⟩
 rcases h3 with h3 | ⟨o,_,h4⟩
 ·exact absurd h3 hne
 ·cases vals with
  | nil=>exact absurd rfl hne
  | cons v vs=>exact cell_lt (h4 0 v rfl)
theorem QAt.keep {w w' : World} {Q G : Nat} {vals : List Value} (h : QAt w Q G vals) (h1 : w'.heap[Q]? = w.heap[Q]?) (h2 : vals ≠ [] → w'.heap[G]? = w.heap[G]?) : QAt w' Q G vals:=by
 obtain ⟨a,c,e1,e2,e3⟩:=h.ex
 refine ⟨a,c,by rw [h1];exact e1,e2,e3.imp id fun ⟨o,ha,hc⟩=>⟨o,ha,fun i v hi=>?_⟩⟩
 have hne : vals ≠ []:=by rintro rfl;simp at hi
 have hv:=hc i v hi
 unfold World.cell? at hv ⊢
 rw [h2 hne];exact hv
set_option maxRecDepth 20000 in
set_option maxHeartbeats 4000000 in
theorem take0_c (Q G : Nat) (w : World) (h : QAt w Q G []) : Calls Tryz.prog 140 #[.pointer (some ⟨Q,0,none⟩)] w (RetSame w (.tuple #[.nilFunc,.bool false])):=by
 obtain ⟨a,c,h1,_⟩:=h.ex
 obtain ⟨g,gf⟩:=cellsK h1
 have l:=heap_lt h1
 rw [show ([] : List Value).length = 0 from rfl] at g
 go_enter Tryz.func140,Tryz.ntmps140
 go_wp2_with fail
 go_ret2
 exact ⟨rfl,rfl⟩
set_option maxRecDepth 20000 in
set_option maxHeartbeats 4000000 in
theorem take_c (Q G : Nat) (x : Step) (B : Nat) (rest : List Value) (w : World) (h : QAt w Q G (actV x B :: rest)) (hne : Q ≠ G) (hl : rest.length ≤ 1000) :
  Calls Tryz.prog 140 #[.pointer (some ⟨Q,0,none⟩)] w (fun e w'=>e = .returned (.tuple #[actV x B,.bool true]) ∧ Chg [Q] w w' ∧ QAt w' Q G rest):=by
 obtain ⟨a,c,h1,h2,h3⟩:=h.ex
 rcases h3 with h3 | ⟨o,rfl,h4⟩
 ·cases h3
 have hc0:=h4 0 _ rfl
 rw [Nat.add_zero] at hc0
 have hcut : ∀ w' : World,(Instr.slice 190 (.slice (some ⟨G,o,none⟩) (rest.length + 1) c) (some (.int .i64 1)) none none).run Tryz.prog w' = .ok (sliced (some ⟨G,o,none⟩) 1 (rest.length + 1) c 1) w':=fun w'=>by
  rw [run_slice_l w' 190 (some ⟨G,o,none⟩) (rest.length + 1) c (by kernel_rfl) .i64 1 (by omega) (by omega)]
  rw [show (sizeOf (Tryz.prog.elem 190)).run Tryz.prog w' = .ok 1 w' by kernel_rfl]
  rfl
 have hres : ∃ a' ,sliced (some ⟨G,o,none⟩) 1 (rest.length + 1) c 1 = .slice a' rest.length (c - 1) ∧ (c ≠ 1 → a' = some ⟨G,o + 1,none⟩):=by
  unfold sliced
  by_cases hc1 : c = 1
  ·exact ⟨_,by rw [if_pos hc1,Nat.add_sub_cancel],fun h=>absurd hc1 h⟩
  ·exact ⟨_,by rw [if_neg hc1,Nat.add_sub_cancel],fun _=>by simp [Addr.add]⟩
 obtain ⟨a',hsl,ha'⟩:=hres
 rw [hsl] at hcut
 obtain ⟨g,gf⟩:=cellsK h1
 have l:=heap_lt h1
 have lG:=cell_lt hc0
 have hQ' : QAt (w.setCell ⟨Q,0,none⟩ (.slice a' rest.length (c - 1))) Q G rest:=by
  refine ⟨a',c - 1,hgo (hg_here h1) rfl,by simp only [List.length_cons] at h2;omega,?_⟩
  cases rest with
  | nil=>exact .inl rfl
  | cons v vs =>
   refine .inr ⟨o + 1,ha' (by simp only [List.length_cons] at h2;omega),fun i u hu=>?_⟩
   have:=h4 (i + 1) u (by simpa using hu)
   rw [cell_same (D:=fun b=>b ≠ Q) (fun b hb=>setCell_other hb) (Ne.symm hne)]
   rw [show o + 1 + i = o + (i + 1) by omega];exact this
 have hC : Chg [Q] w (w.setCell ⟨Q,0,none⟩ (.slice a' rest.length (c - 1))):=(Chg.refl _ _).set (p:=⟨Q,0,none⟩) (.inl (by simp)) _
 have HQ:=Lib.hid hQ'
 have HC:=Lib.hid hC
 obtain ⟨fv,hfv⟩ : ∃ fv,actV x B = fv:=⟨_,rfl⟩
 rw [hfv] at hc0 ⊢
 obtain ⟨fn,fa,fb,rfl⟩ : ∃ fn fa fb,fv = .func fn fa fb:=⟨_,_,_,hfv.symm⟩
 simp only [List.length_cons] at g
 have hlen : ((rest.length : Int) + 1 == 0) = false:=by simp;omega
 clear h h1 h4 hQ' hC hsl ha' hfv
 go_enter Tryz.func140,Tryz.ntmps140
 go_wp2_with fail
 go_ret2
 exact ⟨rfl,HC.out,HQ.out⟩
theorem act_c (x : Step) (hx : StepV x) (P B : Nat) (L : List Nat) (s : Store) (f d : Value) (torn : Bool) (w : World) (h : StAt w P L s f d) (hs : StoreP s)
  (hB : w.heap[B]? = some (.cells (stepC x).toArray 142 (0,0))) :
  Calls Tryz.prog (actFn x) #[.pointer (some ⟨P,0,none⟩),.bool torn,.pointer (some ⟨B,0,none⟩)] w (ActΦ w P L (doStep s x torn)):=by
 cases hx with
 | disk a v ha hv=>exact actDisk_c a v ha P B L s f d torn w h hs.disk hB
 | wipe i hi=>exact actWipe_c i hi P B L s f d torn w h hs.flash hB
 | write i hi r hr=>exact actWrite_c i hi r hr P B L s f d torn w h hs.flash hB
end Go.Bu
namespace Go.Bu
open Go Go.RowKit Go.Plan Go.Proofs
def StToΦ (w : World) (s : Store) (e : Ending) (w' : World) : Prop:=∃ f d L,e = .returned (.tuple #[.agg #[f,d],.bool true]) ∧ Ext w w' ∧ OwnStore w' f d s L ∧ L.Nodup ∧ ∀ b ∈ L,w.heap.size ≤ b
def Waits (w : World) (N : Nat) (vals : List Value) (xs : List Step) : Prop:=∀ (i : Nat) v x,vals[i]? = some v → xs[i]? = some x → ∃ B,B < N ∧ v = actV x B ∧ w.heap[B]? = some (.cells (stepC x).toArray 142 (0,0))
theorem Waits.keep {w w' : World} {N : Nat} {vals : List Value} {xs : List Step} (h : Waits w N vals xs) (hk : ∀ b c fr,w.heap[b]? = some (.cells c 142 fr) → b < N → w'.heap[b]? = some (.cells c 142 fr)) : Waits w' N vals xs:=fun i v x hv hx=>by
 obtain ⟨B,h1,h2,h3⟩:=h i v x hv hx
 exact ⟨B,h1,h2,hk _ _ _ h3 h1⟩
theorem Waits.more {w : World} {N M : Nat} {vals : List Value} {xs : List Step} (h : Waits w N vals xs) (hm : N ≤ M) : Waits w M vals xs:=fun i v x hv hx=>by
 obtain ⟨B,h1,h2,h3⟩:=h i v x hv hx
 exact ⟨B,by omega,h2,h3⟩
theorem Waits.ext {w w' : World} {N : Nat} {vals : List Value} {xs : List Step} (h : Waits w N vals xs) (hx : Ext w w') : Waits w' N vals xs:=h.keep fun _ _ _ hb _=>keep_ext hx hb
theorem Waits.chg {w w' : World} {N : Nat} {vals : List Value} {xs : List Step} {L : List Nat} (h : Waits w N vals xs) (hC : Chg L w w') (hL : ∀ b ∈ L,N ≤ b) : Waits w' N vals xs:=h.keep fun b _ _ hb hN=>hC.keep hb fun hm=>by have:=hL b hm;omega
theorem waits_snoc {w : World} {N : Nat} {vals : List Value} {xs : List Step} (h : Waits w N vals xs) {x : Step} {B : Nat} (hx : xs[vals.length]? = some x) (hB : B < N) (hb : w.heap[B]? = some (.cells (stepC x).toArray 142 (0,0))) : Waits w N (vals ++ [actV x B]) xs:=fun i v y hv hy=>by
 by_cases hi : i < vals.length
 ·rw [List.getElem?_append_left hi] at hv
  exact h i v y hv hy
 ·have hi' : i = vals.length:=by
   have:=(List.getElem?_eq_some_iff.1 hv).1
   simp at this;omega
  subst hi'
  rw [List.getElem?_append_right (Nat.le_refl _)] at hv
  simp at hv
  rw [hx] at hy
  obtain rfl:=Option.some.inj hy
  exact ⟨B,hB,hv.symm,hb⟩
theorem act_call (x : Step) (args : Array Value) (w : World) : (callFunc (actFn x) args).run Tryz.prog w = .ok (.enter (actFn x) args) w:=by
 unfold actFn
 split
 ·kernel_rfl
 ·split <;> kernel_rfl
theorem to_end {s : Store} {xs : List Step} {j : Nat} (hj : j ≤ xs.length) (t : Bool) : toSteps s xs j t = if h : t = true ∧ j < xs.length then doStep (doAll s (xs.take j)) xs[j] true else doAll s (xs.take j):=by
 unfold toSteps
 rw [Int.toNat_natCast]
 by_cases hc : t = true ∧ j < xs.length
 ·rw [dif_pos hc,if_pos (by simp [hc.1];omega),List.getElem?_eq_getElem hc.2];rfl
 ·rw [dif_neg hc,if_neg]
  intro h
  simp only [Bool.and_eq_true,decide_eq_true_eq] at h
  exact hc ⟨h.1.1,by omega⟩
theorem to_all {s : Store} {xs : List Step} {cut : Int} (h : (xs.length : Int) ≤ cut) (t : Bool) : toSteps s xs cut t = doAll s xs:=by
 unfold toSteps
 rw [if_neg,List.take_of_length_le (by omega)]
 intro h2
 simp only [Bool.and_eq_true,decide_eq_true_eq] at h2
 omega
theorem doAll_snoc {s : Store} {xs : List Step} {j : Nat} (hj : j < xs.length) : doAll s (xs.take (j + 1)) = doStep (doAll s (xs.take j)) xs[j] false:=by
 unfold doAll
 rw [← take_snoc xs j hj,List.foldl_append];rfl
theorem own_ne {w : World} {base n m : Nat} {e T : TypeId} {v : Value} {xs : List Value} {Q : Nat} {c : Array Value} {fr : Nat × Nat} (h : w.ownsRow base e n v m xs) (hQ : w.heap[Q]? = some (.cells c T fr)) (hT : T ≠ e) : v.ownBlock ≠ some Q:=by
 intro hB
 rcases h.2 with ⟨rfl,_⟩ | ⟨g,cap,cur,rfl,_,hh,_⟩
 ·simp [Value.ownBlock] at hB
 ·simp [Value.ownBlock] at hB
  subst hB
  rw [hh] at hQ
  simp at hQ
  exact hT hQ.2.1.symm
theorem qat_of {w : World} {base Q : Nat} {v : Value} {n : Nat} {vals : List Value} (h : w.ownsRow base 195 1 v n vals) (hQ : w.heap[Q]? = some (.cells #[v] 192 (0,0))) : ∃ G,QAt w Q G vals ∧ Q ≠ G ∧ (vals ≠ [] → G < w.heap.size):=by
 have hl : vals.length = n:=by have:=h.1;omega
 have hne:=own_ne h hQ (by decide)
 have h2:=h
 rcases h.2 with ⟨rfl,h0⟩ | ⟨g,cap,cur,rfl,_,hh,hc,_⟩
 ·have hv : vals = []:=List.length_eq_zero_iff.1 (by omega)
  subst hv
  exact ⟨Q + 1,⟨none,0,hQ,by simp,.inl rfl⟩,by omega,fun h=>absurd rfl h⟩
 ·refine ⟨g,⟨some ⟨g,0,none⟩,cap,by rw [hl];exact hQ,by omega,.inr ⟨0,rfl,fun i u hu=>?_⟩⟩,fun e=>hne (by rw [e];rfl),fun _=>heap_lt hh⟩
  have:=h2.cells rfl i u hu
  rwa [Addr.add_mid] at this
set_option maxRecDepth 20000 in
set_option maxHeartbeats 8000000 in
theorem implStepsTo_c (fv dv : Value) (s : Store) (sv : Value) (xs : List Step) (cut : Int) (torn : Bool) (w : World) (h : StoreV w fv dv s) (hok : storeOkB s = true) (hx : Steps' (Old w) w sv xs) (hV : ∀ x ∈ xs,StepV x) (hl : xs.length ≤ 1000) (hcut : 0 ≤ cut ∧ cut ≤ 9223372036854775807) :
  Calls Tryz.prog 120 #[.agg #[fv,dv],sv,.int .i64 cut,.bool torn] w (StToΦ w (toSteps s xs cut torn)):=by
 have hSO:=fun (w' : World) (hx : Ext w w')=>implStoreOk_c fv dv s w' (h.ext hx) (pages_short (storeOk_flash hok)) (by have:=storeOk_disk hok;omega)
 rw [hok] at hSO
 have hsh:=storeOk_shape hok
 have hSC:=fun (w' : World) (hx : Ext w w')=>storeCopy_c fv dv s w' (h.ext hx) hsh.flash hsh.pages hsh.disk
 have HP:=Lib.hid (storeOk_P hok)
 have HV:=Lib.hid hV
 obtain ⟨a1,n1,rfl⟩:=h.1.form
 obtain ⟨a2,n2,rfl⟩:=h.2.form
 obtain ⟨sa,sc,rfl⟩:=hx.form
 clear h hok hsh hV
 obtain ⟨hc0,hc1⟩:=hcut
 have hcn : ¬ cut < 0:=by omega
 go_enter Tryz.func120,Tryz.ntmps120
 go_wp2_with fail
 refine (hSO _ (ext_alloc (ext_alloc (ext_refl _) _) _)).mono ?_;rintro e1 w1 ⟨rfl,hx1⟩
 have X1:=ext_trans (ext_alloc (ext_alloc (ext_refl w) _) _) hx1
 have G4:=keep_ext hx1 (hg_alloc (hg_new (b:=w.heap.size) rfl))
 have G8:=keep_ext hx1 (hg_new (b:=w.heap.size + 1) (by simp))
 have s1:=hx1.size
 simp at s1
 clear hSO hx1
 have GQ : (w1.alloc (.cells #[.slice none 0 0] 192)).heap[w1.heap.size]? = some (.cells #[.slice none 0 0] 192 (0,0)):=hg_new rfl
 have X2 : Ext w (w1.alloc (.cells #[.slice none 0 0] 192)):=ext_alloc X1 _
 replace G4:=hg_alloc (x:=.cells #[.slice none 0 0] 192) G4
 replace G8:=hg_alloc (x:=.cells #[.slice none 0 0] 192) G8
 have HW0 : Hid (Waits (w1.alloc (.cells #[.slice none 0 0] 192)) (w1.heap.size + 1) [] xs):=Lib.hid (fun i v x hv=>by simp at hv)
 go_wp2_with fail
 go_loopw [29] (fun y wr=>∃ (k : Nat) (v : Value) (vals : List Value),k ≤ xs.length ∧ y = .int .i64 k ∧ Ext w wr ∧ vals.length = k ∧ wr.ownsRow w.heap.size 195 1 v k vals ∧ Hid (Waits wr wr.heap.size vals xs) ∧ wr.heap[w1.heap.size]? = some (.cells #[v] 192 (0,0)) ∧
  wr.heap[w.heap.size]? = some (.cells #[.slice a1 s.flash.length n1,.slice a2 s.disk.length n2] 42 (0,0)) ∧ wr.heap[w.heap.size + 1]? = some (.cells #[.slice none 0 0,.slice none 0 0] 42 (0,0))) (fun y _=>xs.length - (intOf y).toNat)
 case atStart=>exact ⟨0,_,[],Nat.zero_le _,rfl,X2,rfl,⟨rfl,.inl ⟨rfl,rfl⟩⟩,Lib.hid (HW0.out.more (by simp)),GQ,G4,G8⟩
 case round =>
  clear HW0 GQ G4 G8 X2
  obtain ⟨k,v,vals,hk,rfl,hX,hvl,hown,HW,GQ,G4,G8⟩:=hrel
  by_cases hlt : k < xs.length
  ·obtain ⟨b,o,rfl,hb,d0,d1,d2,d3,d4,d5,d6,d7⟩:=hx.at8 hlt
   have hb' : b < w.heap.size:=hb
   have hv:=HV.out xs[k] (List.getElem_mem _)
   have hxk : xs[vals.length]? = some xs[k]:=by rw [hvl];exact List.getElem?_eq_getElem hlt
   obtain ⟨hcx,hfx⟩:=bcell hX
   have hso:=fun w'=>stepOk_c xs[k] hv w'
   have hao:=fun w'=>actionOf_c xs[k] hv w'
   generalize xs[k] = x at *
   obtain ⟨va,vc,rfl⟩:=rowForm hown
   go_wp2_with fail
   refine (hso _).mono ?_;rintro e2 w2 ⟨rfl,hx2⟩
   have GS:=keep_ext hx2 (hg_new (b:=wr.heap.size) rfl)
   have H2 : Ext wr w2:=ext_trans (ext_alloc (ext_refl _) _) hx2
   have hX2:=ext_trans hX H2
   have hown2:=ownsRow_ext hown H2
   have HW2:=Lib.hid (HW.out.ext H2)
   have hz2:=H2.size
   replace GQ:=keep_ext H2 GQ
   replace G4:=keep_ext H2 G4
   replace G8:=keep_ext H2 G8
   clear hso hown hcx hfx d0 d1 d2 d3 d4 d5 d6 d7 HW hX hx2 H2
   go_wp2_with fail
   refine wp_region_sa hX2 hown2 [3,4,5] [0,1,2,3,4,5,6] [] [7] (by kernel_rfl) (by kernel_rfl) ?late ?_
   case late=>exact fun f hf=>absurd hf List.not_mem_nil
   refine Rob.y (v:=?_) rfl rfl (fun w1 hx hH=>?_) ?_;rotate_left
   ·go_simp;first | done | rfl | exact (Bool.not_not _).symm
   simp only [Act.put,slA,slB,slC]
   iterate 2
    refine Rob.y (v:=?_) rfl rfl (fun w1 hx hH=>?_) ?_;rotate_left
    ·(have hE : SA _ _ _ _ _ _ _ _ w1:=(by first | exact hx | exact hx.1 | exact hx.1.1 | exact hx.1.1.1);obtain ⟨qq,qqf⟩:=cellsK (hE.keep hown2 (by decide) GQ);obtain ⟨qs,qsf⟩:=cellsK (hE.keep hown2 (by decide) GS));go_simp;first | done | rfl
    simp only [Act.put,slA,slB,slC]
   refine Rob.c (fun lo hi v w'=>v = actV x lo ∧ lo < hi ∧ w'.heap[lo]? = some (.cells (stepC x).toArray 142 (0,0))) rfl rfl rfl (fun _ _ h hx=>h.stab hx) (fun lo hi v w w' h hx=>⟨h.1,h.2.1,keep_ext hx h.2.2⟩) (fun w1 hx hH=>?_) (fun lo3 hi3 v3 hlo3 hhi3 hv3=>?_)
   ·unfold RunTo;go_simp;exact (hao _).mono fun e w' h=>by obtain ⟨rfl,rfl⟩:=h;exact ⟨_,rfl,ext_alloc (ext_refl _) _,rfl,by simp,hg_new rfl⟩
   simp only [Act.put,slA,slB,slC]
   obtain ⟨_,rfl,hlt3,_⟩:=hv3
   refine Rob.al (.cells #[actV x lo3] 195) (fun lo=>.slice (some ⟨lo,0,none⟩) 1 1) rfl rfl rfl (fun _ _ h hx=>⟨h.1.stab hx,⟨h.2.1,h.2.2.1,keep_ext hx h.2.2.2⟩⟩) (fun w1=>by unfold actV;go_simp) (fun lo4 hi4 hlo4 hhi4=>?_)
   simp only [Act.put,slA,slB,slC]
   refine Rob.appR 8 [actV x lo3] 1 rfl rfl rfl rfl rfl rfl Tryz.underlying190 (by kernel_rfl) (by omega) rfl rfl (by simp [Value.oneCell',actV]) (by simp [maxLen];omega) (by omega) hX2.size (by omega) rfl hown2 (by omega) rfl (fun w hx=>hx.1.1) (fun w hx=>hx.2) (fun w w' hx hs hk=>⟨⟨hs,⟨hx.1.2.1,hx.1.2.2.1,(hk lo3 (by omega) (heap_lt hx.1.2.2.2)).trans hx.1.2.2.2⟩⟩,(hk lo4 (by omega) (heap_lt hx.2)).trans hx.2⟩) (fun lo5 hi5 v5 hlo5 hv5=>?_)
   simp only [Act.put,slA,slB,slC]
   refine Rob.y (v:=?_) rfl rfl (fun w1 hx hH=>?_) ?_;rotate_left
   ·go_simp;first | done | rfl | exact (Bool.not_not _).symm
   simp only [Act.put,slA,slB,slC]
   refine fin_tail (fun w3 hx3 _=>?_)
   obtain ⟨⟨⟨hSA,-,-,hB3⟩,-⟩,hR⟩:=hx3
   have hX3:=hSA.ext
   have hz3:=hSA.siz
   replace GQ:=hSA.keep hown2 (by decide) GQ
   replace G4:=hSA.keep hown2 (by decide) G4
   replace G8:=hSA.keep hown2 (by decide) G8
   have l3:=heap_lt hB3
   have HW3 : Hid (Waits w3 w3.heap.size (vals ++ [actV x lo3]) xs):=Lib.hid (waits_snoc ((HW2.out.keep fun b c fr hb hN=>hSA.keep hown2 (by decide) hb).more (by omega)) hxk l3 hB3)
   obtain ⟨a5,c5,rfl⟩:=rowForm hR
   have hlR:=hR
   have HR:=Lib.hid hR
   obtain ⟨q1,qf1⟩:=cellsK GQ
   have lQ:=heap_lt GQ
   clear hSA hB3 hR hlR HW2 hown2 hX2 hao hv5
   simp only [dstOf,List.getElem?_cons_succ,List.getElem?_cons_zero,Option.bind_some,Act.put,slA,slB,slC,List.filterMap_cons,List.filterMap_nil]
   refine wpList_plain rfl (fun K hK=>?_)
   go_simp
   refine hK _ _ ?_
   clear hK K
   refine wpList_nil ?_
   have GQ2:=hg_here (k:=0) (v:=.slice a5 (k + 1) c5) GQ
   have hCq : Chg [w1.heap.size] w3 (w3.setCell ⟨w1.heap.size,0,none⟩ (.slice a5 (k + 1) c5)):=(Chg.refl _ _).set (p:=⟨w1.heap.size,0,none⟩) (.inl (by simp)) _
   have HR2 : Hid ((w3.setCell ⟨w1.heap.size,0,none⟩ (.slice a5 (k + 1) c5)).ownsRow w.heap.size 195 1 (.slice a5 (k + 1) c5) (k + 1) (vals ++ [actV x lo3])):=Lib.hid (ownsRow_setCell_other HR.out (own_ne HR.out GQ (by decide)) _)
   have HW4 : Hid (Waits (w3.setCell ⟨w1.heap.size,0,none⟩ (.slice a5 (k + 1) c5)) (w3.setCell ⟨w1.heap.size,0,none⟩ (.slice a5 (k + 1) c5)).heap.size (vals ++ [actV x lo3]) xs):=Lib.hid (by
    rw [setCell_size]
    exact HW3.out.keep fun b c fr hb hN=>by
     rw [setCell_other (by rintro rfl;rw [GQ] at hb;simp at hb)];exact hb)
   have hX4 : Ext w (w3.setCell ⟨w1.heap.size,0,none⟩ (.slice a5 (k + 1) c5)):=hCq.ext hX3 (by simp;omega)
   replace G4:=hCq.keep G4 (by simp;omega)
   replace G8:=hCq.keep G8 (by simp;omega)
   clear HW3 HR q1 qf1 hCq hX3
   go_wp2_with fail
   go_roundw
   case rel=>exact ⟨k + 1,_,vals ++ [actV x lo3],by omega,by go_num,hX4,by simp [hvl],HR2.out,HW4,hgo GQ2 rfl,G4,G8⟩
   case measure=>simp [intOf];omega
  ·obtain rfl : k = xs.length:=by omega
   obtain ⟨g4,gf4⟩:=cellsK G4
   have l4:=heap_lt G4
   go_wp2_with fail
   refine (hSC _ hX).mono ?_;rintro e2 w2 ⟨f0,d0,L0,rfl,hx2,hO,hnd,hb⟩
   obtain ⟨G,hqa,hQG,hG⟩:=qat_of hown GQ
   have s2:=hx2.size
   have lQ:=heap_lt GQ
   have hlL:=hO.lt
   have hX2:=ext_trans hX hx2
   have hqa2:=hqa.keep (hx2.block _ hqa.lt.1) (fun hne=>hx2.block _ (hG hne))
   have HW2:=Lib.hid (HW.out.ext hx2)
   replace G8:=keep_ext hx2 G8
   obtain ⟨N,hN⟩ : ∃ N,wr.heap.size = N:=⟨_,rfl⟩
   rw [hN] at HW2 hb s2 lQ
   have hN2 : w.heap.size + 1 + 1 ≤ N:=by have:=hX.size;omega
   have HNG : Hid (vals ≠ [] → G < N):=Lib.hid (by rw [← hN];exact hG)
   have HB:=Lib.hid hb
   have HO:=Lib.hid hO
   have HND:=Lib.hid hnd
   have HLL:=Lib.hid hlL
   have HQA:=Lib.hid hqa2
   obtain ⟨q1,m1,c1,q2,m2,c2,rfl,rfl⟩:=hO.forms
   clear hN hG hqa hx2 hX hown GQ G4 g4 gf4 l4 HW hSC hO hnd hb hlL hqa2
   go_wp2_with fail
   have hP2 : N ≤ w2.heap.size:=s2
   have hst0 : StAt (w2.alloc (.cells #[.slice q1 m1 c1,.slice q2 m2 c2] 42)) w2.heap.size L0 s (.slice q1 m1 c1) (.slice q2 m2 c2):=
    ⟨hg_new rfl,HO.out.ext (ext_alloc (ext_refl _) _),List.nodup_cons.2 ⟨fun hm=>by have:=HLL.out _ hm;omega,HND.out⟩⟩
   have HST0:=Lib.hid hst0
   have HQ0:=Lib.hid (HQA.out.keep (w':=w2.alloc (.cells #[.slice q1 m1 c1,.slice q2 m2 c2] 42)) (alloc_get_old (by have:=HQA.out.lt.1;omega)) (fun hne=>alloc_get_old (HQA.out.lt.2 hne)))
   have HW0:=Lib.hid (HW2.out.ext (ext_alloc (ext_refl _) (.cells #[.slice q1 m1 c1,.slice q2 m2 c2] 42)))
   replace G8:=hg_alloc (x:=.cells #[.slice q1 m1 c1,.slice q2 m2 c2] 42) G8
   have hX3 : Ext w (w2.alloc (.cells #[.slice q1 m1 c1,.slice q2 m2 c2] 42)):=ext_alloc hX2 _
   clear hst0 HQA HW2 hX2
   go_loopw [14] (fun y wr=>∃ (j : Nat) (f d : Value) (L : List Nat),j ≤ xs.length ∧ (j : Int) ≤ cut ∧ y = .int .i64 j ∧ Hid (StAt wr w2.heap.size L (doAll s (xs.take j)) f d) ∧ Hid (∀ b ∈ L,N ≤ b) ∧ Hid (QAt wr w1.heap.size G (vals.drop j)) ∧ Hid (Waits wr N vals xs) ∧ Ext w wr ∧
    wr.heap[w.heap.size + 1]? = some (.cells #[.slice none 0 0,.slice none 0 0] 42 (0,0))) (fun y _=>(xs.length + 1) - (intOf y).toNat)
   case atStart=>exact ⟨0,_,_,L0,by omega,by omega,rfl,HST0,HB,HQ0,HW0,hX3,G8⟩
   case round =>
    clear HST0 HQ0 HW0 G8 hX3
    obtain ⟨j,f,d,L,hj,hjc,rfl,HS,HLN,HQ,HW,hX,G8⟩:=hrel
    by_cases hlt : (j : Int) < cut
    ·by_cases hjn : j < xs.length
     ·have hdr : vals.drop j = vals[j]'(by omega) :: vals.drop (j + 1):=List.drop_eq_getElem_cons _
      obtain ⟨B,hBN,hvB,hBx⟩:=HW.out j _ _ (List.getElem?_eq_getElem (by omega)) (List.getElem?_eq_getElem hjn)
      rw [hvB] at hdr
      have hq:=HQ.out
      rw [hdr] at hq
      have htk:=take_c w1.heap.size G xs[j] B (vals.drop (j + 1)) wr hq hQG (by simp;omega)
      have hvx:=HV.out xs[j] (List.getElem_mem _)
      have hnx:=doAll_snoc (s:=s) hjn
      have hsp : StoreP (doAll s (xs.take j)):=HP.out.all fun x hx=>(HV.out x (List.mem_of_mem_take hx)).ok
      have HNX:=Lib.hid hnx
      have HSP:=Lib.hid hsp
      have hact:=fun (torn : Bool) (f d : Value) (L : List Nat) (w' : World) (h : StAt w' w2.heap.size L (doAll s (xs.take j)) f d) (hB : w'.heap[B]? = some (.cells (stepC xs[j]).toArray 142 (0,0)))=>act_c xs[j] hvx w2.heap.size B L _ f d torn w' h hsp hB
      have HACT:=Lib.hid hact
      clear hnx hsp hact hq hdr hvB
      have hcall:=act_call xs[j]
      unfold actV at htk
      generalize actFn xs[j] = K at *
      go_wp2_with fail
      refine htk.mono ?_;rintro e4 w4 ⟨rfl,hC4,hQ4⟩
      have hQT : ∀ (b : Nat) (c : Array Value) (fr : Nat × Nat),wr.heap[b]? = some (.cells c 142 fr) → b ≠ w1.heap.size:=by
       rintro b c fr hb rfl
       obtain ⟨a,c',h1,_⟩:=HQ.out.ex
       rw [h1] at hb;simp at hb
      have HS4:=Lib.hid (HS.out.keep (w':=w4) fun b hb=>hC4.block b (HS.out.lt b hb) (by
       have hbN : N ≤ b:=by
        rcases List.mem_cons.1 hb with rfl | hb
        ·exact hP2
        ·exact HLN.out b hb
       simp;omega))
      have hB4:=hC4.keep hBx (by have:=hQT _ _ _ hBx;simpa using this)
      have HW4:=Lib.hid (HW.out.keep (w':=w4) fun b c fr hb _=>hC4.keep hb (by have:=hQT _ _ _ hb;simpa using this))
      replace G8:=hC4.keep G8 (by simp;omega)
      have hX4:=hC4.ext hX (by simp;omega)
      have hz4:=hC4.size
      have hN4 : N ≤ w4.heap.size:=Nat.le_trans hP2 (Nat.le_of_lt (heap_lt HS4.out.var))
      have HQ4:=Lib.hid hQ4
      clear hC4 hX HS HW HQ hBx hQT htk hQ4
      go_wp2_with fail
      refine (HACT.out false _ _ _ _ HS4.out hB4).mono ?_;rintro e5 w5 ⟨rfl,hC5,f5,d5,L5,hS5,hL5⟩
      rw [← HNX.out] at hS5
      have hLb : ∀ b ∈ w2.heap.size :: L,N ≤ b:=fun b hb=>by
       rcases List.mem_cons.1 hb with rfl | hb
       ·exact hP2
       ·exact HLN.out b hb
      have HQ5:=Lib.hid (HQ4.out.keep (w':=w5) (hC5.block _ HQ4.out.lt.1 fun hm=>by have:=hLb _ hm;omega) (fun hne=>hC5.block _ (HQ4.out.lt.2 hne) fun hm=>by
       have:=hLb _ hm
       have:=HNG.out (fun e=>hne (by rw [e];simp))
       omega))
      have HW5:=Lib.hid (HW4.out.chg hC5 hLb)
      have hX5:=hC5.ext hX4 fun b hb=>by have:=hLb b hb;omega
      replace G8:=hC5.keep G8 fun hm=>by have:=hLb _ hm;omega
      have HS5:=Lib.hid hS5
      have HL5 : Hid (∀ b ∈ L5,N ≤ b):=Lib.hid fun b hb=>(hL5 b hb).elim (fun h=>HLN.out b h) fun h=>by omega
      clear hC5 hX4 HS4 HW4 HQ4 hB4 hS5 hL5 hLb HACT
      go_wp2_with fail
      go_roundw
      case rel=>exact ⟨j + 1,f5,d5,L5,by omega,by omega,by go_num,HS5,HL5,HQ5,HW5,hX5,G8⟩
      case measure=>simp [intOf];omega
     ·have hjx : j = xs.length:=by omega
      have hdr : vals.drop j = []:=List.drop_eq_nil_of_le (by omega)
      have hq:=HQ.out
      rw [hdr] at hq
      have htk:=take0_c w1.heap.size G wr hq
      have HEND : Hid (toSteps s xs cut torn = doAll s (xs.take j)):=Lib.hid (by rw [to_all (by omega),List.take_of_length_le (by omega)])
      clear hq hdr
      go_wp2_with fail
      refine htk.mono ?_;rintro e4 w4 ⟨rfl,rfl⟩
      obtain ⟨z1,zf1⟩:=cellsK HS.out.var
      obtain ⟨z8,zf8⟩:=cellsK G8
      obtain ⟨b1,k1,j1,b2,k2,j2,rfl,rfl⟩:=HS.out.own.forms
      have lP:=heap_lt HS.out.var
      have l8:=heap_lt G8
      have h8P : ¬ (w.heap.size + 1 = w2.heap.size):=by omega
      go_wp2_with fail
      refine bodyPost_ret (v:=.tuple #[.agg #[.slice b1 k1 j1,.slice b2 k2 j2],.bool true]) (by simp [results,Tryz.results120,go_sem,z8,zf8,l8]) rfl ⟨_,_,L,rfl,?_,?_,(List.nodup_cons.1 HS.out.nd).2,fun b hb=>by have:=HLN.out b hb;omega⟩
      ·((repeat (first | with_reducible (refine ext_set2 ?_ ?_);focus (first | exact Nat.le_refl _ | (dsimp only;omega) | (simp;omega)) | with_reducible refine ext_alloc2 ?_));with_reducible exact hX)
      ·rw [HEND.out]
       refine HS.out.own.keep fun b hb=>?_
       have:=HLN.out b hb
       iterate 2 rw [setCell_other (by omega)]
    ·obtain rfl : cut = (j : Int):=by omega
     have hte:=to_end (s:=s) hj torn
     by_cases hjn : j < xs.length
     ·cases torn
      ·have HEND : Hid (toSteps s xs j false = doAll s (xs.take j)):=Lib.hid (by rw [hte,dif_neg (fun h=>by cases h.1)])
       clear hte
       have hdr : vals.drop j = vals[j]'(by omega) :: vals.drop (j + 1):=List.drop_eq_getElem_cons _
       obtain ⟨B,hBN,hvB,hBx⟩:=HW.out j _ _ (List.getElem?_eq_getElem (by omega)) (List.getElem?_eq_getElem hjn)
       rw [hvB] at hdr
       have hq:=HQ.out
       rw [hdr] at hq
       have htk:=take_c w1.heap.size G xs[j] B (vals.drop (j + 1)) wr hq hQG (by simp;omega)
       have hvx:=HV.out xs[j] (List.getElem_mem _)
       have hnx:=doAll_snoc (s:=s) hjn
       have hsp : StoreP (doAll s (xs.take j)):=HP.out.all fun x hx=>(HV.out x (List.mem_of_mem_take hx)).ok
       have HNX:=Lib.hid hnx
       have HSP:=Lib.hid hsp
       have hact:=fun (torn : Bool) (f d : Value) (L : List Nat) (w' : World) (h : StAt w' w2.heap.size L (doAll s (xs.take j)) f d) (hB : w'.heap[B]? = some (.cells (stepC xs[j]).toArray 142 (0,0)))=>act_c xs[j] hvx w2.heap.size B L _ f d torn w' h hsp hB
       have HACT:=Lib.hid hact
       clear hnx hsp hact hq hdr hvB
       have hcall:=act_call xs[j]
       unfold actV at htk
       generalize actFn xs[j] = K at *
       go_wp2_with fail
       refine htk.mono ?_;rintro e4 w4 ⟨rfl,hC4,hQ4⟩
       have hQT : ∀ (b : Nat) (c : Array Value) (fr : Nat × Nat),wr.heap[b]? = some (.cells c 142 fr) → b ≠ w1.heap.size:=by
        rintro b c fr hb rfl
        obtain ⟨a,c',h1,_⟩:=HQ.out.ex
        rw [h1] at hb;simp at hb
       have HS4:=Lib.hid (HS.out.keep (w':=w4) fun b hb=>hC4.block b (HS.out.lt b hb) (by
        have hbN : N ≤ b:=by
         rcases List.mem_cons.1 hb with rfl | hb
         ·exact hP2
         ·exact HLN.out b hb
        simp;omega))
       have hB4:=hC4.keep hBx (by have:=hQT _ _ _ hBx;simpa using this)
       have HW4:=Lib.hid (HW.out.keep (w':=w4) fun b c fr hb _=>hC4.keep hb (by have:=hQT _ _ _ hb;simpa using this))
       replace G8:=hC4.keep G8 (by simp;omega)
       have hX4:=hC4.ext hX (by simp;omega)
       have hz4:=hC4.size
       have hN4 : N ≤ w4.heap.size:=Nat.le_trans hP2 (Nat.le_of_lt (heap_lt HS4.out.var))
       have HQ4:=Lib.hid hQ4
       clear hC4 hX HS HW HQ hBx hQT htk hQ4
       have hX:=hX4
       have HS:=HS4
       obtain ⟨z1,zf1⟩:=cellsK HS.out.var
       obtain ⟨z8,zf8⟩:=cellsK G8
       obtain ⟨b1,k1,j1,b2,k2,j2,rfl,rfl⟩:=HS.out.own.forms
       have lP:=heap_lt HS.out.var
       have l8:=heap_lt G8
       have h8P : ¬ (w.heap.size + 1 = w2.heap.size):=by omega
       go_wp2_with fail
       refine bodyPost_ret (v:=.tuple #[.agg #[.slice b1 k1 j1,.slice b2 k2 j2],.bool true]) (by simp [results,Tryz.results120,go_sem,z8,zf8,l8]) rfl ⟨_,_,L,rfl,?_,?_,(List.nodup_cons.1 HS.out.nd).2,fun b hb=>by have:=HLN.out b hb;omega⟩
       ·((repeat (first | with_reducible (refine ext_set2 ?_ ?_);focus (first | exact Nat.le_refl _ | (dsimp only;omega) | (simp;omega)) | with_reducible refine ext_alloc2 ?_));with_reducible exact hX)
       ·rw [HEND.out]
        refine HS.out.own.keep fun b hb=>?_
        have:=HLN.out b hb
        iterate 2 rw [setCell_other (by omega)]
      ·have HEND0 : Hid (toSteps s xs j true = doStep (doAll s (xs.take j)) xs[j] true):=Lib.hid (by rw [hte,dif_pos ⟨rfl,hjn⟩])
       clear hte
       have hdr : vals.drop j = vals[j]'(by omega) :: vals.drop (j + 1):=List.drop_eq_getElem_cons _
       obtain ⟨B,hBN,hvB,hBx⟩:=HW.out j _ _ (List.getElem?_eq_getElem (by omega)) (List.getElem?_eq_getElem hjn)
       rw [hvB] at hdr
       have hq:=HQ.out
       rw [hdr] at hq
       have htk:=take_c w1.heap.size G xs[j] B (vals.drop (j + 1)) wr hq hQG (by simp;omega)
       have hvx:=HV.out xs[j] (List.getElem_mem _)
       have hnx:=doAll_snoc (s:=s) hjn
       have hsp : StoreP (doAll s (xs.take j)):=HP.out.all fun x hx=>(HV.out x (List.mem_of_mem_take hx)).ok
       have HNX:=Lib.hid hnx
       have HSP:=Lib.hid hsp
       have hact:=fun (torn : Bool) (f d : Value) (L : List Nat) (w' : World) (h : StAt w' w2.heap.size L (doAll s (xs.take j)) f d) (hB : w'.heap[B]? = some (.cells (stepC xs[j]).toArray 142 (0,0)))=>act_c xs[j] hvx w2.heap.size B L _ f d torn w' h hsp hB
       have HACT:=Lib.hid hact
       clear hnx hsp hact hq hdr hvB
       have hcall:=act_call xs[j]
       unfold actV at htk
       generalize actFn xs[j] = K at *
       go_wp2_with fail
       refine htk.mono ?_;rintro e4 w4 ⟨rfl,hC4,hQ4⟩
       have hQT : ∀ (b : Nat) (c : Array Value) (fr : Nat × Nat),wr.heap[b]? = some (.cells c 142 fr) → b ≠ w1.heap.size:=by
        rintro b c fr hb rfl
        obtain ⟨a,c',h1,_⟩:=HQ.out.ex
        rw [h1] at hb;simp at hb
       have HS4:=Lib.hid (HS.out.keep (w':=w4) fun b hb=>hC4.block b (HS.out.lt b hb) (by
        have hbN : N ≤ b:=by
         rcases List.mem_cons.1 hb with rfl | hb
         ·exact hP2
         ·exact HLN.out b hb
        simp;omega))
       have hB4:=hC4.keep hBx (by have:=hQT _ _ _ hBx;simpa using this)
       have HW4:=Lib.hid (HW.out.keep (w':=w4) fun b c fr hb _=>hC4.keep hb (by have:=hQT _ _ _ hb;simpa using this))
       replace G8:=hC4.keep G8 (by simp;omega)
       have hX4:=hC4.ext hX (by simp;omega)
       have hz4:=hC4.size
       have hN4 : N ≤ w4.heap.size:=Nat.le_trans hP2 (Nat.le_of_lt (heap_lt HS4.out.var))
       have HQ4:=Lib.hid hQ4
       clear hC4 hX HS HW HQ hBx hQT htk hQ4
       go_wp2_with fail
       refine (HACT.out true _ _ _ _ HS4.out hB4).mono ?_;rintro e5 w5 ⟨rfl,hC5,f5,d5,L5,hS5,hL5⟩
       have hLb : ∀ b ∈ w2.heap.size :: L,N ≤ b:=fun b hb=>by
        rcases List.mem_cons.1 hb with rfl | hb
        ·exact hP2
        ·exact HLN.out b hb
       have hX:=hC5.ext hX4 fun b hb=>by have:=hLb b hb;omega
       replace G8:=hC5.keep G8 fun hm=>by have:=hLb _ hm;omega
       have HS:=Lib.hid hS5
       have HL5 : Hid (∀ b ∈ L5,N ≤ b):=Lib.hid fun b hb=>(hL5 b hb).elim (fun h=>HLN.out b h) fun h=>by omega
       have HEND:=HEND0
       clear hC5 hX4 HS4 HW4 HQ4 hB4 hS5 hL5 hLb HACT HEND0 HLN
       have HLN:=HL5
       clear HL5
       obtain ⟨L,hLL⟩ : ∃ L,L = L5:=⟨_,rfl⟩
       subst hLL
       obtain ⟨z1,zf1⟩:=cellsK HS.out.var
       obtain ⟨z8,zf8⟩:=cellsK G8
       obtain ⟨b1,k1,j1,b2,k2,j2,rfl,rfl⟩:=HS.out.own.forms
       have lP:=heap_lt HS.out.var
       have l8:=heap_lt G8
       have h8P : ¬ (w.heap.size + 1 = w2.heap.size):=by omega
       go_wp2_with fail
       refine bodyPost_ret (v:=.tuple #[.agg #[.slice b1 k1 j1,.slice b2 k2 j2],.bool true]) (by simp [results,Tryz.results120,go_sem,z8,zf8,l8]) rfl ⟨_,_,L,rfl,?_,?_,(List.nodup_cons.1 HS.out.nd).2,fun b hb=>by have:=HLN.out b hb;omega⟩
       ·((repeat (first | with_reducible (refine ext_set2 ?_ ?_);focus (first | exact Nat.le_refl _ | (dsimp only;omega) | (simp;omega)) | with_reducible refine ext_alloc2 ?_));with_reducible exact hX)
       ·rw [HEND.out]
        refine HS.out.own.keep fun b hb=>?_
        have:=HLN.out b hb
        iterate 2 rw [setCell_other (by omega)]
     ·have hdr : vals.drop j = []:=List.drop_eq_nil_of_le (by omega)
      have hq:=HQ.out
      rw [hdr] at hq
      have htk:=take0_c w1.heap.size G wr hq
      have HEND : Hid (toSteps s xs j torn = doAll s (xs.take j)):=Lib.hid (by rw [hte,dif_neg (fun h=>hjn h.2)])
      clear hq hdr hte
      go_wp2_with fail
      refine htk.mono ?_;rintro e4 w4 ⟨rfl,rfl⟩
      obtain ⟨z1,zf1⟩:=cellsK HS.out.var
      obtain ⟨z8,zf8⟩:=cellsK G8
      obtain ⟨b1,k1,j1,b2,k2,j2,rfl,rfl⟩:=HS.out.own.forms
      have lP:=heap_lt HS.out.var
      have l8:=heap_lt G8
      have h8P : ¬ (w.heap.size + 1 = w2.heap.size):=by omega
      go_wp2_with fail
      refine bodyPost_ret (v:=.tuple #[.agg #[.slice b1 k1 j1,.slice b2 k2 j2],.bool true]) (by simp [results,Tryz.results120,go_sem,z8,zf8,l8]) rfl ⟨_,_,L,rfl,?_,?_,(List.nodup_cons.1 HS.out.nd).2,fun b hb=>by have:=HLN.out b hb;omega⟩
      ·((repeat (first | with_reducible (refine ext_set2 ?_ ?_);focus (first | exact Nat.le_refl _ | (dsimp only;omega) | (simp;omega)) | with_reducible refine ext_alloc2 ?_));with_reducible exact hX)
      ·rw [HEND.out]
       refine HS.out.own.keep fun b hb=>?_
       have:=HLN.out b hb
       iterate 2 rw [setCell_other (by omega)]
end Go.Bu
namespace Go.Bu
open Go Go.RowKit Go.Plan Go.Proofs
theorem OwnStore.v {w : World} {f d : Value} {s : Store} {L : List Nat} (h : OwnStore w f d s L) : StoreV w f d s:=⟨h.flash,h.disk⟩
end Go.Bu
namespace Go.Bu
open Go Go.RowKit Go.Plan Go.Proofs
theorem last_addr {f : List Block} (h : flashOkB f = true) {a : Int} (h0 : 0 < (last f a).seq) : (last f a).addr = a ∧ recOkB (last f a) = true:=by
 rcases last_spec (flashOk_iff.1 h) a with ⟨e,_⟩ | ⟨h1,h2,_⟩
 ·rw [e] at h0;exact absurd h0 (by decide)
 ·exact ⟨h2,h1.ok (flashOk_iff.1 h)⟩
theorem flush_eq {s : Store} (h : flashOkB s.flash = true) (a : Int) : addrStep (flushSteps s) a = if 0 < (last s.flash a).seq ∧ (last s.flash a).kind = 1 then (if writeSteps s.flash 2 a (last s.flash a).val = [] then [] else ⟨1,a,(last s.flash a).val,0,rec0⟩ :: writeSteps s.flash 2 a (last s.flash a).val) else []:=by
 unfold addrStep
 cases hin : inB a 1 6
 ·rw [last_out h hin,if_neg (by simp),if_neg (fun hh=>absurd hh.1 (by decide))]
 ·have hi:=inB_iff.1 hin
  rw [if_pos rfl]
  unfold flushSteps dirtyB readN
  rw [show (((a - 1).toNat : Nat) : Int) + 1 = a by omega]
  by_cases h0 : 0 < (last s.flash a).seq
  ·by_cases h1 : (last s.flash a).kind = 1
   ·have hc : 0 < (last s.flash a).seq ∧ (last s.flash a).kind = 1:=⟨h0,h1⟩
    rw [if_pos hc,if_pos (by simp [h0,h1]),if_pos h0]
   ·have hc : ¬ (0 < (last s.flash a).seq ∧ (last s.flash a).kind = 1):=fun h=>h1 h.2
    rw [if_neg hc,if_neg (by simp [h1])]
  ·have hc : ¬ (0 < (last s.flash a).seq ∧ (last s.flash a).kind = 1):=fun h=>h0 h.1
   rw [if_neg hc,if_neg (by simp [h0])]
theorem fill_eq {s : Store} (h : flashOkB s.flash = true) (a : Int) (hin : inB a 1 6 = true) : addrStep (fillSteps s) a = if 0 < (last s.flash a).seq then [] else writeSteps s.flash 2 a (s.disk.getD (a - 1).toNat 0):=by
 unfold addrStep
 have hi:=inB_iff.1 hin
 rw [hin,if_pos rfl]
 unfold fillSteps
 rw [show (((a - 1).toNat : Nat) : Int) + 1 = a by omega]
set_option maxRecDepth 20000 in
set_option maxHeartbeats 4000000 in
theorem implStepsFlush_c (fv dv : Value) (s : Store) (addr : Int) (w : World) (h : StoreV w fv dv s) (hok : storeOkB s = true) :
  Calls Tryz.prog 134 #[.agg #[fv,dv],.int .i64 addr] w (RetS w (addrStep (flushSteps s) addr)):=by
 have hfo:=storeOk_flash hok
 have hSO:=fun (w' : World) (hx : Ext w w')=>implStoreOk_c fv dv s w' (h.ext hx) (pages_short hfo) (by have:=storeOk_disk hok;omega)
 rw [hok] at hSO
 have hFL:=fun (w' : World) (hx : Ext w w')=>implFindLast_c fv s.flash addr w' (h.1.ext hx) hfo
 have hSW:=fun (w' : World) (hx : Ext w w')=>stepsWrite_c fv s.flash 2 addr (last s.flash addr).val w' (h.1.ext hx) hfo
 have HE:=Lib.hid (flush_eq hfo addr)
 have HAD:=Lib.hid (fun h0=>(last_addr hfo (a:=addr) h0).1)
 have HWL:=Lib.hid (write_le hfo 2 addr (last s.flash addr).val)
 obtain ⟨a1,n1,rfl⟩:=h.1.form
 obtain ⟨a2,n2,rfl⟩:=h.2.form
 clear h hok hfo
 generalize last s.flash addr = r at *
 generalize addrStep (flushSteps s) addr = RS at *
 obtain ⟨rk,rs,ra,rv⟩:=r
 dsimp only [recA] at *
 generalize writeSteps s.flash 2 addr rv = ws at *
 obtain ⟨kd,hkd⟩ : ∃ kd,(rk == 1) = kd:=⟨_,rfl⟩
 have hdt:=fun w'=>isDirty_c ⟨rk,rs,ra,rv⟩ w'
 have hds:=fun w'=>diskStep_c ⟨rk,rs,ra,rv⟩ w'
 dsimp only [recA] at hdt hds
 rw [hkd] at hdt
 have HKD:=Lib.hid hkd
 clear hkd
 by_cases h0 : 0 < rs
 ·cases kd
  ·have hRS : RS = []:=by rw [HE.out,if_neg (fun h=>by have:=HKD.out;rw [h.2] at this;cases this)]
   subst hRS
   go_enter Tryz.func134,Tryz.ntmps134
   go_wp2_with fail
   refine (hSO _ (ext_alloc (ext_refl _) _)).mono ?_;rintro e1 w1 ⟨rfl,hx1⟩
   have G0:=keep_ext hx1 (hg_new (b:=w.heap.size) rfl)
   obtain ⟨g0,gf0⟩:=cellsK G0
   have l0:=heap_lt G0
   have X1:=ext_trans (ext_alloc (ext_refl w) _) hx1
   clear hSO hx1
   go_wp2_with fail
   refine (hFL _ X1).mono ?_;rintro e2 w2 ⟨rfl,hx2⟩
   have X2:=ext_trans X1 hx2
   replace G0:=keep_ext hx2 G0
   clear g0 gf0 l0 hFL hx2 X1
   obtain ⟨g0,gf0⟩:=cellsK G0
   have l0:=heap_lt G0
   have XA : Ext w2 (w2.alloc (.cells #[.int .i64 rk,.int .i64 rs,.int .i64 ra,.int .i64 rv] 78)):=ext_alloc (ext_refl _) _
   have G5 : (w2.alloc (.cells #[.int .i64 rk,.int .i64 rs,.int .i64 ra,.int .i64 rv] 78)).heap[w2.heap.size]? = some (.cells #[.int .i64 rk,.int .i64 rs,.int .i64 ra,.int .i64 rv] 78 (0,0)):=hg_new rfl
   go_wp2_with fail
   refine (hdt _).mono ?_;rintro e3 w3 ⟨rfl,hx3⟩
   have X3:=ext_trans X2 (ext_trans XA hx3)
   replace G0:=keep_ext (ext_trans XA hx3) G0
   replace G5:=keep_ext hx3 G5
   clear g0 gf0 hdt hx3 XA
   obtain ⟨g0,gf0⟩:=cellsK G0
   obtain ⟨g5,gf5⟩:=cellsK G5
   have l0:=heap_lt G0
   have l5:=heap_lt G5
   go_wp2_with fail
   go_ret
   exact ⟨_,rfl,X3,SRow.nil _ _,by simp⟩
  ·have hk1 : rk = 1:=by simpa using HKD.out
   have hRS : RS = if ws = [] then [] else ⟨1,addr,rv,0,rec0⟩ :: ws:=by rw [HE.out,if_pos ⟨h0,hk1⟩]
   have HADD:=Lib.hid (HAD.out h0)
   have HRS:=Lib.hid hRS
   clear hRS HE HAD hk1
   go_enter Tryz.func134,Tryz.ntmps134
   go_wp2_with fail
   refine (hSO _ (ext_alloc (ext_refl _) _)).mono ?_;rintro e1 w1 ⟨rfl,hx1⟩
   have G0:=keep_ext hx1 (hg_new (b:=w.heap.size) rfl)
   obtain ⟨g0,gf0⟩:=cellsK G0
   have l0:=heap_lt G0
   have X1:=ext_trans (ext_alloc (ext_refl w) _) hx1
   clear hSO hx1
   go_wp2_with fail
   refine (hFL _ X1).mono ?_;rintro e2 w2 ⟨rfl,hx2⟩
   have X2:=ext_trans X1 hx2
   replace G0:=keep_ext hx2 G0
   clear g0 gf0 l0 hFL hx2 X1
   obtain ⟨g0,gf0⟩:=cellsK G0
   have l0:=heap_lt G0
   have XA : Ext w2 (w2.alloc (.cells #[.int .i64 rk,.int .i64 rs,.int .i64 ra,.int .i64 rv] 78)):=ext_alloc (ext_refl _) _
   have G5 : (w2.alloc (.cells #[.int .i64 rk,.int .i64 rs,.int .i64 ra,.int .i64 rv] 78)).heap[w2.heap.size]? = some (.cells #[.int .i64 rk,.int .i64 rs,.int .i64 ra,.int .i64 rv] 78 (0,0)):=hg_new rfl
   go_wp2_with fail
   refine (hdt _).mono ?_;rintro e3 w3 ⟨rfl,hx3⟩
   have X3:=ext_trans X2 (ext_trans XA hx3)
   replace G0:=keep_ext (ext_trans XA hx3) G0
   replace G5:=keep_ext hx3 G5
   clear g0 gf0 hdt hx3 XA
   obtain ⟨g0,gf0⟩:=cellsK G0
   obtain ⟨g5,gf5⟩:=cellsK G5
   have l0:=heap_lt G0
   have l5:=heap_lt G5
   go_wp2_with fail
   refine (hSW _ X3).mono ?_;rintro e4 w4 ⟨sv,rfl,hx4,hS,hl⟩
   have X4:=ext_trans X3 hx4
   replace G5:=keep_ext hx4 G5
   obtain ⟨sa,sc,rfl⟩:=hS.form
   have HS:=Lib.hid hS
   have s3:=X3.size
   clear g0 gf0 g5 gf5 hSW hx4 hS l5
   obtain ⟨g5,gf5⟩:=cellsK G5
   have l5:=heap_lt G5
   cases ws with
   | nil =>
    have hRS : RS = []:=by rw [HRS.out,if_pos rfl]
    subst hRS
    go_wp2_with fail
    go_ret
    exact ⟨_,rfl,X4,SRow.nil _ _,by simp⟩
   | cons y ys =>
    have hRS : RS = ⟨1,ra,rv,0,rec0⟩ :: y :: ys:=by rw [HRS.out,if_neg (by simp),HADD.out]
    subst hRS
    have hlen : (((y :: ys).length : Int) == 0) = false:=by simp;omega
    go_wp2_with fail
    refine (hds _).mono ?_;rintro e5 w5 ⟨rfl,hx5⟩
    have X5:=ext_trans X4 hx5
    replace HS:=Lib.hid (HS.out.ext hx5)
    have s5:=X5.size
    have HW6:=HWL.out
    clear hds g5 gf5
    go_wp2_with (refine wpList_appSteps rfl _ _ rfl (xs:=[⟨1,ra,rv,0,rec0⟩]) (base:=w5.heap.size) rfl (SRow.one (hg_new rfl) (Nat.le_refl _)) rfl (HS.out.ext (ext_alloc (ext_refl _) _)) (by simp) (by simp at HW6 ⊢;omega) (by simp) (fun v' w' hS' hg=>?_))
    go_ret
    refine ⟨_,rfl,grown_ext (ext_alloc X5 _) (fun g hg'=>?_) hg,hS'.base s5,by simp at HW6 ⊢;omega⟩
    have e : (some w5.heap.size : Option Nat) = some g:=hg'
    cases e
    exact s5
 ·have hRS : RS = []:=by rw [HE.out,if_neg (fun h=>h0 h.1)]
  subst hRS
  have hd0 : decide (0 < rs) = false:=by simpa using h0
  rw [hd0] at hFL
  go_enter Tryz.func134,Tryz.ntmps134
  go_wp2_with fail
  refine (hSO _ (ext_alloc (ext_refl _) _)).mono ?_;rintro e1 w1 ⟨rfl,hx1⟩
  have G0:=keep_ext hx1 (hg_new (b:=w.heap.size) rfl)
  obtain ⟨g0,gf0⟩:=cellsK G0
  have l0:=heap_lt G0
  have X1:=ext_trans (ext_alloc (ext_refl w) _) hx1
  clear hSO hx1
  go_wp2_with fail
  refine (hFL _ X1).mono ?_;rintro e2 w2 ⟨rfl,hx2⟩
  have X2:=ext_trans X1 hx2
  replace G0:=keep_ext hx2 G0
  clear g0 gf0 l0 hFL hx2 X1
  obtain ⟨g0,gf0⟩:=cellsK G0
  have l0:=heap_lt G0
  have XA : Ext w2 (w2.alloc (.cells #[.int .i64 rk,.int .i64 rs,.int .i64 ra,.int .i64 rv] 78)):=ext_alloc (ext_refl _) _
  have G5 : (w2.alloc (.cells #[.int .i64 rk,.int .i64 rs,.int .i64 ra,.int .i64 rv] 78)).heap[w2.heap.size]? = some (.cells #[.int .i64 rk,.int .i64 rs,.int .i64 ra,.int .i64 rv] 78 (0,0)):=hg_new rfl
  go_wp2_with fail
  go_ret
  exact ⟨_,rfl,ext_trans X2 XA,SRow.nil _ _,by simp⟩
set_option maxRecDepth 20000 in
set_option maxHeartbeats 4000000 in
theorem implStepsFill_c (fv dv : Value) (s : Store) (addr : Int) (w : World) (h : StoreV w fv dv s) (hok : storeOkB s = true) :
  Calls Tryz.prog 150 #[.agg #[fv,dv],.int .i64 addr] w (RetS w (addrStep (fillSteps s) addr)):=by
 have hfo:=storeOk_flash hok
 have h6:=storeOk_disk hok
 have hSO:=fun (w' : World) (hx : Ext w w')=>implStoreOk_c fv dv s w' (h.ext hx) (pages_short hfo) (by omega)
 rw [hok] at hSO
 have hFL:=fun (w' : World) (hx : Ext w w')=>implFindLast_c fv s.flash addr w' (h.1.ext hx) hfo
 have hSW:=fun (v : Int) (w' : World) (hx : Ext w w')=>stepsWrite_c fv s.flash 2 addr v w' (h.1.ext hx) hfo
 have hD:=h.2
 obtain ⟨a1,n1,rfl⟩:=h.1.form
 obtain ⟨a2,n2,rfl⟩:=h.2.form
 rw [h6] at hSO ⊢
 cases hin : inB addr 1 6
 ·have hRS : addrStep (fillSteps s) addr = []:=by unfold addrStep;rw [hin];rfl
  rw [hRS]
  clear hFL hSW hD hfo hRS
  go_enter Tryz.func150,Tryz.ntmps150
  go_wp2_with fail
  refine (hSO _ (ext_alloc (ext_refl _) _)).mono ?_;rintro e1 w1 ⟨rfl,hx1⟩
  have G0:=keep_ext hx1 (hg_new (b:=w.heap.size) rfl)
  obtain ⟨g0,gf0⟩:=cellsK G0
  have l0:=heap_lt G0
  have X1:=ext_trans (ext_alloc (ext_refl w) _) hx1
  clear hSO hx1
  go_wp2_with (go_at_call 145;refine (addrOk_c _ _).mono ?_;rw [hin];rintro e w' ⟨rfl,rfl⟩)
  go_ret
  exact ⟨_,rfl,X1,SRow.nil _ _,by simp⟩
 ·have HE:=Lib.hid (fill_eq hfo addr hin)
  have hi:=inB_iff.1 hin
  generalize addrStep (fillSteps s) addr = RS at *
  obtain ⟨n,hn6,rfl⟩ : ∃ n : Nat,n < 6 ∧ addr = (n : Int) + 1:=⟨(addr - 1).toNat,by omega,by omega⟩
  have hnl : n < s.disk.length:=by omega
  obtain ⟨b,o,rfl,hb,c0⟩:=hD.at1 hnl
  have hb' : b < w.heap.size:=hb
  have hdv : s.disk.getD ((n : Int) + 1 - 1).toNat 0 = s.disk[n]:=by rw [show ((n : Int) + 1 - 1).toNat = n by omega,List.getD_eq_getElem?_getD,List.getElem?_eq_getElem hnl];rfl
  rw [hdv] at HE
  obtain ⟨dv,hdd⟩ : ∃ dv : Int,s.disk[n] = dv:=⟨_,rfl⟩
  rw [hdd] at HE c0
  have hsw:=hSW dv
  have hn6' : (n : Int) < 6:=by omega
  have hwr : IntKind.i64.wrap (n : Int) = (n : Int):=IntWalk.i64_in _ (by omega)
  have hwr2 : IntKind.i64.wrap ((n : Int) + 1 - 1) = (n : Int):=by rw [show (n : Int) + 1 - 1 = n by omega];exact hwr
  generalize writeSteps s.flash 2 ((n : Int) + 1) dv = ws at *
  generalize last s.flash ((n : Int) + 1) = r at *
  obtain ⟨rk,rs,ra,rv⟩:=r
  dsimp only [recA] at *
  clear hSW hD hdv hdd hfo hi h6
  by_cases h0 : 0 < rs
  ·have hRS : RS = []:=by rw [HE.out,if_pos h0]
   subst hRS
   go_enter Tryz.func150,Tryz.ntmps150
   go_wp2_with fail
   refine (hSO _ (ext_alloc (ext_refl _) _)).mono ?_;rintro e1 w1 ⟨rfl,hx1⟩
   have G0:=keep_ext hx1 (hg_new (b:=w.heap.size) rfl)
   obtain ⟨g0,gf0⟩:=cellsK G0
   have l0:=heap_lt G0
   have X1:=ext_trans (ext_alloc (ext_refl w) _) hx1
   clear hSO hx1
   go_wp2_with (go_at_call 145;refine (addrOk_c _ _).mono ?_;rw [hin];rintro e w' ⟨rfl,rfl⟩)
   refine (hFL _ X1).mono ?_;rintro e2 w2 ⟨rfl,hx2⟩
   have X2:=ext_trans X1 hx2
   replace G0:=keep_ext hx2 G0
   clear g0 gf0 l0 hFL hx2 X1
   obtain ⟨g0,gf0⟩:=cellsK G0
   have l0:=heap_lt G0
   have XA : Ext w2 (w2.alloc (.cells #[.int .i64 rk,.int .i64 rs,.int .i64 ra,.int .i64 rv] 78)):=ext_alloc (ext_refl _) _
   go_wp2_with fail
   go_ret
   exact ⟨_,rfl,ext_trans X2 XA,SRow.nil _ _,by simp⟩
  ·have hRS : RS = ws:=by rw [HE.out,if_neg h0]
   subst hRS
   have hd0 : decide (0 < rs) = false:=by simpa using h0
   rw [hd0] at hFL
   go_enter Tryz.func150,Tryz.ntmps150
   go_wp2_with fail
   refine (hSO _ (ext_alloc (ext_refl _) _)).mono ?_;rintro e1 w1 ⟨rfl,hx1⟩
   have G0:=keep_ext hx1 (hg_new (b:=w.heap.size) rfl)
   obtain ⟨g0,gf0⟩:=cellsK G0
   have l0:=heap_lt G0
   have X1:=ext_trans (ext_alloc (ext_refl w) _) hx1
   clear hSO hx1
   go_wp2_with (go_at_call 145;refine (addrOk_c _ _).mono ?_;rw [hin];rintro e w' ⟨rfl,rfl⟩)
   refine (hFL _ X1).mono ?_;rintro e2 w2 ⟨rfl,hx2⟩
   have X2:=ext_trans X1 hx2
   replace G0:=keep_ext hx2 G0
   clear g0 gf0 l0 hFL hx2 X1
   obtain ⟨g0,gf0⟩:=cellsK G0
   have l0:=heap_lt G0
   have XA : Ext w2 (w2.alloc (.cells #[.int .i64 rk,.int .i64 rs,.int .i64 ra,.int .i64 rv] 78)):=ext_alloc (ext_refl _) _
   go_wp2_with fail
   have X2A:=ext_trans X2 XA
   replace G0:=keep_ext XA G0
   refine wp_region_ext [9] [0,1,2,3,4,5,6,7,8,9,10] [] [] (by kernel_rfl) (by kernel_rfl) ?late ?_
   case late=>exact fun f hf=>absurd hf List.not_mem_nil
   refine Rob.y (v:=?_) rfl rfl (fun w1 hx hH=>?_) ?_;rotate_left
   ·go_simp;first | done | rfl | exact (Bool.not_not _).symm
   simp only [Act.put,slA,slB,slC]
   refine Rob.y (v:=?_) rfl rfl (fun w1 hx hH=>?_) ?_;rotate_left
   ·(have hE : Ext _ w1:=(by first | exact hx | exact hx.1);obtain ⟨z0,zf0⟩:=cellsK (keep_ext hE G0);obtain ⟨hcx,hfx⟩:=bcell (ext_trans X2A hE));go_simp;first | done | rfl
   simp only [Act.put,slA,slB,slC]
   iterate 2
    refine Rob.y (v:=?_) rfl rfl (fun w1 hx hH=>?_) ?_;rotate_left
    ·go_simp;first | done | rfl | exact (Bool.not_not _).symm
    simp only [Act.put,slA,slB,slC]
   refine Rob.y (v:=?_) rfl rfl (fun w1 hx hH=>?_) ?_;rotate_left
   ·(have hE : Ext _ w1:=(by first | exact hx | exact hx.1);obtain ⟨z0,zf0⟩:=cellsK (keep_ext hE G0);obtain ⟨hcx,hfx⟩:=bcell (ext_trans X2A hE));go_simp;first | done | rfl
   simp only [Act.put,slA,slB,slC]
   iterate 2
    refine Rob.y (v:=?_) rfl rfl (fun w1 hx hH=>?_) ?_;rotate_left
    ·go_simp;first | done | rfl | exact (Bool.not_not _).symm
    simp only [Act.put,slA,slB,slC]
   iterate 2
    refine Rob.y (v:=?_) rfl rfl (fun w1 hx hH=>?_) ?_;rotate_left
    ·(have hE : Ext _ w1:=(by first | exact hx | exact hx.1);obtain ⟨z0,zf0⟩:=cellsK (keep_ext hE G0);obtain ⟨hcx,hfx⟩:=bcell (ext_trans X2A hE));go_simp;first | done | rfl
    simp only [Act.put,slA,slB,slC]
   refine Rob.c ((fun lo hi v w'=>SRow lo w' v RS ∧ RS.length ≤ 7)) rfl rfl rfl (fun _ _=>ext_trans) (fun _ _ _ _ _=>fun h hx=>⟨h.1.ext hx,h.2⟩) (fun w1 hx hH=>?_) (fun lo9 hi9 v9 hlo9 hhi9 hv9=>?_)
   ·unfold RunTo;go_simp;exact ((hsw _ (ext_trans X2A hx))).mono fun e w' h=>h.to
   simp only [Act.put,slA,slB,slC]
   obtain ⟨_,hv9⟩:=hv9
   obtain ⟨a9,c9,rfl⟩:=hv9.1.form
   refine Rob.y (v:=?_) rfl rfl (fun w1 hx hH=>?_) ?_;rotate_left
   ·go_simp;first | done | rfl | exact (Bool.not_not _).symm
   simp only [Act.put,slA,slB,slC]
   refine fin_nil (fun w3 hx3 _=>?_)
   obtain ⟨hx3,hS,hl⟩:=hx3
   have s2:=X2A.size
   have X3:=ext_trans X2A hx3
   have HS:=Lib.hid hS
   clear hS hv9 g0 gf0
   go_wp2_with fail
   go_ret
   exact ⟨_,rfl,X3,HS.out.base (by omega),hl⟩
end Go.Bu