/- The program's StepsTo: a store behind so many steps, in new memory. A region that draws its order, one operation of which may come ahead of a store or behind it: the rule of Plan for that. The program's PairPut. PairPut of the reference. The program's StoreRead and copyValues. PairMend and PairBack of the program. What a store reads as, wherever the steps of a write end. Calls of what the pair laws use, of drawn pairs: puts, mends, steps. All values behind a put; the lists that hold them, in memory of their own. What a lost disk leaves of a pair: plain. -/import Derived.Test.YtcainddboblpbaaGreatZ8
import Derived.Test.YtcainddboblpbaaGreatZ1
import Derived.Test.YtcainddboblpbaaGreatZ6
import Derived.Test.YtcainddboblpbaaGreatZ5
import Derived.Test.YtcainddboblpbaaGreatZ7
set_option maxHeartbeats 2000000
set_option linter.unusedVariables false
set_option linter.unusedSimpArgs false
namespace Go.Bu
open Go Go.RowKit Go.Plan Go.Proofs
def StToΦ (w : World) (s : Store) (e : Ending) (w' : World) : Prop:=∃ f d L,e = .returned (.tuple #[.agg #[f,d],.bool true]) ∧ Ext w w' ∧ OwnStore w' f d s L ∧ L.Nodup ∧ ∀ b ∈ L,w.heap.size ≤ b
def Waits (w : World) (N : Nat) (vals : List Value) (xs : List Step) : Prop:=∀ (i : Nat) v x,vals[i]? = some v → xs[i]? = some x → ∃ B,B < N ∧ v = actV x B ∧ w.heap[B]? = some (.cells (stepC x).toArray 79 (0,0))
theorem Waits.keep {w w' : World} {N : Nat} {vals : List Value} {xs : List Step} (h : Waits w N vals xs) (hk : ∀ b c fr,w.heap[b]? = some (.cells c 79 fr) → b < N → w'.heap[b]? = some (.cells c 79 fr)) : Waits w' N vals xs:=fun i v x hv hx=>by
 obtain ⟨B,h1,h2,h3⟩:=h i v x hv hx
 exact ⟨B,h1,h2,hk _ _ _ h3 h1⟩
theorem Waits.more {w : World} {N M : Nat} {vals : List Value} {xs : List Step} (h : Waits w N vals xs) (hm : N ≤ M) : Waits w M vals xs:=fun i v x hv hx=>by
 obtain ⟨B,h1,h2,h3⟩:=h i v x hv hx
 exact ⟨B,by omega,h2,h3⟩
theorem Waits.ext {w w' : World} {N : Nat} {vals : List Value} {xs : List Step} (h : Waits w N vals xs) (hx : Ext w w') : Waits w' N vals xs:=h.keep fun _ _ _ hb _=>keep_ext hx hb
theorem Waits.chg {w w' : World} {N : Nat} {vals : List Value} {xs : List Step} {L : List Nat} (h : Waits w N vals xs) (hC : Chg L w w') (hL : ∀ b ∈ L,N ≤ b) : Waits w' N vals xs:=h.keep fun b _ _ hb hN=>hC.keep hb fun hm=>by have:=hL b hm;omega
theorem waits_snoc {w : World} {N : Nat} {vals : List Value} {xs : List Step} (h : Waits w N vals xs) {x : Step} {B : Nat} (hx : xs[vals.length]? = some x) (hB : B < N) (hb : w.heap[B]? = some (.cells (stepC x).toArray 79 (0,0))) : Waits w N (vals ++ [actV x B]) xs:=fun i v y hv hy=>by
 by_cases hi : i < vals.length
 ·rw [List.getElem?_append_left hi] at hv
  exact h i v y hv hy
 ·have hi' : i = vals.length:=by
   have:=(List.getElem?_eq_some_iff.1 hv).1
   simp at this;omega
  subst hi'
  rw [List.getElem?_append_right (Nat.le_refl _)] at hv
  simp at hv
  rw [hx] at hy
  obtain rfl:=Option.some.inj hy
  exact ⟨B,hB,hv.symm,hb⟩
theorem act_call (x : Step) (args : Array Value) (w : World) : (callFunc (actFn x) args).run Tryz.prog w = .ok (.enter (actFn x) args) w:=by
 unfold actFn
 split
 ·kernel_rfl
 ·split <;> kernel_rfl
theorem to_end {s : Store} {xs : List Step} {j : Nat} (hj : j ≤ xs.length) (t : Bool) : toSteps s xs j t = if h : t = true ∧ j < xs.length then doStep (doAll s (xs.take j)) xs[j] true else doAll s (xs.take j):=by
 unfold toSteps
 rw [Int.toNat_natCast]
 by_cases hc : t = true ∧ j < xs.length
 ·rw [dif_pos hc,if_pos (by simp [hc.1];omega),List.getElem?_eq_getElem hc.2];rfl
 ·rw [dif_neg hc,if_neg]
  intro h
  simp only [Bool.and_eq_true,decide_eq_true_eq] at h
  exact hc ⟨h.1.1,by omega⟩
theorem to_all {s : Store} {xs : List Step} {cut : Int} (h : (xs.length : Int) ≤ cut) (t : Bool) : toSteps s xs cut t = doAll s xs:=by
 unfold toSteps
 rw [if_neg,List.take_of_length_le (by omega)]
 intro h2
 simp only [Bool.and_eq_true,decide_eq_true_eq] at h2
 omega
theorem doAll_snoc {s : Store} {xs : List Step} {j : Nat} (hj : j < xs.length) : doAll s (xs.take (j + 1)) = doStep (doAll s (xs.take j)) xs[j] false:=by
 unfold doAll
 rw [← take_snoc xs j hj,List.foldl_append];rfl
theorem own_ne {w : World} {base n m : Nat} {e T : TypeId} {v : Value} {xs : List Value} {Q : Nat} {c : Array Value} {fr : Nat × Nat} (h : w.ownsRow base e n v m xs) (hQ : w.heap[Q]? = some (.cells c T fr)) (hT : T ≠ e) : v.ownBlock ≠ some Q:=by
 intro hB
 rcases h.2 with ⟨rfl,_⟩ | ⟨g,cap,cur,rfl,_,hh,_⟩
 ·simp [Value.ownBlock] at hB
 ·simp [Value.ownBlock] at hB
  subst hB
  rw [hh] at hQ
  simp at hQ
  exact hT hQ.2.1.symm
theorem qat_of {w : World} {base Q : Nat} {v : Value} {n : Nat} {vals : List Value} (h : w.ownsRow base 82 1 v n vals) (hQ : w.heap[Q]? = some (.cells #[v] 75 (0,0))) : ∃ G,QAt w Q G vals ∧ Q ≠ G ∧ (vals ≠ [] → G < w.heap.size):=by
 have hl : vals.length = n:=by have:=h.1;omega
 have hne:=own_ne h hQ (by decide)
 have h2:=h
 rcases h.2 with ⟨rfl,h0⟩ | ⟨g,cap,cur,rfl,_,hh,hc,_⟩
 ·have hv : vals = []:=List.length_eq_zero_iff.1 (by omega)
  subst hv
  exact ⟨Q + 1,⟨none,0,hQ,by simp,.inl rfl⟩,by omega,fun h=>absurd rfl h⟩
 ·refine ⟨g,⟨some ⟨g,0,none⟩,cap,by rw [hl];exact hQ,by omega,.inr ⟨0,rfl,fun i u hu=>?_⟩⟩,fun e=>hne (by rw [e];rfl),fun _=>heap_lt hh⟩
  have:=h2.cells rfl i u hu
  rwa [Addr.add_mid] at this
set_option maxRecDepth 20000 in
set_option maxHeartbeats 8000000 in
theorem implStepsTo_c (fv dv : Value) (s : Store) (sv : Value) (xs : List Step) (cut : Int) (torn : Bool) (w : World) (h : StoreV w fv dv s) (hok : storeOkB s = true) (hx : Steps' (Old w) w sv xs) (hV : ∀ x ∈ xs,StepV x) (hl : xs.length ≤ 1000) (hcut : 0 ≤ cut ∧ cut ≤ 9223372036854775807) :
  Calls Tryz.prog 16 #[.agg #[fv,dv],sv,.int .i64 cut,.bool torn] w (StToΦ w (toSteps s xs cut torn)):=by
 have hSO:=fun (w' : World) (hx : Ext w w')=>implStoreOk_c fv dv s w' (h.ext hx) (pages_short (storeOk_flash hok)) (by have:=storeOk_disk hok;omega)
 rw [hok] at hSO
 have hsh:=storeOk_shape hok
 have hSC:=fun (w' : World) (hx : Ext w w')=>storeCopy_c fv dv s w' (h.ext hx) hsh.flash hsh.pages hsh.disk
 have HP:=Lib.hid (storeOk_P hok)
 have HV:=Lib.hid hV
 obtain ⟨a1,n1,rfl⟩:=h.1.form
 obtain ⟨a2,n2,rfl⟩:=h.2.form
 obtain ⟨sa,sc,rfl⟩:=hx.form
 clear h hok hsh hV
 obtain ⟨hc0,hc1⟩:=hcut
 have hcn : ¬ cut < 0:=by omega
 go_enter Tryz.func16,Tryz.ntmps16
 go_wp2_with fail
 refine (hSO _ (ext_alloc (ext_alloc (ext_refl _) _) _)).mono ?_;rintro e1 w1 ⟨rfl,hx1⟩
 have X1:=ext_trans (ext_alloc (ext_alloc (ext_refl w) _) _) hx1
 have G4:=keep_ext hx1 (hg_alloc (hg_new (b:=w.heap.size) rfl))
 have G8:=keep_ext hx1 (hg_new (b:=w.heap.size + 1) (by simp))
 have s1:=hx1.size
 simp at s1
 clear hSO hx1
 have GQ : (w1.alloc (.cells #[.slice none 0 0] 75)).heap[w1.heap.size]? = some (.cells #[.slice none 0 0] 75 (0,0)):=hg_new rfl
 have X2 : Ext w (w1.alloc (.cells #[.slice none 0 0] 75)):=ext_alloc X1 _
 replace G4:=hg_alloc (x:=.cells #[.slice none 0 0] 75) G4
 replace G8:=hg_alloc (x:=.cells #[.slice none 0 0] 75) G8
 have HW0 : Hid (Waits (w1.alloc (.cells #[.slice none 0 0] 75)) (w1.heap.size + 1) [] xs):=Lib.hid (fun i v x hv=>by simp at hv)
 go_wp2_with fail
 go_loopw [29] (fun y wr=>∃ (k : Nat) (v : Value) (vals : List Value),k ≤ xs.length ∧ y = .int .i64 k ∧ Ext w wr ∧ vals.length = k ∧ wr.ownsRow w.heap.size 82 1 v k vals ∧ Hid (Waits wr wr.heap.size vals xs) ∧ wr.heap[w1.heap.size]? = some (.cells #[v] 75 (0,0)) ∧
  wr.heap[w.heap.size]? = some (.cells #[.slice a1 s.flash.length n1,.slice a2 s.disk.length n2] 26 (0,0)) ∧ wr.heap[w.heap.size + 1]? = some (.cells #[.slice none 0 0,.slice none 0 0] 26 (0,0))) (fun y _=>xs.length - (intOf y).toNat)
 case atStart=>exact ⟨0,_,[],Nat.zero_le _,rfl,X2,rfl,⟨rfl,.inl ⟨rfl,rfl⟩⟩,Lib.hid (HW0.out.more (by simp)),GQ,G4,G8⟩
 case round =>
  clear HW0 GQ G4 G8 X2
  obtain ⟨k,v,vals,hk,rfl,hX,hvl,hown,HW,GQ,G4,G8⟩:=hrel
  by_cases hlt : k < xs.length
  ·obtain ⟨b,o,rfl,hb,d0,d1,d2,d3,d4,d5,d6,d7⟩:=hx.at8 hlt
   have hb' : b < w.heap.size:=hb
   have hv:=HV.out xs[k] (List.getElem_mem _)
   have hxk : xs[vals.length]? = some xs[k]:=by rw [hvl];exact List.getElem?_eq_getElem hlt
   obtain ⟨hcx,hfx⟩:=bcell hX
   have hso:=fun w'=>stepOk_c xs[k] hv w'
   have hao:=fun w'=>actionOf_c xs[k] hv w'
   generalize xs[k] = x at *
   obtain ⟨va,vc,rfl⟩:=rowForm hown
   go_wp2_with fail
   refine (hso _).mono ?_;rintro e2 w2 ⟨rfl,hx2⟩
   have GS:=keep_ext hx2 (hg_new (b:=wr.heap.size) rfl)
   have H2 : Ext wr w2:=ext_trans (ext_alloc (ext_refl _) _) hx2
   have hX2:=ext_trans hX H2
   have hown2:=ownsRow_ext hown H2
   have HW2:=Lib.hid (HW.out.ext H2)
   have hz2:=H2.size
   replace GQ:=keep_ext H2 GQ
   replace G4:=keep_ext H2 G4
   replace G8:=keep_ext H2 G8
   clear hso hown hcx hfx d0 d1 d2 d3 d4 d5 d6 d7 HW hX hx2 H2
   go_wp2_with fail
   refine wp_region_sa hX2 hown2 [3,4,5] [0,1,2,3,4,5,6] [] [7] (by kernel_rfl) (by kernel_rfl) ?late ?_
   case late=>exact fun f hf=>absurd hf List.not_mem_nil
   refine Rob.y (v:=?_) rfl rfl (fun w1 hx hH=>?_) ?_;rotate_left
   ·go_simp;first | done | rfl | exact (Bool.not_not _).symm
   simp only [Act.put,slA,slB,slC]
   iterate 2
    refine Rob.y (v:=?_) rfl rfl (fun w1 hx hH=>?_) ?_;rotate_left
    ·(have hE : SA _ _ _ _ _ _ _ _ w1:=(by first | exact hx | exact hx.1 | exact hx.1.1 | exact hx.1.1.1);obtain ⟨qq,qqf⟩:=cellsK (hE.keep hown2 (by decide) GQ);obtain ⟨qs,qsf⟩:=cellsK (hE.keep hown2 (by decide) GS));go_simp;first | done | rfl
    simp only [Act.put,slA,slB,slC]
   refine Rob.c (fun lo hi v w'=>v = actV x lo ∧ lo < hi ∧ w'.heap[lo]? = some (.cells (stepC x).toArray 79 (0,0))) rfl rfl rfl (fun _ _ h hx=>h.stab hx) (fun lo hi v w w' h hx=>⟨h.1,h.2.1,keep_ext hx h.2.2⟩) (fun w1 hx hH=>?_) (fun lo3 hi3 v3 hlo3 hhi3 hv3=>?_)
   ·unfold RunTo;go_simp;exact (hao _).mono fun e w' h=>by obtain ⟨rfl,rfl⟩:=h;exact ⟨_,rfl,ext_alloc (ext_refl _) _,rfl,by simp,hg_new rfl⟩
   simp only [Act.put,slA,slB,slC]
   obtain ⟨_,rfl,hlt3,_⟩:=hv3
   refine Rob.al (.cells #[actV x lo3] 82) (fun lo=>.slice (some ⟨lo,0,none⟩) 1 1) rfl rfl rfl (fun _ _ h hx=>⟨h.1.stab hx,⟨h.2.1,h.2.2.1,keep_ext hx h.2.2.2⟩⟩) (fun w1=>by unfold actV;go_simp) (fun lo4 hi4 hlo4 hhi4=>?_)
   simp only [Act.put,slA,slB,slC]
   refine Rob.appR 8 [actV x lo3] 1 rfl rfl rfl rfl rfl rfl Tryz.underlying73 (by kernel_rfl) (by omega) rfl rfl (by simp [Value.oneCell',actV]) (by simp [maxLen];omega) (by omega) hX2.size (by omega) rfl hown2 (by omega) rfl (fun w hx=>hx.1.1) (fun w hx=>hx.2) (fun w w' hx hs hk=>⟨⟨hs,⟨hx.1.2.1,hx.1.2.2.1,(hk lo3 (by omega) (heap_lt hx.1.2.2.2)).trans hx.1.2.2.2⟩⟩,(hk lo4 (by omega) (heap_lt hx.2)).trans hx.2⟩) (fun lo5 hi5 v5 hlo5 hv5=>?_)
   simp only [Act.put,slA,slB,slC]
   refine Rob.y (v:=?_) rfl rfl (fun w1 hx hH=>?_) ?_;rotate_left
   ·go_simp;first | done | rfl | exact (Bool.not_not _).symm
   simp only [Act.put,slA,slB,slC]
   refine fin_tail (fun w3 hx3 _=>?_)
   obtain ⟨⟨⟨hSA,-,-,hB3⟩,-⟩,hR⟩:=hx3
   have hX3:=hSA.ext
   have hz3:=hSA.siz
   replace GQ:=hSA.keep hown2 (by decide) GQ
   replace G4:=hSA.keep hown2 (by decide) G4
   replace G8:=hSA.keep hown2 (by decide) G8
   have l3:=heap_lt hB3
   have HW3 : Hid (Waits w3 w3.heap.size (vals ++ [actV x lo3]) xs):=Lib.hid (waits_snoc ((HW2.out.keep fun b c fr hb hN=>hSA.keep hown2 (by decide) hb).more (by omega)) hxk l3 hB3)
   obtain ⟨a5,c5,rfl⟩:=rowForm hR
   have hlR:=hR
   have HR:=Lib.hid hR
   obtain ⟨q1,qf1⟩:=cellsK GQ
   have lQ:=heap_lt GQ
   clear hSA hB3 hR hlR HW2 hown2 hX2 hao hv5
   simp only [dstOf,List.getElem?_cons_succ,List.getElem?_cons_zero,Option.bind_some,Act.put,slA,slB,slC,List.filterMap_cons,List.filterMap_nil]
   refine wpList_plain rfl (fun K hK=>?_)
   go_simp
   refine hK _ _ ?_
   clear hK K
   refine wpList_nil ?_
   have GQ2:=hg_here (k:=0) (v:=.slice a5 (k + 1) c5) GQ
   have hCq : Chg [w1.heap.size] w3 (w3.setCell ⟨w1.heap.size,0,none⟩ (.slice a5 (k + 1) c5)):=(Chg.refl _ _).set (p:=⟨w1.heap.size,0,none⟩) (.inl (by simp)) _
   have HR2 : Hid ((w3.setCell ⟨w1.heap.size,0,none⟩ (.slice a5 (k + 1) c5)).ownsRow w.heap.size 82 1 (.slice a5 (k + 1) c5) (k + 1) (vals ++ [actV x lo3])):=Lib.hid (ownsRow_setCell_other HR.out (own_ne HR.out GQ (by decide)) _)
   have HW4 : Hid (Waits (w3.setCell ⟨w1.heap.size,0,none⟩ (.slice a5 (k + 1) c5)) (w3.setCell ⟨w1.heap.size,0,none⟩ (.slice a5 (k + 1) c5)).heap.size (vals ++ [actV x lo3]) xs):=Lib.hid (by
    rw [setCell_size]
    exact HW3.out.keep fun b c fr hb hN=>by
     rw [setCell_other (by rintro rfl;rw [GQ] at hb;simp at hb)];exact hb)
   have hX4 : Ext w (w3.setCell ⟨w1.heap.size,0,none⟩ (.slice a5 (k + 1) c5)):=hCq.ext hX3 (by simp;omega)
   replace G4:=hCq.keep G4 (by simp;omega)
   replace G8:=hCq.keep G8 (by simp;omega)
   clear HW3 HR q1 qf1 hCq hX3
   go_wp2_with fail
   go_roundw
   case rel=>exact ⟨k + 1,_,vals ++ [actV x lo3],by omega,by go_num,hX4,by simp [hvl],HR2.out,HW4,hgo GQ2 rfl,G4,G8⟩
   case measure=>simp [intOf];omega
  ·obtain rfl : k = xs.length:=by omega
   obtain ⟨g4,gf4⟩:=cellsK G4
   have l4:=heap_lt G4
   go_wp2_with fail
   refine (hSC _ hX).mono ?_;rintro e2 w2 ⟨f0,d0,L0,rfl,hx2,hO,hnd,hb⟩
   obtain ⟨G,hqa,hQG,hG⟩:=qat_of hown GQ
   have s2:=hx2.size
   have lQ:=heap_lt GQ
   have hlL:=hO.lt
   have hX2:=ext_trans hX hx2
   have hqa2:=hqa.keep (hx2.block _ hqa.lt.1) (fun hne=>hx2.block _ (hG hne))
   have HW2:=Lib.hid (HW.out.ext hx2)
   replace G8:=keep_ext hx2 G8
   obtain ⟨N,hN⟩ : ∃ N,wr.heap.size = N:=⟨_,rfl⟩
   rw [hN] at HW2 hb s2 lQ
   have hN2 : w.heap.size + 1 + 1 ≤ N:=by have:=hX.size;omega
   have HNG : Hid (vals ≠ [] → G < N):=Lib.hid (by rw [← hN];exact hG)
   have HB:=Lib.hid hb
   have HO:=Lib.hid hO
   have HND:=Lib.hid hnd
   have HLL:=Lib.hid hlL
   have HQA:=Lib.hid hqa2
   obtain ⟨q1,m1,c1,q2,m2,c2,rfl,rfl⟩:=hO.forms
   clear hN hG hqa hx2 hX hown GQ G4 g4 gf4 l4 HW hSC hO hnd hb hlL hqa2
   go_wp2_with fail
   have hP2 : N ≤ w2.heap.size:=s2
   have hst0 : StAt (w2.alloc (.cells #[.slice q1 m1 c1,.slice q2 m2 c2] 26)) w2.heap.size L0 s (.slice q1 m1 c1) (.slice q2 m2 c2):=
    ⟨hg_new rfl,HO.out.ext (ext_alloc (ext_refl _) _),List.nodup_cons.2 ⟨fun hm=>by have:=HLL.out _ hm;omega,HND.out⟩⟩
   have HST0:=Lib.hid hst0
   have HQ0:=Lib.hid (HQA.out.keep (w':=w2.alloc (.cells #[.slice q1 m1 c1,.slice q2 m2 c2] 26)) (alloc_get_old (by have:=HQA.out.lt.1;omega)) (fun hne=>alloc_get_old (HQA.out.lt.2 hne)))
   have HW0:=Lib.hid (HW2.out.ext (ext_alloc (ext_refl _) (.cells #[.slice q1 m1 c1,.slice q2 m2 c2] 26)))
   replace G8:=hg_alloc (x:=.cells #[.slice q1 m1 c1,.slice q2 m2 c2] 26) G8
   have hX3 : Ext w (w2.alloc (.cells #[.slice q1 m1 c1,.slice q2 m2 c2] 26)):=ext_alloc hX2 _
   clear hst0 HQA HW2 hX2
   go_loopw [14] (fun y wr=>∃ (j : Nat) (f d : Value) (L : List Nat),j ≤ xs.length ∧ (j : Int) ≤ cut ∧ y = .int .i64 j ∧ Hid (StAt wr w2.heap.size L (doAll s (xs.take j)) f d) ∧ Hid (∀ b ∈ L,N ≤ b) ∧ Hid (QAt wr w1.heap.size G (vals.drop j)) ∧ Hid (Waits wr N vals xs) ∧ Ext w wr ∧
    wr.heap[w.heap.size + 1]? = some (.cells #[.slice none 0 0,.slice none 0 0] 26 (0,0))) (fun y _=>(xs.length + 1) - (intOf y).toNat)
   case atStart=>exact ⟨0,_,_,L0,by omega,by omega,rfl,HST0,HB,HQ0,HW0,hX3,G8⟩
   case round =>
    clear HST0 HQ0 HW0 G8 hX3
    obtain ⟨j,f,d,L,hj,hjc,rfl,HS,HLN,HQ,HW,hX,G8⟩:=hrel
    by_cases hlt : (j : Int) < cut
    ·by_cases hjn : j < xs.length
     ·have hdr : vals.drop j = vals[j]'(by omega) :: vals.drop (j + 1):=List.drop_eq_getElem_cons _
      obtain ⟨B,hBN,hvB,hBx⟩:=HW.out j _ _ (List.getElem?_eq_getElem (by omega)) (List.getElem?_eq_getElem hjn)
      rw [hvB] at hdr
      have hq:=HQ.out
      rw [hdr] at hq
      have htk:=take_c w1.heap.size G xs[j] B (vals.drop (j + 1)) wr hq hQG (by simp;omega)
      have hvx:=HV.out xs[j] (List.getElem_mem _)
      have hnx:=doAll_snoc (s:=s) hjn
      have hsp : StoreP (doAll s (xs.take j)):=HP.out.all fun x hx=>(HV.out x (List.mem_of_mem_take hx)).ok
      have HNX:=Lib.hid hnx
      have HSP:=Lib.hid hsp
      have hact:=fun (torn : Bool) (f d : Value) (L : List Nat) (w' : World) (h : StAt w' w2.heap.size L (doAll s (xs.take j)) f d) (hB : w'.heap[B]? = some (.cells (stepC xs[j]).toArray 79 (0,0)))=>act_c xs[j] hvx w2.heap.size B L _ f d torn w' h hsp hB
      have HACT:=Lib.hid hact
      clear hnx hsp hact hq hdr hvB
      have hcall:=act_call xs[j]
      unfold actV at htk
      generalize actFn xs[j] = K at *
      go_wp2_with fail
      refine htk.mono ?_;rintro e4 w4 ⟨rfl,hC4,hQ4⟩
      have hQT : ∀ (b : Nat) (c : Array Value) (fr : Nat × Nat),wr.heap[b]? = some (.cells c 79 fr) → b ≠ w1.heap.size:=by
       rintro b c fr hb rfl
       obtain ⟨a,c',h1,_⟩:=HQ.out.ex
       rw [h1] at hb;simp at hb
      have HS4:=Lib.hid (HS.out.keep (w':=w4) fun b hb=>hC4.block b (HS.out.lt b hb) (by
       have hbN : N ≤ b:=by
        rcases List.mem_cons.1 hb with rfl | hb
        ·exact hP2
        ·exact HLN.out b hb
       simp;omega))
      have hB4:=hC4.keep hBx (by have:=hQT _ _ _ hBx;simpa using this)
      have HW4:=Lib.hid (HW.out.keep (w':=w4) fun b c fr hb _=>hC4.keep hb (by have:=hQT _ _ _ hb;simpa using this))
      replace G8:=hC4.keep G8 (by simp;omega)
      have hX4:=hC4.ext hX (by simp;omega)
      have hz4:=hC4.size
      have hN4 : N ≤ w4.heap.size:=Nat.le_trans hP2 (Nat.le_of_lt (heap_lt HS4.out.var))
      have HQ4:=Lib.hid hQ4
      clear hC4 hX HS HW HQ hBx hQT htk hQ4
      go_wp2_with fail
      refine (HACT.out false _ _ _ _ HS4.out hB4).mono ?_;rintro e5 w5 ⟨rfl,hC5,f5,d5,L5,hS5,hL5⟩
      rw [← HNX.out] at hS5
      have hLb : ∀ b ∈ w2.heap.size :: L,N ≤ b:=fun b hb=>by
       rcases List.mem_cons.1 hb with rfl | hb
       ·exact hP2
       ·exact HLN.out b hb
      have HQ5:=Lib.hid (HQ4.out.keep (w':=w5) (hC5.block _ HQ4.out.lt.1 fun hm=>by have:=hLb _ hm;omega) (fun hne=>hC5.block _ (HQ4.out.lt.2 hne) fun hm=>by
       have:=hLb _ hm
       have:=HNG.out (fun e=>hne (by rw [e];simp))
       omega))
      have HW5:=Lib.hid (HW4.out.chg hC5 hLb)
      have hX5:=hC5.ext hX4 fun b hb=>by have:=hLb b hb;omega
      replace G8:=hC5.keep G8 fun hm=>by have:=hLb _ hm;omega
      have HS5:=Lib.hid hS5
      have HL5 : Hid (∀ b ∈ L5,N ≤ b):=Lib.hid fun b hb=>(hL5 b hb).elim (fun h=>HLN.out b h) fun h=>by omega
      clear hC5 hX4 HS4 HW4 HQ4 hB4 hS5 hL5 hLb HACT
      go_wp2_with fail
      go_roundw
      case rel=>exact ⟨j + 1,f5,d5,L5,by omega,by omega,by go_num,HS5,HL5,HQ5,HW5,hX5,G8⟩
      case measure=>simp [intOf];omega
     ·have hjx : j = xs.length:=by omega
      have hdr : vals.drop j = []:=List.drop_eq_nil_of_le (by omega)
      have hq:=HQ.out
      rw [hdr] at hq
      have htk:=take0_c w1.heap.size G wr hq
      have HEND : Hid (toSteps s xs cut torn = doAll s (xs.take j)):=Lib.hid (by rw [to_all (by omega),List.take_of_length_le (by omega)])
      clear hq hdr
      go_wp2_with fail
      refine htk.mono ?_;rintro e4 w4 ⟨rfl,rfl⟩
      obtain ⟨z1,zf1⟩:=cellsK HS.out.var
      obtain ⟨z8,zf8⟩:=cellsK G8
      obtain ⟨b1,k1,j1,b2,k2,j2,rfl,rfl⟩:=HS.out.own.forms
      have lP:=heap_lt HS.out.var
      have l8:=heap_lt G8
      have h8P : ¬ (w.heap.size + 1 = w2.heap.size):=by omega
      go_wp2_with fail
      refine bodyPost_ret (v:=.tuple #[.agg #[.slice b1 k1 j1,.slice b2 k2 j2],.bool true]) (by simp [results,Tryz.results16,go_sem,z8,zf8,l8]) rfl ⟨_,_,L,rfl,?_,?_,(List.nodup_cons.1 HS.out.nd).2,fun b hb=>by have:=HLN.out b hb;omega⟩
      ·((repeat (first | with_reducible (refine ext_set2 ?_ ?_);focus (first | exact Nat.le_refl _ | (dsimp only;omega) | (simp;omega)) | with_reducible refine ext_alloc2 ?_));with_reducible exact hX)
      ·rw [HEND.out]
       refine HS.out.own.keep fun b hb=>?_
       have:=HLN.out b hb
       iterate 2 rw [setCell_other (by omega)]
    ·obtain rfl : cut = (j : Int):=by omega
     have hte:=to_end (s:=s) hj torn
     by_cases hjn : j < xs.length
     ·cases torn
      ·have HEND : Hid (toSteps s xs j false = doAll s (xs.take j)):=Lib.hid (by rw [hte,dif_neg (fun h=>by cases h.1)])
       clear hte
       have hdr : vals.drop j = vals[j]'(by omega) :: vals.drop (j + 1):=List.drop_eq_getElem_cons _
       obtain ⟨B,hBN,hvB,hBx⟩:=HW.out j _ _ (List.getElem?_eq_getElem (by omega)) (List.getElem?_eq_getElem hjn)
       rw [hvB] at hdr
       have hq:=HQ.out
       rw [hdr] at hq
       have htk:=take_c w1.heap.size G xs[j] B (vals.drop (j + 1)) wr hq hQG (by simp;omega)
       have hvx:=HV.out xs[j] (List.getElem_mem _)
       have hnx:=doAll_snoc (s:=s) hjn
       have hsp : StoreP (doAll s (xs.take j)):=HP.out.all fun x hx=>(HV.out x (List.mem_of_mem_take hx)).ok
       have HNX:=Lib.hid hnx
       have HSP:=Lib.hid hsp
       have hact:=fun (torn : Bool) (f d : Value) (L : List Nat) (w' : World) (h : StAt w' w2.heap.size L (doAll s (xs.take j)) f d) (hB : w'.heap[B]? = some (.cells (stepC xs[j]).toArray 79 (0,0)))=>act_c xs[j] hvx w2.heap.size B L _ f d torn w' h hsp hB
       have HACT:=Lib.hid hact
       clear hnx hsp hact hq hdr hvB
       have hcall:=act_call xs[j]
       unfold actV at htk
       generalize actFn xs[j] = K at *
       go_wp2_with fail
       refine htk.mono ?_;rintro e4 w4 ⟨rfl,hC4,hQ4⟩
       have hQT : ∀ (b : Nat) (c : Array Value) (fr : Nat × Nat),wr.heap[b]? = some (.cells c 79 fr) → b ≠ w1.heap.size:=by
        rintro b c fr hb rfl
        obtain ⟨a,c',h1,_⟩:=HQ.out.ex
        rw [h1] at hb;simp at hb
       have HS4:=Lib.hid (HS.out.keep (w':=w4) fun b hb=>hC4.block b (HS.out.lt b hb) (by
        have hbN : N ≤ b:=by
         rcases List.mem_cons.1 hb with rfl | hb
         ·exact hP2
         ·exact HLN.out b hb
        simp;omega))
       have hB4:=hC4.keep hBx (by have:=hQT _ _ _ hBx;simpa using this)
       have HW4:=Lib.hid (HW.out.keep (w':=w4) fun b c fr hb _=>hC4.keep hb (by have:=hQT _ _ _ hb;simpa using this))
       replace G8:=hC4.keep G8 (by simp;omega)
       have hX4:=hC4.ext hX (by simp;omega)
       have hz4:=hC4.size
       have hN4 : N ≤ w4.heap.size:=Nat.le_trans hP2 (Nat.le_of_lt (heap_lt HS4.out.var))
       have HQ4:=Lib.hid hQ4
       clear hC4 hX HS HW HQ hBx hQT htk hQ4
       have hX:=hX4
       have HS:=HS4
       obtain ⟨z1,zf1⟩:=cellsK HS.out.var
       obtain ⟨z8,zf8⟩:=cellsK G8
       obtain ⟨b1,k1,j1,b2,k2,j2,rfl,rfl⟩:=HS.out.own.forms
       have lP:=heap_lt HS.out.var
       have l8:=heap_lt G8
       have h8P : ¬ (w.heap.size + 1 = w2.heap.size):=by omega
       go_wp2_with fail
       refine bodyPost_ret (v:=.tuple #[.agg #[.slice b1 k1 j1,.slice b2 k2 j2],.bool true]) (by simp [results,Tryz.results16,go_sem,z8,zf8,l8]) rfl ⟨_,_,L,rfl,?_,?_,(List.nodup_cons.1 HS.out.nd).2,fun b hb=>by have:=HLN.out b hb;omega⟩
       ·((repeat (first | with_reducible (refine ext_set2 ?_ ?_);focus (first | exact Nat.le_refl _ | (dsimp only;omega) | (simp;omega)) | with_reducible refine ext_alloc2 ?_));with_reducible exact hX)
       ·rw [HEND.out]
        refine HS.out.own.keep fun b hb=>?_
        have:=HLN.out b hb
        iterate 2 rw [setCell_other (by omega)]
      ·have HEND0 : Hid (toSteps s xs j true = doStep (doAll s (xs.take j)) xs[j] true):=Lib.hid (by rw [hte,dif_pos ⟨rfl,hjn⟩])
       clear hte
       have hdr : vals.drop j = vals[j]'(by omega) :: vals.drop (j + 1):=List.drop_eq_getElem_cons _
       obtain ⟨B,hBN,hvB,hBx⟩:=HW.out j _ _ (List.getElem?_eq_getElem (by omega)) (List.getElem?_eq_getElem hjn)
       rw [hvB] at hdr
       have hq:=HQ.out
       rw [hdr] at hq
       have htk:=take_c w1.heap.size G xs[j] B (vals.drop (j + 1)) wr hq hQG (by simp;omega)
       have hvx:=HV.out xs[j] (List.getElem_mem _)
       have hnx:=doAll_snoc (s:=s) hjn
       have hsp : StoreP (doAll s (xs.take j)):=HP.out.all fun x hx=>(HV.out x (List.mem_of_mem_take hx)).ok
       have HNX:=Lib.hid hnx
       have HSP:=Lib.hid hsp
       have hact:=fun (torn : Bool) (f d : Value) (L : List Nat) (w' : World) (h : StAt w' w2.heap.size L (doAll s (xs.take j)) f d) (hB : w'.heap[B]? = some (.cells (stepC xs[j]).toArray 79 (0,0)))=>act_c xs[j] hvx w2.heap.size B L _ f d torn w' h hsp hB
       have HACT:=Lib.hid hact
       clear hnx hsp hact hq hdr hvB
       have hcall:=act_call xs[j]
       unfold actV at htk
       generalize actFn xs[j] = K at *
       go_wp2_with fail
       refine htk.mono ?_;rintro e4 w4 ⟨rfl,hC4,hQ4⟩
       have hQT : ∀ (b : Nat) (c : Array Value) (fr : Nat × Nat),wr.heap[b]? = some (.cells c 79 fr) → b ≠ w1.heap.size:=by
        rintro b c fr hb rfl
        obtain ⟨a,c',h1,_⟩:=HQ.out.ex
        rw [h1] at hb;simp at hb
       have HS4:=Lib.hid (HS.out.keep (w':=w4) fun b hb=>hC4.block b (HS.out.lt b hb) (by
        have hbN : N ≤ b:=by
         rcases List.mem_cons.1 hb with rfl | hb
         ·exact hP2
         ·exact HLN.out b hb
        simp;omega))
       have hB4:=hC4.keep hBx (by have:=hQT _ _ _ hBx;simpa using this)
       have HW4:=Lib.hid (HW.out.keep (w':=w4) fun b c fr hb _=>hC4.keep hb (by have:=hQT _ _ _ hb;simpa using this))
       replace G8:=hC4.keep G8 (by simp;omega)
       have hX4:=hC4.ext hX (by simp;omega)
       have hz4:=hC4.size
       have hN4 : N ≤ w4.heap.size:=Nat.le_trans hP2 (Nat.le_of_lt (heap_lt HS4.out.var))
       have HQ4:=Lib.hid hQ4
       clear hC4 hX HS HW HQ hBx hQT htk hQ4
       go_wp2_with fail
       refine (HACT.out true _ _ _ _ HS4.out hB4).mono ?_;rintro e5 w5 ⟨rfl,hC5,f5,d5,L5,hS5,hL5⟩
       have hLb : ∀ b ∈ w2.heap.size :: L,N ≤ b:=fun b hb=>by
        rcases List.mem_cons.1 hb with rfl | hb
        ·exact hP2
        ·exact HLN.out b hb
       have hX:=hC5.ext hX4 fun b hb=>by have:=hLb b hb;omega
       replace G8:=hC5.keep G8 fun hm=>by have:=hLb _ hm;omega
       have HS:=Lib.hid hS5
       have HL5 : Hid (∀ b ∈ L5,N ≤ b):=Lib.hid fun b hb=>(hL5 b hb).elim (fun h=>HLN.out b h) fun h=>by omega
       have HEND:=HEND0
       clear hC5 hX4 HS4 HW4 HQ4 hB4 hS5 hL5 hLb HACT HEND0 HLN
       have HLN:=HL5
       clear HL5
       obtain ⟨L,hLL⟩ : ∃ L,L = L5:=⟨_,rfl⟩
       subst hLL
       obtain ⟨z1,zf1⟩:=cellsK HS.out.var
       obtain ⟨z8,zf8⟩:=cellsK G8
       obtain ⟨b1,k1,j1,b2,k2,j2,rfl,rfl⟩:=HS.out.own.forms
       have lP:=heap_lt HS.out.var
       have l8:=heap_lt G8
       have h8P : ¬ (w.heap.size + 1 = w2.heap.size):=by omega
       go_wp2_with fail
       refine bodyPost_ret (v:=.tuple #[.agg #[.slice b1 k1 j1,.slice b2 k2 j2],.bool true]) (by simp [results,Tryz.results16,go_sem,z8,zf8,l8]) rfl ⟨_,_,L,rfl,?_,?_,(List.nodup_cons.1 HS.out.nd).2,fun b hb=>by have:=HLN.out b hb;omega⟩
       ·((repeat (first | with_reducible (refine ext_set2 ?_ ?_);focus (first | exact Nat.le_refl _ | (dsimp only;omega) | (simp;omega)) | with_reducible refine ext_alloc2 ?_));with_reducible exact hX)
       ·rw [HEND.out]
        refine HS.out.own.keep fun b hb=>?_
        have:=HLN.out b hb
        iterate 2 rw [setCell_other (by omega)]
     ·have hdr : vals.drop j = []:=List.drop_eq_nil_of_le (by omega)
      have hq:=HQ.out
      rw [hdr] at hq
      have htk:=take0_c w1.heap.size G wr hq
      have HEND : Hid (toSteps s xs j torn = doAll s (xs.take j)):=Lib.hid (by rw [hte,dif_neg (fun h=>hjn h.2)])
      clear hq hdr hte
      go_wp2_with fail
      refine htk.mono ?_;rintro e4 w4 ⟨rfl,rfl⟩
      obtain ⟨z1,zf1⟩:=cellsK HS.out.var
      obtain ⟨z8,zf8⟩:=cellsK G8
      obtain ⟨b1,k1,j1,b2,k2,j2,rfl,rfl⟩:=HS.out.own.forms
      have lP:=heap_lt HS.out.var
      have l8:=heap_lt G8
      have h8P : ¬ (w.heap.size + 1 = w2.heap.size):=by omega
      go_wp2_with fail
      refine bodyPost_ret (v:=.tuple #[.agg #[.slice b1 k1 j1,.slice b2 k2 j2],.bool true]) (by simp [results,Tryz.results16,go_sem,z8,zf8,l8]) rfl ⟨_,_,L,rfl,?_,?_,(List.nodup_cons.1 HS.out.nd).2,fun b hb=>by have:=HLN.out b hb;omega⟩
      ·((repeat (first | with_reducible (refine ext_set2 ?_ ?_);focus (first | exact Nat.le_refl _ | (dsimp only;omega) | (simp;omega)) | with_reducible refine ext_alloc2 ?_));with_reducible exact hX)
      ·rw [HEND.out]
       refine HS.out.own.keep fun b hb=>?_
       have:=HLN.out b hb
       iterate 2 rw [setCell_other (by omega)]
end Go.Bu
namespace Go.Plan
open Go Go.RowKit
section main
variable {P : Program} {l : List Oper} {Q : Exit → Act → World → Prop} {ch heads tail : List Nat} {lates : Lates} {B0 : Nat}
theorem pend_of {fin : (World → Prop) → List (Nat × Nat) → Nat → Act → Prop} (st : Static l ch heads lates tail) {listed : Array Bool} {a' : Act} {w' : World} {pre : List Nat} {S C : World → Prop} {iv : List (Nat × Nat)} {H : Nat} {a : Act} {bl : Nat → Nat}
  (h : Inv P l ch heads lates tail B0 fin listed a' w' pre [] S C iv H a bl) (hl : ∀ f ∈ lates,On listed f.1) : Pend P l tail w' listed a' (putLates l bl lates a):=by
 have hpre : heads = pre:=by rw [h.split,List.append_nil]
 have hnd1:=(List.nodup_append.1 st.nd)
 have hnd : (lates.map (·.1)).Nodup:=(List.nodup_append.1 hnd1.1).2.1
 have hmem : ∀ f ∈ lates,f.1 ∈ lates.map (·.1):=fun f hf=>List.mem_map.2 ⟨f,hf,rfl⟩
 have hclH : Closed l (· ∈ heads):=st.closedP (pre:=heads) (rest:=[]) (by simp)
 have hpg:=fun t=>putLates_get (l:=l) bl st.okN lates a t (fun f hf=>st.lt _ (.inr (.inl (hmem f hf)))) hnd
 refine ⟨h.siz,h.cl,?_,h.tailUn,by rw [putLates_defers];exact h.dfr,by rw [putLates_size];exact h.tsz,?_⟩
 ·intro i o ho hit hun
  have hil:=(List.getElem?_eq_some_iff.1 ho).1
  have hih : i ∈ heads:=by
   rcases st.all i hil with h1 | h1 | h1
   ·exact h1
   ·obtain ⟨f,hf,rfl⟩:=List.mem_map.1 h1;exact absurd (hl f hf) hun
   ·exact absurd h1 hit
  obtain ⟨o',v,ho',hy,hv⟩:=h.yld i (hpre ▸ hih) hun
  rw [ho] at ho';obtain rfl:=Option.some.inj ho'
  have hy' : YieldsIf P l.toArray (· = w') o v a:=hy.imp (fun ⟨h1,h2⟩=>⟨h1,fun w hw=>h2 w (hw ▸ ⟨h.hS,h.hH⟩)⟩) id
  obtain ⟨hex,hwt⟩:=same_on (l:=l) (fun cs b=>st.sel i o cs b ho) (a:=a) (a':=putLates l bl lates a) (fun t ht=>(hpg t).1 fun f hf hd=>by
   have:=masks_spec hclH ho (hclH i o ho hih) ((st.okK hil (st.lt _ (.inr (.inl (hmem f hf)))) hd (by unfold looks;rw [ho];exact ht)).resolve_right (st.late_tail (hmem f hf)))
   exact st.head_late this (hmem f hf))
  refine ⟨v,hy'.of_same hex hwt,fun d hd hlt=>?_⟩
  rw [putLates_size] at hlt
  rw [(hpg d).1 fun f hf hdf=>?_]
  ·exact hv d hd hlt
  ·exact st.okN (st.lt _ (.inr (.inl (hmem f hf)))) hil (fun e=>st.head_late hih (e ▸ hmem f hf)) (by unfold dstOf;rw [ho];exact hd) hdf
 ·intro t ht
  by_cases hx : ∃ f ∈ lates,dstOf l f.1 = some t
  ·obtain ⟨f,hf,hd⟩:=hx
   rw [(hpg t).2 f hf hd]
   by_cases hlt : t < a.tmps.size
   ·rw [if_pos hlt];exact (h.late f hf (hl f hf)).2 t hd (by rw [h.tsz];exact hlt)
   ·rw [if_neg hlt];exact Array.getElem?_eq_none (by rw [h.tsz];exact Nat.not_lt.1 hlt)
  ·rw [(hpg t).1 (fun f hf hd=>hx ⟨f,hf,hd⟩)]
   refine h.agree t fun j hj hd=>?_
   rcases st.all j hj with h1 | h1 | h1
   ·exact (ht j hj hd).imp (fun h2=>⟨h2,h1⟩) id
   ·obtain ⟨f,hf,rfl⟩:=List.mem_map.1 h1;exact absurd ⟨f,hf,hd⟩ hx
   ·exact .inr h1
theorem rob_soundG {fin : (World → Prop) → List (Nat × Nat) → Nat → Act → Prop} (st : Static l ch heads lates tail) (hlate : ∀ f ∈ lates,∃ o,l[f.1]? = some o ∧ ∀ (a : Act) (w : World),(execOp a.eval o).run P w = .ok (.value (f.2.2 w.heap.size)) (w.alloc f.2.1))
  (hdone : ∀ {fuel : Nat} {listed : Array Bool} {a' : Act} {w' : World} {pre : List Nat} {S C : World → Prop} {iv : List (Nat × Nat)} {H : Nat} {a : Act} {bl : Nat → Nat},unl l listed ≤ fuel → Inv P l ch heads lates tail B0 fin listed a' w' pre [] S C iv H a bl → (∀ f ∈ lates,On listed f.1) → wpAny P .any l.toArray Q fuel listed a' w') :
  ∀ (fuel : Nat) (listed : Array Bool) (a' : Act) (w' : World) (pre rest : List Nat) (S C : World → Prop) (iv : List (Nat × Nat)) (H : Nat) (a : Act) (bl : Nat → Nat),
   unl l listed ≤ fuel → Inv P l ch heads lates tail B0 fin listed a' w' pre rest S C iv H a bl → wpAny P .any l.toArray Q fuel listed a' w':=by
 intro fuel
 induction fuel with
 | zero =>
  intro listed a' w' pre rest S C iv H a bl hu h
  have hall : ∀ i,i < l.length → On listed i:=fun i hi=>unl_zero (by omega) hi
  cases rest with
  | nil=>exact hdone hu h (fun f hf=>hall _ (st.lt _ (.inr (.inl (List.mem_map.2 ⟨f,hf,rfl⟩)))))
  | cons c L=>exact absurd (hall c (st.lt c (.inl (by rw [h.split];simp)))) (h.restUn c (by simp))
 | succ fuel ih =>
  intro listed a' w' pre0 rest0 S C iv H a0 bl hu h0
  obtain ⟨pre,rest,a,h,hch⟩:=Inv.advance st rest0 pre0 S C iv H a0 h0
  clear h0 a0 pre0 rest0
  by_cases hdone : rest = [] ∧ ∀ f ∈ lates,On listed f.1
  ·obtain ⟨hre,hlo⟩:=hdone
   subst hre
   exact hdone hu h hlo
  have hready : Region.ready .any l.toArray listed ≠ []:=by
   have hex : ∃ i,¬ On listed i ∧ ∃ o,l[i]? = some o ∧ ∀ j ∈ deps o,On listed j:=by
    by_cases hh : ∀ i ∈ heads,On listed i
    ·have : ∃ f ∈ lates,¬ On listed f.1:=by
      by_cases hx : ∃ f ∈ lates,¬ On listed f.1
      ·exact hx
      ·exact absurd ⟨by
        cases hrs : rest with
        | nil=>rfl
        | cons c L=>exact absurd (hh c (by rw [h.split,hrs];simp)) (h.restUn c (by rw [hrs];simp)),fun f hf=>Classical.byContradiction fun hc=>hx ⟨f,hf,hc⟩⟩ hdone
     obtain ⟨f,hf,hn⟩:=this
     obtain ⟨o,ho,hd,_⟩:=okLates_mem st.okL f.1 (List.mem_map.2 ⟨f,hf,rfl⟩)
     exact ⟨f.1,hn,o,ho,fun j hj=>hh j (hd j hj)⟩
    ·have : ∃ i ∈ heads,¬ On listed i:=by
      refine Classical.byContradiction fun hc=>hh fun i hi=>Classical.byContradiction fun hn=>hc ⟨i,hi,hn⟩
     obtain ⟨i,_,h1,h2⟩:=exists_ready heads [] (fun L1 i L2 e=>by
      obtain ⟨o,ho,hd,_⟩:=okHeads_split st.okH L1 i L2 e
      exact ⟨o,ho,hd⟩) (fun i hi=>by cases hi) this
     exact ⟨i,h1,h2⟩
   obtain ⟨i,h1,h2⟩:=hex
   intro he
   have:=(ready_iff h.siz).2 ⟨h1,h2⟩
   rw [he] at this
   cases this
  refine ⟨fun h0=>absurd h0 hready,fun i hi=>?_⟩
  obtain ⟨hun,o,ho,hdeps⟩:=(ready_iff h.siz).1 hi
  have hil:=(List.getElem?_eq_some_iff.1 ho).1
  have hdst : ∀ d,o.dst = some d → dstOf l i = some d:=fun d hd=>by unfold dstOf;rw [ho];exact hd
  have hsz : i < listed.size:=by rw [h.siz];exact hil
  have hu' : unl l (listed.setIfInBounds i true) ≤ fuel:=by have:=unl_set (l:=l) h.siz hil hun;omega
  have hcl':=closed_set h.siz h.cl ho hdeps
  rcases st.all i hil with hih | hil' | hit
  ·-- a head operation
   have hlook : ∀ t ∈ o.looksAt l.toArray,a'.tmps[t]? = a.tmps[t]?:=by
    intro t ht
    obtain ⟨L1,L2,hsp⟩:=List.append_of_mem hih
    refine h.agree t fun j hj hd=>?_
    by_cases hjt : j ∈ tail
    ·exact .inr hjt
    have hjp:=st.looks_pre hsp ho ht hj hd hjt
    have hm:=(st.okK hil hj hd (by unfold looks;rw [ho];exact ht)).resolve_right hjt
    exact .inl ⟨masks_spec h.cl ho hdeps hm,by rw [hsp];simp [hjp]⟩
   obtain ⟨hex,hwt⟩:=same_on (fun cs b=>st.sel i o cs b ho) hlook
   rw [h.split] at hih
   rcases List.mem_append.1 hih with hp | hr
   ·-- one that yields
    obtain ⟨o',v,ho',hy,hv⟩:=h.yld i hp hun
    rw [ho] at ho';obtain rfl:=Option.some.inj ho'
    have hy':=hy.of_same (a':=a') hex hwt
    refine YieldsIf.wpOp (P:=P) (ops:=l.toArray) (S:=fun w=>S w ∧ H ≤ w.heap.size) (by simpa using ho) hy' ⟨h.hS,h.hH⟩ ?_
    refine ih _ _ w' pre rest S C iv H a bl hu' { h with siz:=by simpa using h.siz,cl:=hcl',yld:=?_,restUn:=?_,tailUn:=?_,dfr:=by rw [put_defers'];exact h.dfr,tsz:=by rw [put_size];exact h.tsz,agree:=?_,late:=?_,lateNe:=?_ }
    ·intro k hk hn
     exact h.yld k hk (fun hon=>hn ((on_set hsz).2 (.inr hon)))
    ·intro k hk hon
     rcases (on_set hsz).1 hon with rfl | hon
     ·have hnd : heads.Nodup:=(List.nodup_append.1 (List.nodup_append.1 st.nd).1).1
      rw [h.split] at hnd
      exact (List.nodup_append.1 hnd).2.2 k hp k hk rfl
     ·exact h.restUn k hk hon
    ·intro k hk hon
     rcases (on_set hsz).1 hon with rfl | hon
     ·exact st.head_tail (by rw [h.split];simp [hp]) hk
     ·exact h.tailUn k hk hon
    ·intro t ht
     cases hod : o.dst with
     | none =>
      refine h.agree t fun j hj hd=>?_
      rcases ht j hj hd with ⟨h1,h2⟩ | h1
      ·rcases (on_set hsz).1 h1 with rfl | h1
       ·have : dstOf l j = none:=by unfold dstOf;rw [ho];exact hod
        rw [this] at hd;cases hd
       ·exact .inl ⟨h1,h2⟩
      ·exact .inr h1
     | some d =>
      rw [put_get]
      by_cases htd : t = d
      ·subst htd
       rw [if_pos rfl]
       by_cases hlt : t < a'.tmps.size
       ·rw [if_pos hlt,hv t hod (by rw [← h.tsz];exact hlt)]
       ·have hge : a.tmps.size ≤ t:=by rw [← h.tsz];exact Nat.not_lt.1 hlt
        rw [if_neg hlt,Array.getElem?_eq_none hge]
      ·rw [if_neg htd]
       refine h.agree t fun j hj hd=>?_
       rcases ht j hj hd with ⟨h1,h2⟩ | h1
       ·rcases (on_set hsz).1 h1 with rfl | h1
        ·rw [hdst d hod] at hd;exact absurd (Option.some.inj hd).symm htd
        ·exact .inl ⟨h1,h2⟩
       ·exact .inr h1
    ·intro f hf hon
     have hfi : f.1 ≠ i:=fun e=>st.head_late (by rw [h.split];simp [hp]) (List.mem_map.2 ⟨f,hf,e⟩)
     have hon' : On listed f.1:=by rcases (on_set hsz).1 hon with e | e;exact absurd e hfi;exact e
     refine ⟨(h.late f hf hon').1,fun d hd hlt=>?_⟩
     rw [put_size] at hlt
     cases hod : o.dst with
     | none=>exact (h.late f hf hon').2 d hd hlt
     | some e =>
      rw [put_get,if_neg]
      ·exact (h.late f hf hon').2 d hd hlt
      ·rintro rfl
       exact st.okN (st.lt _ (.inr (.inl (List.mem_map.2 ⟨f,hf,rfl⟩)))) hil hfi (hdst _ hod) hd
    ·intro f hf g hg hf1 hg1 hne
     have hfi : ∀ f ∈ lates,f.1 ≠ i:=fun f hf e=>st.head_late (by rw [h.split];simp [hp]) (List.mem_map.2 ⟨f,hf,e⟩)
     have hon' : ∀ f ∈ lates,On (listed.setIfInBounds i true) f.1 → On listed f.1:=fun f hf hon=>by rcases (on_set hsz).1 hon with e | e;exact absurd e (hfi f hf);exact e
     exact h.lateNe f hf g hg (hon' f hf hf1) (hon' g hg hg1) hne
   ·-- the next one that may turn the world
    cases rest with
    | nil=>cases hr
    | cons c L =>
     obtain ⟨oc,hoc,hcc,hcw,Ψ,C',⟨hst,hstC⟩,hrun,hnext⟩:=hch
     by_cases hic : i = c
     ·subst hic
      rw [ho] at hoc;obtain rfl:=Option.some.inj hoc
      have hnm:=st.not_mem h.split
      have hrt:=(hrun w' h.hS h.hC h.hH).congr hex.symm
      unfold wpOp
      simp only [List.getElem?_toArray,ho]
      rw [if_pos (hwt.trans hcw)]
      refine .inl (hrt.wp fun v w'' hv=>?_)
      obtain ⟨hsp,hS',hΨ,hC'⟩:=hv
      have hfi : ∀ f ∈ lates,f.1 ≠ i:=fun f hf e=>st.head_late (by rw [h.split];simp) (List.mem_map.2 ⟨f,hf,e⟩)
      have hon' : ∀ f ∈ lates,On (listed.setIfInBounds i true) f.1 → On listed f.1:=fun f hf hon=>by rcases (on_set hsz).1 hon with e | e;exact absurd e (hfi f hf);exact e
      have hself : ∀ t,o.dst = some t → t ∉ o.looksAt l.toArray:=fun t hd ht=>hnm.1 (st.looks_pre h.split ho ht hil (hdst t hd) (st.head_tail (by rw [h.split];simp)))
      refine ih _ _ w'' (pre ++ [i]) L _ _ _ w''.heap.size (a.put o.dst v) bl hu' { split:=by rw [h.split];simp,rob:=hnext w'.heap.size w''.heap.size v h.hH hsp.size ⟨w'',hΨ,hC'⟩,stabC:=fun w1 w2 hc he=>hstC _ _ _ w1 w2 hc he,hC:=hC',siz:=by simpa using h.siz,cl:=hcl',yld:=?_,restUn:=?_,tailUn:=?_,stab:=?_,hS:=⟨hS',hΨ⟩,hH:=Nat.le_refl _,hB:=?_,hiv:=?_,dfr:=by rw [put_defers',put_defers'];exact h.dfr,tsz:=by rw [put_size,put_size];exact h.tsz,agree:=?_,late:=?_,lateNe:=?_ }
      ·intro k hk hn
       rcases List.mem_append.1 hk with hk | hk
       ·obtain ⟨ok,vk,hok,hyk,hvk⟩:=h.yld k hk (fun hon=>hn ((on_set hsz).2 (.inr hon)))
        have hkl:=(List.getElem?_eq_some_iff.1 hok).1
        have hki : k ≠ i:=fun e=>hnm.1 (e ▸ hk)
        refine ⟨ok,vk,hok,?_,?_⟩
        ·have hyk' : YieldsIf P l.toArray (fun w=>(S w ∧ Ψ w'.heap.size w''.heap.size v w) ∧ w''.heap.size ≤ w.heap.size) ok vk a:=
          hyk.imp (fun ⟨h1,h2⟩=>⟨h1,fun w hw=>h2 w ⟨hw.1.1,Nat.le_trans h.hH (Nat.le_trans hsp.size hw.2)⟩⟩) id
         refine YieldsIf.put (fun cs b=>st.sel k ok cs b hok) hyk' ?_
         intro t hd ht
         obtain ⟨L1,L2,hsp'⟩:=List.append_of_mem hk
         have:=st.looks_pre (pre:=L1) (rest:=L2 ++ i :: L) (by rw [h.split,hsp'];simp) hok ht hil (hdst t hd) (st.head_tail (by rw [h.split];simp))
         exact hnm.1 (by rw [hsp'];simp [this])
        ·intro d hd hlt
         rw [put_size] at hlt
         cases hod : o.dst with
         | none=>exact hvk d hd hlt
         | some e =>
          rw [put_get,if_neg]
          ·exact hvk d hd hlt
          ·rintro rfl
           exact st.okN hkl hil hki (hdst _ hod) (by unfold dstOf;rw [hok];exact hd)
       ·obtain rfl : k = i:=by simpa using hk
        exact absurd ((on_set hsz).2 (.inl rfl)) hn
      ·intro k hk hon
       rcases (on_set hsz).1 hon with rfl | hon
       ·exact hnm.2 hk
       ·exact h.restUn k (by simp [hk]) hon
      ·intro k hk hon
       rcases (on_set hsz).1 hon with rfl | hon
       ·exact st.head_tail (by rw [h.split];simp) hk
       ·exact h.tailUn k hk hon
      ·exact fun w1 w2 hs he=>⟨h.stab w1 w2 hs.1 he,hst _ _ _ w1 w2 hs.2 he⟩
      ·exact Nat.le_trans h.hB (Nat.le_trans h.hH hsp.size)
      ·intro p hp
       rcases List.mem_append.1 hp with hp | hp
       ·exact Nat.le_trans (h.hiv p hp) (Nat.le_trans h.hH hsp.size)
       ·obtain rfl : p = (w'.heap.size,w''.heap.size):=by simpa using hp
        exact Nat.le_refl _
      ·intro t ht
       cases hod : o.dst with
       | none =>
        refine h.agree t fun j hj hd=>?_
        rcases ht j hj hd with ⟨h1,h2⟩ | h1
        ·rcases (on_set hsz).1 h1 with rfl | h1
         ·have : dstOf l j = none:=by unfold dstOf;rw [ho];exact hod
          rw [this] at hd;cases hd
         ·exact .inl ⟨h1,h2⟩
        ·exact .inr h1
       | some d =>
        rw [put_get,put_get,h.tsz]
        by_cases htd : t = d
        ·rw [if_pos htd,if_pos htd]
        ·rw [if_neg htd,if_neg htd]
         refine h.agree t fun j hj hd=>?_
         rcases ht j hj hd with ⟨h1,h2⟩ | h1
         ·rcases (on_set hsz).1 h1 with rfl | h1
          ·rw [hdst d hod] at hd;exact absurd (Option.some.inj hd).symm htd
          ·exact .inl ⟨h1,h2⟩
         ·exact .inr h1
      ·intro f hf hon
       obtain ⟨hla,hlv⟩:=h.late f hf (hon' f hf hon)
       refine ⟨⟨hla.ge,Nat.lt_of_lt_of_le hla.lt hsp.size,?_,?_⟩,fun d hd hlt=>?_⟩
       ·rw [hsp.same _ hla.ge hla.lt hla.out];exact hla.obj
       ·intro p hp
        rcases List.mem_append.1 hp with hp | hp
        ·exact hla.out p hp
        ·obtain rfl : p = (w'.heap.size,w''.heap.size):=by simpa using hp
         exact .inl hla.lt
       ·rw [put_size] at hlt
        cases hod : o.dst with
        | none=>exact hlv d hd hlt
        | some e =>
         rw [put_get,if_neg]
         ·exact hlv d hd hlt
         ·rintro rfl
          exact st.okN (st.lt _ (.inr (.inl (List.mem_map.2 ⟨f,hf,rfl⟩)))) hil (hfi f hf) (hdst _ hod) hd
      ·exact fun f hf g hg hf1 hg1 hne=>h.lateNe f hf g hg (hon' f hf hf1) (hon' g hg hg1) hne
     ·-- a later head operation waits for it
      have hr' : i ∈ L:=by
       rcases List.mem_cons.1 hr with e | e
       ·exact absurd e hic
       ·exact e
      obtain ⟨L1,L2,rfl⟩:=List.append_of_mem hr'
      obtain ⟨o',ho',_,hm⟩:=okHeads_split st.okH (pre ++ c :: L1) i L2 (by rw [h.split];simp)
      rw [ho] at ho';obtain rfl:=Option.some.inj ho'
      exact absurd (masks_spec h.cl ho hdeps (hm c (by simp) hcc)) (h.restUn c (by simp))
  ·-- a late operation
   obtain ⟨f,hf,rfl⟩:=List.mem_map.1 hil'
   obtain ⟨o',ho',hop⟩:=hlate f hf
   rw [ho] at ho';obtain rfl:=Option.some.inj ho'
   obtain ⟨o',ho',_,hg,_⟩:=okLates_mem st.okL f.1 hil'
   rw [ho] at ho';obtain rfl:=Option.some.inj ho'
   have hpre : ∀ k ∈ heads,k ≠ f.1:=fun k hk e=>st.head_late (e ▸ hk) hil'
   unfold wpOp
   simp only [List.getElem?_toArray,ho]
   rw [if_pos (by simp [Region.wanted,hg])]
   refine .inl ?_
   unfold Oper.wp
   rw [hop]
   simp only [Oper.upon]
   have hext : Ext w' (w'.alloc f.2.1):=(Below.refl _ _).alloc (Nat.le_refl _) _
   have hszA : (w'.alloc f.2.1).heap.size = w'.heap.size + 1:=by simp
   have hnd : (lates.map (·.1)).Nodup:=(List.nodup_append.1 (List.nodup_append.1 st.nd).1).2.1
   have huniq : ∀ g ∈ lates,g.1 = f.1 → g = f:=fun g hg e=>by
    obtain ⟨n,hn,rfl⟩:=List.mem_iff_getElem.1 hg
    obtain ⟨m,hm,rfl⟩:=List.mem_iff_getElem.1 hf
    have : n = m:=(List.getElem_inj (i:=n) (j:=m) (h₀:=by simpa using hn) (h₁:=by simpa using hm) hnd).1 (by simpa using e)
    subst this;rfl
   refine ih _ _ _ pre rest S C iv H a (fun k=>if k = f.1 then w'.heap.size else bl k) hu' { h with siz:=by simpa using h.siz,cl:=hcl',yld:=?_,restUn:=?_,tailUn:=?_,hS:=h.stab _ _ h.hS hext,hC:=h.stabC _ _ h.hC hext,hH:=by rw [hszA];exact Nat.le_succ_of_le h.hH,dfr:=by rw [put_defers'];exact h.dfr,tsz:=by rw [put_size];exact h.tsz,agree:=?_,late:=?_,lateNe:=?_ }
   ·intro k hk hn
    exact h.yld k hk (fun hon=>hn ((on_set hsz).2 (.inr hon)))
   ·intro k hk hon
    rcases (on_set hsz).1 hon with e | hon
    ·exact hpre k (by rw [h.split];simp [hk]) e
    ·exact h.restUn k hk hon
   ·intro k hk hon
    rcases (on_set hsz).1 hon with rfl | hon
    ·exact st.late_tail hil' hk
    ·exact h.tailUn k hk hon
   ·intro t ht
    have hno : dstOf l f.1 ≠ some t:=fun hd=>by
     rcases ht f.1 hil hd with ⟨_,h2⟩ | h2
     ·exact st.head_late h2 hil'
     ·exact st.late_tail hil' h2
    have hag : a'.tmps[t]? = a.tmps[t]?:=h.agree t fun j hj hd=>by
     rcases ht j hj hd with ⟨h1,h2⟩ | h1
     ·rcases (on_set hsz).1 h1 with e | h1
      ·exact absurd e (hpre j h2)
      ·exact .inl ⟨h1,h2⟩
     ·exact .inr h1
    cases hod : o.dst with
    | none=>exact hag
    | some d=>rw [put_get,if_neg (fun (e : t = d)=>hno (by rw [hdst d hod,e]))];exact hag
   ·intro g hg' hon
    by_cases hgf : g.1 = f.1
    ·obtain rfl:=huniq g hg' hgf
     refine ⟨⟨?_,?_,?_,?_⟩,fun d hd hlt=>?_⟩
     ·simp only [if_pos];exact Nat.le_trans h.hB h.hH
     ·simp only [if_pos,hszA];omega
     ·simp only [if_pos];show (w'.heap.push g.2.1)[w'.heap.size]? = _;simp
     ·intro p hp;simp only [if_pos];exact .inr (Nat.le_trans (h.hiv p hp) h.hH)
     ·rw [put_size] at hlt
      have hod : o.dst = some d:=by unfold dstOf at hd;rw [ho] at hd;exact hd
      rw [hod,put_get,if_pos rfl,if_pos hlt]
      simp
    ·have hon' : On listed g.1:=by rcases (on_set hsz).1 hon with e | e;exact absurd e hgf;exact e
     obtain ⟨hla,hlv⟩:=h.late g hg' hon'
     refine ⟨⟨?_,?_,?_,?_⟩,fun d hd hlt=>?_⟩
     ·simp only [if_neg hgf];exact hla.ge
     ·simp only [if_neg hgf,hszA];exact Nat.lt_succ_of_lt hla.lt
     ·simp only [if_neg hgf];rw [hext.block _ hla.lt];exact hla.obj
     ·simp only [if_neg hgf];exact hla.out
     ·rw [put_size] at hlt
      simp only [if_neg hgf]
      cases hod : o.dst with
      | none=>exact hlv d hd hlt
      | some e =>
       rw [put_get,if_neg]
       ·exact hlv d hd hlt
       ·rintro rfl
        exact st.okN (st.lt _ (.inr (.inl (List.mem_map.2 ⟨g,hg',rfl⟩)))) hil hgf (hdst _ hod) hd
   ·intro g1 hg1 g2 hg2 hn1 hn2 hne
    have hon' : ∀ g ∈ lates,g.1 ≠ f.1 → On (listed.setIfInBounds f.1 true) g.1 → On listed g.1:=fun g _ hgf hon=>by rcases (on_set hsz).1 hon with e | e;exact absurd e hgf;exact e
    by_cases h1 : g1.1 = f.1
    ·by_cases h2 : g2.1 = f.1
     ·exact absurd (h1.trans h2.symm) hne
     ·simp only [if_pos h1,if_neg h2]
      have:=(h.late g2 hg2 (hon' g2 hg2 h2 hn2)).1.lt
      omega
    ·by_cases h2 : g2.1 = f.1
     ·simp only [if_neg h1,if_pos h2]
      have:=(h.late g1 hg1 (hon' g1 hg1 h1 hn1)).1.lt
      omega
     ·simp only [if_neg h1,if_neg h2]
      exact h.lateNe g1 hg1 g2 hg2 (hon' g1 hg1 h1 hn1) (hon' g2 hg2 h2 hn2) hne
  ·-- none of what comes behind is ready yet
   have hm : ∀ c,c ∈ heads.filter ch.contains ++ lates.map (·.1) → ((masks l).getD i 0).testBit c = true:=fun c hc=>List.all_eq_true.1 (List.all_eq_true.1 st.okM i hit) c hc
   refine absurd ⟨?_,fun f hf=>masks_spec h.cl ho hdeps (hm f.1 (List.mem_append_right _ (List.mem_map.2 ⟨f,hf,rfl⟩)))⟩ hdone
   cases rest with
   | nil=>rfl
   | cons c L =>
    obtain ⟨oc,hoc,hcc,_⟩:=hch
    exact absurd (masks_spec h.cl ho hdeps (hm c (List.mem_append_left _ (List.mem_filter.2 ⟨by rw [h.split];simp,hcc⟩)))) (h.restUn c (by simp))
end main
section float
variable {P : Program} {l : List Oper} {Q : Exit → Act → World → Prop} {ch heads : List Nat} {lates : Lates} {B0 : Nat}
def isExtract (o : Oper) : Bool:=match o.op with | .extract _ _=>true | _=>false
theorem pure_extract {e : Operand → Value} {o : Oper} (ho : isExtract o = true) {w w' : World} {v : Value} (h : (execOp e o).run P w = .ok (.value v) w) : (execOp e o).run P w' = .ok (.value v) w':=by
 unfold isExtract at ho
 split at ho
 ·rename_i x n hop
  unfold execOp at h ⊢
  simp only [hop] at h ⊢
  generalize e x = u at *
  cases u with
  | tuple vs=>cases hv : vs[n]? <;> simp_all [Instr.extract,Sem.run_bind,Result.andThen]
  | _=>simp_all [Instr.extract,Sem.run_bind,Result.andThen]
 ·cases ho
def okFloat (l : List Oper) (pre : List Nat) (x t : Nat) (rest : List Nat) : Bool:=
 (match l[t]? with | some o=>(deps o).all pre.contains && o.guard.isNone && o.dst.isNone | none=>false) && pre.all (fun c=>c == x || ((masks l).getD t 0).testBit c) &&
  (match l[x]? with | some o=>isExtract o | none=>false) && okTail l (pre ++ [t]) rest
def okPlanF (l : List Oper) (ch heads lates : List Nat) (x t : Nat) (rest : List Nat) : Bool:=
 let all:=heads ++ lates ++ (t :: rest)
 (List.range l.length).all all.contains && all.all (· < l.length) && decide all.Nodup && okHeads l ch [] heads && okLates l heads lates && okMid l ch heads lates (t :: rest) &&
  okSlots l (t :: rest) && Region.noSelect l.toArray && okFloat l (heads ++ lates) x t rest && okDeps l
theorem pend_runF {x t : Nat} {rest pre : List Nat} {ot : Oper} (hS : okSlots l (t :: rest) = true) (hD : okDeps l = true) (hsel : ∀ (j : Nat) (o : Oper) cs b,l[j]? = some o → o.op ≠ .select cs b) (hF : okFloat l pre x t rest = true) (hot : l[t]? = some ot)
  (hall : ∀ i,i < l.length → i ∈ pre ∨ i ∈ t :: rest) (hlt : ∀ i ∈ pre,i < l.length) (hnd : (t :: rest).Nodup) (hSr : okSlots l rest = true) :
  ∀ (fuel : Nat) (listed : Array Bool) (a' A : Act) (w w2 : World),unl l listed ≤ fuel → Pend P l (t :: rest) w listed a' A → (execOp A.eval ot).run P w = .ok .skip w2 → wpList P l.toArray Q (rest.filterMap (l[·]?)) A w2 → wpAny P .any l.toArray Q fuel listed a' w:=by
 unfold okFloat at hF
 rw [hot] at hF
 simp only [Bool.and_eq_true,List.all_eq_true,List.contains_eq_mem,decide_eq_true_eq,Option.isNone_iff_eq_none,Bool.or_eq_true,beq_iff_eq] at hF
 obtain ⟨⟨⟨⟨⟨hdt,hgt⟩,hdstt⟩,hmt⟩,hx⟩,hT⟩:=hF
 have htl : t < l.length:=(List.getElem?_eq_some_iff.1 hot).1
 intro fuel
 induction fuel with
 | zero =>
  intro listed a' A w w2 hu h hr hw
  exact absurd (unl_zero (by omega) htl) (h.tailUn t (by simp))
 | succ fuel ih =>
  intro listed a' A w w2 hu h hr hw
  have hnt:=h.tailUn t (by simp)
  have hready : Region.ready .any l.toArray listed ≠ []:=some_ready hD h.siz t htl hnt
  refine ⟨fun h0=>absurd h0 hready,fun i hi=>?_⟩
  obtain ⟨hun,o,ho,hdeps⟩:=(ready_iff h.siz).1 hi
  have hil:=(List.getElem?_eq_some_iff.1 ho).1
  have hsz : i < listed.size:=by rw [h.siz];exact hil
  have hdst : ∀ d,o.dst = some d → dstOf l i = some d:=fun d hd=>by unfold dstOf;rw [ho];exact hd
  have hlook : ∀ t ∈ o.looksAt l.toArray,a'.tmps[t]? = A.tmps[t]?:=fun t' ht=>h.agree t' fun j hj hdj =>
   (okSlots_looks hS hil hj hdj (by unfold looks;rw [ho];exact ht)).imp (masks_spec h.cl ho hdeps) id
  obtain ⟨hex,hwt⟩:=same_on (fun cs b=>hsel i o cs b ho) hlook
  by_cases hit : i = t
  ·subst hit
   rw [hot] at ho;obtain rfl:=Option.some.inj ho
   unfold wpOp
   simp only [List.getElem?_toArray,hot]
   rw [if_pos (by simp [Region.wanted,hgt])]
   left
   unfold Oper.wp
   rw [hex,hr]
   show wpAny P .any l.toArray Q fuel (listed.setIfInBounds i true) (a'.put ot.dst undef) w2
   rw [hdstt]
   have hu' : unl l (listed.setIfInBounds i true) ≤ fuel:=by have:=unl_set (l:=l) h.siz hil hun;omega
   refine pend_run (pre:=pre ++ [i]) hSr hD hsel hT (fun k hk=>?_) (fun k hk=>?_) (List.nodup_cons.1 hnd).2 fuel _ a' A w2 hu' ⟨by simpa using h.siz,closed_set h.siz h.cl hot hdeps,fun k ok hok hk hn=>?_,fun k hk hon=>?_,h.dfr,h.tsz,fun d hd=>?_⟩ hw
   ·rcases hall k hk with h1 | h1
    ·exact .inl (by simp [h1])
    ·rcases List.mem_cons.1 h1 with rfl | h1
     ·exact .inl (by simp)
     ·exact .inr h1
   ·rcases List.mem_append.1 hk with hk | hk
    ·exact hlt k hk
    ·rw [List.mem_singleton.1 hk];exact htl
   ·have hki : k ≠ i:=fun e=>hn ((on_set hsz).2 (.inl e))
    have hkn : ¬ On listed k:=fun hon=>hn ((on_set hsz).2 (.inr hon))
    have hkp : k ∈ pre:=by
     rcases hall k (List.getElem?_eq_some_iff.1 hok).1 with h1 | h1
     ·exact h1
     ·rcases List.mem_cons.1 h1 with h1 | h1
      ·exact absurd h1 hki
      ·exact absurd h1 hk
    have hkx : k = x:=(hmt k hkp).resolve_right fun hm=>hkn (masks_spec h.cl hot hdeps hm)
    subst hkx
    rw [hok] at hx
    obtain ⟨v,hy,hv⟩:=h.yld k ok hok (fun h1=>(List.mem_cons.1 h1).elim hki hk) hkn
    exact ⟨v,hy.imp (fun ⟨h1,h2⟩=>⟨h1,fun w' hw'=>pure_extract hx (h2 w rfl)⟩) id,hv⟩
   ·rcases (on_set hsz).1 hon with rfl | hon
    ·exact (List.nodup_cons.1 hnd).1 hk
    ·exact h.tailUn k (by simp [hk]) hon
   ·refine h.agree d fun j hj hdj=>?_
    rcases hd j hj hdj with h1 | h1
    ·rcases (on_set hsz).1 h1 with rfl | h1
     ·have : dstOf l j = none:=by unfold dstOf;rw [hot];exact hdstt
      rw [this] at hdj;cases hdj
     ·exact .inl h1
    ·exact .inr (by simp [h1])
  ·by_cases hir : i ∈ rest
   ·obtain ⟨L1,L2,hsp⟩:=List.append_of_mem hir
    obtain ⟨o',ho',_,hm⟩:=okTail_split hT L1 i L2 hsp
    rw [ho] at ho';obtain rfl:=Option.some.inj ho'
    exact absurd (masks_spec h.cl ho hdeps (hm t (by simp))) hnt
   ·have hitl : i ∉ t :: rest:=fun h1=>(List.mem_cons.1 h1).elim hit hir
    obtain ⟨v,hy,hv⟩:=h.yld i o ho hitl hun
    refine YieldsIf.wpOp (P:=P) (ops:=l.toArray) (S:=(· = w)) (by simpa using ho) (hy.of_same hex hwt) rfl ?_
    have hu' : unl l (listed.setIfInBounds i true) ≤ fuel:=by have:=unl_set (l:=l) h.siz hil hun;omega
    refine ih _ _ A w w2 hu' ⟨by simpa using h.siz,closed_set h.siz h.cl ho hdeps,fun k ok hok hk hn=>h.yld k ok hok hk fun hon=>hn ((on_set hsz).2 (.inr hon)),?_,by rw [put_defers'];exact h.dfr,by rw [put_size];exact h.tsz,?_⟩ hr hw
    ·intro k hk hon
     rcases (on_set hsz).1 hon with rfl | hon
     ·exact hitl hk
     ·exact h.tailUn k hk hon
    ·intro t' ht
     cases hod : o.dst with
     | none =>
      refine h.agree t' fun j hj hd=>?_
      rcases ht j hj hd with h1 | h1
      ·rcases (on_set hsz).1 h1 with rfl | h1
       ·have : dstOf l j = none:=by unfold dstOf;rw [ho];exact hod
        rw [this] at hd;cases hd
       ·exact .inl h1
      ·exact .inr h1
     | some d =>
      rw [put_get]
      by_cases htd : t' = d
      ·subst htd
       rw [if_pos rfl]
       by_cases hlt : t' < a'.tmps.size
       ·rw [if_pos hlt,hv t' hod (by rw [← h.tsz];exact hlt)]
       ·have hge : A.tmps.size ≤ t':=by rw [← h.tsz];exact Nat.not_lt.1 hlt
        rw [if_neg hlt,Array.getElem?_eq_none hge]
      ·rw [if_neg htd]
       refine h.agree t' fun j hj hd=>?_
       rcases ht j hj hd with h1 | h1
       ·rcases (on_set hsz).1 h1 with rfl | h1
        ·rw [hdst d hod] at hd;exact absurd (Option.some.inj hd).symm htd
        ·exact .inl h1
       ·exact .inr h1
def FinF (P : Program) (l : List Oper) (Q : Exit → Act → World → Prop) (B0 : Nat) (lates : Lates) (t : Nat) (rest : List Nat) (S : World → Prop) (iv : List (Nat × Nat)) (H : Nat) (a : Act) : Prop:=
 ∀ w,S w → H ≤ w.heap.size → ∀ bl : Nat → Nat,(∀ f ∈ lates,LateAt B0 iv bl w f) → (∀ f ∈ lates,∀ g ∈ lates,f.1 ≠ g.1 → bl f.1 ≠ bl g.1) →
  ∃ ot w2,l[t]? = some ot ∧ (execOp (putLates l bl lates a).eval ot).run P w = .ok .skip w2 ∧ wpList P l.toArray Q (rest.filterMap (l[·]?)) (putLates l bl lates a) w2
theorem wp_region_float (x t : Nat) (ch heads : List Nat) (lates : Lates) (rest : List Nat) {id : Nat} {a : Act} {w : World} (hm : P.follows .mixedOrders = true)
  (hok : okPlanF l ch heads (lates.map (·.1)) x t rest = true)
  (hlate : ∀ f ∈ lates,∃ o,l[f.1]? = some o ∧ ∀ (a : Act) (w : World),(execOp a.eval o).run P w = .ok (.value (f.2.2 w.heap.size)) (w.alloc f.2.1))
  (h : Rob P l ch w.heap.size (FinF P l Q w.heap.size lates t rest) heads (fun w'=>Ext w w') (fun _=>True) [] w.heap.size a) : (Code.region id l.toArray true).wp P Q a w:=by
 have hok':=hok
 simp only [okPlanF,Bool.and_eq_true,List.all_eq_true,List.contains_eq_mem,decide_eq_true_eq,List.mem_range] at hok
 obtain ⟨⟨⟨⟨⟨⟨⟨⟨⟨h1,h2⟩,h3⟩,h4⟩,h5⟩,h6⟩,h7⟩,h8⟩,h9⟩,h11⟩:=hok
 have st : Static l ch heads lates (t :: rest):=⟨fun i hi=>or_assoc.1 ((List.mem_append.1 (h1 i hi)).imp List.mem_append.1 (fun h=>h)),fun i hi=>h2 i (List.mem_append.2 ((or_assoc.2 hi).imp List.mem_append.2 (fun h=>h))),h3,h4,h5,h6,fun hi hj hij _ hd=>okSlots_ne h7 hi hj hij hd,fun hi hj _ hd hl=>okSlots_looks h7 hi hj hd hl,
  fun j o cs b hj=>Region.noSelect_spec h8 j o cs b (by simpa using hj)⟩
 have h7r : okSlots l rest = true:=by
  unfold okSlots at h7 ⊢
  rw [List.all_eq_true] at h7 ⊢
  intro i hi
  have h7i:=h7 i hi
  rw [List.all_eq_true] at h7i ⊢
  intro j hj
  have h7j:=h7i j hj
  cases hd : dstOf l j with
  | none=>rfl
  | some d =>
   rw [hd] at h7j
   simp only [Bool.and_eq_true,Bool.or_eq_true,Bool.not_eq_true'] at h7j ⊢
   refine ⟨h7j.1,h7j.2.imp (fun h=>h) fun hc=>?_⟩
   rcases List.mem_cons.1 (by simpa using hc) with rfl | hc
   ·have hb:=h9
    unfold okFloat at hb
    simp only [Bool.and_eq_true] at hb
    have hb1:=hb.1.1.1
    unfold dstOf at hd
    cases ho : l[j]? with
    | none=>rw [ho] at hb1;cases hb1
    | some o =>
     rw [ho] at hb1 hd
     simp only [Bool.and_eq_true,Option.isNone_iff_eq_none] at hb1
     have : o.dst = some d:=hd
     rw [hb1.2] at this;cases this
   ·simpa using hc
 have hnd1:=(List.nodup_append.1 st.nd)
 refine wp_region_any hm ?_
 have hun : ∀ i,¬ On (Array.replicate l.toArray.size false) i:=fun i=>by
  unfold On;simp [Array.getD_eq_getD_getElem?,Array.getElem?_replicate];split <;> simp
 refine rob_soundG st hlate (fun {fuel listed a' w' pre S C iv H a bl} hu hI hl=>?_) _ _ a w.drew [] heads (fun w'=>Ext w w') (fun _=>True) [] w.heap.size a (fun _=>0) ?_ ⟨rfl,h,by simp,fun i o _ hi=>absurd hi (hun i),fun i hi=>(by cases hi),fun i _=>hun i,fun i _=>hun i,fun _ _ h1 h2=>Go.RowKit.Below.trans h1 (h2.mono h1.size),(Below.refl _ _).drew,fun _ _ _ _=>trivial,trivial,Nat.le_refl _,Nat.le_refl _,fun p hp=>(by cases hp),rfl,rfl,fun t _=>rfl,fun f _ hf=>absurd hf (hun _),fun f _ g _ hf=>absurd hf (hun _)⟩
 ·have hp:=pend_of st hI hl
  have hfin : FinF P l Q _ lates t rest (fun w=>S w ∧ C w) iv H a:=hI.rob
  obtain ⟨ot,w2,hot,hr,hw⟩:=hfin w' ⟨hI.hS,hI.hC⟩ hI.hH bl (fun f hf=>(hI.late f hf (hl f hf)).1) (fun f hf g hg hne=>hI.lateNe f hf g hg (hl f hf) (hl g hg) hne)
  refine pend_runF h7 h11 st.sel h9 hot (fun i hi=>?_) (fun i hi=>?_) hnd1.2.1 h7r fuel listed a' _ w' w2 hu hp hr hw
  ·exact (or_assoc.2 (st.all i hi)).imp List.mem_append.2 (fun h=>h)
  ·exact st.lt i (or_assoc.1 (.inl (List.mem_append.1 hi)))
 ·unfold unl
  exact Nat.le_trans (List.length_filter_le _ _) (by simp)
theorem fin_float {S C : World → Prop} {iv : List (Nat × Nat)} {H : Nat} {a : Act} {t : Nat} {rest : List Nat} {f : Nat × Obj × (Nat → Value)} (ot : Oper) (hot : l[t]? = some ot)
  (h : ∀ w1 (b : Nat),S w1 → H ≤ w1.heap.size → B0 ≤ b → b < w1.heap.size → w1.heap[b]? = some f.2.1 → (∀ p ∈ iv,b < p.1 ∨ p.2 ≤ b) →
   ∃ w2,(execOp (a.put (dstOf l f.1) (f.2.2 b)).eval ot).run P w1 = .ok .skip w2 ∧ wpList P l.toArray Q (rest.filterMap (l[·]?)) (a.put (dstOf l f.1) (f.2.2 b)) w2) : FinF P l Q B0 [f] t rest (fun w=>S w ∧ C w) iv H a:=
 fun w1 hs hh bl hl _=>by
  obtain ⟨w2,h1,h2⟩:=h w1 (bl f.1) hs.1 hh (hl f (by simp)).ge (hl f (by simp)).lt (hl f (by simp)).obj (hl f (by simp)).out
  exact ⟨ot,w2,hot,h1,h2⟩
end float
end Go.Plan
namespace Go.Bu
open Go Go.RowKit Go.Plan Go.Proofs
def pairPutV (p : Pair) (addr val cut : Int) (torn : Bool) : Pair:=if pairOkB p = true ∧ 0 ≤ cut then putV p addr val cut torn else pair0
def StToN (s : Store) (lo hi : Nat) (v : Value) (w : World) : Prop:=∃ f d L,v = .tuple #[.agg #[f,d],.bool true] ∧ OwnStore w f d s L ∧ L.Nodup ∧ ∀ b ∈ L,lo ≤ b ∧ b < hi
theorem StToN.ext {s : Store} {lo hi : Nat} {v : Value} {w w' : World} (h : StToN s lo hi v w) (hx : Ext w w') : StToN s lo hi v w':=by
 obtain ⟨f,d,L,he,ho,hn,hb⟩:=h;exact ⟨f,d,L,he,ho.ext hx,hn,hb⟩
theorem StToN.forms {s : Store} {lo hi : Nat} {v : Value} {w : World} (h : StToN s lo hi v w) : ∃ a n c b m k,v = .tuple #[.agg #[.slice a n c,.slice b m k],.bool true]:=by
 obtain ⟨f,d,L,rfl,ho,_⟩:=h
 obtain ⟨a,n,c,b,m,k,rfl,rfl⟩:=ho.forms
 exact ⟨a,n,c,b,m,k,rfl⟩
theorem StToN.own {s : Store} {lo hi : Nat} {f d : Value} {w : World} (h : StToN s lo hi (.tuple #[.agg #[f,d],.bool true]) w) : ∃ L,OwnStore w f d s L ∧ L.Nodup ∧ ∀ b ∈ L,lo ≤ b ∧ b < hi:=by
 obtain ⟨f',d',L,he,ho,hn,hb⟩:=h
 simp at he
 obtain ⟨rfl,rfl⟩:=he
 exact ⟨L,ho,hn,hb⟩
theorem StToΦ.to {w w' : World} {s : Store} {e : Ending} (h : StToΦ w s e w') : ∃ v,e = .returned v ∧ RetC w (StToN s) v w':=by
 obtain ⟨f,d,L,he,hx,ho,hn,hb⟩:=h
 exact ⟨_,he,hx,f,d,L,rfl,ho,hn,fun b hm=>⟨hb b hm,ho.lt b hm⟩⟩
theorem RetS.to {w w' : World} {xs : List Step} {e : Ending} (h : RetS w xs e w') : ∃ v,e = .returned v ∧ RetC w (fun lo hi v w'=>SRow lo w' v xs ∧ xs.length ≤ 7) v w':=by
 obtain ⟨v,he,hx,hS,hl⟩:=h;exact ⟨v,he,hx,hS,hl⟩
theorem toSteps_nil (s : Store) (cut : Int) (t : Bool) : toSteps s [] cut t = s:=by
 unfold toSteps
 rw [if_neg (by simp)]
 simp [doAll]
theorem SRow.old {base : Nat} {w : World} {v : Value} {xs : List Step} (h : SRow base w v xs) : Steps' (Old w) w v xs:=h.steps
set_option maxRecDepth 20000 in
set_option maxHeartbeats 8000000 in
theorem implPairPut_c (f d g e : Value) (p : Pair) (addr val cut : Int) (torn : Bool) (w : World) (hA : StoreV w f d p.A) (hB : StoreV w g e p.B) (hsA : Small p.A) (hsB : Small p.B) (hcut : -9223372036854775808 ≤ cut ∧ cut ≤ 9223372036854775807) :
  Calls Tryz.prog 11 #[.agg #[f,d,g,e,.int .i64 p.lost],.int .i64 addr,.int .i64 val,.int .i64 cut,.bool torn] w (PairΦ w (pairPutV p addr val cut torn)):=by
 have hPO:=fun (w' : World) (hx : Ext w w')=>implPairOk_c f d g e p w' (hA.ext hx) (hB.ext hx) hsA.2.1 hsB.2.1 hsA.2.2 hsB.2.2
 rw [show (inB p.lost 0 2 && (storeOkB p.A && storeOkB p.B)) = pairOkB p from rfl] at hPO
 have hTW:=fun (w' : World) (hx : Ext w w') (h1 : Shape4 p.A) (h2 : Shape4 p.B)=>twinsOf_c f d g e p w' (hA.ext hx) (hB.ext hx) h1 h2
 have hPA:=fun (w' : World) (hx : Ext w w')=>implStepsPut_c f d p.A addr val w' (hA.ext hx) hsA
 have hPB:=fun (w' : World) (hx : Ext w w')=>implStepsPut_c g e p.B addr val w' (hB.ext hx) hsB
 have hTA:=fun (sv : Value) (xs : List Step) (cut : Int) (w' : World) (hx : Ext w w') (hok : storeOkB p.A = true) (hs : SRow w.heap.size w' sv xs) (hV : ∀ x ∈ xs,StepV x) (hl : xs.length ≤ 7) (hc : 0 ≤ cut ∧ cut ≤ 9223372036854775807)=>implStepsTo_c f d p.A sv xs cut torn w' (hA.ext hx) hok hs.steps hV (by omega) hc
 have hTB:=fun (sv : Value) (xs : List Step) (cut : Int) (w' : World) (hx : Ext w w') (hok : storeOkB p.B = true) (hs : SRow w.heap.size w' sv xs) (hV : ∀ x ∈ xs,StepV x) (hl : xs.length ≤ 7) (hc : 0 ≤ cut ∧ cut ≤ 9223372036854775807)=>implStepsTo_c g e p.B sv xs cut torn w' (hB.ext hx) hok hs.steps hV (by omega) hc
 obtain ⟨a1,n1,rfl⟩:=hA.1.form
 obtain ⟨a2,n2,rfl⟩:=hA.2.form
 obtain ⟨a3,n3,rfl⟩:=hB.1.form
 obtain ⟨a4,n4,rfl⟩:=hB.2.form
 clear hA hB hsA hsB
 by_cases hc : 0 ≤ cut
 ·have hcn : ¬ cut < 0:=by omega
  by_cases hok : pairOkB p = true
  ·obtain ⟨hl,hokA,hokB⟩:=pairOk_iff.1 hok
   unfold pairPutV
   rw [if_pos ⟨hok,hc⟩]
   have hSA:=storeOk_shape hokA
   have hSB:=storeOk_shape hokB
   have hTw:=fun (w' : World) (hx : Ext w w')=>hTW w' hx hSA hSB
   have hpA:=storeOk_P hokA
   have HOKA:=Lib.hid hokA
   have HOKB:=Lib.hid hokB
   have HSA:=Lib.hid hSA
   have HSB:=Lib.hid hSB
   have hpB:=storeOk_P hokB
   have HVA:=Lib.hid (write_V (flashOk_iff.1 hpA.flash) 1 addr val)
   have HVB:=Lib.hid (write_V (flashOk_iff.1 hpB.flash) 1 addr val)
   rw [hok] at hPO
   have eA : putSteps2 p.A addr val = writeSteps p.A.flash 1 addr val:=by unfold putSteps2;rw [if_pos hokA]
   have eB : putSteps2 p.B addr val = writeSteps p.B.flash 1 addr val:=by unfold putSteps2;rw [if_pos hokB]
   rw [eA] at hPA
   rw [eB] at hPB
   obtain ⟨PV,hpv⟩ : ∃ PV,putV p addr val cut torn = PV:=⟨_,rfl⟩
   rw [hpv]
   unfold putV listA listB at hpv
   generalize writeSteps p.A.flash 1 addr val = WA at *
   generalize writeSteps p.B.flash 1 addr val = WB at *
   clear hok hokA hokB hSA hSB hpA hpB eA eB hTW
   have hTA2:=fun (sv : Value) (cut : Int) (w' : World) (hx : Ext w w') (hs : SRow w.heap.size w' sv WA) (hl : WA.length ≤ 7) (hc : 0 ≤ cut ∧ cut ≤ 9223372036854775807)=>hTA sv WA cut w' hx HOKA.out hs HVA.out hl hc
   have hTB2:=fun (sv : Value) (cut : Int) (w' : World) (hx : Ext w w') (hs : SRow w.heap.size w' sv WB) (hl : WB.length ≤ 7) (hc : 0 ≤ cut ∧ cut ≤ 9223372036854775807)=>hTB sv WB cut w' hx HOKB.out hs HVB.out hl hc
   have HTA:=Lib.hid hTA2
   have HTB:=Lib.hid hTB2
   clear hTA hTB hTA2 hTB2
   by_cases h1 : p.lost = 1
   ·have hpv1 : (⟨p.A,toSteps p.B WB cut torn,1⟩ : Pair) = PV:=by
     rw [← hpv,if_pos h1,if_neg (by omega : ¬ p.lost = 2),toSteps_nil,if_pos (by simpa using hc)]
     simp [h1]
    have HPV:=Lib.hid hpv1
    have HSHA:=HSA
    clear hpv hpv1
    rw [h1] at hTw hPO ⊢
    go_enter Tryz.func11,Tryz.ntmps11
    go_wp2_with fail
    refine (hPO _ (ext_alloc (ext_alloc (ext_refl _) _) _)).mono ?_;rintro e1 w1 ⟨rfl,hx1⟩
    have X1:=ext_trans (ext_alloc (ext_alloc (ext_refl w) _) _) hx1
    have G0:=keep_ext hx1 (hg_alloc (hg_new (b:=w.heap.size) rfl))
    have G1:=keep_ext hx1 (hg_new (b:=w.heap.size + 1) (by simp))
    obtain ⟨g0,gf0⟩:=cellsK G0
    obtain ⟨g1,gf1⟩:=cellsK G1
    have lw2:=heap_lt G1
    clear hPO hx1
    go_wp2_with fail
    refine (hTw _ X1).mono ?_;rintro e2 w2 ⟨tv,rfl,hx2,b1,b2,f1,d1,g2,e2,L,K,T1,T2,rfl,H1,H2,hO1,hO2,hn,hb⟩
    have X2:=ext_trans X1 hx2
    have s1:=X1.size
    have sb1:=hb b1 (by simp)
    have sb2:=hb b2 (by simp)
    have l1:=heap_lt H1
    have l2:=heap_lt H2
    have hlL:=hO1.lt
    have hlK:=hO2.lt
    obtain ⟨q1,m1,c1,q2,m2,c2,rfl,rfl⟩:=hO1.forms
    obtain ⟨q3,m3,c3,q4,m4,c4,rfl,rfl⟩:=hO2.forms
    replace G0:=keep_ext hx2 G0
    replace G1:=keep_ext hx2 G1
    have HO1:=Lib.hid hO1
    have HO2:=Lib.hid hO2
    have HN:=Lib.hid hn
    have HBb:=Lib.hid hb
    have HlL:=Lib.hid hlL
    have HlK:=Lib.hid hlK
    clear g0 gf0 g1 gf1 hTw hx2 hO1 hO2 hn hb hlL hlK
    have G11 : (w2.alloc (.cells #[.pointer (some ⟨b1,0,none⟩),.pointer (some ⟨b2,0,none⟩),.int .i64 1] 66)).heap[w2.heap.size]? = some (.cells #[.pointer (some ⟨b1,0,none⟩),.pointer (some ⟨b2,0,none⟩),.int .i64 1] 66 (0,0)):=hg_new rfl
    replace X2:=ext_alloc X2 (.cells #[.pointer (some ⟨b1,0,none⟩),.pointer (some ⟨b2,0,none⟩),.int .i64 1] 66)
    obtain ⟨g0,gf0⟩:=cellsK G0
    have lg0:=heap_lt G0
    have lg1:=heap_lt G1
    go_wp2_with fail
    obtain ⟨w5,hw5⟩ : ∃ w5,w2.alloc (.cells #[.pointer (some ⟨b1,0,none⟩),.pointer (some ⟨b2,0,none⟩),.int .i64 1] 66) = w5:=⟨_,rfl⟩
    have hxa : Ext w2 w5:=by rw [← hw5];exact ext_alloc (ext_refl _) _
    rw [hw5] at X2 G11 ⊢
    have X5:=X2
    replace G0:=keep_ext hxa G0
    replace G1:=keep_ext hxa G1
    have H15:=keep_ext hxa H1
    replace H2:=keep_ext hxa H2
    have HOA:=Lib.hid (HO1.out.ext hxa)
    have HOB:=Lib.hid (HO2.out.ext hxa)
    have HN5:=HN
    have lg0:=heap_lt G0
    have HB5 : Hid (∀ b ∈ b1 :: b2 :: (L ++ K),w.heap.size + 2 ≤ b ∧ b ≠ w2.heap.size):=Lib.hid (fun b hb=>by
     have hb1:=HBb.out b hb
     rcases List.mem_cons.1 hb with rfl | hb
     ·omega
     ·rcases List.mem_cons.1 hb with rfl | hb
      ·omega
      ·rcases List.mem_append.1 hb with hb | hb
       ·have:=HlL.out b hb;omega
       ·have:=HlK.out b hb;omega)
    clear hw5 hxa H1 HO1 HO2 HN HBb X2 g0 gf0
    obtain ⟨g0,gf0⟩:=cellsK G0
    obtain ⟨g11,gf11⟩:=cellsK G11
    refine wp_region_float 12 14 [6,9] [0,1,2,3,4,5,7,8,6,9,10,11,12] [(13,.cells #[.slice none 0 0,.slice none 0 0] 26,fun b=>.pointer (some ⟨b,0,none⟩))] [15] (by kernel_rfl) (by kernel_rfl) ?late ?_
    case late =>
     intro f hf
     obtain rfl:=List.mem_singleton.1 hf
     refine ⟨_,rfl,fun a w=>?_⟩
     go_simp
    refine Rob.y (v:=?_) rfl rfl (fun w1 hx hH=>?_) ?_;rotate_left
    ·go_simp;first | done | rfl | exact (Bool.not_not _).symm
    simp only [Act.put,slA,slB,slC]
    refine Rob.y (v:=?_) rfl rfl (fun w1 hx hH=>?_) ?_;rotate_left
    ·(have hE : Ext _ w1:=(by first | exact hx | exact hx.1 | exact hx.1.1);obtain ⟨z0,zf0⟩:=cellsK (keep_ext hE G0));go_simp;first | done | rfl
    simp only [Act.put,slA,slB,slC]
    refine Rob.y (v:=?_) rfl rfl (fun w1 hx hH=>?_) ?_;rotate_left
    ·go_simp;first | done | rfl | exact (Bool.not_not _).symm
    simp only [Act.put,slA,slB,slC]
    refine Rob.y (v:=?_) rfl rfl (fun w1 hx hH=>?_) ?_;rotate_left
    ·(have hE : Ext _ w1:=(by first | exact hx | exact hx.1 | exact hx.1.1);obtain ⟨z0,zf0⟩:=cellsK (keep_ext hE G0));go_simp;first | done | rfl
    simp only [Act.put,slA,slB,slC]
    iterate 4
     refine Rob.y (v:=?_) rfl rfl (fun w1 hx hH=>?_) ?_;rotate_left
     ·go_simp;first | done | rfl | exact (Bool.not_not _).symm
     simp only [Act.put,slA,slB,slC]
    refine Rob.c ((fun lo hi v w'=>SRow lo w' v WB ∧ WB.length ≤ 7)) rfl rfl rfl (fun _ _=>(by (first | exact ext_trans | exact fun h k=>⟨ext_trans h.1 k,h.2.1.ext k,h.2.2⟩))) (fun _ _ _ _ _=>(by (first | exact fun h hx=>h.ext hx | exact fun h hx=>⟨h.1.ext hx,h.2⟩))) (fun w1 hx hH=>?_) (fun lo6 hi6 v6 hlo6 hhi6 hv6=>?_)
    ·unfold RunTo;go_simp;exact ((hPB _ (ext_trans X5 hx))).mono fun e w' h=>h.to
    simp only [Act.put,slA,slB,slC]
    obtain ⟨_,hv6⟩:=hv6
    obtain ⟨a6,c6,rfl⟩:=hv6.1.form
    refine Rob.c (StToN (toSteps p.B WB (cut) torn)) rfl rfl rfl (fun _ _=>(by (first | exact ext_trans | exact fun h k=>⟨ext_trans h.1 k,h.2.1.ext k,h.2.2⟩))) (fun _ _ _ _ _=>(by (first | exact fun h hx=>h.ext hx | exact fun h hx=>⟨h.1.ext hx,h.2⟩))) (fun w1 hx hH=>?_) (fun lo9 hi9 v9 hlo9 hhi9 hv9=>?_)
    ·unfold RunTo;go_simp;exact ((HTB.out _ _ _ (ext_trans X5 hx.1) (hx.2.1.base (by have:=X5.size;omega)) hx.2.2 ⟨by omega,by omega⟩)).mono fun e w' h=>h.to
    simp only [Act.put,slA,slB,slC]
    obtain ⟨_,hv9⟩:=hv9
    obtain ⟨r3,k3,j3,r4,k4,j4,rfl⟩:=hv9.forms
    refine Rob.y (v:=?_) rfl rfl (fun w1 hx hH=>?_) ?_;rotate_left
    ·go_simp;first | done | rfl | exact (Bool.not_not _).symm
    simp only [Act.put,slA,slB,slC]
    iterate 2
     refine Rob.y (v:=?_) rfl rfl (fun w1 hx hH=>?_) ?_;rotate_left
     ·go_simp;first | done | rfl | exact (Bool.not_not _).symm
     simp only [Act.put,slA,slB,slC]
    refine fin_float _ rfl (fun w7 bb hx7 _ hbb hblt hob hout=>?_)
    simp only [dstOf,List.getElem?_cons_succ,List.getElem?_cons_zero,Option.bind_some,Act.put,slA,slB,slC,List.filterMap_cons,List.filterMap_nil]
    obtain ⟨⟨hx7,-⟩,hM7⟩:=hx7
    obtain ⟨K7,hOK7,hnK7,hbK7⟩:=hM7.own
    have X7:=ext_trans X5 hx7
    have hbne : Hid (∀ b ∈ K7,b ≠ bb ∧ w5.heap.size ≤ b):=Lib.hid (fun b hb=>by
     have h1:=hbK7 b hb
     have h2:=hout (lo9,hi9) (by simp)
     dsimp only at h2
     omega)
    have l5g:=heap_lt G11
    have l5h:=heap_lt G1
    replace G0:=keep_ext hx7 G0
    replace G1:=keep_ext hx7 G1
    replace G11:=keep_ext hx7 G11
    have L5 : Hid (b1 < w5.heap.size ∧ b2 < w5.heap.size):=Lib.hid ⟨heap_lt H15,heap_lt H2⟩
    replace H15:=keep_ext hx7 H15
    replace H2:=keep_ext hx7 H2
    have l5a:=HOA.out.lt
    have l5b:=heap_lt (keep_ext (ext_refl _) G1)
    have HLA:=Lib.hid l5a
    replace HOA:=Lib.hid (HOA.out.ext hx7)
    have HOK:=Lib.hid hOK7
    have HNK:=Lib.hid hnK7
    have s57:=hx7.size
    have hobk:=hob
    obtain ⟨zb,zfb⟩:=cellsK hob
    have l57:=heap_lt H15
    have l58:=heap_lt H2
    have lg7:=heap_lt G11
    refine ⟨?_,?_,?_⟩;rotate_left
    ·go_simp;rfl
    refine wpList_plain rfl (fun K hK=>?_)
    go_simp
    refine hK _ _ ?_
    clear hK K
    refine wpList_nil ?_
    have hC8 : Chg [bb] w7 ((w7.setCell ⟨bb,0,none⟩ (.slice r3 k3 j3)).setCell ⟨bb,1,none⟩ (.slice r4 k4 j4)):=((Chg.refl _ _).set (p:=⟨bb,0,none⟩) (.inl (by simp)) _).set (p:=⟨bb,1,none⟩) (.inl (by simp)) _
    have Gbb : ((w7.setCell ⟨bb,0,none⟩ (.slice r3 k3 j3)).setCell ⟨bb,1,none⟩ (.slice r4 k4 j4)).heap[bb]? = some (.cells #[.slice r3 k3 j3,.slice r4 k4 j4] 26 (0,0)):=hgo (hg_here (hg_here hobk)) rfl
    generalize ((w7.setCell ⟨bb,0,none⟩ (.slice r3 k3 j3)).setCell ⟨bb,1,none⟩ (.slice r4 k4 j4)) = w8 at *
    have l515:=(HB5.out b1 (by simp)).1
    have lO : Hid (b1 < w5.heap.size ∧ b2 < w5.heap.size):=L5
    have X8 : Ext w w8:=hC8.ext X7 (by simp;have:=X5.size;omega)
    replace G1:=hC8.keep G1 (by simp;omega)
    replace G11:=hC8.keep G11 (by simp;omega)
    replace H15:=hC8.keep H15 (by have:=lO.out;simp;omega)
    replace H2:=hC8.keep H2 (by have:=lO.out;simp;omega)
    replace HOA:=Lib.hid (HOA.out.chg hC8 (fun b hb hm=>by have:=HLA.out b hb;simp at hm;omega))
    replace HOK:=Lib.hid (HOK.out.chg hC8 (fun b hb hm=>by have:=hbne.out b hb;simp at hm;omega))
    clear zb zfb hob hobk hC8 hM7 hOK7 hnK7 g0 gf0 g11 gf11
    obtain ⟨zb,zfb⟩:=cellsK Gbb
    obtain ⟨g11,gf11⟩:=cellsK G11
    have lbb:=heap_lt Gbb
    have l8:=heap_lt G11
    go_wp2_with fail
    refine (setOther_c b1 b2 1 _ _ _ _ T2 _ ⟨_,_,_,rfl⟩ ⟨_,_,_,rfl⟩ H2).mono ?_;rintro e9 w9 ⟨rfl,hC9,H29⟩
    have sb2:=(HB5.out b2 (by simp)).1
    have X9 : Ext w w9:=hC9.ext X8 (by simp;omega)
    have hne12 : b1 ≠ b2:=fun e=>(List.nodup_cons.1 HN5.out).1 (by rw [e];simp)
    have H19:=hC9.keep H15 (by simpa using hne12)
    replace G1:=hC9.keep G1 (by simp;omega)
    replace G11:=hC9.keep G11 (by simp;have:=(HB5.out b2 (by simp)).2;omega)
    replace HOA:=Lib.hid (HOA.out.chg hC9 (fun b hb hm=>by
     simp at hm
     subst hm
     have hnd:=(List.nodup_cons.1 (List.nodup_cons.1 HN5.out).2).1
     exact hnd (by simp [hb])))
    have HOB:=Lib.hid (HOK.out.chg hC9 (fun b hb hm=>by have:=hbne.out b hb;have:=lO.out;simp at hm;omega))
    have HN9 : Hid ((b1 :: b2 :: (L ++ K7)).Nodup):=Lib.hid (by
     obtain ⟨n1,n2⟩:=List.nodup_cons.1 HN5.out
     obtain ⟨n3,n4⟩:=List.nodup_cons.1 n2
     have n5:=(List.nodup_append.1 n4).1
     refine List.nodup_cons.2 ⟨fun hm=>?_,List.nodup_cons.2 ⟨fun hm=>?_,List.nodup_append.2 ⟨n5,HNK.out,fun x hx y hy e=>?_⟩⟩⟩
     ·rcases List.mem_cons.1 hm with h | h
      ·exact hne12 h
      ·rcases List.mem_append.1 h with h | h
       ·exact n1 (by simp [h])
       ·have:=hbne.out _ h;have:=lO.out;omega
     ·rcases List.mem_append.1 hm with h | h
      ·exact n3 (by simp [h])
      ·have:=hbne.out _ h;have:=lO.out;omega
     ·have:=HLA.out x hx;have:=hbne.out y hy;omega)
    have HB9 : Hid (∀ b ∈ b1 :: b2 :: (L ++ K7),w.heap.size + 2 ≤ b ∧ b ≠ w2.heap.size):=Lib.hid (fun b hb=>by
     rcases List.mem_cons.1 hb with rfl | hb
     ·exact HB5.out _ (by simp)
     ·rcases List.mem_cons.1 hb with rfl | hb
      ·exact HB5.out _ (by simp)
      ·rcases List.mem_append.1 hb with hb | hb
       ·exact HB5.out b (by simp [hb])
       ·have:=hbne.out b hb;omega)
    have HSHB : Hid (Shape4 (toSteps p.B WB (cut) torn)):=Lib.hid ((storeOk_P HOKB.out).to (fun x hx=>(HVB.out x hx).ok) _ torn).shape4
    clear HOK hC9 zb zfb HN5 HB5 g11 gf11
    obtain ⟨g11,gf11⟩:=cellsK G11
    have l9:=heap_lt G11
    go_wp2_with fail
    refine (twPair_c b1 b2 1 _ _ _ _ T1 T2 _ ⟨_,_,_,rfl⟩ ⟨_,_,_,rfl⟩ ⟨_,_,_,rfl⟩ ⟨_,_,_,rfl⟩ H19 H29).mono ?_;rintro e6 w6 ⟨rfl,hx6⟩
    have X6:=ext_trans X9 hx6
    replace G1:=keep_ext hx6 G1
    have HA6:=Lib.hid (HOA.out.ext hx6)
    have HB6:=Lib.hid (HOB.out.ext hx6)
    clear HOA HOB g11 gf11
    obtain ⟨g1,gf1⟩:=cellsK G1
    go_wp2_with fail
    have hpv:=HPV.out
    subst hpv
    refine bodyPost_ret (v:=.agg #[.slice q1 m1 c1,.slice q2 m2 c2,.slice r3 k3 j3,.slice r4 k4 j4,.int .i64 1]) (by simp [results,Tryz.results11,go_sem,g1,gf1]) rfl ⟨_,rfl,?_,.inr ⟨_,_,_,_,L,K7,rfl,?_,?_,?_,?_,HSHA.out,HSHB.out⟩⟩
    ·((repeat (first | with_reducible (refine ext_set2 ?_ ?_);focus (first | exact Nat.le_refl _ | (dsimp only;omega) | (simp;omega)) | with_reducible refine ext_alloc2 ?_));with_reducible exact X6)
    ·refine HA6.out.keep fun b hb=>?_
     have:=HB9.out b (by simp [hb])
     iterate 5 rw [setCell_other (by omega)]
    ·refine HB6.out.keep fun b hb=>?_
     have:=HB9.out b (by simp [hb])
     iterate 5 rw [setCell_other (by omega)]
    ·exact (List.nodup_cons.1 (List.nodup_cons.1 HN9.out).2).2
    ·exact fun b hb=>by have:=HB9.out b (List.mem_cons_of_mem _ (List.mem_cons_of_mem _ hb));omega
   ·have h1b : (p.lost != 1) = true:=by simpa using h1
    rw [if_neg h1] at hpv
    have HSHA : Hid (Shape4 (toSteps p.A WA cut torn)):=Lib.hid ((storeOk_P HOKA.out).to (fun x hx=>(HVA.out x hx).ok) cut torn).shape4
    by_cases h2 : p.lost = 2
    ·have hpv2 : (⟨toSteps p.A WA cut torn,p.B,2⟩ : Pair) = PV:=by
      rw [← hpv,if_pos h2]
      simp only [toSteps_nil,ite_self,h2]
     have HSHB:=HSB
     have HPV:=Lib.hid hpv2
     clear hpv hpv2
     rw [h2] at hTw hPO ⊢
     go_enter Tryz.func11,Tryz.ntmps11
     go_wp2_with fail
     refine (hPO _ (ext_alloc (ext_alloc (ext_refl _) _) _)).mono ?_;rintro e1 w1 ⟨rfl,hx1⟩
     have X1:=ext_trans (ext_alloc (ext_alloc (ext_refl w) _) _) hx1
     have G0:=keep_ext hx1 (hg_alloc (hg_new (b:=w.heap.size) rfl))
     have G1:=keep_ext hx1 (hg_new (b:=w.heap.size + 1) (by simp))
     obtain ⟨g0,gf0⟩:=cellsK G0
     obtain ⟨g1,gf1⟩:=cellsK G1
     have lw2:=heap_lt G1
     clear hPO hx1
     go_wp2_with fail
     refine (hTw _ X1).mono ?_;rintro e2 w2 ⟨tv,rfl,hx2,b1,b2,f1,d1,g2,e2,L,K,T1,T2,rfl,H1,H2,hO1,hO2,hn,hb⟩
     have X2:=ext_trans X1 hx2
     have s1:=X1.size
     have sb1:=hb b1 (by simp)
     have sb2:=hb b2 (by simp)
     have l1:=heap_lt H1
     have l2:=heap_lt H2
     have hlL:=hO1.lt
     have hlK:=hO2.lt
     obtain ⟨q1,m1,c1,q2,m2,c2,rfl,rfl⟩:=hO1.forms
     obtain ⟨q3,m3,c3,q4,m4,c4,rfl,rfl⟩:=hO2.forms
     replace G0:=keep_ext hx2 G0
     replace G1:=keep_ext hx2 G1
     have HO1:=Lib.hid hO1
     have HO2:=Lib.hid hO2
     have HN:=Lib.hid hn
     have HBb:=Lib.hid hb
     have HlL:=Lib.hid hlL
     have HlK:=Lib.hid hlK
     clear g0 gf0 g1 gf1 hTw hx2 hO1 hO2 hn hb hlL hlK
     have G11 : (w2.alloc (.cells #[.pointer (some ⟨b1,0,none⟩),.pointer (some ⟨b2,0,none⟩),.int .i64 2] 66)).heap[w2.heap.size]? = some (.cells #[.pointer (some ⟨b1,0,none⟩),.pointer (some ⟨b2,0,none⟩),.int .i64 2] 66 (0,0)):=hg_new rfl
     replace X2:=ext_alloc X2 (.cells #[.pointer (some ⟨b1,0,none⟩),.pointer (some ⟨b2,0,none⟩),.int .i64 2] 66)
     obtain ⟨g0,gf0⟩:=cellsK G0
     have lg0:=heap_lt G0
     have lg1:=heap_lt G1
     go_wp2_with fail
     refine (hPA _ X2).mono ?_;rintro e3 w3 ⟨sv,rfl,hx3,hS,hlw⟩
     have X3:=ext_trans X2 hx3
     have sz2:=X2.size
     have H23 : Ext w2 w3:=ext_trans (ext_alloc (ext_refl _) _) hx3
     replace G0:=keep_ext H23 G0
     replace G1:=keep_ext H23 G1
     replace G11:=keep_ext hx3 G11
     replace H1:=keep_ext H23 H1
     replace H2:=keep_ext H23 H2
     replace HO2:=Lib.hid (HO2.out.ext H23)
     have s23:=H23.size
     have l311:=heap_lt G11
     obtain ⟨sa,sc,rfl⟩:=hS.form
     have HS:=Lib.hid (hS.base (b':=w.heap.size) sz2)
     clear g0 gf0 HO1 hS hx3 hPA H23
     obtain ⟨g0,gf0⟩:=cellsK G0
     go_wp2_with fail
     refine (HTA.out _ cut _ X3 HS.out hlw ⟨hc,hcut.2⟩).mono ?_;rintro e4 w4 ⟨f5,d5,M,rfl,hx4,hOM,hnM,hbM⟩
     obtain ⟨r1,k1,j1,r2,k2,j2,rfl,rfl⟩:=hOM.forms
     have X4:=ext_trans X3 hx4
     replace G0:=keep_ext hx4 G0
     replace G1:=keep_ext hx4 G1
     replace G11:=keep_ext hx4 G11
     replace H1:=keep_ext hx4 H1
     replace H2:=keep_ext hx4 H2
     replace HO2:=Lib.hid (HO2.out.ext hx4)
     have s34:=hx4.size
     have HOM:=Lib.hid hOM
     have HNM:=Lib.hid hnM
     have HBM : Hid (∀ b ∈ M,w2.heap.size < b):=Lib.hid (fun b hb=>by have:=hbM b hb;omega)
     clear g0 gf0 hOM hnM hbM hx4 HS
     obtain ⟨g0,gf0⟩:=cellsK G0
     obtain ⟨g11,gf11⟩:=cellsK G11
     have l11:=heap_lt G11
     go_wp2_with fail
     have hXa : Ext w4 (w4.alloc (.cells #[.slice r1 k1 j1,.slice r2 k2 j2] 26)):=ext_alloc (ext_refl _) _
     replace X4:=ext_trans X4 hXa
     replace G0:=keep_ext hXa G0
     replace G1:=keep_ext hXa G1
     replace G11:=keep_ext hXa G11
     replace H1:=keep_ext hXa H1
     replace H2:=keep_ext hXa H2
     replace HO2:=Lib.hid (HO2.out.ext hXa)
     replace HOM:=Lib.hid (HOM.out.ext hXa)
     clear hXa
     refine (setFirst_c b1 b2 2 _ _ _ _ T1 _ ⟨_,_,_,rfl⟩ ⟨_,_,_,rfl⟩ H1).mono ?_;rintro e5 w5 ⟨rfl,hC5,H15⟩
     have X5 : Ext w w5:=hC5.ext X4 (by simp;omega)
     have hlt2:=heap_lt G11
     have sw2:=X2.size
     replace G0:=hC5.keep G0 (by simp;omega)
     replace G1:=hC5.keep G1 (by simp;omega)
     replace G11:=hC5.keep G11 (by simp;omega)
     have hne12 : b1 ≠ b2:=fun e=>(List.nodup_cons.1 HN.out).1 (by rw [e];simp)
     replace H2:=hC5.keep H2 (by simp;omega)
     have hOA:=HOM.out.chg hC5 (fun b hb hm=>by have:=HBM.out b hb;simp at hm;omega)
     have hOB:=HO2.out.chg hC5 (fun b hb hm=>by
      simp at hm
      subst hm
      have hnd:=HN.out
      simp [hb] at hnd)
     have HOA:=Lib.hid hOA
     have HOB:=Lib.hid hOB
     have HN5 : Hid ((b1 :: b2 :: (M ++ K)).Nodup):=Lib.hid (by
      have hnd:=HN.out
      obtain ⟨n1,n2⟩:=List.nodup_cons.1 hnd
      obtain ⟨n3,n4⟩:=List.nodup_cons.1 n2
      have n5:=(List.nodup_append.1 n4).2.1
      refine List.nodup_cons.2 ⟨fun hm=>?_,List.nodup_cons.2 ⟨fun hm=>?_,List.nodup_append.2 ⟨HNM.out,n5,fun x hx y hy e=>?_⟩⟩⟩
      ·rcases List.mem_cons.1 hm with h | h
       ·exact hne12 h
       ·rcases List.mem_append.1 h with h | h
        ·have:=HBM.out _ h;omega
        ·exact n1 (by simp [h])
      ·rcases List.mem_append.1 hm with h | h
       ·have:=HBM.out _ h;omega
       ·exact n3 (by simp [h])
      ·have:=HBM.out x hx;have:=HlK.out y hy;omega)
     have HB5 : Hid (∀ b ∈ b1 :: b2 :: (M ++ K),w.heap.size + 2 ≤ b ∧ b ≠ w2.heap.size):=Lib.hid (fun b hb=>by
      rcases List.mem_cons.1 hb with rfl | hb
      ·omega
      ·rcases List.mem_cons.1 hb with rfl | hb
       ·omega
       ·rcases List.mem_append.1 hb with hb | hb
        ·have:=HBM.out b hb;omega
        ·have:=HBb.out b (by simp [hb]);have:=HlK.out b hb;omega)
     clear g0 gf0 g11 gf11 hOA hOB HOM HO2 hC5 H1 HN HBb HNM HBM
     obtain ⟨g0,gf0⟩:=cellsK G0
     obtain ⟨g11,gf11⟩:=cellsK G11
     have lg0:=heap_lt G0
     have lg11:=heap_lt G11
     have hwl : (WA.length : Int) ≤ 7:=by omega
     go_wp2_with fail
     refine (twPair_c b1 b2 2 _ _ _ _ T1 T2 _ ⟨_,_,_,rfl⟩ ⟨_,_,_,rfl⟩ ⟨_,_,_,rfl⟩ ⟨_,_,_,rfl⟩ H15 H2).mono ?_;rintro e6 w6 ⟨rfl,hx6⟩
     have X6:=ext_trans X5 hx6
     replace G1:=keep_ext hx6 G1
     have HA6:=Lib.hid (HOA.out.ext hx6)
     have HB6:=Lib.hid (HOB.out.ext hx6)
     clear HOA HOB g0 gf0 g11 gf11
     obtain ⟨g1,gf1⟩:=cellsK G1
     go_wp2_with fail
     have hpv:=HPV.out
     subst hpv
     refine bodyPost_ret (v:=.agg #[.slice r1 k1 j1,.slice r2 k2 j2,.slice q3 m3 c3,.slice q4 m4 c4,.int .i64 2]) (by simp [results,Tryz.results11,go_sem,g1,gf1]) rfl ⟨_,rfl,?_,.inr ⟨_,_,_,_,M,K,rfl,?_,?_,?_,?_,HSHA.out,HSHB.out⟩⟩
     ·((repeat (first | with_reducible (refine ext_set2 ?_ ?_);focus (first | exact Nat.le_refl _ | (dsimp only;omega) | (simp;omega)) | with_reducible refine ext_alloc2 ?_));with_reducible exact X6)
     ·refine HA6.out.keep fun b hb=>?_
      have:=HB5.out b (by simp [hb])
      iterate 5 rw [setCell_other (by omega)]
     ·refine HB6.out.keep fun b hb=>?_
      have:=HB5.out b (by simp [hb])
      iterate 5 rw [setCell_other (by omega)]
     ·exact (List.nodup_cons.1 (List.nodup_cons.1 HN5.out).2).2
     ·exact fun b hb=>by have:=HB5.out b (List.mem_cons_of_mem _ (List.mem_cons_of_mem _ hb));omega
    ·have h2b : (p.lost != 2) = true:=by simpa using h2
     rw [if_neg h2] at hpv
     have h0 : p.lost = 0:=by omega
     rw [h0] at hpv hTw hPO ⊢
     clear h1 h2 h1b h2b
     by_cases hr : (WA.length : Int) ≤ cut
     ·rw [if_pos hr] at hpv
      have HPV:=Lib.hid hpv
      clear hpv
      go_enter Tryz.func11,Tryz.ntmps11
      go_wp2_with fail
      refine (hPO _ (ext_alloc (ext_alloc (ext_refl _) _) _)).mono ?_;rintro e1 w1 ⟨rfl,hx1⟩
      have X1:=ext_trans (ext_alloc (ext_alloc (ext_refl w) _) _) hx1
      have G0:=keep_ext hx1 (hg_alloc (hg_new (b:=w.heap.size) rfl))
      have G1:=keep_ext hx1 (hg_new (b:=w.heap.size + 1) (by simp))
      obtain ⟨g0,gf0⟩:=cellsK G0
      obtain ⟨g1,gf1⟩:=cellsK G1
      have lw2:=heap_lt G1
      clear hPO hx1
      go_wp2_with fail
      refine (hTw _ X1).mono ?_;rintro e2 w2 ⟨tv,rfl,hx2,b1,b2,f1,d1,g2,e2,L,K,T1,T2,rfl,H1,H2,hO1,hO2,hn,hb⟩
      have X2:=ext_trans X1 hx2
      have s1:=X1.size
      have sb1:=hb b1 (by simp)
      have sb2:=hb b2 (by simp)
      have l1:=heap_lt H1
      have l2:=heap_lt H2
      have hlL:=hO1.lt
      have hlK:=hO2.lt
      obtain ⟨q1,m1,c1,q2,m2,c2,rfl,rfl⟩:=hO1.forms
      obtain ⟨q3,m3,c3,q4,m4,c4,rfl,rfl⟩:=hO2.forms
      replace G0:=keep_ext hx2 G0
      replace G1:=keep_ext hx2 G1
      have HO1:=Lib.hid hO1
      have HO2:=Lib.hid hO2
      have HN:=Lib.hid hn
      have HBb:=Lib.hid hb
      have HlL:=Lib.hid hlL
      have HlK:=Lib.hid hlK
      clear g0 gf0 g1 gf1 hTw hx2 hO1 hO2 hn hb hlL hlK
      have G11 : (w2.alloc (.cells #[.pointer (some ⟨b1,0,none⟩),.pointer (some ⟨b2,0,none⟩),.int .i64 0] 66)).heap[w2.heap.size]? = some (.cells #[.pointer (some ⟨b1,0,none⟩),.pointer (some ⟨b2,0,none⟩),.int .i64 0] 66 (0,0)):=hg_new rfl
      replace X2:=ext_alloc X2 (.cells #[.pointer (some ⟨b1,0,none⟩),.pointer (some ⟨b2,0,none⟩),.int .i64 0] 66)
      obtain ⟨g0,gf0⟩:=cellsK G0
      have lg0:=heap_lt G0
      have lg1:=heap_lt G1
      go_wp2_with fail
      refine (hPA _ X2).mono ?_;rintro e3 w3 ⟨sv,rfl,hx3,hS,hlw⟩
      have X3:=ext_trans X2 hx3
      have sz2:=X2.size
      have H23 : Ext w2 w3:=ext_trans (ext_alloc (ext_refl _) _) hx3
      replace G0:=keep_ext H23 G0
      replace G1:=keep_ext H23 G1
      replace G11:=keep_ext hx3 G11
      replace H1:=keep_ext H23 H1
      replace H2:=keep_ext H23 H2
      replace HO2:=Lib.hid (HO2.out.ext H23)
      have s23:=H23.size
      have l311:=heap_lt G11
      obtain ⟨sa,sc,rfl⟩:=hS.form
      have HS:=Lib.hid (hS.base (b':=w.heap.size) sz2)
      clear g0 gf0 HO1 hS hx3 hPA H23
      obtain ⟨g0,gf0⟩:=cellsK G0
      go_wp2_with fail
      refine (HTA.out _ cut _ X3 HS.out hlw ⟨hc,hcut.2⟩).mono ?_;rintro e4 w4 ⟨f5,d5,M,rfl,hx4,hOM,hnM,hbM⟩
      obtain ⟨r1,k1,j1,r2,k2,j2,rfl,rfl⟩:=hOM.forms
      have X4:=ext_trans X3 hx4
      replace G0:=keep_ext hx4 G0
      replace G1:=keep_ext hx4 G1
      replace G11:=keep_ext hx4 G11
      replace H1:=keep_ext hx4 H1
      replace H2:=keep_ext hx4 H2
      replace HO2:=Lib.hid (HO2.out.ext hx4)
      have s34:=hx4.size
      have HOM:=Lib.hid hOM
      have HNM:=Lib.hid hnM
      have HBM : Hid (∀ b ∈ M,w2.heap.size < b):=Lib.hid (fun b hb=>by have:=hbM b hb;omega)
      clear g0 gf0 hOM hnM hbM hx4 HS
      obtain ⟨g0,gf0⟩:=cellsK G0
      obtain ⟨g11,gf11⟩:=cellsK G11
      have l11:=heap_lt G11
      go_wp2_with fail
      have hXa : Ext w4 (w4.alloc (.cells #[.slice r1 k1 j1,.slice r2 k2 j2] 26)):=ext_alloc (ext_refl _) _
      replace X4:=ext_trans X4 hXa
      replace G0:=keep_ext hXa G0
      replace G1:=keep_ext hXa G1
      replace G11:=keep_ext hXa G11
      replace H1:=keep_ext hXa H1
      replace H2:=keep_ext hXa H2
      replace HO2:=Lib.hid (HO2.out.ext hXa)
      replace HOM:=Lib.hid (HOM.out.ext hXa)
      clear hXa
      refine (setFirst_c b1 b2 0 _ _ _ _ T1 _ ⟨_,_,_,rfl⟩ ⟨_,_,_,rfl⟩ H1).mono ?_;rintro e5 w5 ⟨rfl,hC5,H15⟩
      have X5 : Ext w w5:=hC5.ext X4 (by simp;omega)
      have hlt2:=heap_lt G11
      have sw2:=X2.size
      replace G0:=hC5.keep G0 (by simp;omega)
      replace G1:=hC5.keep G1 (by simp;omega)
      replace G11:=hC5.keep G11 (by simp;omega)
      have hne12 : b1 ≠ b2:=fun e=>(List.nodup_cons.1 HN.out).1 (by rw [e];simp)
      replace H2:=hC5.keep H2 (by simp;omega)
      have hOA:=HOM.out.chg hC5 (fun b hb hm=>by have:=HBM.out b hb;simp at hm;omega)
      have hOB:=HO2.out.chg hC5 (fun b hb hm=>by
       simp at hm
       subst hm
       have hnd:=HN.out
       simp [hb] at hnd)
      have HOA:=Lib.hid hOA
      have HOB:=Lib.hid hOB
      have HN5 : Hid ((b1 :: b2 :: (M ++ K)).Nodup):=Lib.hid (by
       have hnd:=HN.out
       obtain ⟨n1,n2⟩:=List.nodup_cons.1 hnd
       obtain ⟨n3,n4⟩:=List.nodup_cons.1 n2
       have n5:=(List.nodup_append.1 n4).2.1
       refine List.nodup_cons.2 ⟨fun hm=>?_,List.nodup_cons.2 ⟨fun hm=>?_,List.nodup_append.2 ⟨HNM.out,n5,fun x hx y hy e=>?_⟩⟩⟩
       ·rcases List.mem_cons.1 hm with h | h
        ·exact hne12 h
        ·rcases List.mem_append.1 h with h | h
         ·have:=HBM.out _ h;omega
         ·exact n1 (by simp [h])
       ·rcases List.mem_append.1 hm with h | h
        ·have:=HBM.out _ h;omega
        ·exact n3 (by simp [h])
       ·have:=HBM.out x hx;have:=HlK.out y hy;omega)
      have HB5 : Hid (∀ b ∈ b1 :: b2 :: (M ++ K),w.heap.size + 2 ≤ b ∧ b ≠ w2.heap.size):=Lib.hid (fun b hb=>by
       rcases List.mem_cons.1 hb with rfl | hb
       ·omega
       ·rcases List.mem_cons.1 hb with rfl | hb
        ·omega
        ·rcases List.mem_append.1 hb with hb | hb
         ·have:=HBM.out b hb;omega
         ·have:=HBb.out b (by simp [hb]);have:=HlK.out b hb;omega)
      clear g0 gf0 g11 gf11 hOA hOB HOM HO2 hC5 H1 HN HBb HNM HBM
      obtain ⟨g0,gf0⟩:=cellsK G0
      obtain ⟨g11,gf11⟩:=cellsK G11
      have lg0:=heap_lt G0
      have lg11:=heap_lt G11
      have hwl : (WA.length : Int) ≤ 7:=by omega
      go_wp2_with fail
      refine wp_region_float 12 14 [6,9] [0,1,2,3,4,5,7,8,6,9,10,11,12] [(13,.cells #[.slice none 0 0,.slice none 0 0] 26,fun b=>.pointer (some ⟨b,0,none⟩))] [15] (by kernel_rfl) (by kernel_rfl) ?late ?_
      case late =>
       intro f hf
       obtain rfl:=List.mem_singleton.1 hf
       refine ⟨_,rfl,fun a w=>?_⟩
       go_simp
      refine Rob.y (v:=?_) rfl rfl (fun w1 hx hH=>?_) ?_;rotate_left
      ·go_simp;first | done | rfl | exact (Bool.not_not _).symm
      simp only [Act.put,slA,slB,slC]
      refine Rob.y (v:=?_) rfl rfl (fun w1 hx hH=>?_) ?_;rotate_left
      ·(have hE : Ext _ w1:=(by first | exact hx | exact hx.1 | exact hx.1.1);obtain ⟨z0,zf0⟩:=cellsK (keep_ext hE G0));go_simp;first | done | rfl
      simp only [Act.put,slA,slB,slC]
      refine Rob.y (v:=?_) rfl rfl (fun w1 hx hH=>?_) ?_;rotate_left
      ·go_simp;first | done | rfl | exact (Bool.not_not _).symm
      simp only [Act.put,slA,slB,slC]
      refine Rob.y (v:=?_) rfl rfl (fun w1 hx hH=>?_) ?_;rotate_left
      ·(have hE : Ext _ w1:=(by first | exact hx | exact hx.1 | exact hx.1.1);obtain ⟨z0,zf0⟩:=cellsK (keep_ext hE G0));go_simp;first | done | rfl
      simp only [Act.put,slA,slB,slC]
      iterate 4
       refine Rob.y (v:=?_) rfl rfl (fun w1 hx hH=>?_) ?_;rotate_left
       ·go_simp;first | done | rfl | exact (Bool.not_not _).symm
       simp only [Act.put,slA,slB,slC]
      refine Rob.c ((fun lo hi v w'=>SRow lo w' v WB ∧ WB.length ≤ 7)) rfl rfl rfl (fun _ _=>(by (first | exact ext_trans | exact fun h k=>⟨ext_trans h.1 k,h.2.1.ext k,h.2.2⟩))) (fun _ _ _ _ _=>(by (first | exact fun h hx=>h.ext hx | exact fun h hx=>⟨h.1.ext hx,h.2⟩))) (fun w1 hx hH=>?_) (fun lo6 hi6 v6 hlo6 hhi6 hv6=>?_)
      ·unfold RunTo;go_simp;exact ((hPB _ (ext_trans X5 hx))).mono fun e w' h=>h.to
      simp only [Act.put,slA,slB,slC]
      obtain ⟨_,hv6⟩:=hv6
      obtain ⟨a6,c6,rfl⟩:=hv6.1.form
      refine Rob.c (StToN (toSteps p.B WB (cut - (WA.length : Int)) torn)) rfl rfl rfl (fun _ _=>(by (first | exact ext_trans | exact fun h k=>⟨ext_trans h.1 k,h.2.1.ext k,h.2.2⟩))) (fun _ _ _ _ _=>(by (first | exact fun h hx=>h.ext hx | exact fun h hx=>⟨h.1.ext hx,h.2⟩))) (fun w1 hx hH=>?_) (fun lo9 hi9 v9 hlo9 hhi9 hv9=>?_)
      ·unfold RunTo;go_simp;exact ((HTB.out _ _ _ (ext_trans X5 hx.1) (hx.2.1.base (by have:=X5.size;omega)) hx.2.2 ⟨by omega,by omega⟩)).mono fun e w' h=>h.to
      simp only [Act.put,slA,slB,slC]
      obtain ⟨_,hv9⟩:=hv9
      obtain ⟨r3,k3,j3,r4,k4,j4,rfl⟩:=hv9.forms
      refine Rob.y (v:=?_) rfl rfl (fun w1 hx hH=>?_) ?_;rotate_left
      ·go_simp;first | done | rfl | exact (Bool.not_not _).symm
      simp only [Act.put,slA,slB,slC]
      iterate 2
       refine Rob.y (v:=?_) rfl rfl (fun w1 hx hH=>?_) ?_;rotate_left
       ·go_simp;first | done | rfl | exact (Bool.not_not _).symm
       simp only [Act.put,slA,slB,slC]
      refine fin_float _ rfl (fun w7 bb hx7 _ hbb hblt hob hout=>?_)
      simp only [dstOf,List.getElem?_cons_succ,List.getElem?_cons_zero,Option.bind_some,Act.put,slA,slB,slC,List.filterMap_cons,List.filterMap_nil]
      obtain ⟨⟨hx7,-⟩,hM7⟩:=hx7
      obtain ⟨K7,hOK7,hnK7,hbK7⟩:=hM7.own
      have X7:=ext_trans X5 hx7
      have hbne : Hid (∀ b ∈ K7,b ≠ bb ∧ w5.heap.size ≤ b):=Lib.hid (fun b hb=>by
       have h1:=hbK7 b hb
       have h2:=hout (lo9,hi9) (by simp)
       dsimp only at h2
       omega)
      have l5g:=heap_lt G11
      have l5h:=heap_lt G1
      replace G0:=keep_ext hx7 G0
      replace G1:=keep_ext hx7 G1
      replace G11:=keep_ext hx7 G11
      have L5 : Hid (b1 < w5.heap.size ∧ b2 < w5.heap.size):=Lib.hid ⟨heap_lt H15,heap_lt H2⟩
      replace H15:=keep_ext hx7 H15
      replace H2:=keep_ext hx7 H2
      have l5a:=HOA.out.lt
      have l5b:=heap_lt (keep_ext (ext_refl _) G1)
      have HLA:=Lib.hid l5a
      replace HOA:=Lib.hid (HOA.out.ext hx7)
      have HOK:=Lib.hid hOK7
      have HNK:=Lib.hid hnK7
      have s57:=hx7.size
      have hobk:=hob
      obtain ⟨zb,zfb⟩:=cellsK hob
      have l57:=heap_lt H15
      have l58:=heap_lt H2
      have lg7:=heap_lt G11
      refine ⟨?_,?_,?_⟩;rotate_left
      ·go_simp;rfl
      refine wpList_plain rfl (fun K hK=>?_)
      go_simp
      refine hK _ _ ?_
      clear hK K
      refine wpList_nil ?_
      have hC8 : Chg [bb] w7 ((w7.setCell ⟨bb,0,none⟩ (.slice r3 k3 j3)).setCell ⟨bb,1,none⟩ (.slice r4 k4 j4)):=((Chg.refl _ _).set (p:=⟨bb,0,none⟩) (.inl (by simp)) _).set (p:=⟨bb,1,none⟩) (.inl (by simp)) _
      have Gbb : ((w7.setCell ⟨bb,0,none⟩ (.slice r3 k3 j3)).setCell ⟨bb,1,none⟩ (.slice r4 k4 j4)).heap[bb]? = some (.cells #[.slice r3 k3 j3,.slice r4 k4 j4] 26 (0,0)):=hgo (hg_here (hg_here hobk)) rfl
      generalize ((w7.setCell ⟨bb,0,none⟩ (.slice r3 k3 j3)).setCell ⟨bb,1,none⟩ (.slice r4 k4 j4)) = w8 at *
      have l515:=(HB5.out b1 (by simp)).1
      have lO : Hid (b1 < w5.heap.size ∧ b2 < w5.heap.size):=L5
      have X8 : Ext w w8:=hC8.ext X7 (by simp;have:=X5.size;omega)
      replace G1:=hC8.keep G1 (by simp;omega)
      replace G11:=hC8.keep G11 (by simp;omega)
      replace H15:=hC8.keep H15 (by have:=lO.out;simp;omega)
      replace H2:=hC8.keep H2 (by have:=lO.out;simp;omega)
      replace HOA:=Lib.hid (HOA.out.chg hC8 (fun b hb hm=>by have:=HLA.out b hb;simp at hm;omega))
      replace HOK:=Lib.hid (HOK.out.chg hC8 (fun b hb hm=>by have:=hbne.out b hb;simp at hm;omega))
      clear zb zfb hob hobk hC8 hM7 hOK7 hnK7 g0 gf0 g11 gf11
      obtain ⟨zb,zfb⟩:=cellsK Gbb
      obtain ⟨g11,gf11⟩:=cellsK G11
      have lbb:=heap_lt Gbb
      have l8:=heap_lt G11
      go_wp2_with fail
      refine (setOther_c b1 b2 0 _ _ _ _ T2 _ ⟨_,_,_,rfl⟩ ⟨_,_,_,rfl⟩ H2).mono ?_;rintro e9 w9 ⟨rfl,hC9,H29⟩
      have sb2:=(HB5.out b2 (by simp)).1
      have X9 : Ext w w9:=hC9.ext X8 (by simp;omega)
      have hne12 : b1 ≠ b2:=fun e=>(List.nodup_cons.1 HN5.out).1 (by rw [e];simp)
      have H19:=hC9.keep H15 (by simpa using hne12)
      replace G1:=hC9.keep G1 (by simp;omega)
      replace G11:=hC9.keep G11 (by simp;have:=(HB5.out b2 (by simp)).2;omega)
      replace HOA:=Lib.hid (HOA.out.chg hC9 (fun b hb hm=>by
       simp at hm
       subst hm
       have hnd:=(List.nodup_cons.1 (List.nodup_cons.1 HN5.out).2).1
       exact hnd (by simp [hb])))
      have HOB:=Lib.hid (HOK.out.chg hC9 (fun b hb hm=>by have:=hbne.out b hb;have:=lO.out;simp at hm;omega))
      have HN9 : Hid ((b1 :: b2 :: (M ++ K7)).Nodup):=Lib.hid (by
       obtain ⟨n1,n2⟩:=List.nodup_cons.1 HN5.out
       obtain ⟨n3,n4⟩:=List.nodup_cons.1 n2
       have n5:=(List.nodup_append.1 n4).1
       refine List.nodup_cons.2 ⟨fun hm=>?_,List.nodup_cons.2 ⟨fun hm=>?_,List.nodup_append.2 ⟨n5,HNK.out,fun x hx y hy e=>?_⟩⟩⟩
       ·rcases List.mem_cons.1 hm with h | h
        ·exact hne12 h
        ·rcases List.mem_append.1 h with h | h
         ·exact n1 (by simp [h])
         ·have:=hbne.out _ h;have:=lO.out;omega
       ·rcases List.mem_append.1 hm with h | h
        ·exact n3 (by simp [h])
        ·have:=hbne.out _ h;have:=lO.out;omega
       ·have:=HLA.out x hx;have:=hbne.out y hy;omega)
      have HB9 : Hid (∀ b ∈ b1 :: b2 :: (M ++ K7),w.heap.size + 2 ≤ b ∧ b ≠ w2.heap.size):=Lib.hid (fun b hb=>by
       rcases List.mem_cons.1 hb with rfl | hb
       ·exact HB5.out _ (by simp)
       ·rcases List.mem_cons.1 hb with rfl | hb
        ·exact HB5.out _ (by simp)
        ·rcases List.mem_append.1 hb with hb | hb
         ·exact HB5.out b (by simp [hb])
         ·have:=hbne.out b hb;omega)
      have HSHB : Hid (Shape4 (toSteps p.B WB (cut - (WA.length : Int)) torn)):=Lib.hid ((storeOk_P HOKB.out).to (fun x hx=>(HVB.out x hx).ok) _ torn).shape4
      clear HOK hC9 zb zfb HN5 HB5 g11 gf11
      obtain ⟨g11,gf11⟩:=cellsK G11
      have l9:=heap_lt G11
      go_wp2_with fail
      refine (twPair_c b1 b2 0 _ _ _ _ T1 T2 _ ⟨_,_,_,rfl⟩ ⟨_,_,_,rfl⟩ ⟨_,_,_,rfl⟩ ⟨_,_,_,rfl⟩ H19 H29).mono ?_;rintro e6 w6 ⟨rfl,hx6⟩
      have X6:=ext_trans X9 hx6
      replace G1:=keep_ext hx6 G1
      have HA6:=Lib.hid (HOA.out.ext hx6)
      have HB6:=Lib.hid (HOB.out.ext hx6)
      clear HOA HOB g11 gf11
      obtain ⟨g1,gf1⟩:=cellsK G1
      go_wp2_with fail
      have hpv:=HPV.out
      subst hpv
      refine bodyPost_ret (v:=.agg #[.slice r1 k1 j1,.slice r2 k2 j2,.slice r3 k3 j3,.slice r4 k4 j4,.int .i64 0]) (by simp [results,Tryz.results11,go_sem,g1,gf1]) rfl ⟨_,rfl,?_,.inr ⟨_,_,_,_,M,K7,rfl,?_,?_,?_,?_,HSHA.out,HSHB.out⟩⟩
      ·((repeat (first | with_reducible (refine ext_set2 ?_ ?_);focus (first | exact Nat.le_refl _ | (dsimp only;omega) | (simp;omega)) | with_reducible refine ext_alloc2 ?_));with_reducible exact X6)
      ·refine HA6.out.keep fun b hb=>?_
       have:=HB9.out b (by simp [hb])
       iterate 5 rw [setCell_other (by omega)]
      ·refine HB6.out.keep fun b hb=>?_
       have:=HB9.out b (by simp [hb])
       iterate 5 rw [setCell_other (by omega)]
      ·exact (List.nodup_cons.1 (List.nodup_cons.1 HN9.out).2).2
      ·exact fun b hb=>by have:=HB9.out b (List.mem_cons_of_mem _ (List.mem_cons_of_mem _ hb));omega
     ·rw [if_neg hr] at hpv
      have HSHB:=HSB
      have HPV:=Lib.hid hpv
      clear hpv
      go_enter Tryz.func11,Tryz.ntmps11
      go_wp2_with fail
      refine (hPO _ (ext_alloc (ext_alloc (ext_refl _) _) _)).mono ?_;rintro e1 w1 ⟨rfl,hx1⟩
      have X1:=ext_trans (ext_alloc (ext_alloc (ext_refl w) _) _) hx1
      have G0:=keep_ext hx1 (hg_alloc (hg_new (b:=w.heap.size) rfl))
      have G1:=keep_ext hx1 (hg_new (b:=w.heap.size + 1) (by simp))
      obtain ⟨g0,gf0⟩:=cellsK G0
      obtain ⟨g1,gf1⟩:=cellsK G1
      have lw2:=heap_lt G1
      clear hPO hx1
      go_wp2_with fail
      refine (hTw _ X1).mono ?_;rintro e2 w2 ⟨tv,rfl,hx2,b1,b2,f1,d1,g2,e2,L,K,T1,T2,rfl,H1,H2,hO1,hO2,hn,hb⟩
      have X2:=ext_trans X1 hx2
      have s1:=X1.size
      have sb1:=hb b1 (by simp)
      have sb2:=hb b2 (by simp)
      have l1:=heap_lt H1
      have l2:=heap_lt H2
      have hlL:=hO1.lt
      have hlK:=hO2.lt
      obtain ⟨q1,m1,c1,q2,m2,c2,rfl,rfl⟩:=hO1.forms
      obtain ⟨q3,m3,c3,q4,m4,c4,rfl,rfl⟩:=hO2.forms
      replace G0:=keep_ext hx2 G0
      replace G1:=keep_ext hx2 G1
      have HO1:=Lib.hid hO1
      have HO2:=Lib.hid hO2
      have HN:=Lib.hid hn
      have HBb:=Lib.hid hb
      have HlL:=Lib.hid hlL
      have HlK:=Lib.hid hlK
      clear g0 gf0 g1 gf1 hTw hx2 hO1 hO2 hn hb hlL hlK
      have G11 : (w2.alloc (.cells #[.pointer (some ⟨b1,0,none⟩),.pointer (some ⟨b2,0,none⟩),.int .i64 0] 66)).heap[w2.heap.size]? = some (.cells #[.pointer (some ⟨b1,0,none⟩),.pointer (some ⟨b2,0,none⟩),.int .i64 0] 66 (0,0)):=hg_new rfl
      replace X2:=ext_alloc X2 (.cells #[.pointer (some ⟨b1,0,none⟩),.pointer (some ⟨b2,0,none⟩),.int .i64 0] 66)
      obtain ⟨g0,gf0⟩:=cellsK G0
      have lg0:=heap_lt G0
      have lg1:=heap_lt G1
      go_wp2_with fail
      refine (hPA _ X2).mono ?_;rintro e3 w3 ⟨sv,rfl,hx3,hS,hlw⟩
      have X3:=ext_trans X2 hx3
      have sz2:=X2.size
      have H23 : Ext w2 w3:=ext_trans (ext_alloc (ext_refl _) _) hx3
      replace G0:=keep_ext H23 G0
      replace G1:=keep_ext H23 G1
      replace G11:=keep_ext hx3 G11
      replace H1:=keep_ext H23 H1
      replace H2:=keep_ext H23 H2
      replace HO2:=Lib.hid (HO2.out.ext H23)
      have s23:=H23.size
      have l311:=heap_lt G11
      obtain ⟨sa,sc,rfl⟩:=hS.form
      have HS:=Lib.hid (hS.base (b':=w.heap.size) sz2)
      clear g0 gf0 HO1 hS hx3 hPA H23
      obtain ⟨g0,gf0⟩:=cellsK G0
      go_wp2_with fail
      refine (HTA.out _ cut _ X3 HS.out hlw ⟨hc,hcut.2⟩).mono ?_;rintro e4 w4 ⟨f5,d5,M,rfl,hx4,hOM,hnM,hbM⟩
      obtain ⟨r1,k1,j1,r2,k2,j2,rfl,rfl⟩:=hOM.forms
      have X4:=ext_trans X3 hx4
      replace G0:=keep_ext hx4 G0
      replace G1:=keep_ext hx4 G1
      replace G11:=keep_ext hx4 G11
      replace H1:=keep_ext hx4 H1
      replace H2:=keep_ext hx4 H2
      replace HO2:=Lib.hid (HO2.out.ext hx4)
      have s34:=hx4.size
      have HOM:=Lib.hid hOM
      have HNM:=Lib.hid hnM
      have HBM : Hid (∀ b ∈ M,w2.heap.size < b):=Lib.hid (fun b hb=>by have:=hbM b hb;omega)
      clear g0 gf0 hOM hnM hbM hx4 HS
      obtain ⟨g0,gf0⟩:=cellsK G0
      obtain ⟨g11,gf11⟩:=cellsK G11
      have l11:=heap_lt G11
      go_wp2_with fail
      have hXa : Ext w4 (w4.alloc (.cells #[.slice r1 k1 j1,.slice r2 k2 j2] 26)):=ext_alloc (ext_refl _) _
      replace X4:=ext_trans X4 hXa
      replace G0:=keep_ext hXa G0
      replace G1:=keep_ext hXa G1
      replace G11:=keep_ext hXa G11
      replace H1:=keep_ext hXa H1
      replace H2:=keep_ext hXa H2
      replace HO2:=Lib.hid (HO2.out.ext hXa)
      replace HOM:=Lib.hid (HOM.out.ext hXa)
      clear hXa
      refine (setFirst_c b1 b2 0 _ _ _ _ T1 _ ⟨_,_,_,rfl⟩ ⟨_,_,_,rfl⟩ H1).mono ?_;rintro e5 w5 ⟨rfl,hC5,H15⟩
      have X5 : Ext w w5:=hC5.ext X4 (by simp;omega)
      have hlt2:=heap_lt G11
      have sw2:=X2.size
      replace G0:=hC5.keep G0 (by simp;omega)
      replace G1:=hC5.keep G1 (by simp;omega)
      replace G11:=hC5.keep G11 (by simp;omega)
      have hne12 : b1 ≠ b2:=fun e=>(List.nodup_cons.1 HN.out).1 (by rw [e];simp)
      replace H2:=hC5.keep H2 (by simp;omega)
      have hOA:=HOM.out.chg hC5 (fun b hb hm=>by have:=HBM.out b hb;simp at hm;omega)
      have hOB:=HO2.out.chg hC5 (fun b hb hm=>by
       simp at hm
       subst hm
       have hnd:=HN.out
       simp [hb] at hnd)
      have HOA:=Lib.hid hOA
      have HOB:=Lib.hid hOB
      have HN5 : Hid ((b1 :: b2 :: (M ++ K)).Nodup):=Lib.hid (by
       have hnd:=HN.out
       obtain ⟨n1,n2⟩:=List.nodup_cons.1 hnd
       obtain ⟨n3,n4⟩:=List.nodup_cons.1 n2
       have n5:=(List.nodup_append.1 n4).2.1
       refine List.nodup_cons.2 ⟨fun hm=>?_,List.nodup_cons.2 ⟨fun hm=>?_,List.nodup_append.2 ⟨HNM.out,n5,fun x hx y hy e=>?_⟩⟩⟩
       ·rcases List.mem_cons.1 hm with h | h
        ·exact hne12 h
        ·rcases List.mem_append.1 h with h | h
         ·have:=HBM.out _ h;omega
         ·exact n1 (by simp [h])
       ·rcases List.mem_append.1 hm with h | h
        ·have:=HBM.out _ h;omega
        ·exact n3 (by simp [h])
       ·have:=HBM.out x hx;have:=HlK.out y hy;omega)
      have HB5 : Hid (∀ b ∈ b1 :: b2 :: (M ++ K),w.heap.size + 2 ≤ b ∧ b ≠ w2.heap.size):=Lib.hid (fun b hb=>by
       rcases List.mem_cons.1 hb with rfl | hb
       ·omega
       ·rcases List.mem_cons.1 hb with rfl | hb
        ·omega
        ·rcases List.mem_append.1 hb with hb | hb
         ·have:=HBM.out b hb;omega
         ·have:=HBb.out b (by simp [hb]);have:=HlK.out b hb;omega)
      clear g0 gf0 g11 gf11 hOA hOB HOM HO2 hC5 H1 HN HBb HNM HBM
      obtain ⟨g0,gf0⟩:=cellsK G0
      obtain ⟨g11,gf11⟩:=cellsK G11
      have lg0:=heap_lt G0
      have lg11:=heap_lt G11
      have hwl : (WA.length : Int) ≤ 7:=by omega
      go_wp2_with fail
      refine (twPair_c b1 b2 0 _ _ _ _ T1 T2 _ ⟨_,_,_,rfl⟩ ⟨_,_,_,rfl⟩ ⟨_,_,_,rfl⟩ ⟨_,_,_,rfl⟩ H15 H2).mono ?_;rintro e6 w6 ⟨rfl,hx6⟩
      have X6:=ext_trans X5 hx6
      replace G1:=keep_ext hx6 G1
      have HA6:=Lib.hid (HOA.out.ext hx6)
      have HB6:=Lib.hid (HOB.out.ext hx6)
      clear HOA HOB g0 gf0 g11 gf11
      obtain ⟨g1,gf1⟩:=cellsK G1
      go_wp2_with fail
      have hpv:=HPV.out
      subst hpv
      refine bodyPost_ret (v:=.agg #[.slice r1 k1 j1,.slice r2 k2 j2,.slice q3 m3 c3,.slice q4 m4 c4,.int .i64 0]) (by simp [results,Tryz.results11,go_sem,g1,gf1]) rfl ⟨_,rfl,?_,.inr ⟨_,_,_,_,M,K,rfl,?_,?_,?_,?_,HSHA.out,HSHB.out⟩⟩
      ·((repeat (first | with_reducible (refine ext_set2 ?_ ?_);focus (first | exact Nat.le_refl _ | (dsimp only;omega) | (simp;omega)) | with_reducible refine ext_alloc2 ?_));with_reducible exact X6)
      ·refine HA6.out.keep fun b hb=>?_
       have:=HB5.out b (by simp [hb])
       iterate 5 rw [setCell_other (by omega)]
      ·refine HB6.out.keep fun b hb=>?_
       have:=HB5.out b (by simp [hb])
       iterate 5 rw [setCell_other (by omega)]
      ·exact (List.nodup_cons.1 (List.nodup_cons.1 HN5.out).2).2
      ·exact fun b hb=>by have:=HB5.out b (List.mem_cons_of_mem _ (List.mem_cons_of_mem _ hb));omega
  ·rw [Bool.not_eq_true] at hok
   rw [hok] at hPO
   unfold pairPutV
   rw [if_neg (by rw [hok];simp)]
   go_enter Tryz.func11,Tryz.ntmps11
   go_wp2_with fail
   refine (hPO _ (ext_alloc (ext_alloc (ext_refl _) _) _)).mono ?_;rintro e1 w1 ⟨rfl,hx1⟩
   have X1:=ext_trans (ext_alloc (ext_alloc (ext_refl w) _) _) hx1
   have G0:=keep_ext hx1 (hg_alloc (hg_new (b:=w.heap.size) rfl))
   have G1:=keep_ext hx1 (hg_new (b:=w.heap.size + 1) (by simp))
   obtain ⟨g0,gf0⟩:=cellsK G0
   obtain ⟨g1,gf1⟩:=cellsK G1
   have lw2:=heap_lt G1
   clear hPO hx1
   go_wp2_with fail
   refine bodyPost_ret (v:=nilPair) (by simp [results,Tryz.results11,go_sem,g1,gf1,nilPair]) rfl ⟨_,rfl,?_,.inl ⟨rfl,rfl⟩⟩
   ((repeat (first | with_reducible (refine ext_set2 ?_ ?_);focus (first | exact Nat.le_refl _ | (dsimp only;omega) | (simp;omega)) | with_reducible refine ext_alloc2 ?_));with_reducible exact X1)
 ·unfold pairPutV
  rw [if_neg (fun h=>hc h.2)]
  have hcn : cut < 0:=by omega
  go_enter Tryz.func11,Tryz.ntmps11
  go_wp2_with fail
  have X1:=ext_refl w
  have G1:=hg_new (w:=w.alloc (.cells #[.slice a1 p.A.flash.length n1,.slice a2 p.A.disk.length n2,.slice a3 p.B.flash.length n3,.slice a4 p.B.disk.length n4,.int .i64 p.lost] 28)) (b:=w.heap.size + 1) (x:=.cells #[.slice none 0 0,.slice none 0 0,.slice none 0 0,.slice none 0 0,.int .i64 0] 28) (by simp)
  obtain ⟨g1,gf1⟩:=cellsK G1
  refine bodyPost_ret (v:=nilPair) (by simp [results,Tryz.results11,go_sem,g1,gf1,nilPair]) rfl ⟨_,rfl,?_,.inl ⟨rfl,rfl⟩⟩
  ((repeat (first | with_reducible (refine ext_set2 ?_ ?_);focus (first | exact Nat.le_refl _ | (dsimp only;omega) | (simp;omega)) | with_reducible refine ext_alloc2 ?_));with_reducible exact X1)
end Go.Bu
namespace Go.Bu
open Go Go.RowKit Go.Plan Go.Proofs
theorem wf_i64 {x : Int} (h : (Lit.int .i64 x).wf = true) : -9223372036854775808 ≤ x ∧ x ≤ 9223372036854775807:=by
 have h2 : IntKind.i64.min = -9223372036854775808:=by decide
 simp [Lit.wf,h2] at h;omega
set_option maxRecDepth 20000 in
set_option maxHeartbeats 4000000 in
theorem specPairPut_c (f d g e : Value) (p : Pair) (addr val cut : Int) (torn : Bool) (w : World) (hA : StoreV w f d p.A) (hB : StoreV w g e p.B) (hsA : Small p.A) (hsB : Small p.B) (hcut : -9223372036854775808 ≤ cut ∧ cut ≤ 9223372036854775807) :
  Calls Tryz.prog 13 #[.agg #[f,d,g,e,.int .i64 p.lost],.int .i64 addr,.int .i64 val,.int .i64 cut,.bool torn] w (PairΦ w (pairPutV p addr val cut torn)):=by
 have hPO:=fun (w' : World) (hx : Ext w w')=>specPairOk_c f d g e p w' (hA.ext hx) (hB.ext hx) hsA.1 hsB.1
 have hTW:=fun (w' : World) (hx : Ext w w') (h1 : Shape4 p.A) (h2 : Shape4 p.B)=>l23Copy_c f d g e p w' (hA.ext hx) (hB.ext hx) h1.flash h1.pages h1.disk h2.flash h2.pages h2.disk
 unfold pairPutV
 obtain ⟨a1,n1,rfl⟩:=hA.1.form
 obtain ⟨a2,n2,rfl⟩:=hA.2.form
 obtain ⟨a3,n3,rfl⟩:=hB.1.form
 obtain ⟨a4,n4,rfl⟩:=hB.2.form
 clear hA hB hsA hsB
 by_cases hok : pairOkB p = true
 ·obtain ⟨hl,hokA,hokB⟩:=pairOk_iff.1 hok
  have hTw:=fun (w' : World) (hx : Ext w w')=>hTW w' hx (storeOk_shape hokA) (storeOk_shape hokB)
  rw [hok] at hPO
  simp only [hok,true_and]
  have HPA:=Lib.hid (storeOk_P hokA)
  have HPB:=Lib.hid (storeOk_P hokB)
  clear hTW hok hokA hokB
  by_cases hc : 0 ≤ cut
  ·rw [if_pos hc]
   have hcn : ¬ cut < 0:=by omega
   have HSA:=Lib.hid (HPA.out.to (xs:=listA p addr val) (fun x hx=>by
    unfold listA at hx
    split at hx
    ·cases hx
    ·exact (write_V (flashOk_iff.1 HPA.out.flash) _ _ _ x hx).ok) cut torn)
   have HSB : Hid (StoreP (putV p addr val cut torn).B):=Lib.hid (by
    unfold putV
    dsimp only
    split
    ·exact HPB.out.to (fun x hx=>by
      unfold listB at hx
      split at hx
      ·cases hx
      ·exact (write_V (flashOk_iff.1 HPB.out.flash) _ _ _ x hx).ok) _ torn
    ·exact HPB.out)
   have hLs : (putV p addr val cut torn).lost = p.lost:=rfl
   have hput:=fun (a b : SC) (w' : World) hA hB hd=>l23Put_c a b p addr val cut torn w' hA hB hd HPA.out HPB.out ⟨by omega,hcut.2⟩
   have HPUT:=Lib.hid hput
   clear hput
   have HSA2 : Hid (StoreP (putV p addr val cut torn).A):=HSA
   clear HSA
   generalize putV p addr val cut torn = PV at *
   go_enter Tryz.func13,Tryz.ntmps13
   go_wp2_with fail
   refine (hPO _ (ext_alloc (ext_alloc (ext_refl _) _) _)).mono ?_;rintro e1 w1 ⟨rfl,hx1⟩
   have X1:=ext_trans (ext_alloc (ext_alloc (ext_refl w) _) _) hx1
   have G0:=keep_ext hx1 (hg_alloc (hg_new (b:=w.heap.size) rfl))
   have G1:=keep_ext hx1 (hg_new (b:=w.heap.size + 1) (by simp))
   obtain ⟨g0,gf0⟩:=cellsK G0
   obtain ⟨g1,gf1⟩:=cellsK G1
   have lw2:=heap_lt G1
   clear hPO hx1
   go_wp2_with fail
   refine (hTw _ X1).mono ?_;rintro e2 w2 ⟨f1,d1,g2,e2,L,K,rfl,hx2,hO1,hO2,hn,hb⟩
   have X2:=ext_trans X1 hx2
   have s1:=X1.size
   replace G1:=keep_ext hx2 G1
   obtain ⟨a,rfl,rfl,rfl,hSa⟩:=hO1.at4 (List.nodup_append.1 hn).1 HPA.out
   obtain ⟨b,rfl,rfl,rfl,hSb⟩:=hO2.at4 (List.nodup_append.1 hn).2.1 HPB.out
   have hdis : ∀ x ∈ a.L,x ∉ b.L:=fun x h1 h2=>(List.nodup_append.1 hn).2.2 x h1 x h2 rfl
   have HB:=Lib.hid hb
   have HN:=Lib.hid hn
   have hcl:=HPUT.out a b _ hSa hSb hdis
   clear g0 gf0 g1 gf1 G0 hx2 hO1 hO2 hSa hSb hn hb hdis hTw
   obtain ⟨g1,gf1⟩:=cellsK G1
   go_wp2_with fail
   refine hcl.mono ?_;rintro e3 w3 ⟨rfl,hC3,hSa,hSb⟩
   have X3:=hC3.ext X2 (fun x hx=>by have:=HB.out x hx;omega)
   replace G1:=hC3.keep G1 (fun hx=>by have:=HB.out _ hx;omega)
   have HSa:=Lib.hid hSa
   have HSb:=Lib.hid hSb
   rw [hLs]
   clear g1 gf1 hC3 hSa hSb hcl
   obtain ⟨g1,gf1⟩:=cellsK G1
   unfold pv
   go_wp2_with fail
   refine bodyPost_ret (v:=pv a b PV.lost) (by simp [results,Tryz.results13,go_sem,g1,gf1,pv,hLs]) rfl ⟨_,rfl,?_,PairO.of (HSa.out.keep fun x hx=>?_) (HSb.out.keep fun x hx=>?_) HSA2.out HSB.out HN.out fun x hx=>?_⟩
   ·((repeat (first | with_reducible (refine ext_set2 ?_ ?_);focus (first | exact Nat.le_refl _ | (dsimp only;omega) | (simp;omega)) | with_reducible refine ext_alloc2 ?_));with_reducible exact X3)
   ·have:=HB.out x (by simp [hx])
    (repeat rw [setCell_other (by omega)])
   ·have:=HB.out x (by simp [hx])
    (repeat rw [setCell_other (by omega)])
   ·have:=HB.out x hx;omega
  ·rw [if_neg hc]
   have hcn : cut < 0:=by omega
   go_enter Tryz.func13,Tryz.ntmps13
   go_wp2_with fail
   refine (hPO _ (ext_alloc (ext_alloc (ext_refl _) _) _)).mono ?_;rintro e1 w1 ⟨rfl,hx1⟩
   have X1:=ext_trans (ext_alloc (ext_alloc (ext_refl w) _) _) hx1
   have G0:=keep_ext hx1 (hg_alloc (hg_new (b:=w.heap.size) rfl))
   have G1:=keep_ext hx1 (hg_new (b:=w.heap.size + 1) (by simp))
   obtain ⟨g0,gf0⟩:=cellsK G0
   obtain ⟨g1,gf1⟩:=cellsK G1
   have lw2:=heap_lt G1
   clear hPO hx1
   go_wp2_with fail
   refine bodyPost_ret (v:=nilPair) (by simp [results,Tryz.results13,go_sem,g1,gf1,nilPair]) rfl ⟨_,rfl,?_,.inl ⟨rfl,rfl⟩⟩
   ((repeat (first | with_reducible (refine ext_set2 ?_ ?_);focus (first | exact Nat.le_refl _ | (dsimp only;omega) | (simp;omega)) | with_reducible refine ext_alloc2 ?_));with_reducible exact X1)
 ·rw [Bool.not_eq_true] at hok
  rw [hok] at hPO
  rw [if_neg (by rw [hok];simp)]
  go_enter Tryz.func13,Tryz.ntmps13
  go_wp2_with fail
  refine (hPO _ (ext_alloc (ext_alloc (ext_refl _) _) _)).mono ?_;rintro e1 w1 ⟨rfl,hx1⟩
  have X1:=ext_trans (ext_alloc (ext_alloc (ext_refl w) _) _) hx1
  have G0:=keep_ext hx1 (hg_alloc (hg_new (b:=w.heap.size) rfl))
  have G1:=keep_ext hx1 (hg_new (b:=w.heap.size + 1) (by simp))
  obtain ⟨g0,gf0⟩:=cellsK G0
  obtain ⟨g1,gf1⟩:=cellsK G1
  have lw2:=heap_lt G1
  clear hPO hx1
  go_wp2_with fail
  refine bodyPost_ret (v:=nilPair) (by simp [results,Tryz.results13,go_sem,g1,gf1,nilPair]) rfl ⟨_,rfl,?_,.inl ⟨rfl,rfl⟩⟩
  ((repeat (first | with_reducible (refine ext_set2 ?_ ?_);focus (first | exact Nat.le_refl _ | (dsimp only;omega) | (simp;omega)) | with_reducible refine ext_alloc2 ?_));with_reducible exact X1)
end Go.Bu
namespace Go.Bu
open Go Go.RowKit Go.Plan Go.Proofs
set_option maxRecDepth 20000 in
set_option maxHeartbeats 4000000 in
theorem implStoreRead_c (fv dv : Value) (s : Store) (n : Nat) (w : World) (h : StoreV w fv dv s) (hok : storeOkB s = true) (hn : n < 6) :
  Calls Tryz.prog 103 #[.agg #[fv,dv],.int .i64 ((n : Int) + 1)] w (Ret w (.int .i64 (readN s n))):=by
 have hp:=pages_short (storeOk_flash hok)
 have hSO:=fun (w' : World) (hx : Ext w w')=>implStoreOk_c fv dv s w' (h.ext hx) hp (by have:=storeOk_disk hok;omega)
 rw [hok] at hSO
 have hF:=flashOk_iff.1 (storeOk_flash hok)
 have h6:=storeOk_disk hok
 have hLR:=fun (w' : World) (hx : Ext w w')=>lastRecords_c fv s.flash w' (h.1.ext hx) hF.len hp (fun b hb=>hF.pg hb)
 have hD:=h.2
 obtain ⟨fa,fcap,rfl⟩:=h.1.form
 obtain ⟨da,dcap,rfl⟩:=h.2.form
 have hnl : n < s.disk.length:=by omega
 obtain ⟨b,o,rfl,hb,c0⟩:=hD.at1 hnl
 have hb' : b < w.heap.size:=hb
 have hR : readN s n = if 0 < (last s.flash ((n : Int) + 1)).seq then (last s.flash ((n : Int) + 1)).val else s.disk[n]:=by
  unfold readN;rw [List.getD_eq_getElem?_getD,List.getElem?_eq_getElem hnl];rfl
 have HRD:=Lib.hid hR
 have hin : inB ((n : Int) + 1) 1 6 = true:=inB_iff.2 (by omega)
 have hn6 : (n : Int) < 6:=by omega
 have hn0 : ¬ (n : Int) < 0:=by omega
 have hwr : IntKind.i64.wrap (n : Int) = (n : Int):=IntWalk.i64_in _ (by omega)
 rw [h6]
 rw [h6] at hSO
 obtain ⟨dv,hdv⟩ : ∃ dv : Int,s.disk[n] = dv:=⟨_,rfl⟩
 rw [hdv] at c0 HRD
 clear hR hF hp hD h hdv h6
 go_enter Tryz.func103,Tryz.ntmps103
 go_wp2_with fail
 refine (hSO _ (ext_alloc (ext_refl _) _)).mono ?_;rintro e1 w1 ⟨rfl,hx1⟩
 have X1:=ext_trans (ext_alloc (ext_refl w) _) hx1
 have G0:=keep_ext hx1 (hg_new (b:=w.heap.size) rfl)
 obtain ⟨g0,gf0⟩:=cellsK G0
 have l0:=heap_lt G0
 clear hSO hx1
 go_wp2_with (go_at_call 81;refine (addrOk_c _ _).mono ?_;rw [hin];rintro e w' ⟨rfl,rfl⟩)
 refine (hLR _ X1).mono ?_;rintro e2 w2 ⟨B,m,rfl,hx2,hB,hM⟩
 have X2:=ext_trans X1 hx2
 replace G0:=keep_ext hx2 G0
 clear g0 gf0 l0 hLR hx2 X1
 obtain ⟨g0,gf0⟩:=cellsK G0
 have l0:=heap_lt G0
 have hlk:=hM.lookup (t:=89) Tryz.underlying3 Tryz.underlying89 (z:=recA rec0) (by rfl) (i64_wf (x:=(n : Int) + 1) (by omega) (by omega)) true
 simp only [if_true] at hlk
 unfold lastG at hlk
 generalize last s.flash ((n : Int) + 1) = r at *
 obtain ⟨hc,hf⟩:=bcell X2
 have hb2 : b < w2.heap.size:=Nat.lt_of_lt_of_le hb' X2.size
 clear hM
 by_cases h0 : 0 < r.seq
 ·rw [if_pos h0] at hlk
  simp only [Option.getD_some,Option.isSome_some] at hlk
  dsimp only [recA] at hlk
  have HR2 : Hid (readN s n = r.val):=Lib.hid (by rw [HRD.out,if_pos h0])
  clear h0 HRD
  go_wp2_with fail
  go_ret
  exact ⟨by rw [HR2.out];rfl,ext_alloc X2 _⟩
 ·rw [if_neg h0] at hlk
  simp only [Option.getD_none,Option.isSome_none] at hlk
  dsimp only [recA,rec0] at hlk
  have HR2 : Hid (readN s n = dv):=Lib.hid (by rw [HRD.out,if_neg h0])
  clear h0 HRD
  go_wp2_with fail
  go_ret
  exact ⟨by rw [HR2.out];rfl,ext_alloc X2 _⟩
theorem storeOk_set {s : Store} (h : storeOkB s = true) (a v : Int) : storeOkB (setV s a v) = true:=storeOk_iff.2 (safe_put (storeOk_iff.1 h) a v).all
theorem storeOk_sameStep {fr t : Store} (h : storeOkB t = true) (n : Nat) : storeOkB (sameStep fr t n) = true:=by
 unfold sameStep;split
 ·exact h
 ·exact storeOk_set h _ _
theorem storeOk_same {fr t : Store} (h : storeOkB t = true) : storeOkB (sameV fr t) = true:=foldl_inv (sameStep fr) (fun s=>storeOkB s = true) addrs6 t h fun s n _ hs=>storeOk_sameStep hs n
theorem OwnStore.v {w : World} {f d : Value} {s : Store} {L : List Nat} (h : OwnStore w f d s L) : StoreV w f d s:=⟨h.flash,h.disk⟩
set_option maxRecDepth 20000 in
set_option maxHeartbeats 4000000 in
theorem copyValues_c (f d g e : Value) (fr s : Store) (w : World) (hA : StoreV w f d fr) (hB : StoreV w g e s) (hokA : storeOkB fr = true) (hokB : storeOkB s = true) :
  Calls Tryz.prog 60 #[.agg #[f,d],.agg #[g,e]] w (StoreCp w (sameV fr s)):=by
 have hSA:=fun (w' : World) (hx : Ext w w')=>implStoreAll_c f d fr w' (hA.ext hx) (pages_short (storeOk_flash hokA)) (by have:=storeOk_disk hokA;omega)
 have hsh:=storeOk_shape hokB
 have hSC:=fun (w' : World) (hx : Ext w w')=>storeCopy_c g e s w' (hB.ext hx) hsh.flash hsh.pages hsh.disk
 rw [allV_ok hokA] at hSA
 have HOKB:=Lib.hid hokB
 have HALL : Hid (∀ k (hk : k < (allS fr).length),(allS fr)[k] = readN fr k):=Lib.hid fun k hk=>by simp [allS]
 have HLN:=Lib.hid (allS_len fr)
 obtain ⟨a1,n1,rfl⟩:=hA.1.form
 obtain ⟨a2,n2,rfl⟩:=hA.2.form
 obtain ⟨a3,n3,rfl⟩:=hB.1.form
 obtain ⟨a4,n4,rfl⟩:=hB.2.form
 generalize allS fr = xs at *
 clear hA hB hsh
 go_enter Tryz.func60,Tryz.ntmps60
 go_wp2_with fail
 refine (hSC _ (ext_alloc (ext_alloc (ext_alloc (ext_refl _) _) _) _)).mono ?_;rintro e1 w1 ⟨f1,d1,L1,rfl,hx1,hO1,hn1,hb1⟩
 have X1:=ext_trans (ext_alloc (ext_alloc (ext_alloc (ext_refl w) _) _) _) hx1
 have G2:=keep_ext hx1 (hg_alloc (hg_alloc (hg_new (b:=w.heap.size) rfl)))
 have G4:=keep_ext hx1 (hg_new (b:=w.heap.size + 1 + 1) (by simp))
 have s1:=hx1.size
 simp at s1
 have hb1' : Hid (∀ b ∈ L1,w.heap.size + 3 ≤ b):=Lib.hid fun b hb=>by have:=hb1 b hb;simp at this;omega
 obtain ⟨q1,m1,c1,q2,m2,c2,rfl,rfl⟩:=hO1.forms
 have hlL:=hO1.lt
 obtain ⟨g2,gf2⟩:=cellsK G2
 have l2:=heap_lt G2
 have hne2 : ¬ (w.heap.size = w1.heap.size):=by omega
 clear hSC hx1 hb1
 go_wp2_with fail
 have XA : Ext w1 (w1.alloc (.cells #[.slice q1 m1 c1,.slice q2 m2 c2] 26)):=ext_alloc (ext_refl _) _
 refine (hSA _ (ext_trans X1 XA)).mono ?_;rintro e2 w2 ⟨lv,rfl,hx2,hI⟩
 have H12:=ext_trans XA hx2
 have X2:=ext_trans X1 H12
 have GP:=keep_ext hx2 (hg_new (b:=w1.heap.size) rfl)
 replace G4:=keep_ext H12 G4
 have HO:=Lib.hid (hO1.ext H12)
 have HN:=Lib.hid hn1
 obtain ⟨lB,hlB,hIL⟩ : ∃ lB,w1.heap.size < lB ∧ OwnInts w2 lv xs lB:=by
  rcases hI with ⟨_,h0⟩ | ⟨lB,h1,h2⟩
  ·have:=HLN.out;rw [h0] at this;cases this
  ·exact ⟨lB,by simp at h1;omega,h2⟩
 obtain ⟨la,lc,rfl⟩:=hIL.old.form
 have HLL : Hid (∀ b ∈ L1,b ≠ w1.heap.size):=Lib.hid fun b hb e=>by have:=hlL b hb;omega
 rw [HLN.out] at hIL
 have HIL:=Lib.hid hIL
 clear hIL
 clear g2 gf2 l2 hSA XA hx2 H12 hO1 hn1 hlL hI G2
 obtain ⟨P,hP⟩ : ∃ P,w1.heap.size = P:=⟨_,rfl⟩
 rw [hP] at GP hne2 HLL s1 hlB ⊢
 have hPw : w.heap.size + 3 ≤ P:=s1
 clear hP s1 hne2
 rw [HLN.out]
 go_wp2_with fail
 have HST0 : Hid (storeOkB s = true):=HOKB
 have HR0 : Hid ((addrs6.drop 0).foldl (sameStep fr) s = sameV fr s):=Lib.hid rfl
 go_loopw [16] (fun y wr=>∃ (k : Nat) (t : Store) (f d : Value) (L : List Nat),k ≤ 6 ∧ y = .int .i64 k ∧ Ext w wr ∧ Hid (OwnInts wr (.slice la 6 lc) xs lB) ∧ wr.heap[P]? = some (.cells #[f,d] 26 (0,0)) ∧ Hid (OwnStore wr f d t L) ∧ Hid L.Nodup ∧ Hid (∀ b ∈ L,w.heap.size + 3 ≤ b ∧ b ≠ P) ∧ Hid (storeOkB t = true) ∧ Hid ((addrs6.drop k).foldl (sameStep fr) t = sameV fr s) ∧
  wr.heap[w.heap.size + 1 + 1]? = some (.cells #[.slice none 0 0,.slice none 0 0] 26 (0,0))) (fun y _=>6 - (intOf y).toNat)
 case atStart=>exact ⟨0,s,_,_,L1,by omega,rfl,X2,HIL,GP,HO,HN,Lib.hid fun b hb=>⟨hb1'.out b hb,HLL.out b hb⟩,HST0,HR0,G4⟩
 case round =>
  clear HO HN HST0 HR0 G4 GP HIL X2 HOKB
  obtain ⟨k,t,f,d,L,hk,rfl,hX,HIL,GP,HO,HN,HB,HST,HR,G4⟩:=hrel
  obtain ⟨b1,k1,j1,b2,k2,j2,rfl,rfl⟩:=HO.out.forms
  obtain ⟨gp,gpf⟩:=cellsK GP
  have lP:=heap_lt GP
  by_cases hlt : k < 6
  ·have hkl : k < xs.length:=by rw [HLN.out];exact hlt
   obtain ⟨lb,lo,rfl,hlb,c0⟩:=(show Ints _ _ _ _ from HIL.out.old).at1 hkl
   rw [HALL.out k hkl] at c0
   have hlb' : lb < wr.heap.size:=hlb
   rw [foldl_drop _ _ _ _ (show k < addrs6.length from hlt),addrs6_get] at HR
   have hrd:=fun (w' : World) (hx : Ext wr w')=>implStoreRead_c _ _ t k w' (HO.out.ext hx).v HST.out hlt
   have hst : sameStep fr t k = if readN t k = readN fr k then t else setV t ((k : Int) + 1) (readN fr k):=rfl
   have hsm : Small t:=⟨by have:=(storeOk_shape HST.out).flash;omega,pages_short (storeOk_flash HST.out),by have:=storeOk_disk HST.out;omega⟩
   have hps:=fun (w' : World) (hx : Ext wr w')=>implStepsPut_c _ _ t ((k : Int) + 1) (readN fr k) w' (HO.out.ext hx).v hsm
   rw [show putSteps2 t ((k : Int) + 1) (readN fr k) = writeSteps t.flash 1 ((k : Int) + 1) (readN fr k) by unfold putSteps2;rw [if_pos HST.out]] at hps
   have hto:=fun (sv : Value) (w' : World) (hx : Ext wr w') (hS : Steps' (Old w') w' sv (writeSteps t.flash 1 ((k : Int) + 1) (readN fr k))) (hl : (writeSteps t.flash 1 ((k : Int) + 1) (readN fr k)).length ≤ 7)=>implStepsTo_c _ _ t sv _ ((writeSteps t.flash 1 ((k : Int) + 1) (readN fr k)).length : Nat) false w' (HO.out.ext hx).v HST.out hS (write_V (flashOk_iff.1 (storeOk_flash HST.out)) _ _ _) (by omega) ⟨by omega,by omega⟩
   have hsv : toSteps t (writeSteps t.flash 1 ((k : Int) + 1) (readN fr k)) ((writeSteps t.flash 1 ((k : Int) + 1) (readN fr k)).length : Nat) false = setV t ((k : Int) + 1) (readN fr k):=toSteps_all _ _
   rw [hsv] at hto
   have HST2:=Lib.hid (storeOk_sameStep (fr:=fr) HST.out k)
   have HSTP:=Lib.hid hst
   clear hst hsm hsv
   generalize sameStep fr t k = t2 at *
   generalize setV t ((k : Int) + 1) (readN fr k) = tv at *
   generalize writeSteps t.flash 1 ((k : Int) + 1) (readN fr k) = ws at *
   generalize readN t k = x at *
   generalize readN fr k = y at *
   have hk1 : IntKind.i64.wrap ((k : Int) + 1) = (k : Int) + 1:=IntWalk.i64_in _ (by omega)
   go_wp2_with fail
   refine (hrd _ (ext_refl _)).mono ?_;rintro e3 w3 ⟨rfl,hx3⟩
   clear hrd
   by_cases hxy : x = y
   ·subst hxy
    have HS2:=HSTP.out
    rw [if_pos rfl] at HS2
    subst HS2
    clear HSTP hps hto gp gpf c0
    go_wp2_with fail
    go_roundw
    case rel=>exact ⟨k + 1,t2,_,_,L,by omega,by go_num,ext_trans hX hx3,Lib.hid (HIL.out.ext hx3),keep_ext hx3 GP,Lib.hid (HO.out.ext hx3),HN,HB,HST,HR,keep_ext hx3 G4⟩
    case measure=>simp [intOf];omega
   ·have HS2:=HSTP.out
    rw [if_neg hxy] at HS2
    subst HS2
    replace GP:=keep_ext hx3 GP
    clear HSTP gp gpf c0
    obtain ⟨gp,gpf⟩:=cellsK GP
    have lP:=heap_lt GP
    have hxy' : (x == y) = false:=by simpa using hxy
    go_wp2_with fail
    refine (hps _ hx3).mono ?_;rintro e4 w4 ⟨sv,rfl,hx4,hS,hwl⟩
    have X4:=ext_trans hx3 hx4
    obtain ⟨sa,sc,rfl⟩:=hS.form
    replace GP:=keep_ext hx4 GP
    have HSS:=Lib.hid hS.steps
    clear gp gpf hps hS hx4 hx3
    obtain ⟨gp,gpf⟩:=cellsK GP
    have lP:=heap_lt GP
    go_wp2_with fail
    refine (hto _ _ X4 HSS.out hwl).mono ?_;rintro e5 w5 ⟨f5,d5,M,rfl,hx5,hOM,hnM,hbM⟩
    have X5:=ext_trans X4 hx5
    obtain ⟨q3,m3,c3,q4,m4,c4,rfl,rfl⟩:=hOM.forms
    replace GP:=keep_ext hx5 GP
    have G4':=keep_ext X5 G4
    have HIL5:=Lib.hid (HIL.out.ext X5)
    have lP5:=heap_lt GP
    have hX5:=ext_trans hX X5
    have HOM:=Lib.hid hOM
    have HNM:=Lib.hid hnM
    have s4:=X4.size
    have hlM:=hOM.lt
    have HBM : Hid (∀ b ∈ M,w.heap.size + 3 ≤ b ∧ b ≠ P):=Lib.hid fun b hb=>by have:=hbM b hb;omega
    have hneP : ¬ (w5.heap.size = P):=by omega
    clear gp gpf hto HSS hx5 hOM hnM hbM hlM X4 HIL HO
    obtain ⟨gp,gpf⟩:=cellsK GP
    go_wp2_with fail
    have hC : Chg [P] w5 (((w5.setCell ⟨P,0,none⟩ (.slice q3 m3 c3)).setCell ⟨P,1,none⟩ (.slice q4 m4 c4)).alloc (.cells #[.slice q3 m3 c3,.slice q4 m4 c4] 26)):=
     (((Chg.refl _ _).set (p:=⟨P,0,none⟩) (.inl (by simp)) _).set (p:=⟨P,1,none⟩) (.inl (by simp)) _).alloc' _
    refine ⟨⟨k + 1,t2,_,_,M,by omega,by go_num,hC.ext hX5 (by simp;omega),Lib.hid (HIL5.out.chg hC (by simp;omega)),hg_alloc (hgo (hg_here (hg_here GP)) rfl),Lib.hid (HOM.out.chg hC fun b hb hm=>by have:=HBM.out b hb;simp at hm;omega),HNM,HBM,HST2,HR,hC.keep G4' (by simp;omega)⟩,by simp [intOf];omega⟩
  ·obtain rfl : k = 6:=by omega
   have hr:=HR.out
   rw [List.drop_eq_nil_of_le (by simp [addrs6])] at hr
   have hr : t = sameV fr s:=hr
   obtain ⟨g4,gf4⟩:=cellsK G4
   have l4:=heap_lt G4
   go_wp2_with fail
   refine bodyPost_ret (v:=.agg #[.slice b1 k1 j1,.slice b2 k2 j2]) (by simp [results,Tryz.results60,go_sem,g4,gf4]) rfl ⟨_,_,L,rfl,?_,?_,HN.out,fun b hb=>by have:=HB.out b hb;omega⟩
   ·((repeat (first | with_reducible (refine ext_set2 ?_ ?_);focus (first | exact Nat.le_refl _ | (dsimp only;omega) | (simp;omega)) | with_reducible refine ext_alloc2 ?_));with_reducible exact hX)
   ·rw [← hr]
    refine HO.out.keep fun b hb=>?_
    have:=HB.out b hb
    iterate 2 rw [setCell_other (by omega)]
end Go.Bu
namespace Go.Bu
open Go Go.RowKit Go.Plan Go.Proofs
set_option maxRecDepth 20000 in
set_option maxHeartbeats 4000000 in
theorem implPairMend_c (f d g e : Value) (p : Pair) (w : World) (hA : StoreV w f d p.A) (hB : StoreV w g e p.B) (hsA : Small p.A) (hsB : Small p.B) :
  Calls Tryz.prog 31 #[.agg #[f,d,g,e,.int .i64 p.lost]] w (PairΦ w (mendV p)):=by
 have hPO:=fun (w' : World) (hx : Ext w w')=>implPairOk_c f d g e p w' (hA.ext hx) (hB.ext hx) hsA.2.1 hsB.2.1 hsA.2.2 hsB.2.2
 have hTW:=fun (w' : World) (hx : Ext w w') (h1 : Shape4 p.A) (h2 : Shape4 p.B)=>twinsOf_c f d g e p w' (hA.ext hx) (hB.ext hx) h1 h2
 rw [show (inB p.lost 0 2 && (storeOkB p.A && storeOkB p.B)) = pairOkB p from rfl] at hPO
 unfold mendV
 obtain ⟨a1,n1,rfl⟩:=hA.1.form
 obtain ⟨a2,n2,rfl⟩:=hA.2.form
 obtain ⟨a3,n3,rfl⟩:=hB.1.form
 obtain ⟨a4,n4,rfl⟩:=hB.2.form
 clear hA hB hsA hsB
 by_cases hok : pairOkB p = true
 ·obtain ⟨hl,hokA,hokB⟩:=pairOk_iff.1 hok
  have hTw:=fun (w' : World) (hx : Ext w w')=>hTW w' hx (storeOk_shape hokA) (storeOk_shape hokB)
  rw [hok] at hPO
  simp only [hok,if_true]
  have HPA:=Lib.hid (storeOk_P hokA)
  have HPB:=Lib.hid (storeOk_P hokB)
  have HOKA:=Lib.hid hokA
  have HOKB:=Lib.hid hokB
  clear hTW hok hokA hokB
  by_cases h0 : p.lost = 0
  ·rw [if_pos h0]
   rw [h0] at hTw hPO ⊢
   go_enter Tryz.func31,Tryz.ntmps31
   go_wp2_with fail
   refine (hPO _ (ext_alloc (ext_alloc (ext_refl _) _) _)).mono ?_;rintro e1 w1 ⟨rfl,hx1⟩
   have X1:=ext_trans (ext_alloc (ext_alloc (ext_refl w) _) _) hx1
   have G0:=keep_ext hx1 (hg_alloc (hg_new (b:=w.heap.size) rfl))
   have G1:=keep_ext hx1 (hg_new (b:=w.heap.size + 1) (by simp))
   obtain ⟨g0,gf0⟩:=cellsK G0
   obtain ⟨g1,gf1⟩:=cellsK G1
   have lw2:=heap_lt G1
   clear hPO hx1
   go_wp2_with fail
   refine (hTw _ X1).mono ?_;rintro e2 w2 ⟨tv,rfl,hx2,b1,b2,f1,d1,g2,e2,L,K,T1,T2,rfl,H1,H2,hO1,hO2,hn,hb⟩
   have X20:=ext_trans X1 hx2
   have s1:=X1.size
   have sw2:=hx2.size
   have l1:=heap_lt H1
   have l2:=heap_lt H2
   have sb1:=hb b1 (by simp)
   have sb2:=hb b2 (by simp)
   have hlL:=hO1.lt
   have hlK:=hO2.lt
   obtain ⟨q1,m1,c1,q2,m2,c2,rfl,rfl⟩:=hO1.forms
   obtain ⟨q3,m3,c3,q4,m4,c4,rfl,rfl⟩:=hO2.forms
   have XA : Ext w2 (w2.alloc (.cells #[.pointer (some ⟨b1,0,none⟩),.pointer (some ⟨b2,0,none⟩),.int .i64 0] 66)):=ext_alloc (ext_refl _) _
   have G11 : (w2.alloc (.cells #[.pointer (some ⟨b1,0,none⟩),.pointer (some ⟨b2,0,none⟩),.int .i64 0] 66)).heap[w2.heap.size]? = some (.cells #[.pointer (some ⟨b1,0,none⟩),.pointer (some ⟨b2,0,none⟩),.int .i64 0] 66 (0,0)):=hg_new rfl
   replace G1:=keep_ext (ext_trans hx2 XA) G1
   replace H1:=keep_ext XA H1
   replace H2:=keep_ext XA H2
   have HO1:=Lib.hid (hO1.ext XA)
   have HO2:=Lib.hid (hO2.ext XA)
   have HN:=Lib.hid hn
   have HBb:=Lib.hid hb
   have HlL:=Lib.hid hlL
   have HlK:=Lib.hid hlK
   have X2:=ext_trans X20 XA
   have hne12 : b1 ≠ b2:=fun e=>(List.nodup_cons.1 hn).1 (by rw [e];simp)
   have HSZ : Hid ((w2.alloc (.cells #[.pointer (some ⟨b1,0,none⟩),.pointer (some ⟨b2,0,none⟩),.int .i64 0] 66)).heap.size = w2.heap.size + 1):=Lib.hid (by simp)
   clear g0 gf0 g1 gf1 G0 hx2 hO1 hO2 hn hb hlL hlK XA hTw
   obtain ⟨g11,gf11⟩:=cellsK G11
   go_wp2_with fail
   refine wp_region_ext [2,4,5] [0,1,3,2,4,5] [] [6] (by kernel_rfl) (by kernel_rfl) ?late ?_
   case late=>exact fun f hf=>absurd hf List.not_mem_nil
   iterate 3
    refine Rob.y (v:=?_) rfl rfl (fun w1 hx hH=>?_) ?_;rotate_left
    ·(have hE : Ext _ w1:=(by first | exact hx | exact hx.1);obtain ⟨z11,zf11⟩:=cellsK (keep_ext hE G11));go_simp;first | done | rfl
    simp only [Act.put,slA,slB,slC]
   refine Rob.cv (.agg #[.slice q1 m1 c1,.slice q2 m2 c2]) rfl rfl rfl (fun _ _=>ext_trans) (fun w1 hx hH=>?_) (fun lo2 hi2 hlo2 hhi2=>?_)
   ·unfold RunTo;go_simp;exact (first_c b1 b2 0 _ _ T1 _ ⟨_,_,_,rfl⟩ ⟨_,_,_,rfl⟩ (keep_ext hx H1)).mono fun e w' h=>h.to
   simp only [Act.put,slA,slB,slC]
   refine Rob.cv (.agg #[.slice q3 m3 c3,.slice q4 m4 c4]) rfl rfl rfl (fun _ _=>ext_trans) (fun w1 hx hH=>?_) (fun lo4 hi4 hlo4 hhi4=>?_)
   ·unfold RunTo;go_simp;exact (other_c b1 b2 0 _ _ T2 _ ⟨_,_,_,rfl⟩ ⟨_,_,_,rfl⟩ (keep_ext hx H2)).mono fun e w' h=>h.to
   simp only [Act.put,slA,slB,slC]
   refine Rob.c (StoreM (sameV p.A p.B)) rfl rfl rfl (fun _ _=>ext_trans) (fun _ _ _ _ _=>fun h hx=>h.ext hx) (fun w1 hx hH=>?_) (fun lo5 hi5 v5 hlo5 hhi5 hv5=>?_)
   ·unfold RunTo;go_simp;exact (copyValues_c _ _ _ _ p.A p.B _ (HO1.out.ext hx).v (HO2.out.ext hx).v HOKA.out HOKB.out).mono fun e w' h=>h.to
   simp only [Act.put,slA,slB,slC]
   obtain ⟨_,hv5⟩:=hv5
   obtain ⟨r1,k1,j1,r2,k2,j2,rfl⟩:=hv5.forms
   refine fin_tail (fun w3 hx3 _=>?_)
   simp only [dstOf,List.getElem?_cons_succ,List.getElem?_cons_zero,Option.bind_some,Act.put,slA,slB,slC,List.filterMap_cons,List.filterMap_nil]
   obtain ⟨hx3,hM⟩:=hx3
   obtain ⟨M,hOM,hnM,hbM⟩:=hM.own
   have hsz:=HSZ.out
   have HBM : Hid (∀ b ∈ M,w2.heap.size < b):=Lib.hid (fun b hb=>by have:=hbM b hb;omega)
   have HOM:=Lib.hid hOM
   have HNM:=Lib.hid hnM
   have X3:=ext_trans X2 hx3
   replace G1:=keep_ext hx3 G1
   replace G11:=keep_ext hx3 G11
   replace H1:=keep_ext hx3 H1
   replace H2:=keep_ext hx3 H2
   replace HO1:=Lib.hid (HO1.out.ext hx3)
   replace HO2:=Lib.hid (HO2.out.ext hx3)
   have l11:=heap_lt G11
   clear g11 gf11 hM hOM hnM hbM hx3 hv5
   obtain ⟨g11,gf11⟩:=cellsK G11
   go_wp2_with fail
   refine (setOther_c b1 b2 0 _ _ _ _ T2 _ ⟨_,_,_,rfl⟩ ⟨_,_,_,rfl⟩ H2).mono ?_;rintro e4 w4 ⟨rfl,hC4,H4⟩
   have X4 : Ext w w4:=hC4.ext X3 (by simp;omega)
   replace G1:=hC4.keep G1 (by simp;omega)
   replace G11:=hC4.keep G11 (by simp;omega)
   replace H1:=hC4.keep H1 (by simpa using hne12)
   replace H2:=H4
   have HOM2:=Lib.hid (HOM.out.chg hC4 (fun b hb hm=>by have:=HBM.out b hb;simp at hm;omega))
   have HOO:=Lib.hid (HO1.out.chg hC4 (fun b hb hm=>by
    simp at hm
    subst hm
    exact (List.nodup_cons.1 (List.nodup_cons.1 HN.out).2).1 (by simp [hb])))
   clear HOM HO1 HO2 hC4 H4 g11 gf11
   obtain ⟨g11,gf11⟩:=cellsK G11
   have l4:=heap_lt G11
   have l1x:=heap_lt H1
   have l2x:=heap_lt H2
   go_wp2_with fail
   have HBB : Hid (∀ b ∈ L ++ M,w.heap.size + 2 ≤ b):=Lib.hid (fun b hb=>by
    rcases List.mem_append.1 hb with hb | hb
    ·have:=HBb.out b (by simp [hb]);omega
    ·have:=HBM.out b hb;omega)
   have HNN : Hid ((L ++ M).Nodup):=Lib.hid (by
    have hnd:=(List.nodup_cons.1 (List.nodup_cons.1 HN.out).2).2
    rw [List.nodup_append] at hnd ⊢
    exact ⟨hnd.1,HNM.out,fun x hx y hy e=>by have:=HBM.out y hy;have:=HlL.out x hx;omega⟩)
   have HOA:=HOO
   have HOB:=HOM2
   refine (twPair_c b1 b2 0 _ _ _ _ T1 T2 _ ⟨_,_,_,rfl⟩ ⟨_,_,_,rfl⟩ ⟨_,_,_,rfl⟩ ⟨_,_,_,rfl⟩ H1 H2).mono ?_;rintro e6 w6 ⟨rfl,hx6⟩
   have X6:=ext_trans X4 hx6
   replace G1:=keep_ext hx6 G1
   have HA6:=Lib.hid (HOA.out.ext hx6)
   have HB6:=Lib.hid (HOB.out.ext hx6)
   clear HOA HOB g11 gf11
   obtain ⟨g1,gf1⟩:=cellsK G1
   go_wp2_with fail
   refine bodyPost_ret (v:=.agg #[.slice q1 m1 c1,.slice q2 m2 c2,.slice r1 k1 j1,.slice r2 k2 j2,.int .i64 0]) (by simp [results,Tryz.results31,go_sem,g1,gf1]) rfl ⟨_,rfl,?_,.inr ⟨_,_,_,_,L,M,rfl,?_,?_,?_,?_,HPA.out.shape4,HPB.out.same.shape4⟩⟩
   ·((repeat (first | with_reducible (refine ext_set2 ?_ ?_);focus (first | exact Nat.le_refl _ | (dsimp only;omega) | (simp;omega)) | with_reducible refine ext_alloc2 ?_));with_reducible exact X6)
   ·refine HA6.out.keep fun b hb=>?_
    have:=HBB.out b (by simp [hb])
    (repeat rw [setCell_other (by omega)])
   ·refine HB6.out.keep fun b hb=>?_
    have:=HBB.out b (by simp [hb])
    (repeat rw [setCell_other (by omega)])
   ·exact HNN.out
   ·exact fun b hb=>by have:=HBB.out b hb;omega
  ·rw [if_neg h0]
   have h0b : (p.lost == 0) = false:=by simpa using h0
   go_enter Tryz.func31,Tryz.ntmps31
   go_wp2_with fail
   refine (hPO _ (ext_alloc (ext_alloc (ext_refl _) _) _)).mono ?_;rintro e1 w1 ⟨rfl,hx1⟩
   have X1:=ext_trans (ext_alloc (ext_alloc (ext_refl w) _) _) hx1
   have G0:=keep_ext hx1 (hg_alloc (hg_new (b:=w.heap.size) rfl))
   have G1:=keep_ext hx1 (hg_new (b:=w.heap.size + 1) (by simp))
   obtain ⟨g0,gf0⟩:=cellsK G0
   obtain ⟨g1,gf1⟩:=cellsK G1
   have lw2:=heap_lt G1
   clear hPO hx1
   go_wp2_with fail
   refine (hTw _ X1).mono ?_;rintro e2 w2 ⟨tv,rfl,hx2,b1,b2,f1,d1,g2,e2,L,K,T1,T2,rfl,H1,H2,hO1,hO2,hn,hb⟩
   have X20:=ext_trans X1 hx2
   have s1:=X1.size
   have sw2:=hx2.size
   have l1:=heap_lt H1
   have l2:=heap_lt H2
   have sb1:=hb b1 (by simp)
   have sb2:=hb b2 (by simp)
   have hlL:=hO1.lt
   have hlK:=hO2.lt
   obtain ⟨q1,m1,c1,q2,m2,c2,rfl,rfl⟩:=hO1.forms
   obtain ⟨q3,m3,c3,q4,m4,c4,rfl,rfl⟩:=hO2.forms
   have XA : Ext w2 (w2.alloc (.cells #[.pointer (some ⟨b1,0,none⟩),.pointer (some ⟨b2,0,none⟩),.int .i64 p.lost] 66)):=ext_alloc (ext_refl _) _
   have G11 : (w2.alloc (.cells #[.pointer (some ⟨b1,0,none⟩),.pointer (some ⟨b2,0,none⟩),.int .i64 p.lost] 66)).heap[w2.heap.size]? = some (.cells #[.pointer (some ⟨b1,0,none⟩),.pointer (some ⟨b2,0,none⟩),.int .i64 p.lost] 66 (0,0)):=hg_new rfl
   replace G1:=keep_ext (ext_trans hx2 XA) G1
   replace H1:=keep_ext XA H1
   replace H2:=keep_ext XA H2
   have HO1:=Lib.hid (hO1.ext XA)
   have HO2:=Lib.hid (hO2.ext XA)
   have HN:=Lib.hid hn
   have HBb:=Lib.hid hb
   have HlL:=Lib.hid hlL
   have HlK:=Lib.hid hlK
   have X2:=ext_trans X20 XA
   have hne12 : b1 ≠ b2:=fun e=>(List.nodup_cons.1 hn).1 (by rw [e];simp)
   have HSZ : Hid ((w2.alloc (.cells #[.pointer (some ⟨b1,0,none⟩),.pointer (some ⟨b2,0,none⟩),.int .i64 p.lost] 66)).heap.size = w2.heap.size + 1):=Lib.hid (by simp)
   clear g0 gf0 g1 gf1 G0 hx2 hO1 hO2 hn hb hlL hlK XA hTw
   obtain ⟨g11,gf11⟩:=cellsK G11
   go_wp2_with fail
   have HOA:=HO1
   have HOB:=HO2
   have HBB : Hid (∀ b ∈ L ++ K,w.heap.size + 2 ≤ b):=Lib.hid (fun b hb=>by
    rcases List.mem_append.1 hb with hb | hb
    ·have:=HBb.out b (by simp [hb]);omega
    ·have:=HBb.out b (by simp [hb]);omega)
   have HNN : Hid ((L ++ K).Nodup):=Lib.hid (by
    have hnd:=(List.nodup_cons.1 (List.nodup_cons.1 HN.out).2).2
    rw [List.nodup_append] at hnd ⊢
    exact hnd)
   refine (twPair_c b1 b2 p.lost _ _ _ _ T1 T2 _ ⟨_,_,_,rfl⟩ ⟨_,_,_,rfl⟩ ⟨_,_,_,rfl⟩ ⟨_,_,_,rfl⟩ H1 H2).mono ?_;rintro e6 w6 ⟨rfl,hx6⟩
   have X6:=ext_trans X2 hx6
   replace G1:=keep_ext hx6 G1
   have HA6:=Lib.hid (HOA.out.ext hx6)
   have HB6:=Lib.hid (HOB.out.ext hx6)
   clear HOA HOB g11 gf11
   obtain ⟨g1,gf1⟩:=cellsK G1
   go_wp2_with fail
   refine bodyPost_ret (v:=.agg #[.slice q1 m1 c1,.slice q2 m2 c2,.slice q3 m3 c3,.slice q4 m4 c4,.int .i64 p.lost]) (by simp [results,Tryz.results31,go_sem,g1,gf1]) rfl ⟨_,rfl,?_,.inr ⟨_,_,_,_,L,K,rfl,?_,?_,?_,?_,HPA.out.shape4,HPB.out.shape4⟩⟩
   ·((repeat (first | with_reducible (refine ext_set2 ?_ ?_);focus (first | exact Nat.le_refl _ | (dsimp only;omega) | (simp;omega)) | with_reducible refine ext_alloc2 ?_));with_reducible exact X6)
   ·refine HA6.out.keep fun b hb=>?_
    have:=HBB.out b (by simp [hb])
    (repeat rw [setCell_other (by omega)])
   ·refine HB6.out.keep fun b hb=>?_
    have:=HBB.out b (by simp [hb])
    (repeat rw [setCell_other (by omega)])
   ·exact HNN.out
   ·exact fun b hb=>by have:=HBB.out b hb;omega
 ·rw [Bool.not_eq_true] at hok
  rw [hok] at hPO
  rw [if_neg (by rw [hok];simp)]
  go_enter Tryz.func31,Tryz.ntmps31
  go_wp2_with fail
  refine (hPO _ (ext_alloc (ext_alloc (ext_refl _) _) _)).mono ?_;rintro e1 w1 ⟨rfl,hx1⟩
  have X1:=ext_trans (ext_alloc (ext_alloc (ext_refl w) _) _) hx1
  have G0:=keep_ext hx1 (hg_alloc (hg_new (b:=w.heap.size) rfl))
  have G1:=keep_ext hx1 (hg_new (b:=w.heap.size + 1) (by simp))
  obtain ⟨g0,gf0⟩:=cellsK G0
  obtain ⟨g1,gf1⟩:=cellsK G1
  have lw2:=heap_lt G1
  clear hPO hx1
  go_wp2_with fail
  refine bodyPost_ret (v:=nilPair) (by simp [results,Tryz.results31,go_sem,g1,gf1,nilPair]) rfl ⟨_,rfl,?_,.inl ⟨rfl,rfl⟩⟩
  ((repeat (first | with_reducible (refine ext_set2 ?_ ?_);focus (first | exact Nat.le_refl _ | (dsimp only;omega) | (simp;omega)) | with_reducible refine ext_alloc2 ?_));with_reducible exact X1)
end Go.Bu
namespace Go.Bu
open Go Go.RowKit Go.Plan Go.Proofs
theorem readN_eq {s t : Store} {n : Nat} (hl : last t.flash ((n : Int) + 1) = last s.flash ((n : Int) + 1)) (hd : t.disk.getD n 0 = s.disk.getD n 0) : readN t n = readN s n:=by
 unfold readN;rw [hl,hd]
def Keeps (g g' : Nat → Int) : Store → List Step → Prop
 | s,[]=>∀ n,n < 6 → readN s n = g' n
 | s,x :: xs=>(∀ n,n < 6 → readN s n = g n) ∧ (∀ n,n < 6 → readN (doStep s x true) n = g n) ∧ Keeps g g' (doStep s x false) xs
theorem Keeps.to {g g' : Nat → Int} : ∀ {xs : List Step} {s : Store},Keeps g g' s xs → ∀ (k : Nat) (t : Bool) (n : Nat),n < 6 →
  readN (if t = true ∧ k < xs.length then doStep (doAll s (xs.take k)) ((xs[k]?).getD ⟨0,0,0,0,rec0⟩) true else doAll s (xs.take k)) n = if xs.length ≤ k then g' n else g n
 | [],s,h,k,t,n,hn=>by
  simp only [List.length_nil,Nat.not_lt_zero,and_false,if_false,List.take_nil]
  rw [if_pos (Nat.zero_le _)];exact h n hn
 | x :: xs,s,h,0,t,n,hn=>by
  rw [if_neg (show ¬ (x :: xs).length ≤ 0 by simp)]
  cases t
  ·exact h.1 n hn
  ·exact h.2.1 n hn
 | x :: xs,s,h,k + 1,t,n,hn=>by
  have:=Keeps.to h.2.2 k t n hn
  simp only [List.length_cons,Nat.succ_lt_succ_iff,List.take_succ_cons,List.getElem?_cons_succ,Nat.add_le_add_iff_right]
  exact this
theorem Keeps.toSteps {g g' : Nat → Int} {xs : List Step} {s : Store} (h : Keeps g g' s xs) (cut : Int) (t : Bool) (n : Nat) (hn : n < 6) : readN (toSteps s xs cut t) n = if xs.length ≤ cut.toNat then g' n else g n:=by
 unfold Bu.toSteps
 have:=h.to cut.toNat t n hn
 by_cases hc : 0 ≤ cut
 ·by_cases hl : cut.toNat < xs.length
  ·have e : decide (cut < (xs.length : Int)) = true:=decide_eq_true (by omega)
   rw [e,decide_eq_true hc]
   cases t
   ·rw [if_neg (by simp)] at this ⊢;exact this
   ·rw [if_pos ⟨rfl,hl⟩] at this
    rw [if_pos (show (true && true && true) = true from rfl)];exact this
  ·have e : decide (cut < (xs.length : Int)) = false:=decide_eq_false (by omega)
   rw [e,if_neg (by simp)]
   rw [if_neg (fun h=>hl h.2)] at this;exact this
 ·have h0:=h.to 0 false n hn
  rw [decide_eq_false hc,if_neg (by simp),show cut.toNat = 0 by omega]
  rw [if_neg (by simp)] at h0
  exact h0
theorem keeps_room {f : List Block} {g g' : Nat → Int} (rest : List Step) : ∀ (ds : List Step),(∀ x ∈ ds,x.kind = 1 ∧ (1 ≤ x.addr ∧ x.addr ≤ 6) ∧ (0 ≤ x.val ∧ x.val ≤ 9) ∧ (last f x.addr).kind = 1 ∧ 0 < (last f x.addr).seq ∧ (last f x.addr).val = x.val) →
  ∀ (T : Int → Prop) (s : Store),s.flash = f → SOk s → (∀ n,n < 6 → readN s n = g n) → (∀ a,1 ≤ a → T a → s.disk.getD (a - 1).toNat 0 = (last f a).val) →
   (∀ s' : Store,s'.flash = f → SOk s' → (∀ n,n < 6 → readN s' n = g n) → (∀ a,1 ≤ a → (T a ∨ ∃ x ∈ ds,x.addr = a) → s'.disk.getD (a - 1).toNat 0 = (last f a).val) → Keeps g g' s' rest) → Keeps g g' s (ds ++ rest)
 | [],_,T,s,hs,h,hg,ht,hk=>hk s hs h hg fun a ha hT=>ht a ha (hT.elim id fun ⟨x,hx,_⟩=>absurd hx List.not_mem_nil)
 | x :: ds,hx,T,s,hs,h,hg,ht,hk=>by
  obtain ⟨h1,ha,hv,hl,h0,hlv⟩:=hx x (by simp)
  have hl':=hl
  rw [← hs] at hl'
  obtain ⟨e1,e2,h2⟩:=safe_tell h h1 ha hv hl'
  have hlen:=h.len
  have hd : ∀ k : Nat,k < 6 → (s.disk.set (x.addr - 1).toNat x.val).getD k 0 = if (x.addr - 1).toNat = k then x.val else s.disk.getD k 0:=fun k hk=>by
   rw [List.getD_eq_getElem?_getD,List.getElem?_set]
   split
   ·rw [if_pos (by omega)];rfl
   ·rw [List.getD_eq_getElem?_getD]
  have hg1 : ∀ n,n < 6 → readN (doStep s x false) n = g n:=fun n hn=>by
   rw [e2,← hg n hn]
   unfold readN
   dsimp only
   rw [hd n hn,hs]
   by_cases hn1 : (x.addr - 1).toNat = n
   ·rw [show ((n : Int) + 1) = x.addr by omega,if_pos h0,if_pos h0]
   ·rw [if_neg hn1]
  refine ⟨hg,by rw [e1];exact hg,keeps_room rest ds (fun y hy=>hx y (by simp [hy])) (fun a=>T a ∨ a = x.addr) _ (by rw [e2];exact hs) h2 hg1 ?_ fun s' q1 q2 q3 q4=>hk s' q1 q2 q3 fun a ha hT=>q4 a ha ?_⟩
  ·rw [e2]
   intro a ha1 hT
   show (s.disk.set (x.addr - 1).toNat x.val).getD (a - 1).toNat 0 = _
   by_cases hax : a = x.addr
   ·subst hax
    rw [hd _ (by omega),if_pos rfl];exact hlv.symm
   ·have hT:=hT.resolve_right hax
    rw [← ht a ha1 hT,List.getD_eq_getElem?_getD,List.getD_eq_getElem?_getD,List.getElem?_set_ne (by omega)]
  ·rcases hT with h | ⟨y,hy,hya⟩
   ·exact .inl (.inl h)
   ·rcases List.mem_cons.1 hy with rfl | hy
    ·exact .inl (.inr hya.symm)
    ·exact .inr ⟨y,hy,hya⟩
theorem keeps_write {s : Store} (h : SOk s) {i : Nat} (ho : Openable s.flash i) {r : Rec} (hr : recOkB r = true) (hnew : ∀ n ∈ seqs s.flash,n < r.seq) {g : Nat → Int} (hg : ∀ n,n < 6 → readN s n = g n) :
  Keeps g (fun n=>if (n : Int) + 1 = r.addr then r.val else g n) s [⟨3,0,0,(i : Int),r⟩]:=by
 obtain ⟨b,hb,hc⟩:=ho.at_
 have e : ∀ t,doStep s ⟨3,0,0,(i : Int),r⟩ t = ⟨writeF s.flash i r t,s.disk⟩:=fun t=>by
  unfold doStep;dsimp only;rw [if_neg (by decide),if_neg (by decide),if_pos rfl,Int.toNat_natCast]
 have hrr:=recOkB_iff.1 hr
 refine ⟨hg,fun n hn=>?_,fun n hn=>?_⟩
 ·rw [e,← hg n hn]
  exact readN_eq (last_write h.ord.ok hb hc hr hnew _).1 rfl
 ·rw [e]
  have hw:=(last_write h.ord.ok hb hc hr hnew ((n : Int) + 1)).2
  dsimp only
  split
  ·rename_i ha
   rw [if_pos ha] at hw
   unfold readN
   dsimp only
   rw [hw,if_pos (by omega)]
  ·rename_i ha
   rw [if_neg ha] at hw
   rw [← hg n hn]
   exact readN_eq hw rfl
theorem keeps_put {s : Store} (h : SOk s) (a v : Int) (hne : writeSteps s.flash 1 a v ≠ []) : Keeps (readN s) (fun n=>if (n : Int) + 1 = a then v else readN s n) s (writeSteps s.flash 1 a v):=by
 unfold writeSteps at hne ⊢
 split
 ·rename_i hc
  rw [Bool.and_eq_true] at hc
  obtain ⟨hc1,hr⟩:=hc
  have hrr:=recOkB_iff.1 hr
  have hnew : ∀ n ∈ seqs s.flash,n < (⟨1,next s.flash,a,v⟩ : Rec).seq:=by
   intro n hn
   obtain ⟨b,hb,p,hp,h1,rfl⟩:=mem_seqs.1 hn
   have:=maxSeq_ge h.ord.ok ⟨b,hb,p,hp,h1,rfl⟩
   show _ < next s.flash
   unfold next;omega
  clear hne
  unfold room at hc1 ⊢
  by_cases ho : (openB s.flash).2 = true
  ·rw [if_pos ho]
   have hop:=openB_yes h.ord ho
   have h0:=(openB_lt ho).1
   have:=keeps_write h hop hr hnew (g:=readN s) (fun _ _=>rfl)
   rw [Int.toNat_of_nonneg h0] at this
   exact this
  ·rw [if_neg ho] at hc1 ⊢
   have ho' : (openB s.flash).2 = false:=by simpa using ho
   have hno:=openB_no h.ord.ok ho'
   have hp : ∀ b ∈ s.flash,partB b.pages = false:=fun b hb=>part_no (hno b hb)
   have hw : (blockAt s.flash (old s.flash)).worn < 200:=by simpa using hc1
   have hol:=old_lt (f:=s.flash) (by have:=h.ord.ok.len;omega)
   have hb : s.flash[old s.flash]? = some s.flash[old s.flash]:=List.getElem?_eq_getElem hol
   rw [List.append_assoc]
   refine keeps_room (f:=s.flash) _ _ (fun x hx=>?_) (fun _=>False) s rfl h (fun _ _=>rfl) (fun _ _ h=>h.elim) fun s' hs h' hg ht=>?_
   ·obtain ⟨p,hp,hm⟩:=List.mem_flatMap.1 hx
    unfold roomOne at hm
    split at hm
    ·rename_i hcc
     obtain rfl:=List.mem_singleton.1 hm
     have hl:=hcc.1
     simp only [liveP,Bool.and_eq_true,beq_iff_eq,recEq_iff] at hl
     have hok:=recOkB_iff.1 (liveP_ok h.ord.ok (blockAt_mem hol) hp hl.1)
     have e : last s.flash (diskStepOf p).addr = p.r:=hl.2
     exact ⟨rfl,hok.2.2.1,hok.2.2.2,by rw [e];exact hcc.2,by rw [e];omega,by rw [e];rfl⟩
    ·cases hm
   ·obtain ⟨b',e,h1,h2,h3,h4⟩:=wipe_get (f:=s.flash) hol hw false
    have d2 : ∀ t,doStep s' ⟨2,0,0,(old s.flash : Int),rec0⟩ t = ⟨wipeF s'.flash (old s'.flash) t,s'.disk⟩:=fun t=>by rw [hs];show (⟨wipeF s'.flash ((old s.flash : Int)).toNat t,s'.disk⟩ : Store) = _;rw [Int.toNat_natCast,hs]
    have hp' : ∀ b ∈ s'.flash,partB b.pages = false:=by rw [hs];exact hp
    have hw' : (blockAt s'.flash (old s'.flash)).worn < 200:=by rw [hs];exact hw
    have k2:=h'.wipe hp' hw' false
    rw [← d2] at k2
    have hrd : ∀ t n,n < 6 → readN (doStep s' ⟨2,0,0,(old s.flash : Int),rec0⟩ t) n = readN s n:=by
     intro t n hn
     rw [← hg n hn,d2]
     rcases last_wipe h'.ord hp' hw' t ((n : Int) + 1) with ⟨hW,el⟩ | ⟨_,el⟩
     ·unfold readN
      dsimp only
      rw [el,if_neg (show ¬ 0 < rec0.seq by decide)]
      split
      ·rename_i h0
       obtain ⟨p,hpm,hp1,hpr⟩:=hW
       rw [hs] at hpm hpr h0 ⊢
       rcases last_spec h.ord.ok ((n : Int) + 1) with ⟨er,_⟩ | ⟨hWF,hadr,_,_⟩
       ·rw [er] at h0;exact absurd h0 (by decide)
       ·have hok:=recOkB_iff.1 (hWF.ok h.ord.ok)
        by_cases hk : (last s.flash ((n : Int) + 1)).kind = 1
        ·have:=ht ((n : Int) + 1) (by omega) (.inr ⟨diskStepOf p,List.mem_flatMap.2 ⟨p,hpm,?_⟩,?_⟩)
         ·rw [show ((n : Int) + 1 - 1).toNat = n by omega] at this
          exact this
         ·unfold roomOne
          rw [if_pos]
          ·simp
          ·refine ⟨?_,by rw [hpr];exact hk⟩
           simp only [liveP,Bool.and_eq_true,beq_iff_eq,recEq_iff]
           exact ⟨hp1,by rw [hpr,hadr]⟩
         ·show p.r.addr = _
          rw [hpr,hadr]
        ·have hd : s'.disk[n]? = some (s'.disk.getD n 0):=by
          rw [List.getD_eq_getElem?_getD,List.getElem?_eq_getElem (by have:=h'.len;omega)];rfl
         have:=(h'.disk n _ hd).told
         rw [hs] at this
         exact (this h0 (by omega)).symm
      ·rfl
     ·exact readN_eq el rfl
    refine ⟨hg,hrd true,?_⟩
    have hfl : (doStep s' ⟨2,0,0,(old s.flash : Int),rec0⟩ false).flash = s.flash.set (old s.flash) b':=by rw [d2,hs];exact e
    have hrf:=hrd false
    generalize doStep s' ⟨2,0,0,(old s.flash : Int),rec0⟩ false = s2 at *
    have hsub : ∀ n ∈ seqs s2.flash,n ∈ seqs s.flash:=by
     intro n hn
     obtain ⟨c,hcm,hcn⟩:=mem_seqs.1 hn
     rw [hfl] at hcm
     rcases mem_set hcm with hcm | rfl
     ·exact mem_seqs.2 ⟨c,hcm,hcn⟩
     ·obtain ⟨p,hp,q1,q2⟩:=hcn
      exact absurd ⟨p,hp,q1,rfl⟩ (h2 p.r)
    have hop : Openable s2.flash (old s.flash):=by
     rw [hfl]
     refine ⟨⟨b',by rw [List.getElem?_set_self hol],h4 rfl⟩,fun k c hk hkc=>?_⟩
     rw [List.getElem?_set_ne (Ne.symm hk)] at hkc
     exact hp c (List.mem_of_getElem? hkc)
    exact keeps_write k2 hop hr (fun n hn=>hnew n (hsub n hn)) hrf
 ·rename_i hc
  rw [if_neg hc] at hne
  exact absurd rfl hne
theorem toSteps_none (s : Store) (cut : Int) (t : Bool) : toSteps s [] cut t = s:=by
 unfold toSteps
 have : decide (cut < (([] : List Step).length : Int)) = true → (decide (0 ≤ cut)) = false:=fun h=>decide_eq_false (by have:=of_decide_eq_true h;simp at this;omega)
 rw [if_neg]
 ·rw [List.take_nil];rfl
 ·simp only [Bool.and_eq_true,not_and]
  intro h1 h2
  rw [this h2] at h1
  exact absurd h1.2 (by simp)
theorem writeSteps_len (f : List Block) (h : ∀ b ∈ f,b.pages.length ≤ 4) (k a v : Int) : (writeSteps f k a v).length ≤ 6:=by
 have hr : ∀ ps : List Page,(roomSteps f ps).length ≤ ps.length:=by
  intro ps
  induction ps with
  | nil=>exact Nat.le_refl _
  | cons p ps ih =>
   unfold roomSteps at ih ⊢
   rw [List.flatMap_cons,List.length_append,List.length_cons]
   have : (roomOne f p).length ≤ 1:=by unfold roomOne;split <;> simp
   omega
 have hb : (blockAt f (old f)).pages.length ≤ 4:=by
  unfold blockAt
  cases hf : f[old f]? with
  | none=>simp
  | some b=>exact h b (List.mem_of_getElem? hf)
 have:=hr (blockAt f (old f)).pages
 unfold writeSteps room
 by_cases ho : (openB f).2 = true
 ·rw [if_pos ho];split <;> simp
 ·rw [if_neg ho]
  split
  ·simp only [List.length_append,List.length_cons,List.length_nil];omega
  ·simp
theorem read_put {s : Store} (h : SOk s) (a v cut : Int) (t : Bool) (n : Nat) (hn : n < 6) :
  readN (toSteps s (writeSteps s.flash 1 a v) cut t) n = if writeSteps s.flash 1 a v ≠ [] ∧ (writeSteps s.flash 1 a v).length ≤ cut.toNat then (if (n : Int) + 1 = a then v else readN s n) else readN s n:=by
 by_cases hne : writeSteps s.flash 1 a v = []
 ·rw [hne,toSteps_none,if_neg (by simp)]
 ·rw [(keeps_put h a v hne).toSteps cut t n hn]
  by_cases hl : (writeSteps s.flash 1 a v).length ≤ cut.toNat
  ·rw [if_pos hl,if_pos (show _ ≠ _ ∧ _ ≤ _ from ⟨hne,hl⟩)]
  ·rw [if_neg hl,if_neg (fun h=>hl h.2)]
end Go.Bu
namespace Go.Bu
open Go Go.RowKit Go.Plan Go.Proofs
variable {w : World} {v u f d g e : Value} {p q : Pair} {s t : Store} {l : Int}
theorem implPairPut_r (addr val cut : Int) (torn : Bool) (h : PairR w v p) (hc : -9223372036854775808 ≤ cut ∧ cut ≤ 9223372036854775807:=by omega) : Calls Tryz.prog 11 #[v,.int .i64 addr,.int .i64 val,.int .i64 cut,.bool torn] w (PairRet w (pairPutV p addr val cut torn)):=by
 obtain ⟨f,d,g,e,rfl,h1,h2,h3,h4⟩:=h
 exact (implPairPut_c f d g e p addr val cut torn w h1 h2 h3 h4 hc).mono fun _ _ h=>h.r
theorem specPairPut_r (addr val cut : Int) (torn : Bool) (h : PairR w v p) (hc : -9223372036854775808 ≤ cut ∧ cut ≤ 9223372036854775807:=by omega) : Calls Tryz.prog 13 #[v,.int .i64 addr,.int .i64 val,.int .i64 cut,.bool torn] w (PairRet w (pairPutV p addr val cut torn)):=by
 obtain ⟨f,d,g,e,rfl,h1,h2,h3,h4⟩:=h
 exact (specPairPut_c f d g e p addr val cut torn w h1 h2 h3 h4 hc).mono fun _ _ h=>h.r
theorem implPairMend_r (h : PairR w v p) : Calls Tryz.prog 31 #[v] w (PairRet w (mendV p)):=by
 obtain ⟨f,d,g,e,rfl,h1,h2,h3,h4⟩:=h
 exact (implPairMend_c f d g e p w h1 h2 h3 h4).mono fun _ _ h=>h.r
theorem specPairMend_r (h : PairR w v p) : Calls Tryz.prog 32 #[v] w (PairRet w (mendV p)):=by
 obtain ⟨f,d,g,e,rfl,h1,h2,h3,h4⟩:=h
 exact (specPairMend_c f d g e p w h1 h2 h3 h4).mono fun _ _ h=>h.r
theorem implStepsPut_r (addr val : Int) (h : StoreR w v s) : Calls Tryz.prog 15 #[v,.int .i64 addr,.int .i64 val] w (RetS w (putSteps2 s addr val)):=by
 obtain ⟨f,d,rfl,h1,h2⟩:=h
 exact implStepsPut_c f d s addr val w h1 h2
theorem pairPut_of (hok : pairOkB p = true) {cut : Int} (hc : 0 ≤ cut) (addr val : Int) (torn : Bool) : pairPutV p addr val cut torn = putV p addr val cut torn:=by unfold pairPutV;rw [if_pos ⟨hok,hc⟩]
theorem toSteps_zero (s : Store) (xs : List Step) : toSteps s xs 0 false = s:=by
 unfold toSteps;rw [if_neg (by simp)];rfl
theorem put_zero (hok : pairOkB p = true) (addr val : Int) : pairPutV p addr val 0 false = p:=by
 rw [pairPut_of hok (Int.le_refl _)]
 obtain ⟨A,B,l⟩:=p
 unfold putV
 dsimp only
 rw [toSteps_zero]
 split
 ·rename_i h
  have : (listA ⟨A,B,l⟩ addr val).length = 0:=by omega
  rw [this]
  exact congrArg (Pair.mk A · l) (toSteps_zero B _)
 ·rfl
theorem put_out (hok : pairOkB p = true) : pairPutV p 7 1 99 true = p:=by
 have hw : ∀ f,writeSteps f 1 7 1 = []:=fun f=>by
  unfold writeSteps;rw [if_neg];rw [Bool.and_eq_true];rintro ⟨_,h⟩
  have:=(recOkB_iff.1 h).2.2.1;dsimp only at this;omega
 rw [pairPut_of hok (by decide)]
 obtain ⟨A,B,l⟩:=p
 have hA : listA ⟨A,B,l⟩ 7 1 = []:=by unfold listA;split;rfl;exact hw _
 have hB : listB ⟨A,B,l⟩ 7 1 = []:=by unfold listB;split;rfl;exact hw _
 unfold putV
 rw [hA,hB,toSteps_none,toSteps_none]
 dsimp only
 split <;> rfl
theorem put_low (addr val : Int) {cut : Int} (hc : cut < 0) (torn : Bool) : pairPutV p addr val cut torn = pair0:=by unfold pairPutV;rw [if_neg (by omega)]
theorem nil_pair (w : World) : PairR w (.agg #[.slice none 0 0,.slice none 0 0,.slice none 0 0,.slice none 0 0,.int .i64 0]) pair0:=(show PairO 0 w nilPair pair0 from .inl ⟨rfl,rfl⟩).r
end Go.Bu
namespace Go.Bu
open Go Go.RowKit Go.Plan Go.Proofs
theorem allS_at (s : Store) (n : Nat) (hn : n < 6) : (allS s)[n]? = some (readN s n):=by unfold allS;simp [hn]
theorem allS_put {s : Store} (h : storeOkB s = true) {k : Nat} (hk : k < 6) (v cut : Int) (t : Bool) :
  allS (toSteps s (writeSteps s.flash 1 ((k : Int) + 1) v) cut t) = if writeSteps s.flash 1 ((k : Int) + 1) v ≠ [] ∧ (writeSteps s.flash 1 ((k : Int) + 1) v).length ≤ cut.toNat then (allS s).set k v else allS s:=by
 have hr:=fun n hn=>read_put (storeOk_iff.1 h) ((k : Int) + 1) v cut t n hn
 apply List.ext_getElem?
 intro n
 by_cases hn : n < 6
 ·rw [allS_at _ _ hn,hr n hn]
  split
  ·rw [List.getElem?_set]
   by_cases hkn : k = n
   ·subst hkn;rw [if_pos rfl,if_pos rfl,if_pos (by rw [allS_len];exact hk)]
   ·rw [if_neg (by omega),if_neg hkn,allS_at _ _ hn]
  ·rw [allS_at _ _ hn]
 ·rw [List.getElem?_eq_none (by rw [allS_len];omega),List.getElem?_eq_none (by split <;> simp [allS_len] <;> omega)]
theorem put_lost (p : Pair) (addr val cut : Int) (torn : Bool) : (putV p addr val cut torn).lost = p.lost:=rfl
theorem cut_all {p : Pair} (hok : pairOkB p = true) {k : Nat} (hk : k < 6) (val cut : Int) (torn : Bool) (hne : pairAllV p ≠ pairAllV (putV p ((k : Int) + 1) val cut torn)) : (pairAllV p).set k val = pairAllV (putV p ((k : Int) + 1) val cut torn):=by
 have hko:=pOk_put hok ((k : Int) + 1) val cut torn
 obtain ⟨_,hA,hB⟩:=pOk_iff.1 hok
 unfold pairAllV at hne ⊢
 rw [if_pos hko,if_pos hok,put_lost] at hne ⊢
 by_cases h1 : p.lost = 1
 ·rw [if_pos h1,if_pos h1] at hne ⊢
  unfold putV at hne ⊢
  dsimp only at hne ⊢
  split at hne
  ·rename_i hl
   rw [if_pos hl]
   unfold listB at hne ⊢
   rw [if_neg (by omega),allS_put hB hk] at hne ⊢
   split at hne
   ·rename_i hc;rw [if_pos hc]
   ·exact absurd rfl hne
  ·exact absurd rfl hne
 ·rw [if_neg h1,if_neg h1] at hne ⊢
  unfold putV listA at hne ⊢
  dsimp only at hne ⊢
  rw [if_neg h1,allS_put hA hk] at hne ⊢
  split at hne
  ·rename_i hc;rw [if_pos hc]
  ·exact absurd rfl hne
theorem pages4 {s : Store} (h : storeOkB s = true) : ∀ b ∈ s.flash,b.pages.length ≤ 4:=fun b hb=>by have:=(storeOk_P h).shape4.pages b hb;omega
theorem full_A {p : Pair} (hok : pairOkB p = true) {k : Nat} (hk : k < 6) (val : Int) (hne : putSteps2 p.A ((k : Int) + 1) val ≠ []) : allS (putV p ((k : Int) + 1) val 99 false).A = if p.lost = 1 then allS p.A else (allS p.A).set k val:=by
 obtain ⟨_,hA,hB⟩:=pOk_iff.1 hok
 unfold putSteps2 at hne
 rw [if_pos hA] at hne
 unfold putV listA
 dsimp only
 by_cases h1 : p.lost = 1
 ·rw [if_pos h1,if_pos h1,toSteps_none]
 ·rw [if_neg h1,if_neg h1,allS_put hA hk,if_pos]
  have:=writeSteps_len p.A.flash (pages4 hA) 1 ((k : Int) + 1) val
  exact ⟨hne,by omega⟩
theorem full_B {p : Pair} (hok : pairOkB p = true) {k : Nat} (hk : k < 6) (val : Int) (hne : putSteps2 p.B ((k : Int) + 1) val ≠ []) : allS (putV p ((k : Int) + 1) val 99 false).B = if p.lost = 2 then allS p.B else (allS p.B).set k val:=by
 obtain ⟨_,hA,hB⟩:=pOk_iff.1 hok
 unfold putSteps2 at hne
 rw [if_pos hB] at hne
 have hlA : (listA p ((k : Int) + 1) val).length ≤ 6:=by
  unfold listA;split
  ·simp
  ·exact writeSteps_len p.A.flash (pages4 hA) 1 _ _
 unfold putV
 dsimp only
 rw [if_pos (by omega)]
 unfold listB
 by_cases h1 : p.lost = 2
 ·rw [if_pos h1,if_pos h1,toSteps_none]
 ·rw [if_neg h1,if_neg h1,allS_put hB hk,if_pos]
  have:=writeSteps_len p.B.flash (pages4 hB) 1 ((k : Int) + 1) val
  exact ⟨hne,by omega⟩
def IntsNew (w : World) (xs : List Int) (e : Ending) (w' : World) : Prop:=∃ B T o cap,e = .returned (.slice (some ⟨B,o,none⟩) xs.length (xs.length + cap)) ∧ Ext w w' ∧ w.heap.size ≤ B ∧ OwnAt 1 intC T w' B o xs
theorem IntsOut.new {w w' : World} {v : Value} {xs : List Int} (h : IntsOut w.heap.size w' v xs) (hx : Ext w w') (hn : xs ≠ []) : IntsNew w xs (.returned v) w':=by
 rcases h with ⟨_,h⟩ | ⟨B,hB,T,o,cap,rfl,ha⟩
 ·exact absurd h hn
 ·exact ⟨B,T,o,cap,rfl,hx,hB,ha⟩
theorem pairAll_ne {p : Pair} (h : pairOkB p = true) : pairAllV p ≠ []:=by
 intro e
 have : (pairAllV p).length = 6:=by unfold pairAllV;rw [if_pos h];split <;> exact allS_len _
 rw [e] at this;simp at this
theorem implPairAll_n {w : World} {v : Value} {p : Pair} (h : PairR w v p) (hok : pairOkB p = true) : Calls Tryz.prog 33 #[v] w (IntsNew w (pairAllV p)):=by
 obtain ⟨f,d,g,e,rfl,h1,h2,h3,h4⟩:=h
 exact (implPairAll_c f d g e p w h1 h2 h3 h4).mono fun _ _ ⟨v,h1,h2,h3⟩=>by subst h1;exact h3.new h2 (pairAll_ne hok)
theorem implStoreAll_n {w : World} {v : Value} {s : Store} (h : StoreR w v s) (hok : storeOkB s = true) : Calls Tryz.prog 18 #[v] w (IntsNew w (allS s)):=by
 obtain ⟨f,d,rfl,h1,hs⟩:=h
 have:=implStoreAll_c f d s w h1 hs.2.1 hs.2.2
 rw [allV_ok hok] at this
 exact this.mono fun _ _ ⟨v,h1,h2,h3⟩=>by
  subst h1
  exact h3.new h2 fun e=>by have:=allS_len s;rw [e] at this;simp at this
theorem OwnAt.ints {w : World} {B o cap : Nat} {T : TypeId} {xs : List Int} (h : OwnAt 1 intC T w B o xs) : Ints (Old w) w (.slice (some ⟨B,o,none⟩) xs.length (xs.length + cap)) xs:=h.of h.lt _
theorem OwnAt.put {w : World} {B o : Nat} {T : TypeId} {xs : List Int} (h : OwnAt 1 intC T w B o xs) {k : Nat} (hk : k < xs.length) (v : Int) : OwnAt 1 intC T (w.setCell ⟨B,o + k,none⟩ (.int .i64 v)) B o (xs.set k v):=by
 have hS:=OwnAt.set (n:=1) (enc:=intC) (fun _=>rfl) (by omega) h (k:=k) hk v
 simp only [Nat.mul_one] at hS
 exact hS
theorem set_chg (w : World) (B k : Nat) (u : Value) : Chg [B] w (w.setCell ⟨B,k,none⟩ u):=(Chg.refl _ _).set (p:=⟨B,k,none⟩) (.inl (by simp)) _
end Go.Bu
namespace Go.Bu
open Go Go.RowKit Go.Plan Go.Proofs
theorem pairLoseV_lost {p : Pair} {which : Int} (h : pairOkB p = true) (h1 : 1 ≤ which) (h2 : which ≤ 2) (h0 : 0 < p.lost) : pairLoseV p which = p:=by
 unfold pairLoseV
 rw [if_pos ⟨h,h1,h2⟩,if_neg (by omega)]
theorem pairLoseV_whole {p : Pair} {which : Int} (h : pairOkB p = true) (h1 : 1 ≤ which) (h2 : which ≤ 2) (h0 : p.lost = 0) : pairLoseV p which = if which = 1 then ⟨newStore,p.B,1⟩ else ⟨p.A,newStore,2⟩:=by
 unfold pairLoseV
 rw [if_pos ⟨h,h1,h2⟩,if_pos h0]
theorem pairLoseV_is {p : Pair} {which : Int} (h : pairOkB p = true) (h1 : 1 ≤ which) (h2 : which ≤ 2) (h0 : p.lost = 0) : (pairLoseV p which).lost = which:=by
 rw [pairLoseV_whole h h1 h2 h0];split <;> dsimp only <;> omega
theorem pairLoseV_all {p : Pair} {which : Int} (h : pairOkB p = true) (h1 : 1 ≤ which) (h2 : which ≤ 2) (h0 : p.lost = 0) (hs : allV p.A = allV p.B) : pairAllV (pairLoseV p which) = pairAllV p:=by
 have hk:=pOk_lose h ⟨h1,h2⟩
 obtain ⟨_,hA,hB⟩:=pairOk_iff.1 h
 rw [allV_ok hA,allV_ok hB] at hs
 unfold pairAllV
 rw [if_pos hk,if_pos h,pairLoseV_is h h1 h2 h0,pairLoseV_whole h h1 h2 h0,if_neg (show ¬ p.lost = 1 by omega)]
 by_cases hw : which = 1
 ·rw [if_pos hw,if_pos hw];exact hs.symm
 ·rw [if_neg hw,if_neg hw]
end Go.Bu