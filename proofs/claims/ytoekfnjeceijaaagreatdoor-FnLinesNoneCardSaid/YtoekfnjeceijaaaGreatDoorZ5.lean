/- The program's lastRecords: the last record of each address, in a map. The program's StoreOk and PairOk. Arguments that hold blocks, opened: stores and pairs. New stores and pairs of both sides. All values of a store, and of a pair: the program's StoreAll, PairAll. All values of a store, and of a pair: the reference's StoreAll, PairAll. Regions whose operations come in whatever order, a few of which make memory: each order for itself, what only yields first. How the program finds the next number, the open block and the eldest one: the reference's answers. What happens to a store, as the reference does it in place: l21All, l21Do. What records a flash has, the last one of each address, and that order is kept by writing and wiping: plain. A store stays a store while steps of the reference's lists are done, wherever they end: plain. A store stays a store, wherever the steps of an event end: plain. The program's FindNext, FindLast, FindLive, FindOpen and FindOld. The program's FindOpen and FindOld. -/import Derived.Test.YtoekfnjeceijaaaGreatDoorZ4
import Derived.Maps.OwnIn
import Derived.Test.YtoekfnjeceijaaaGreatDoorZ2
import Derived.Test.YtoekfnjeceijaaaGreatDoorZ3
import Derived.Test.YtoekfnjeceijaaaGreatDoorZ1
set_option maxHeartbeats 2000000
set_option linter.unusedVariables false
set_option linter.unusedSimpArgs false
namespace Go.Bu
open Go Go.RowKit Go.Plan Go.Proofs Go.Shelf
attribute [local go_sem] Oper.semAt_some
def lastL (xs : List Spot) (a : Int) : Rec:=xs.foldl (fun r x=>lastStep a r x.2.2) rec0
theorem lastL_snoc (xs : List Spot) (x : Spot) (a : Int) : lastL (xs ++ [x]) a = lastStep a (lastL xs a) x.2.2:=by unfold lastL;rw [List.foldl_append];rfl
theorem spB_pages (i : Nat) (ps : List Page) : (spB i ps ps.length).map (·.2.2) = ps:=by
 unfold spB
 rw [List.map_map]
 apply List.ext_getElem
 ·simp
 ·intro k h1 h2
  simp [List.getElem?_eq_getElem h2]
theorem spF_pages (f : List Block) : ∀ i,i ≤ f.length → (spF f i).map (·.2.2) = (f.take i).flatMap (·.pages):=by
 intro i
 induction i with
 | zero=>intro _;rfl
 | succ i ih=>intro h;rw [spF_succ f i (by omega),List.map_append,ih (by omega),spB_pages,← take_snoc f i (by omega),List.flatMap_append];simp
theorem lastL_all (f : List Block) (a : Int) : lastL (spF f f.length) a = last f a:=by
 have h:=spF_pages f f.length (Nat.le_refl _)
 rw [List.take_length] at h
 have h1 : lastL (spF f f.length) a = ((spF f f.length).map (·.2.2)).foldl (lastStep a) rec0:=by unfold lastL;rw [List.foldl_map]
 rw [h1,h,List.foldl_flatMap];rfl
theorem lastL_zero (xs : List Spot) (a : Int) : lastL xs a = rec0 ∨ 0 < (lastL xs a).seq:=by
 have : ∀ (xs : List Spot) (r : Rec),(r = rec0 ∨ 0 < r.seq) → (xs.foldl (fun r x=>lastStep a r x.2.2) r = rec0 ∨ 0 < (xs.foldl (fun r x=>lastStep a r x.2.2) r).seq):=by
  intro xs
  induction xs with
  | nil=>exact fun r h=>h
  | cons x xs ih =>
   intro r h
   rw [List.foldl_cons]
   refine ih _ ?_
   unfold lastStep
   split
   ·rename_i hc
    rcases h with rfl | h
    ·have : (0 : Int) < x.2.2.r.seq:=hc.2.2
     exact .inr this
    ·exact .inr (by omega)
   ·exact h
 exact this xs rec0 (.inl rfl)
def lastG (l : Int → Rec) (a : Int) : Option Value:=if 0 < (l a).seq then some (recA (l a)) else none
theorem lastG_get {xs : List Spot} (a : Int) : (lastG (lastL xs) a).getD (recA rec0) = recA (lastL xs a):=by
 unfold lastG
 rcases lastL_zero xs a with h | h
 ·rw [h];rfl
 ·rw [if_pos h];rfl
theorem lastG_none {xs : List Spot} {x : Spot} (h : ¬ (x.2.2.state = 1 ∧ (lastL xs x.2.2.r.addr).seq < x.2.2.r.seq)) : lastG (lastL (xs ++ [x])) = lastG (lastL xs):=by
 funext a
 have : lastL (xs ++ [x]) a = lastL xs a:=by
  rw [lastL_snoc];unfold lastStep
  rw [if_neg]
  rintro ⟨h1,h2,h3⟩
  exact h ⟨h1,by rw [h2];exact h3⟩
 unfold lastG;rw [this]
theorem lastG_some {xs : List Spot} {x : Spot} (h1 : x.2.2.state = 1) (h2 : (lastL xs x.2.2.r.addr).seq < x.2.2.r.seq) : (fun z=>if z = x.2.2.r.addr then some (recA x.2.2.r) else lastG (lastL xs) z) = lastG (lastL (xs ++ [x])):=by
 funext a
 by_cases ha : a = x.2.2.r.addr
 ·subst ha
  have h0 : 0 < x.2.2.r.seq:=by
   rcases lastL_zero xs x.2.2.r.addr with h | h
   ·rw [h] at h2;exact h2
   ·omega
  have e : lastStep x.2.2.r.addr (lastL xs x.2.2.r.addr) x.2.2 = x.2.2.r:=by unfold lastStep;exact if_pos ⟨h1,rfl,h2⟩
  rw [if_pos rfl];unfold lastG;rw [lastL_snoc,e,if_pos h0]
 ·have e : lastStep a (lastL xs a) x.2.2 = lastL xs a:=by unfold lastStep;exact if_neg (fun h=>ha h.2.1.symm)
  rw [if_neg ha];unfold lastG;rw [lastL_snoc,e]
theorem pageOk_addr {p : Page} (h : pageOkB p = true) : 0 ≤ p.r.addr ∧ p.r.addr ≤ 6:=by
 unfold pageOkB at h
 by_cases hs : p.state = 1
 ·rw [if_pos hs] at h
  simp only [recOkB,Bool.and_eq_true,inB_iff] at h
  omega
 ·rw [if_neg hs] at h
  simp only [recZ,Bool.and_eq_true,beq_iff_eq] at h
  omega
theorem Chg.of_grown {w w' : World} {b : Nat} (h : w.grownBy w' (some b)) : Chg [b] w w':=⟨h.os,h.tape,h.output,h.size,fun k hk hn=>h.block k hk fun e=>by cases e;exact hn (by simp)⟩
theorem wpListIn_mapUpd {F : Fence} {n : Nat} {P : Program} {k e t : TypeId} {w : World} {b m : Nat} {g : Int → Option Value} {ops : Array Oper} {rest : List Oper} {o : Oper} {a : Act} {Q : Exit → Act → World → Prop} (hg : o.guard = none) (mm x v : Operand) (hop : o.op = Op.mapUpdate t mm x v)
  (hk : P.underlying k = some (.int .i64)) (ht : P.underlying t = some (.map k e)) (hm : a.eval mm = .map (some b)) (h : MapOf P k w b m g) (hn : m < maxLen) {y : Int} (hx : a.eval x = .int .i64 y) (hy : (Lit.int .i64 y).wf = true) {val : Value} (hv : a.eval v = val)
  (hK : ∀ w',MapOf P k w' b (m + 1) (fun z=>if z = y then some val else g z) → w.grownBy w' (some b) → wpListIn F n P ops Q rest (a.put o.dst undef) w') : wpListIn F n P ops Q (o :: rest) a w:=by
 refine wpListIn_plain hg fun K' hK'=>?_
 obtain ⟨w',hrun,r1,r2⟩:=h.update hk ht hn hy val
 unfold Oper.wpIn
 refine ⟨?_,?_⟩
 ·simp [Oper.about,hop]
 ·rw [Oper.semAt_plain F _ _ (by rw [hop];intro c h;cases h)]
  simp [execOp,hop,hm,hx,hv,hrun,Result.andThen,Oper.uponIn]
  exact hK' _ _ (hK w' r1 r2)
def LastΦ (w : World) (l : Int → Rec) (e : Ending) (w' : World) : Prop:=∃ b n,e = .returned (.map (some b)) ∧ Ext w w' ∧ w.heap.size ≤ b ∧ MapOf Tryz.prog 3 w' b n (lastG l)
set_option maxRecDepth 20000 in
set_option maxHeartbeats 4000000 in
theorem lastRecords_c (v : Value) (f : List Block) (w : World) (h : Flash (Old w) w v f) (h4 : f.length = 4) (hp : ∀ b ∈ f,b.pages.length ≤ 1048576) (hs : ∀ b ∈ f,∀ p ∈ b.pages,pageOkB p = true) :
  Calls Tryz.prog 45 #[v] w (LastΦ w (last f)):=by
 obtain ⟨a,cap,rfl⟩:=h.form
 rw [h4] at h ⊢
 have H4:=Lib.hid h4
 have HP:=Lib.hid hp
 have HS:=Lib.hid hs
 clear hp hs h4
 have hmm:=@run_makeMap Tryz.prog
 have hfld : ∀ (w : World) (a b c d : Int),(Instr.field 78 (.agg #[.int .i64 a,.int .i64 b,.int .i64 c,.int .i64 d]) 1).run Tryz.prog w = .ok (.int .i64 b) w:=fun _ _ _ _ _=>by kernel_rfl
 refine (callsIn_wide (n:=9)).1 ?_
 refine callsIn_of_wp_marks Tryz.func45 rfl trivial ?_ rfl
 simp only [Tryz.ntmps45,List.size_toArray,List.length_cons,List.length_nil,Nat.reduceAdd,Nat.reduceSub,Array.replicate_succ,Array.replicate_zero,List.push_toArray,List.append_toArray,List.nil_append,List.cons_append]
 gi_wp2_with (refine ⟨trivial,?_⟩;gi_at_call 64;refine (callsIn_wide.2 (eachPage_c _ _ _ _)).mono ?_;rintro e w' ⟨rfl,rfl⟩)
 clear hmm
 have XW : Ext w (((w.alloc (.map #[] 0)).alloc (.cells #[.map (some w.heap.size)] 75)).alloc (.cells #[.slice a 4 cap] 39)):=ext_alloc (ext_alloc (ext_alloc (ext_refl _) _) _) _
 obtain ⟨W0,hW0⟩ : ∃ W0,((w.alloc (.map #[] 0)).alloc (.cells #[.map (some w.heap.size)] 75)).alloc (.cells #[.slice a 4 cap] 39) = W0:=⟨_,rfl⟩
 have G0 : MapOf Tryz.prog 3 W0 w.heap.size 0 (fun _=>none):=by rw [← hW0];exact ((MapOf.made _ _ w).alloc2).alloc2
 have G1 : W0.heap[w.heap.size + 1]? = some (.cells #[.map (some w.heap.size)] 75 (0,0)):=by rw [← hW0];exact hg_alloc (hg_new (by simp))
 have G2 : W0.heap[w.heap.size + 2]? = some (.cells #[.slice a 4 cap] 39 (0,0)):=by rw [← hW0];exact hg_new (by simp)
 have hs0 : W0.heap.size = w.heap.size + 3:=by rw [← hW0];simp
 rw [hW0] at XW ⊢
 have HD : ∀ i,(i < w.heap.size ∨ i = w.heap.size + 2) → i < W0.heap.size:=fun i hi=>by omega
 have HS0:=Lib.hid hs0
 clear hs0 hW0
 have hN : (spF f f.length).length ≤ 4194304:=by
  have : ∀ i,i ≤ f.length → (spF f i).length ≤ i * 1048576:=by
   intro i;induction i with
   | zero=>intro _;simp [spF]
   | succ i ih=>intro hi;rw [spF_len_succ f i (by omega)];have:=ih (by omega);have:=HP.out f[i] (List.getElem_mem _);omega
  have:=this f.length (Nat.le_refl _);have:=H4.out;omega
 have HN:=Lib.hid hN
 clear hN
 refine wpIn_rangeFunc_ownH rfl (by omega) (gf:=86) (lb:=#[.pointer (some ⟨w.heap.size + 2,0,none⟩)]) rfl trivial (enters_of Tryz.func86 (by kernel_rfl) rfl)
  (each_stops 8 (by omega) (fun i=>i < w.heap.size ∨ i = w.heap.size + 2) (w.heap.size + 2) (.slice a 4 cap) f W0 (cell_block G2 0) (.inr rfl) HD (Sl.same blockE_kept h (same_old XW) (fun b hb=>.inl hb)) (by rw [H4.out];omega) HP.out)
  (fun h k=>h.trans k) (fun W l o o' hl _ _ _=>KpD.put HD W l o o' hl) (Below.refl _ _) (fun _=>rfl)
  (fun pre W=>(∃ n,n ≤ pre.length ∧ MapOf Tryz.prog 3 W w.heap.size n (lastG (lastL (pre.map (·.1))))) ∧ W.heap[w.heap.size + 1]? = some (.cells #[.map (some w.heap.size)] 75 (0,0)) ∧ Ext w W ∧ W0.heap.size ≤ W.heap.size)
  (fun _ _ _=>False) ?hI (fun _ _ _ _ _ h _ _=>h.elim) ?h0
  (fun x a' W=>∃ By,W0.heap.size ≤ By ∧ W.heap[By]? = some (.cells (pageC x.1.2.2).toArray 102 (0,0)) ∧
   a' = { tmps:=#[.slice a 4 cap,undef,.map none,.pointer (some ⟨w.heap.size + 1,0,none⟩),undef,.pointer (some ⟨By,0,none⟩),.map (some w.heap.size),.slice a 4 cap,.func (.func 86) #[] #[.pointer (some ⟨w.heap.size + 2,0,none⟩)],.agg #[.int .i64 x.1.1,.int .i64 x.1.2.1],pageA x.1.2.2,undef,undef,undef,undef,undef,undef,undef,undef,undef,undef,undef,undef,undef,undef,undef,undef,undef,undef,undef,undef,undef,undef],defers:=[] })
  ?hAx ?assign ?body ?done ?stop
 case hI =>
  rintro s X Y row ⟨⟨n,hn,h1⟩,h2,h3,h4⟩ hg hr
  have hx:=grown_ext h3 (fun g hg'=>by have:=(hr g hg').1;have:=XW.size;omega) hg
  exact ⟨⟨n,hn,h1.kept hg fun e=>by have:=(hr _ e.symm).1;have:=HS0.out;omega⟩,cells_own h2 hg hr,hx,Nat.le_trans h4 hg.size⟩
 case h0 =>
  refine ⟨⟨0,Nat.le_refl _,?_⟩,G1,XW,Nat.le_refl _⟩
  have : lastG (lastL (([] : List (SpotIn f)).map (·.1))) = fun _=>none:=by funext z;rfl
  rw [this];exact G0
 case hAx =>
  rintro x a' s X Y row ⟨By,h2,h4,h5⟩ hg hr
  exact ⟨By,h2,cells_own h4 hg hr,h5⟩
 case stop=>rintro D c pre W _ _ h;exact h.elim
 case assign =>
  rintro l pre ⟨⟨i,j,p⟩,hin⟩ W K ⟨⟨n,hn,h1⟩,h2,h3,h4⟩ hK
  simp only [encS]
  gi_wp2
  have hx : Ext W (W.alloc (.cells (pageC p).toArray 102)):=ext_alloc (ext_refl _) _
  exact hK _ _ ((KeepsOthers.alloc _ _).from _) (KpD.of_below hx fun b hb=>Nat.lt_of_lt_of_le (HD b hb) h4) ⟨⟨n,hn,h1.ext hx⟩,keep_ext hx h2,ext_trans h3 hx,Nat.le_trans h4 hx.size⟩
   ⟨W.heap.size,h4,hg_new rfl,rfl⟩
 case done =>
  rintro D xs W hD hS ⟨⟨n,hn,h1⟩,h2,h3,h4⟩ hK
  obtain ⟨g3,gf3⟩:=cellsK h2
  gi_wp2
  refine ⟨by simp,.inl ⟨_,_,rfl,run_takeDeferred hK,?_⟩⟩
  refine ⟨_,results_tmp rfl _ _ _,w.heap.size,n,rfl,?_,Nat.le_refl _,?_⟩
  ·exact grown_ext h3 (fun g hg=>by cases hg;have:=HS0.out;omega) (grownBy_putObj' W D _)
  ·have hl : lastL (xs.map (·.1)) = last f:=by funext z;rw [hS];exact lastL_all f z
   rw [hl] at h1
   exact h1.kept (grownBy_putObj' W D _) (by have:=HS0.out;simp;omega)
 case body =>
  rintro l pre ⟨⟨i,j,p⟩,hin⟩ a' W hl ⟨r,hr⟩ ⟨⟨n,hn,h1⟩,h2,h3,h4⟩ ⟨By,hB2,g5,rfl⟩ hlt
  have hpo : pageOkB p = true:=by
   obtain ⟨b,hb,hp⟩:=hin
   exact HS.out b (List.mem_of_getElem? hb) p (List.mem_of_getElem? hp)
  have hsq:=pageOk_seq hpo
  have had:=pageOk_addr hpo
  have hwf:=i64_wf (x:=p.r.addr) (by omega) (by omega)
  have hn2 : n < maxLen:=by have:=HN.out;unfold maxLen;omega
  have HM : Hid (((pre ++ [⟨(i,j,p),hin⟩] : List (SpotIn f)).map (·.1)) = pre.map (·.1) ++ [(i,j,p)]):=Lib.hid (by rw [List.map_append];rfl)
  have hlk:=h1.lookup (t:=75) Tryz.underlying3 Tryz.underlying75 (z:=recA rec0) (by rfl) hwf false
  rw [lastG_get] at hlk
  simp only [Bool.false_eq_true,if_false] at hlk
  dsimp only [recA] at hlk
  have HNO:=fun h=>Lib.hid (lastG_none (xs:=pre.map (·.1)) (x:=(i,j,p)) h)
  have HYES:=fun h h'=>Lib.hid (lastG_some (xs:=pre.map (·.1)) (x:=(i,j,p)) h h')
  dsimp only at HNO HYES
  generalize lastL (pre.map (·.1)) = ll at *
  dsimp only at g5
  obtain ⟨q5,qf5⟩:=cellsK g5
  obtain ⟨q3,qf3⟩:=cellsK h2
  by_cases hst : p.state = 1
  ·by_cases hgt : (ll p.r.addr).seq < p.r.seq
   ·have HM2:=HYES hst hgt
    have H1:=Lib.hid h1
    clear HNO HYES h1
    gi_wp2_with (gi_at_mapUpdate;refine wpListIn_mapUpd rfl _ _ _ rfl Tryz.underlying3 Tryz.underlying75 rfl H1.out hn2 rfl hwf (val:=recA p.r) rfl (fun w5 hM5 hg5=>?_))
    have hC:=Chg.of_grown hg5
    rw [HM2.out,← HM.out] at hM5
    clear hlk
    gi_wp2
    exact ⟨KeepsFrom.of_chg hC (by have:=HS0.out;simp;omega),KpD.of_chg hC (fun b hb=>⟨Nat.lt_of_lt_of_le (HD b hb) h4,by simp;omega⟩),⟨n + 1,by simp;omega,hM5⟩,hC.keep h2 (by simp),Chg.ext h3 hC (by simp),Nat.le_trans h4 hC.size⟩
   ·have HM2:=HNO (fun h=>hgt h.2)
    have H1:=Lib.hid h1
    clear HNO HYES h1
    gi_wp2
    refine ⟨(KeepsOthers.refl _).from _,⟨Nat.le_refl _,fun _ _=>rfl⟩,⟨n,by simp;omega,?_⟩,h2,h3,h4⟩
    rw [HM.out,HM2.out];exact H1.out
  ·have HM2:=HNO (fun h=>hst h.1)
   have H1:=Lib.hid h1
   clear HNO HYES h1
   gi_wp2
   refine ⟨(KeepsOthers.refl _).from _,⟨Nat.le_refl _,fun _ _=>rfl⟩,⟨n,by simp;omega,?_⟩,h2,h3,h4⟩
   rw [HM.out,HM2.out];exact H1.out
end Go.Bu
namespace Go.Bu
open Go Go.RowKit Go.Plan Go.Proofs
theorem isDirty_c (r : Rec) (w : World) : Calls Tryz.prog 62 #[recA r] w (Ret w (.bool (r.kind == 1))):=by
 go_enter Tryz.func62,Tryz.ntmps62
 go_wp2
 go_ret
 exact ⟨rfl,by go_grown⟩
theorem last_ok {f : List Block} (h : FlashOk f) (a : Int) : last f a = rec0 ∨ (recOkB (last f a) = true ∧ (last f a).addr = a):=by
 have key : ∀ (fs : List Block),(∀ b ∈ fs,∀ p ∈ b.pages,pageOkB p = true) → ∀ r : Rec,(r = rec0 ∨ (recOkB r = true ∧ r.addr = a)) → (fs.foldl (fun r b=>lastP a r b.pages) r = rec0 ∨ (recOkB (fs.foldl (fun r b=>lastP a r b.pages) r) = true ∧ (fs.foldl (fun r b=>lastP a r b.pages) r).addr = a)):=by
  intro fs hp r hr
  refine foldl_inv (fun r b=>lastP a r b.pages) (fun r=>r = rec0 ∨ (recOkB r = true ∧ r.addr = a)) fs r hr fun s b hb hs=>?_
  refine foldl_inv (lastStep a) (fun r=>r = rec0 ∨ (recOkB r = true ∧ r.addr = a)) b.pages s hs fun s p hpp hs=>?_
  unfold lastStep
  split
  ·rename_i hc
   have:=hp b hb p hpp
   unfold pageOkB at this
   rw [if_pos hc.1] at this
   exact .inr ⟨this,hc.2.1⟩
  ·exact hs
 exact key f (fun b hb=>h.pg hb) rec0 (.inl rfl)
set_option maxRecDepth 20000 in
set_option maxHeartbeats 4000000 in
theorem implStoreOk_c (fv dv : Value) (s : Store) (w : World) (h : StoreV w fv dv s) (hp : ∀ b ∈ s.flash,b.pages.length ≤ 1048576) (hd : s.disk.length ≤ 1048576) :
  Calls Tryz.prog 44 #[.agg #[fv,dv]] w (Ret w (.bool (storeOkB s))):=by
 have hFO:=fun (w' : World) (hx : Ext w w')=>implFindOrder_c fv s.flash w' (h.1.ext hx) hp
 have hD:=h.2
 obtain ⟨fa,fcap,hfv⟩:=h.1.form
 obtain ⟨da,dcap,rfl⟩:=h.2.form
 by_cases h6 : s.disk.length = 6
 ·by_cases hok : orderB s.flash = true
  ·have hF:=flashOk_iff.1 (orderB_ok hok)
   have hLR:=fun (w' : World) (hx : Ext w w')=>lastRecords_c fv s.flash w' (h.1.ext hx) hF.len hp (fun b hb=>hF.pg hb)
   obtain ⟨A,hA⟩ : ∃ A,diskScan s.flash 0 (s.disk.drop 0) = A:=⟨_,rfl⟩
   have hs : storeOkB s = A:=by unfold storeOkB;rw [hok,h6,← hA,List.drop_zero];rfl
   have HL:=Lib.hid (last_ok hF)
   rw [hs]
   have HA:=Lib.hid hA
   rw [hok] at hFO
   rw [h6] at hD
   rw [h6]
   have H6:=Lib.hid h6
   subst hfv
   clear hs hA hok hF h6 hp hd
   go_enter Tryz.func44,Tryz.ntmps44
   go_wp2_with fail
   refine (hFO _ (ext_alloc (ext_refl _) _)).mono ?_;rintro e1 w1 ⟨rfl,hx1⟩
   have X1:=ext_trans (ext_alloc (ext_refl w) _) hx1
   have G1:=keep_ext hx1 (hg_new (b:=w.heap.size) rfl)
   obtain ⟨g1,gf1⟩:=cellsK G1
   have l1:=heap_lt G1
   clear hFO hx1
   go_wp2_with fail
   refine (hLR _ X1).mono ?_;rintro e2 w2 ⟨B,n,rfl,hx2,hB,hM⟩
   have X2:=ext_trans X1 hx2
   replace G1:=keep_ext hx2 G1
   clear g1 gf1 l1
   obtain ⟨g1,gf1⟩:=cellsK G1
   have HM:=Lib.hid hM
   clear hLR hx2 hM hB X1
   go_wp2_with fail
   go_loopw [25] (fun y wr=>∃ i : Nat,i ≤ 6 ∧ y = .int .i64 i ∧ Ext w2 wr ∧ Hid (diskScan s.flash i (s.disk.drop i) = A)) (fun y _=>6 - (intOf y).toNat)
   case atStart=>exact ⟨0,by omega,rfl,ext_refl _,HA⟩
   case round =>
    clear HA G1 g1 gf1
    obtain ⟨i,hi,rfl,hX,HR⟩:=hrel
    by_cases hlt : i < 6
    ·have hil : i < s.disk.length:=by have:=H6.out;omega
     obtain ⟨b,o,rfl,hb,c0⟩:=hD.at1 hil
     have hb' : b < w.heap.size:=hb
     obtain ⟨hc,hf⟩:=bcell (ext_trans X2 hX)
     rw [diskScan_drop _ _ _ hil] at HR
     have hM:=HM.out.ext hX
     have hlk:=hM.lookup (t:=75) Tryz.underlying3 Tryz.underlying75 (z:=recA rec0) (by rfl) (i64_wf (x:=(i : Int) + 1) (by omega) (by omega)) true
     simp only [if_true] at hlk
     have hlo:=HL.out ((i : Int) + 1)
     unfold lastG at hlk
     generalize last s.flash ((i : Int) + 1) = r at *
     generalize s.disk[i] = d at *
     have HLK:=Lib.hid hlk
     have hbd : badDisk r d = (!inB d 0 9 || (decide (0 < r.seq) && r.kind == 2 && r.val != d)):=rfl
     have HBD:=Lib.hid hbd
     have X3:=ext_trans X2 hX
     clear hlk hM hbd HL
     cases hin : inB d 0 9
     ·have hA : false = A:=by have h:=HR.out;rw [HBD.out,hin] at h;exact h
      subst hA
      clear HR HBD HLK hlo
      go_wp2_with (go_at_call 63;refine (valOk_c _ _).mono ?_;rintro e w' ⟨rfl,rfl⟩)
      go_ret
      exact ⟨rfl,X3⟩
     ·have hlk:=HLK.out
      clear HLK
      by_cases h0 : 0 < r.seq
      ·rw [if_pos h0] at hlk
       simp only [Option.getD_some,Option.isSome_some] at hlk
       dsimp only [recA] at hlk
       have hk : r.kind = 1 ∨ r.kind = 2:=by
        rcases hlo with h | ⟨h,_⟩
        ·rw [h] at h0;exact absurd h0 (by decide)
        ·have:=recOkB_iff.1 h;omega
       obtain ⟨kb,hkb⟩ : ∃ kb,(r.kind == 1) = kb:=⟨_,rfl⟩
       have hdc:=fun w'=>isDirty_c r w'
       rw [hkb] at hdc
       dsimp only [recA] at hdc
       have XA : Ext w2 (wr.alloc (.cells #[.int .i64 r.kind,.int .i64 r.seq,.int .i64 r.addr,.int .i64 r.val] 78)):=ext_alloc hX _
       cases kb
       ·have hk2 : r.kind = 2:=by
         rcases hk with h | h
         ·rw [h] at hkb;cases hkb
         ·exact h
        by_cases hv : r.val = d
        ·subst hv
         have HR2 : Hid (diskScan s.flash (i + 1) (s.disk.drop (i + 1)) = A):=Lib.hid (by have h:=HR.out;rwa [if_neg (by rw [HBD.out,hin];simp)] at h)
         clear hkb hk2
         clear HR HBD hlo hk
         go_wp2_with (go_at_call 63;refine (valOk_c _ _).mono ?_;rw [hin];rintro e w' ⟨rfl,rfl⟩)
         refine (hdc _).mono ?_;rintro e5 w5 ⟨rfl,hx5⟩
         have G7:=keep_ext hx5 (hg_new (b:=wr.heap.size) rfl)
         obtain ⟨g7,gf7⟩:=cellsK G7
         have l7:=heap_lt G7
         have X5:=ext_trans XA hx5
         clear hdc hx5 hc hf c0 hlk XA
         go_wp2_with fail
         go_roundw
         case rel=>exact ⟨i + 1,by omega,by go_num,X5,HR2⟩
         case measure=>simp [intOf];omega
        ·have hA : false = A:=by have h:=HR.out;rw [if_pos (by rw [HBD.out,hin,hk2];simp [h0,hv])] at h;exact h
         subst hA
         clear HR HBD hlo hk hkb hk2
         go_wp2_with (go_at_call 63;refine (valOk_c _ _).mono ?_;rw [hin];rintro e w' ⟨rfl,rfl⟩)
         refine (hdc _).mono ?_;rintro e5 w5 ⟨rfl,hx5⟩
         have G7:=keep_ext hx5 (hg_new (b:=wr.heap.size) rfl)
         obtain ⟨g7,gf7⟩:=cellsK G7
         have l7:=heap_lt G7
         have X5:=ext_trans XA hx5
         clear hdc hx5 hc hf c0 hlk XA
         go_wp2_with fail
         go_ret
         exact ⟨rfl,ext_trans X2 X5⟩
       ·have hk1 : r.kind = 1:=by simpa using hkb
        have HR2 : Hid (diskScan s.flash (i + 1) (s.disk.drop (i + 1)) = A):=Lib.hid (by have h:=HR.out;rwa [if_neg (by rw [HBD.out,hin,hk1];simp)] at h)
        clear hkb hk1
        clear HR HBD hlo hk
        go_wp2_with (go_at_call 63;refine (valOk_c _ _).mono ?_;rw [hin];rintro e w' ⟨rfl,rfl⟩)
        refine (hdc _).mono ?_;rintro e5 w5 ⟨rfl,hx5⟩
        have G7:=keep_ext hx5 (hg_new (b:=wr.heap.size) rfl)
        obtain ⟨g7,gf7⟩:=cellsK G7
        have l7:=heap_lt G7
        have X5:=ext_trans XA hx5
        clear hdc hx5 hc hf c0 hlk XA
        go_wp2_with fail
        go_roundw
        case rel=>exact ⟨i + 1,by omega,by go_num,X5,HR2⟩
        case measure=>simp [intOf];omega
      ·rw [if_neg h0] at hlk
       simp only [Option.getD_none,Option.isSome_none] at hlk
       dsimp only [recA,rec0] at hlk
       have HR2 : Hid (diskScan s.flash (i + 1) (s.disk.drop (i + 1)) = A):=Lib.hid (by have h:=HR.out;rwa [if_neg (by rw [HBD.out,hin];simp [h0])] at h)
       clear HR HBD hlo h0
       go_wp2_with (go_at_call 63;refine (valOk_c _ _).mono ?_;rw [hin];rintro e w' ⟨rfl,rfl⟩)
       go_roundw
       case rel=>exact ⟨i + 1,by omega,by go_num,ext_alloc hX _,HR2⟩
       case measure=>simp [intOf];omega
    ·obtain rfl : i = 6:=by omega
     have hr:=HR.out
     rw [List.drop_eq_nil_of_le (by rw [H6.out];omega)] at hr
     have hr : true = A:=hr
     subst hr
     go_wp2_with fail
     go_ret
     exact ⟨rfl,ext_trans X2 hX⟩
  ·have hs : storeOkB s = false:=by unfold storeOkB;rw [Bool.not_eq_true] at hok;rw [hok];rfl
   rw [Bool.not_eq_true] at hok
   rw [hok] at hFO
   rw [hs,h6]
   subst hfv
   clear hs hok
   go_enter Tryz.func44,Tryz.ntmps44
   go_wp2_with fail
   refine (hFO _ (ext_alloc (ext_refl _) _)).mono ?_;rintro e1 w1 ⟨rfl,hx1⟩
   go_wp2_with fail
   go_ret
   exact ⟨rfl,ext_trans (ext_alloc (ext_refl w) _) hx1⟩
 ·have hs : storeOkB s = false:=by unfold storeOkB;rw [show (s.disk.length == 6) = false by simpa using h6];simp
  rw [hs]
  subst hfv
  have h6' : (s.disk.length != 6) = true:=by simpa using h6
  go_enter Tryz.func44,Tryz.ntmps44
  go_wp2_with fail
  go_ret
  exact ⟨rfl,ext_alloc (ext_refl w) _⟩
end Go.Bu
namespace Go.Bu
open Go Go.RowKit Go.Plan Go.Proofs
def Small (s : Store) : Prop:=s.flash.length ≤ 1048576 ∧ (∀ b ∈ s.flash,b.pages.length ≤ 1048576) ∧ s.disk.length ≤ 1048576
end Go.Bu
namespace Go.Bu
open Go Go.RowKit Go.Plan Go.Proofs
def FlashP (lo hi : Nat) (v : Value) (w : World) : Prop:=∃ B bs,OwnFlash w v newFlash B bs ∧ (B :: bs).Nodup ∧ ∀ b ∈ B :: bs,lo ≤ b ∧ b < hi
theorem FlashP.ext {lo hi : Nat} {v : Value} {w w' : World} (h : FlashP lo hi v w) (hx : Ext w w') : FlashP lo hi v w':=by
 obtain ⟨B,bs,h1,h2,h3⟩:=h;exact ⟨B,bs,h1.ext hx,h2,h3⟩
theorem FlashP.form {lo hi : Nat} {v : Value} {w : World} (h : FlashP lo hi v w) : ∃ a cap,v = .slice a 4 cap:=by
 obtain ⟨B,bs,⟨rows,⟨T,o,cap,hv,_⟩,hr,_⟩,_⟩:=h;exact ⟨_,_,by rw [hv,hr];rfl⟩
theorem cells2 {w : World} {B T : Nat} {c0 c1 : Value} (h : w.heap[B]? = some (.cells #[c0,c1] T (0,0))) : w.cell? ⟨B,0,none⟩ = some c0 ∧ w.cell? ⟨B,1,none⟩ = some c1 ∧ ∀ j,w.frozen? ⟨B,j,none⟩ = false:=
 ⟨by rw [cell_block h];rfl,by rw [cell_block h];rfl,frozen_block h⟩
def FlashNews (w : World) (e : Ending) (w' : World) : Prop:=∃ v,e = .returned v ∧ RetC w FlashP v w'
theorem FlashNews.to {w w' : World} {e : Ending} (h : FlashNews w e w') : ∃ v,e = .returned v ∧ RetC w FlashP v w':=h
theorem specFlashNews (w : World) : Calls Tryz.prog 46 #[] w (FlashNews w):=
 (specFlashNew_c w).mono fun e w' ⟨v,B,bs,he,hx,ho,hn,hb⟩=>⟨v,he,hx,B,bs,ho,hn,fun b hm=>⟨hb b hm,ho.lt b hm⟩⟩
theorem implFlashNews (w : World) : Calls Tryz.prog 39 #[] w (FlashNews w):=
 (implFlashNew_c w).mono fun e w' ⟨v,B,bs,he,hx,ho,hn,hb⟩=>⟨v,he,hx,B,bs,ho,hn,fun b hm=>⟨hb b hm,ho.lt b hm⟩⟩
theorem OwnV.six {w : World} {B T : Nat} (h : w.heap[B]? = some (.cells #[.int .i64 0,.int .i64 0,.int .i64 0,.int .i64 0,.int .i64 0,.int .i64 0] T (0,0))) : OwnInts w (.slice (some ⟨B,0,none⟩) 6 6) newStore.disk B:=by
 refine ⟨T,0,0,rfl,_,h,fun i x hx j u hu=>?_⟩
 have hi : i < 6:=(List.getElem?_eq_some_iff.1 hx).1
 have hj : j < 1:=(List.getElem?_eq_some_iff.1 hu).1
 obtain rfl : j = 0:=by omega
 rcases (show i = 0 ∨ i = 1 ∨ i = 2 ∨ i = 3 ∨ i = 4 ∨ i = 5 by omega) with rfl | rfl | rfl | rfl | rfl | rfl <;> (simp [newStore] at hx;subst hx;simp at hu;subst hu;rfl)
def StoreNews (w : World) (e : Ending) (w' : World) : Prop:=∃ f d L,e = .returned (.agg #[f,d]) ∧ Ext w w' ∧ OwnStore w' f d newStore L ∧ L.Nodup ∧ ∀ b ∈ L,w.heap.size ≤ b
set_option maxHeartbeats 1000000 in
theorem specStoreNew_c (w : World) : Calls Tryz.prog 29 #[] w (StoreNews w):=by
 have hmk : ∀ w : World,(Instr.makeSlice 40 (.int .i64 6) (.int .i64 6)).run Tryz.prog w = .ok (.slice (some ⟨w.heap.size,0,none⟩) 6 6) (w.alloc (.cells #[.int .i64 0,.int .i64 0,.int .i64 0,.int .i64 0,.int .i64 0,.int .i64 0] 3)):=fun w=>by kernel_rfl
 go_enter Tryz.func29,Tryz.ntmps29
 go_wp2_with fail
 refine wp_region_ext [0] [0] [(1,.cells #[.int .i64 0,.int .i64 0,.int .i64 0,.int .i64 0,.int .i64 0,.int .i64 0] 3,fun b=>.slice (some ⟨b,0,none⟩) 6 6)] [2,3] (by kernel_rfl) (by kernel_rfl) ?late ?_
 case late =>
  intro f hf
  obtain rfl:=List.mem_singleton.1 hf
  refine ⟨_,rfl,fun a w=>?_⟩
  go_simp
 refine Rob.c (FlashP) rfl rfl rfl (fun _ _=>ext_trans) (fun _ _ _ _ _=>fun h hx=>h.ext hx) (fun w1 hx hH=>?_) (fun lo0 hi0 v0 hlo0 hhi0 hv0=>?_)
 ·unfold RunTo;go_simp;exact (specFlashNews _).mono fun e w' h=>h.to
 simp only [Act.put,slA,slB,slC]
 refine fin_one (fun w1 b hS hH hb hlt ho hout=>?_)
 simp only [dstOf,List.getElem?_cons_succ,List.getElem?_cons_zero,Option.bind_some,Act.put,slA,slB,slC,List.filterMap_cons,List.filterMap_nil]
 obtain ⟨hx1,hP⟩:=hS
 obtain ⟨a,cap,rfl⟩:=hP.form
 have G0:=keep_ext hx1 (alloc_get_new rfl)
 obtain ⟨c0,c1,cf⟩:=cells2 G0
 have hlo : w.heap.size < lo0:=by simp at hlo0;omega
 have hbw : w.heap.size < b:=by simp at hb;omega
 have HD:=Lib.hid (OwnV.six ho);have HP:=Lib.hid hP
 have HO:=Lib.hid hout
 have X1 : Ext w w1:=ext_trans (ext_alloc (ext_refl _) _) hx1
 clear hmk hv0 hP ho hout G0
 refine wpList_plain rfl (fun K hK=>?_)
 go_simp
 refine hK _ _ ?_
 clear hK K
 refine wpList_plain rfl (fun K hK=>?_)
 go_simp
 refine hK _ _ ?_
 clear hK K
 refine wpList_nil ?_
 go_wp2
 refine bodyPost_ret (v:=.agg #[.slice a 4 cap,.slice (some ⟨b,0,none⟩) 6 6]) (by simp [results,Tryz.results29,go_sem,c0,c1,cf]) rfl ?_
 obtain ⟨B,bs,hO,hn,hbs⟩:=HP.out
 have hkeep : ∀ (u1 u2 : Value) (x : Nat),x ≠ w.heap.size → ((w1.setCell ⟨w.heap.size,0,none⟩ u1).setCell ⟨w.heap.size,1,none⟩ u2).heap[x]? = w1.heap[x]?:=fun u1 u2 x hx=>by rw [setCell_other hx,setCell_other hx]
 refine ⟨_,_,B :: bs ++ [b],rfl,ext_set (ext_set X1 (Nat.le_refl _) _) (Nat.le_refl _) _,⟨B,bs,b,rfl,hO.keep fun x hm=>hkeep _ _ x (by have:=hbs x hm;omega),HD.out.keep (hkeep _ _ b (by omega))⟩,?_,fun x hm=>?_⟩
 ·rw [List.nodup_append]
  refine ⟨hn,by simp,fun x hm y hy=>?_⟩
  rw [List.mem_singleton] at hy
  subst hy
  rintro rfl
  have:=HO.out (lo0,hi0) (by simp)
  have:=hbs x hm
  simp at *
  omega
 ·rcases List.mem_append.1 hm with hm | hm
  ·have:=hbs x hm;omega
  ·rw [List.mem_singleton] at hm;omega
set_option maxHeartbeats 1000000 in
theorem implStoreNew_c (w : World) : Calls Tryz.prog 24 #[] w (StoreNews w):=by
 have hmk : ∀ w : World,(Instr.makeSlice 40 (.int .i64 6) (.int .i64 6)).run Tryz.prog w = .ok (.slice (some ⟨w.heap.size,0,none⟩) 6 6) (w.alloc (.cells #[.int .i64 0,.int .i64 0,.int .i64 0,.int .i64 0,.int .i64 0,.int .i64 0] 3)):=fun w=>by kernel_rfl
 go_enter Tryz.func24,Tryz.ntmps24
 go_wp2_with fail
 refine wp_region_ext [0] [0] [(1,.cells #[.int .i64 0,.int .i64 0,.int .i64 0,.int .i64 0,.int .i64 0,.int .i64 0] 3,fun b=>.slice (some ⟨b,0,none⟩) 6 6)] [2,3] (by kernel_rfl) (by kernel_rfl) ?late ?_
 case late =>
  intro f hf
  obtain rfl:=List.mem_singleton.1 hf
  refine ⟨_,rfl,fun a w=>?_⟩
  go_simp
 refine Rob.c (FlashP) rfl rfl rfl (fun _ _=>ext_trans) (fun _ _ _ _ _=>fun h hx=>h.ext hx) (fun w1 hx hH=>?_) (fun lo0 hi0 v0 hlo0 hhi0 hv0=>?_)
 ·unfold RunTo;go_simp;exact (implFlashNews _).mono fun e w' h=>h.to
 simp only [Act.put,slA,slB,slC]
 refine fin_one (fun w1 b hS hH hb hlt ho hout=>?_)
 simp only [dstOf,List.getElem?_cons_succ,List.getElem?_cons_zero,Option.bind_some,Act.put,slA,slB,slC,List.filterMap_cons,List.filterMap_nil]
 obtain ⟨hx1,hP⟩:=hS
 obtain ⟨a,cap,rfl⟩:=hP.form
 have G0:=keep_ext hx1 (alloc_get_new rfl)
 obtain ⟨c0,c1,cf⟩:=cells2 G0
 have hlo : w.heap.size < lo0:=by simp at hlo0;omega
 have hbw : w.heap.size < b:=by simp at hb;omega
 have HD:=Lib.hid (OwnV.six ho);have HP:=Lib.hid hP
 have HO:=Lib.hid hout
 have X1 : Ext w w1:=ext_trans (ext_alloc (ext_refl _) _) hx1
 clear hmk hv0 hP ho hout G0
 refine wpList_plain rfl (fun K hK=>?_)
 go_simp
 refine hK _ _ ?_
 clear hK K
 refine wpList_plain rfl (fun K hK=>?_)
 go_simp
 refine hK _ _ ?_
 clear hK K
 refine wpList_nil ?_
 go_wp2
 refine bodyPost_ret (v:=.agg #[.slice a 4 cap,.slice (some ⟨b,0,none⟩) 6 6]) (by simp [results,Tryz.results24,go_sem,c0,c1,cf]) rfl ?_
 obtain ⟨B,bs,hO,hn,hbs⟩:=HP.out
 have hkeep : ∀ (u1 u2 : Value) (x : Nat),x ≠ w.heap.size → ((w1.setCell ⟨w.heap.size,0,none⟩ u1).setCell ⟨w.heap.size,1,none⟩ u2).heap[x]? = w1.heap[x]?:=fun u1 u2 x hx=>by rw [setCell_other hx,setCell_other hx]
 refine ⟨_,_,B :: bs ++ [b],rfl,ext_set (ext_set X1 (Nat.le_refl _) _) (Nat.le_refl _) _,⟨B,bs,b,rfl,hO.keep fun x hm=>hkeep _ _ x (by have:=hbs x hm;omega),HD.out.keep (hkeep _ _ b (by omega))⟩,?_,fun x hm=>?_⟩
 ·rw [List.nodup_append]
  refine ⟨hn,by simp,fun x hm y hy=>?_⟩
  rw [List.mem_singleton] at hy
  subst hy
  rintro rfl
  have:=HO.out (lo0,hi0) (by simp)
  have:=hbs x hm
  simp at *
  omega
 ·rcases List.mem_append.1 hm with hm | hm
  ·have:=hbs x hm;omega
  ·rw [List.mem_singleton] at hm;omega
theorem OwnStore.forms {w : World} {f d : Value} {s : Store} {L : List Nat} (h : OwnStore w f d s L) : ∃ a m c b n e,f = .slice a m c ∧ d = .slice b n e:=by
 obtain ⟨B,bs,D,rfl,⟨rows,⟨T,o,cap,hv,_⟩,_⟩,⟨T',o',cap',hv',_⟩⟩:=h
 exact ⟨_,_,_,_,_,_,hv,hv'⟩
end Go.Bu
namespace Go.Bu
open Go Go.RowKit Go.Plan Go.Proofs
def allS (s : Store) : List Int:=(List.range 6).map (readN s)
theorem allS_len (s : Store) : (allS s).length = 6:=by simp [allS]
def IntsOut (base : Nat) (w : World) (v : Value) (xs : List Int) : Prop:=(v = .slice none 0 0 ∧ xs = []) ∨ ∃ B,base ≤ B ∧ OwnInts w v xs B
theorem IntsOut.ints {base : Nat} {w : World} {v : Value} {xs : List Int} (h : IntsOut base w v xs) : Ints (Old w) w v xs:=by
 rcases h with ⟨rfl,rfl⟩ | ⟨B,_,h⟩
 ·exact ⟨_,_,rfl,fun i x hi=>by cases hi⟩
 ·exact h.old
def IntsΦ (w : World) (xs : List Int) (e : Ending) (w' : World) : Prop:=∃ v,e = .returned v ∧ Ext w w' ∧ IntsOut w.heap.size w' v xs
def allV (s : Store) : List Int:=if storeOkB s = true then allS s else []
set_option maxRecDepth 20000 in
set_option maxHeartbeats 2000000 in
theorem implStoreAll_c (fv dv : Value) (s : Store) (w : World) (h : StoreV w fv dv s) (hp : ∀ b ∈ s.flash,b.pages.length ≤ 1048576) (hd : s.disk.length ≤ 1048576) :
  Calls Tryz.prog 27 #[.agg #[fv,dv]] w (IntsΦ w (allV s)):=by
 have hSO:=fun (w' : World) (hx : Ext w w')=>implStoreOk_c fv dv s w' (h.ext hx) hp hd
 unfold allV
 by_cases hok : storeOkB s = true
 ·have hF:=flashOk_iff.1 (storeOk_flash hok)
  have h6:=storeOk_disk hok
  have hLR:=fun (w' : World) (hx : Ext w w')=>lastRecords_c fv s.flash w' (h.1.ext hx) hF.len hp (fun b hb=>hF.pg hb)
  have hD:=h.2
  rw [hok] at hSO
  rw [if_pos hok]
  obtain ⟨fa,fcap,hfv⟩:=h.1.form
  obtain ⟨da,dcap,hdv⟩:=h.2.form
  rw [h6] at hdv
  subst hfv
  subst hdv
  have H6:=Lib.hid h6
  have hlz:=fun n : Nat=>lastL_zero (spF s.flash s.flash.length) ((n : Int) + 1)
  simp only [lastL_all] at hlz
  have HLZ:=Lib.hid hlz
  have hmk : ∀ w : World,(Instr.makeSlice 40 (.int .i64 6) (.int .i64 6)).run Tryz.prog w = .ok (.slice (some ⟨w.heap.size,0,none⟩) 6 6) (w.alloc (.cells #[.int .i64 0,.int .i64 0,.int .i64 0,.int .i64 0,.int .i64 0,.int .i64 0] 3)):=fun w=>by kernel_rfl
  have h60 : ∀ w : World,OwnAt 1 intC 3 (w.alloc (.cells #[.int .i64 0,.int .i64 0,.int .i64 0,.int .i64 0,.int .i64 0,.int .i64 0] 3)) w.heap.size 0 [0,0,0,0,0,0]:=by
   intro w
   refine ⟨_,alloc_get_new rfl,fun i x hx j u hu=>?_⟩
   have hi : i < 6:=(List.getElem?_eq_some_iff.1 hx).1
   have hj : j < 1:=by have:=(List.getElem?_eq_some_iff.1 hu).1;simpa using this
   obtain rfl : j = 0:=by omega
   rcases (show i = 0 ∨ i = 1 ∨ i = 2 ∨ i = 3 ∨ i = 4 ∨ i = 5 by omega) with rfl | rfl | rfl | rfl | rfl | rfl <;> (simp at hx;subst hx;simp at hu;subst hu;rfl)
  have H60:=Lib.hid h60
  clear hok hF h6 hp hd hlz h60
  go_enter Tryz.func27,Tryz.ntmps27
  go_wp2_with fail
  refine (hSO _ (ext_alloc (ext_refl _) _)).mono ?_;rintro e1 w1 ⟨rfl,hx1⟩
  have X1:=ext_trans (ext_alloc (ext_refl w) _) hx1
  have G1:=keep_ext hx1 (hg_new (b:=w.heap.size) rfl)
  obtain ⟨g1,gf1⟩:=cellsK G1
  have l1:=heap_lt G1
  clear hSO hx1
  go_wp2_with fail
  refine (hLR _ X1).mono ?_;rintro e2 w2 ⟨BM,n,rfl,hx2,hB,hM⟩
  have X2:=ext_trans X1 hx2
  have hs2:=X2.size
  replace G1:=keep_ext hx2 G1
  clear g1 gf1 l1
  obtain ⟨g1,gf1⟩:=cellsK G1
  have l1:=heap_lt G1
  have HM:=Lib.hid hM
  clear hLR hx2 hM hB X1
  go_wp2_with fail
  clear hmk
  have XA : Ext w2 (w2.alloc (.cells #[.int .i64 0,.int .i64 0,.int .i64 0,.int .i64 0,.int .i64 0,.int .i64 0] 3)):=ext_alloc (ext_refl _) _
  have hO:=H60.out w2
  have HV0 : Hid (∀ j,j < 0 → ([0,0,0,0,0,0] : List Int)[j]? = some (readN s j)):=Lib.hid (fun j hj=>absurd hj (Nat.not_lt_zero _))
  clear H60
  go_loopw [19] (fun y wr=>∃ (i : Nat) (vs : List Int),i ≤ 6 ∧ y = .int .i64 i ∧ Ext w2 wr ∧ OwnAt 1 intC 3 wr w2.heap.size 0 vs ∧ vs.length = 6 ∧ Hid (∀ j,j < i → vs[j]? = some (readN s j))) (fun y _=>6 - (intOf y).toNat)
  case atStart=>exact ⟨0,_,by omega,rfl,XA,hO,rfl,HV0⟩
  case round =>
   clear HV0 G1 g1 gf1 l1 XA hO
   obtain ⟨i,vs,hi,rfl,hX,hO,hl,HV⟩:=hrel
   by_cases hlt : i < 6
   ·have hil : i < s.disk.length:=by have:=H6.out;omega
    have hiv : i < vs.length:=by omega
    obtain ⟨b,o,rfl,hb,c0⟩:=hD.at1 hil
    have hb' : b < w.heap.size:=hb
    obtain ⟨hc,hf⟩:=bcell (ext_trans X2 hX)
    have hrd : readN s i = if 0 < (last s.flash ((i : Int) + 1)).seq then (last s.flash ((i : Int) + 1)).val else s.disk[i]:=by
     unfold readN;rw [List.getD_eq_getElem?_getD,List.getElem?_eq_getElem hil];rfl
    have HRD:=Lib.hid hrd
    have q0 : wr.cell? ⟨w2.heap.size,i,none⟩ = some (.int .i64 vs[i]):=by simpa using hO.cell (List.getElem?_eq_getElem hiv) (j:=0) rfl
    have qf:=hO.frozen
    have lO:=hO.lt
    generalize s.disk[i] = d at *
    have hS1:=OwnAt.set1 (n:=1) (enc:=intC) (fun _=>rfl) hO (k:=i) hiv (j:=0) (by omega) (.int .i64 d) d rfl
    simp only [Nat.zero_add,Nat.mul_one,Nat.add_zero] at hS1
    have X3 : Ext w2 (wr.setCell ⟨w2.heap.size,i,none⟩ (.int .i64 d)):=ext_set hX (Nat.le_refl _) _
    have hM3:=HM.out.ext X3
    have hlk:=hM3.lookup (t:=75) Tryz.underlying3 Tryz.underlying75 (z:=recA rec0) (by rfl) (i64_wf (x:=(i : Int) + 1) (by omega) (by omega)) true
    simp only [if_true] at hlk
    unfold lastG at hlk
    have hlo:=HLZ.out i
    generalize last s.flash ((i : Int) + 1) = r at *
    have HS1:=Lib.hid hS1
    clear hM3 hS1 hO HLZ
    by_cases h0 : 0 < r.seq
    ·rw [if_pos h0] at hlk
     simp only [Option.getD_some,Option.isSome_some] at hlk
     dsimp only [recA] at hlk
     have hS2:=OwnAt.set1 (n:=1) (enc:=intC) (fun _=>rfl) HS1.out (k:=i) (by simpa using hiv) (j:=0) (by omega) (.int .i64 r.val) r.val rfl
     simp only [Nat.zero_add,Nat.mul_one,Nat.add_zero,List.set_set] at hS2
     have HS2:=Lib.hid hS2
     have HV2 : Hid (∀ j,j < i + 1 → (vs.set i r.val)[j]? = some (readN s j)):=Lib.hid (fun j hj=>by
      by_cases e : j = i
      ·subst e;rw [List.getElem?_set_self hiv,HRD.out,if_pos h0]
      ·rw [List.getElem?_set_ne (Ne.symm e)];exact HV.out j (by omega))
     clear hS2 HV HRD hlo
     go_wp2_with fail
     go_roundw
     case rel=>exact ⟨i + 1,_,by omega,by go_num,ext_alloc (ext_set X3 (Nat.le_refl _) _) _,HS2.out.ext (ext_alloc (ext_refl _) _),by simpa using hl,HV2⟩
     case measure=>simp [intOf];omega
    ·rw [if_neg h0] at hlk
     simp only [Option.getD_none,Option.isSome_none] at hlk
     dsimp only [recA,rec0] at hlk
     have HV2 : Hid (∀ j,j < i + 1 → (vs.set i d)[j]? = some (readN s j)):=Lib.hid (fun j hj=>by
      by_cases e : j = i
      ·subst e;rw [List.getElem?_set_self hiv,HRD.out,if_neg h0]
      ·rw [List.getElem?_set_ne (Ne.symm e)];exact HV.out j (by omega))
     clear HV HRD hlo h0
     go_wp2_with fail
     go_roundw
     case rel=>exact ⟨i + 1,_,by omega,by go_num,ext_alloc X3 _,HS1.out.ext (ext_alloc (ext_refl _) _),by simpa using hl,HV2⟩
     case measure=>simp [intOf];omega
   ·obtain rfl : i = 6:=by omega
    go_wp2_with fail
    refine bodyPost_ret (v:=.slice (some ⟨w2.heap.size,0,none⟩) 6 6) (by simp [results,Tryz.results27,go_sem]) rfl ⟨_,rfl,ext_trans X2 hX,.inr ⟨w2.heap.size,hs2,3,0,0,by rw [allS_len],?_⟩⟩
    have : vs = allS s:=by
     apply List.ext_getElem?
     intro j
     by_cases hj : j < 6
     ·rw [HV.out j hj];unfold allS;simp [hj]
     ·rw [List.getElem?_eq_none (by omega),List.getElem?_eq_none (by rw [allS_len];omega)]
    rw [← this];exact hO
 ·rw [Bool.not_eq_true] at hok
  rw [hok] at hSO
  rw [if_neg (by rw [hok];simp)]
  obtain ⟨fa,fcap,rfl⟩:=h.1.form
  obtain ⟨da,dcap,rfl⟩:=h.2.form
  go_enter Tryz.func27,Tryz.ntmps27
  go_wp2_with fail
  refine (hSO _ (ext_alloc (ext_refl _) _)).mono ?_;rintro e1 w1 ⟨rfl,hx1⟩
  go_wp2_with fail
  go_ret
  exact ⟨_,rfl,ext_trans (ext_alloc (ext_refl w) _) hx1,.inl ⟨rfl,rfl⟩⟩
end Go.Bu
namespace Go.Bu
open Go Go.RowKit Go.Plan Go.Proofs
abbrev IRow (base : Nat) (w : World) (v : Value) (xs : List Int) : Prop:=w.ownsRow base 3 1 v xs.length (xs.flatMap intC)
theorem IRow.empty {base : Nat} {w : World} {B : Nat} (h : w.heap[B]? = some (.cells #[] 3 (0,0))) (hb : base ≤ B) : IRow base w (.slice (some ⟨B,0,none⟩) 0 0) []:=⟨rfl,.inr ⟨B,0,#[],rfl,hb,h,Nat.le_refl _,by simp,rfl,rfl⟩⟩
theorem IRow.ext {base : Nat} {w w' : World} {v : Value} {xs : List Int} (h : IRow base w v xs) (hx : Ext w w') : IRow base w' v xs:=ownsRow_ext h hx
theorem IRow.own {base : Nat} {w : World} {v : Value} {xs : List Int} (h : IRow base w v xs) (h0 : xs ≠ []) : ∃ B,base ≤ B ∧ OwnInts w v xs B:=by
 obtain ⟨B,hB,ho⟩:=OwnT.of_owns (n:=1) (enc:=intC) (fun _=>rfl) h h0
 exact ⟨B,hB,_,ho⟩
theorem IRow.form {base : Nat} {w : World} {v : Value} {xs : List Int} (h : IRow base w v xs) : ∃ a cap,v = .slice a xs.length cap:=by
 obtain ⟨_,h2⟩:=h
 rcases h2 with ⟨rfl,h0⟩ | ⟨g,cap,cur,rfl,_⟩
 ·exact ⟨none,0,by rw [h0]⟩
 ·exact ⟨_,cap,rfl⟩
theorem own_none {w : World} {B : Nat} (h : w.heap[B]? = some (.cells #[] 3 (0,0))) : OwnInts w (.slice (some ⟨B,0,none⟩) 0 0) [] B:=⟨_,0,0,rfl,_,h,fun i x hx=>by simp at hx⟩
theorem wpList_appInt {w : World} {ops : Array Oper} {rest : List Oper} {o : Oper} {a : Act} {Q : Exit → Act → World → Prop} (hgd : o.guard = none) (s x : Operand)
  (ho : o.op = .call { callee:=.builtin .append,args:=#[s,x],argTypes:=#[40,40] }) {base : Nat} {v : Value} {xs : List Int} (hs : a.eval s = v) (hown : IRow base w v xs)
  {B : Nat} {y : Int} (hx : a.eval x = .slice (some ⟨B,0,none⟩) 1 1) (hB : w.heap[B]? = some (.cells #[.int .i64 y] 3 (0,0))) (hlen : xs.length ≤ 1000000) (hbase : base ≤ w.heap.size)
  (h : ∀ v' w',IRow base w' v' (xs ++ [y]) → w.grownBy w' v.ownBlock → wpList Tryz.prog ops Q rest (a.put o.dst v') w') : wpList Tryz.prog ops Q (o :: rest) a w:=by
 refine wpList_app hgd s x 40 ho base 3 1 8 Tryz.underlying40 (by kernel_rfl) (by omega) v xs.length (xs.flatMap intC) hs hown ⟨B,0,none⟩ 1 1 (intC y) hx rfl (fun j u hu=>?_) (by simp [Value.oneCell']) (by simp [maxLen];omega) (by omega) hbase (fun v' w' h1 h2=>h v' w' ?_ h2)
 ·rw [Addr.add_mid,cell_block hB,Nat.zero_add];simpa using hu
 ·show w'.ownsRow _ _ _ _ _ _
  rw [List.length_append,List.flatMap_append];simpa using h1
theorem allS_take (s : Store) (k : Nat) (h : k < 6) : (allS s).take k ++ [readN s k] = (allS s).take (k + 1):=by
 have:=take_snoc (allS s) k (by rw [allS_len];exact h)
 rw [← this];congr 2;unfold allS;simp
def IntsP (w : World) (xs : List Int) (e : Ending) (w' : World) : Prop:=∃ v B,e = .returned v ∧ Ext w w' ∧ w.heap.size ≤ B ∧ OwnInts w' v xs B
set_option maxRecDepth 20000 in
set_option maxHeartbeats 2000000 in
theorem specStoreAll_c (fv dv : Value) (s : Store) (w : World) (h : StoreV w fv dv s) (hn : s.flash.length ≤ 1048576) :
  Calls Tryz.prog 33 #[.agg #[fv,dv]] w (IntsP w (allV s)):=by
 have hSO:=fun (w' : World) (hx : Ext w w')=>specStoreOk_c fv dv s w' (h.ext hx) hn
 unfold allV
 by_cases hok : storeOkB s = true
 ·have hF:=flashOk_iff.1 (storeOk_flash hok)
  have h6:=storeOk_disk hok
  have hLR:=fun (n : Nat) (hn6 : n < 6) (w' : World) (hx : Ext w w')=>l11Read_c fv dv s n w' (h.ext hx) hn (pages_short (storeOk_flash hok)) (by omega) (by omega)
  obtain ⟨fa,fcap,hfv⟩:=h.1.form
  obtain ⟨da,dcap,hdv⟩:=h.2.form
  rw [h6] at hdv
  subst hfv
  subst hdv
  rw [hok] at hSO
  rw [if_pos hok]
  have hlr:=Lib.hid hLR
  clear hok hF h6 hn hLR h
  go_enter Tryz.func33,Tryz.ntmps33
  go_wp2_with fail
  refine (hSO _ (ext_alloc (ext_alloc (ext_refl _) _) _)).mono ?_;rintro e1 w1 ⟨rfl,hx1⟩
  have X1:=ext_trans (ext_alloc (ext_alloc (ext_refl w) _) _) hx1
  have G1:=keep_ext hx1 (hg_alloc (hg_new (b:=w.heap.size) rfl))
  have G2:=keep_ext hx1 (hg_new (b:=w.heap.size + 1) (by simp))
  have hR0 : IRow w.heap.size w1 (.slice (some ⟨w.heap.size + 1,0,none⟩) 0 0) []:=IRow.empty G2 (by omega)
  clear hSO hx1
  go_wp2_with fail
  go_loopw [3,4] (fun v y wr=>∃ (k : Nat),k ≤ 6 ∧ y = .int .i64 ((k : Int) + 1) ∧ Ext w wr ∧ IRow w.heap.size wr v ((allS s).take k) ∧ wr.heap[w.heap.size]? = some (.cells #[.slice fa s.flash.length fcap,.slice da 6 dcap] 42 (0,0))) (fun _ y _=>7 - (intOf y).toNat)
  case atStart=>exact ⟨0,by omega,rfl,X1,by simpa using hR0,G1⟩
  case round =>
   clear hR0 G1 G2 X1
   obtain ⟨k,hk,rfl,hX,hI,G1⟩:=hrel
   obtain ⟨g1,gf1⟩:=cellsK G1
   have l1:=heap_lt G1
   by_cases hlt : k < 6
   ·have HI:=Lib.hid hI
    clear hI
    go_wp2_with fail
    refine (hlr.out k hlt _ hX).mono ?_;rintro e2 w2 ⟨rfl,hx2⟩
    have X2:=ext_trans hX hx2
    replace G1:=keep_ext hx2 G1
    have hI2:=HI.out.ext hx2
    have HI2:=Lib.hid hI2
    have hs2:=X2.size
    have hst:=allS_take s k hlt
    generalize readN s k = y at *
    clear hI2 HI g1 gf1
    go_wp2_with (refine wpList_appInt rfl _ _ rfl rfl (HI2.out.ext (ext_alloc (ext_refl _) _)) (y:=y) rfl (hg_new rfl) (by rw [List.length_take];omega) (by simp;omega) (fun v' w' hS' hg=>?_))
    go_roundw
    case rel=>exact ⟨k + 1,by omega,by go_num,ext_grown (ext_alloc X2 _) (HI2.out.ext (ext_alloc (ext_refl _) _)) hg,by rw [← hst];exact hS',keep_grown (hg_alloc G1) (by decide) (HI2.out.ext (ext_alloc (ext_refl _) _)) hg⟩
    case measure=>simp [intOf];omega
   ·obtain rfl : k = 6:=by omega
    rw [show (allS s).take 6 = allS s from List.take_of_length_le (by rw [allS_len];omega)] at hI
    obtain ⟨a1,c1,rfl⟩:=hI.form
    obtain ⟨B,hB,hO⟩:=hI.own (fun e=>by have:=allS_len s;rw [e] at this;simp at this)
    go_wp2_with fail
    go_ret
    exact ⟨_,B,rfl,hX,hB,hO⟩
 ·rw [Bool.not_eq_true] at hok
  rw [hok] at hSO
  rw [if_neg (by rw [hok];simp)]
  obtain ⟨fa,fcap,rfl⟩:=h.1.form
  obtain ⟨da,dcap,rfl⟩:=h.2.form
  go_enter Tryz.func33,Tryz.ntmps33
  go_wp2_with fail
  refine (hSO _ (ext_alloc (ext_alloc (ext_refl _) _) _)).mono ?_;rintro e1 w1 ⟨rfl,hx1⟩
  have G2:=keep_ext hx1 (hg_new (b:=w.heap.size + 1) (by simp))
  go_wp2_with fail
  go_ret
  exact ⟨_,w.heap.size + 1,rfl,ext_trans (ext_alloc (ext_alloc (ext_refl w) _) _) hx1,by omega,own_none G2⟩
end Go.Bu
namespace Go.Bu
open Go Go.RowKit Go.Plan
section
variable {P : Program} {md : Region.Mode} {ops : Array Oper} {Q : Exit → Act → World → Prop} {S : World → Prop} {fuel i : Nat} {listed : Array Bool} {a : Act} {w : World} {o : Oper}
theorem anyH_op {R : Value → World → Prop} (ho : ops[i]? = some o) (hw : Region.wanted o (yielded ops a.tmps) = true) (hr : RunTo P o a.eval w R)
  (h : ∀ v w',R v w' → S w' ∧ wpAnyH P md ops Q S fuel (listed.setIfInBounds i true) (a.put o.dst v) w') : wpOp P ops Q i (fun a' w'=>S w' ∧ wpAnyH P md ops Q S fuel (listed.setIfInBounds i true) a' w') a w:=
 wpOp_step ho fun K' hK=>by rw [if_pos hw];exact hr.wp fun v w' hR=>hK _ _ (h v w' hR)
theorem anyH_alloc (ob : Obj) (f : Nat → Value) (ho : ops[i]? = some o) (hw : Region.wanted o (yielded ops a.tmps) = true) (hr : (execOp a.eval o).run P w = .ok (.value (f w.heap.size)) (w.alloc ob)) (hS : ∀ w',Ext w w' → S w')
  (h : ∀ w' b,Ext w w' → w.heap.size ≤ b → w'.heap[b]? = some ob → S w' → wpAnyH P md ops Q S fuel (listed.setIfInBounds i true) (a.put o.dst (f b)) w') : wpOp P ops Q i (fun a' w'=>S w' ∧ wpAnyH P md ops Q S fuel (listed.setIfInBounds i true) a' w') a w:=
 anyH_op (R:=fun v w'=>v = f w.heap.size ∧ w' = w.alloc ob) ho hw (by unfold RunTo;rw [hr];exact ⟨rfl,rfl⟩) fun v w' ⟨hv,hw'⟩=>by
  subst hv hw'
  have hx : Ext w (w.alloc ob):=ext_alloc (ext_refl _) _
  exact ⟨hS _ hx,h _ _ hx (Nat.le_refl _) (heap_alloc_new _ _) (hS _ hx)⟩
theorem anyH_call (v : Value) (ho : ops[i]? = some o) (hw : Region.wanted o (yielded ops a.tmps) = true) (hr : RunTo P o a.eval w (RetV w v)) (hS : ∀ w',Ext w w' → S w')
  (h : ∀ w',Ext w w' → S w' → wpAnyH P md ops Q S fuel (listed.setIfInBounds i true) (a.put o.dst v) w') : wpOp P ops Q i (fun a' w'=>S w' ∧ wpAnyH P md ops Q S fuel (listed.setIfInBounds i true) a' w') a w:=
 anyH_op ho hw hr fun v' w' hR=>by
  obtain ⟨hx,rfl⟩:=hR
  exact ⟨hS _ hx,h _ hx (hS _ hx)⟩
theorem anyH_y {v : Value} (ho : ops[i]? = some o) (hw : Region.wanted o (yielded ops a.tmps) = true) (hr : (execOp a.eval o).run P w = .ok (.value v) w) (hS : S w)
  (h : wpAnyH P md ops Q S fuel (listed.setIfInBounds i true) (a.put o.dst v) w) : wpOp P ops Q i (fun a' w'=>S w' ∧ wpAnyH P md ops Q S fuel (listed.setIfInBounds i true) a' w') a w:=
 anyH_op (R:=fun v' w'=>v' = v ∧ w' = w) ho hw (by unfold RunTo;rw [hr];exact ⟨rfl,rfl⟩) fun v' w' ⟨hv,hw'⟩=>by
  subst hv hw';exact ⟨hS,h⟩
theorem wp_region_H {l : List Oper} {id : Nat} (hm : P.follows .mixedOrders = true) (h : ∀ w',Ext w w' → wpAnyH P .any l.toArray Q (Ext w) l.toArray.size (Array.replicate l.toArray.size false) a w') : (Code.region id l.toArray true).wp P Q a w:=
 wp_region_held hm (h _ (ext_drew w))
end
end Go.Bu
namespace Go.Bu
open Go
def nextPg (n : Int) (p : Page) : Int:=if p.state = 1 then (if n < p.r.seq then p.r.seq else n) else n
def nextL (xs : List Spot) : Int:=xs.foldl (fun n x=>nextPg n x.2.2) 0
theorem nextL_snoc (xs : List Spot) (x : Spot) : nextL (xs ++ [x]) = nextPg (nextL xs) x.2.2:=by unfold nextL;rw [List.foldl_append];rfl
theorem nextFold : ∀ (ps : List Page) (n : Int),(∀ p ∈ ps,pageOkB p = true) → 0 ≤ n → ps.foldl nextPg n = (if n < most ps then most ps else n) ∧ 0 ≤ ps.foldl nextPg n:=by
 have key : ∀ (ps : List Page) (n : Int),(∀ p ∈ ps,pageOkB p = true) → 0 ≤ n → ps.foldl nextPg n = ps.foldl mostStep n ∧ n ≤ ps.foldl mostStep n:=by
  intro ps
  induction ps with
  | nil=>exact fun n _ _=>⟨rfl,Int.le_refl _⟩
  | cons p ps ih =>
   intro n h hn
   have h1:=pageOk_one (h p (by simp))
   have e : nextPg n p = mostStep n p:=by
    unfold nextPg mostStep
    by_cases hs : p.state = 1
    ·rw [if_pos hs]
    ·rw [if_neg hs,if_neg (by have:=h1.2 hs;omega)]
   have e2 : n ≤ mostStep n p:=by unfold mostStep;split <;> omega
   rw [List.foldl_cons,List.foldl_cons,e]
   obtain ⟨i1,i2⟩:=ih (mostStep n p) (fun q hq=>h q (by simp [hq])) (by omega)
   exact ⟨i1,by omega⟩
 have mx : ∀ (ps : List Page) (n m : Int),ps.foldl mostStep (if n < m then m else n) = if n < ps.foldl mostStep m then ps.foldl mostStep m else (if ps.foldl mostStep m ≤ n then n else ps.foldl mostStep m):=by
  intro ps
  induction ps with
  | nil=>intro n m;simp only [List.foldl_nil];split <;> (try split) <;> omega
  | cons p ps ih =>
   intro n m
   rw [List.foldl_cons,List.foldl_cons]
   have e : mostStep (if n < m then m else n) p = if n < mostStep m p then mostStep m p else n:=by unfold mostStep;split <;> split <;> (try split) <;> omega
   rw [e,ih]
 intro ps n h hn
 obtain ⟨k1,k2⟩:=key ps n h hn
 have:=mx ps n 0
 have hm : (if n < 0 then 0 else n) = n:=by rw [if_neg (by omega)]
 rw [hm] at this
 refine ⟨?_,by omega⟩
 rw [k1,this]
 unfold most
 split <;> (try split) <;> omega
theorem nextL_all {f : List Block} (h : FlashOk f) : nextL (spF f f.length) = maxSeq f:=by
 have e1 : nextL (spF f f.length) = ((spF f f.length).map (·.2.2)).foldl nextPg 0:=by unfold nextL;rw [List.foldl_map]
 have e2:=spF_pages f f.length (Nat.le_refl _)
 rw [List.take_length] at e2
 rw [e1,e2,List.foldl_flatMap]
 have : ∀ (bs : List Block) (n : Int),(∀ b ∈ bs,∀ p ∈ b.pages,pageOkB p = true) → 0 ≤ n → bs.foldl (fun n b=>b.pages.foldl nextPg n) n = bs.foldl nextStep n:=by
  intro bs
  induction bs with
  | nil=>exact fun _ _ _=>rfl
  | cons b bs ih =>
   intro n hp hn
   obtain ⟨k1,k2⟩:=nextFold b.pages n (hp b (by simp)) hn
   rw [List.foldl_cons,List.foldl_cons,ih _ (fun c hc=>hp c (by simp [hc])) k2,k1]
   rfl
 exact this f 0 (fun b hb=>h.pg hb) (Int.le_refl _)
def partScan : Nat → List Block → Option Nat
 | _,[]=>none
 | i,b :: rest=>if partB b.pages = true then some i else partScan (i + 1) rest
def bestScan (f : List Block) : Nat → Nat → Bool → List Block → Nat × Bool
 | _,m,fd,[]=>(m,fd)
 | i,m,fd,b :: rest=>if cleanN b.pages = 4 ∧ (fd = false ∨ b.worn < (blockAt f m).worn) then bestScan f (i + 1) i true rest else bestScan f (i + 1) m fd rest
theorem partScan_drop (f : List Block) (k : Nat) (h : k < f.length) : partScan k (f.drop k) = if partB f[k].pages = true then some k else partScan (k + 1) (f.drop (k + 1)):=by
 rw [List.drop_eq_getElem_cons h];rfl
theorem bestScan_drop (f : List Block) (k m : Nat) (fd : Bool) (h : k < f.length) : bestScan f k m fd (f.drop k) = if cleanN f[k].pages = 4 ∧ (fd = false ∨ f[k].worn < (blockAt f m).worn) then bestScan f (k + 1) k true (f.drop (k + 1)) else bestScan f (k + 1) m fd (f.drop (k + 1)):=by
 rw [List.drop_eq_getElem_cons h];rfl
def openI (f : List Block) : Int × Bool:=match partScan 0 f with
 | some i=>((i : Int),true)
 | none=>(((bestScan f 0 0 false f).1 : Int),(bestScan f 0 0 false f).2)
theorem openI_eq {f : List Block} (h : ∀ b ∈ f,b.pages.length = 4) : openB f = openI f:=by
 have key : ∀ (rest : List Block) (i : Nat) (out : Int) (m : Nat) (fd : Bool),(∀ b ∈ rest,b.pages.length = 4) → (fd = true → out = m) → (fd = false → out = -1 ∧ m = 0) →
   openScan f i out rest = match partScan i rest with | some j=>((j : Int),true) | none=>(((bestScan f i m fd rest).1 : Int),(bestScan f i m fd rest).2):=by
  intro rest
  induction rest with
  | nil =>
   intro i out m fd _ h1 h2
   simp only [openScan,partScan,bestScan]
   cases fd
   ·obtain ⟨rfl,rfl⟩:=h2 rfl;rfl
   ·obtain rfl:=h1 rfl
    refine Prod.ext ?_ (by simp)
    show (if (0 : Int) < m then (m : Int) else 0) = m
    split <;> omega
  | cons b rest ih =>
   intro i out m fd hp h1 h2
   have h4:=hp b (by simp)
   have hb:=cleanN_bd b.pages 0
   have hb' : cleanN b.pages ≤ 4:=by unfold cleanN;omega
   simp only [openScan,partScan,bestScan]
   by_cases hc : 0 < cleanN b.pages ∧ cleanN b.pages < 4
   ·rw [if_pos hc,if_pos (by unfold partB;simp [hc.1,hc.2])]
   ·rw [if_neg hc,if_neg (by unfold partB;simpa using hc)]
    unfold openStep
    cases fd
    ·obtain ⟨rfl,rfl⟩:=h2 rfl
     by_cases h0 : 0 < cleanN b.pages
     ·rw [if_pos ⟨h0,.inl (by omega)⟩,if_pos ⟨by omega,.inl rfl⟩]
      exact ih _ _ _ true (fun c hc=>hp c (by simp [hc])) (fun _=>rfl) (fun e=>by cases e)
     ·rw [if_neg (fun e=>h0 e.1),if_neg (by omega)]
      exact ih _ _ _ false (fun c hc=>hp c (by simp [hc])) (fun e=>by cases e) (fun _=>⟨rfl,rfl⟩)
    ·obtain rfl:=h1 rfl
     have e : (f[(m : Int).toNat]?.map (·.worn)).getD 0 = (blockAt f m).worn:=by
      unfold blockAt
      rw [Int.toNat_natCast]
      cases f[m]? <;> rfl
     rw [e]
     by_cases h0 : 0 < cleanN b.pages ∧ b.worn < (blockAt f m).worn
     ·rw [if_pos ⟨h0.1,.inr h0.2⟩,if_pos ⟨by omega,.inr h0.2⟩]
      exact ih _ _ _ true (fun c hc=>hp c (by simp [hc])) (fun _=>rfl) (fun e=>by cases e)
     ·rw [if_neg (by omega),if_neg (by simp;omega)]
      exact ih _ _ _ true (fun c hc=>hp c (by simp [hc])) (fun _=>rfl) (fun e=>by cases e)
 exact key f 0 (-1) 0 false h (fun e=>by cases e) (fun _=>⟨rfl,rfl⟩)
end Go.Bu
namespace Go.Bu
open Go Go.RowKit Go.Plan Go.Proofs
theorem toSteps_len (s : Store) (xs : List Step) (cut : Int) (t : Bool) : (toSteps s xs cut t).flash.length = s.flash.length ∧ (toSteps s xs cut t).disk.length = s.disk.length:=by
 unfold toSteps
 have h1:=doAll_len (xs.take cut.toNat) s
 split
 ·have h2:=doStep_len (doAll s (xs.take cut.toNat)) ((xs[cut.toNat]?).getD ⟨0,0,0,0,rec0⟩) true
  exact ⟨h2.1.trans h1.1,h2.2.trans h1.2⟩
 ·exact h1
theorem l12To_v (c : SC) (s t : Store) (sv : Value) (xs : List Step) (cut : Int) (torn : Bool) (w : World) (h : OwnS c w s) (hs : Shape s) (hx : StepsAt c w sv xs) (hf : ∀ x ∈ xs,Fit x) (hn : xs.length ≤ 1000) (hc : -1000000 ≤ cut)
  (hl : s.flash.length = t.flash.length ∧ s.disk.length = t.disk.length) :
  Calls Tryz.prog 69 #[.agg #[c.fv t,c.dv t],sv,.int .i64 cut,.bool torn] w (RetOv c w (c.fv t) (c.dv t) (toSteps s xs cut torn)):=by
 obtain ⟨h1,h2⟩:=SC.same (c:=c) hl
 have:=l12To_c c s sv xs cut torn w h hs hx hf hn hc
 rw [h1,h2] at this
 refine this.mono fun e w' ⟨he,hc,ho⟩=>⟨?_,hc,ho⟩
 obtain ⟨h3,h4⟩:=SC.same (c:=c) (toSteps_len s xs cut torn)
 rw [he,h3,h4,h1,h2]
theorem OwnS.v {c : SC} {w : World} {s t : Store} (h : OwnS c w s) (hl : s.flash.length = t.flash.length ∧ s.disk.length = t.disk.length) : StoreV w (c.fv t) (c.dv t) s:=by
 obtain ⟨h1,h2⟩:=SC.same (c:=c) hl
 rw [← h1,← h2];exact ⟨h.fl,h.dk⟩
def allStep (s : Store) (n : Nat) : Store:=doAll s (flushSteps s n)
def addrs6 : List Nat:=[0,1,2,3,4,5]
def playAllS (s : Store) : Store:=addrs6.foldl allStep s
def playDoS (s : Store) (e : Event) : Store:=if e.kind = 4 then playAllS s else if e.c < 0 then s else toSteps s (playSteps s e) e.c e.torn
theorem addrs6_get {k : Nat} (h : k < addrs6.length) : addrs6[k] = k:=by
 have : k < 6:=h
 rcases (show k = 0 ∨ k = 1 ∨ k = 2 ∨ k = 3 ∨ k = 4 ∨ k = 5 by omega) with rfl | rfl | rfl | rfl | rfl | rfl <;> rfl
theorem toSteps_all (s : Store) (xs : List Step) : toSteps s xs xs.length false = doAll s xs:=by
 unfold toSteps;simp
theorem addrStep_at (g : Nat → List Step) (n : Nat) (h : n < 6) : addrStep g ((n : Int) + 1) = g n:=by
 unfold addrStep;rw [inB_iff.2 (by omega)];simp
theorem StoreP.allStep {s : Store} (h : StoreP s) {n : Nat} (hn : n < 6) : StoreP (allStep s n):=h.all (flush_ok (flashOk_iff.1 h.flash) hn)
theorem StoreP.playAll {s : Store} (h : StoreP s) : StoreP (playAllS s):=by
 refine foldl_inv Bu.allStep StoreP addrs6 s h fun s n hn hs=>hs.allStep ?_
 simp [addrs6] at hn;omega
theorem StoreP.play {s : Store} (h : StoreP s) (e : Event) : StoreP (playDoS s e):=by
 unfold playDoS
 split
 ·exact h.playAll
 ·split
  ·exact h
  ·exact h.to (play_ok (flashOk_iff.1 h.flash) e) _ _
theorem allStep_len (s : Store) (n : Nat) : (allStep s n).flash.length = s.flash.length ∧ (allStep s n).disk.length = s.disk.length:=doAll_len _ s
theorem flush_le {s : Store} (h : flashOkB s.flash = true) (n : Nat) : (flushSteps s n).length ≤ 7:=by
 have:=write_le h 2 ((n : Int) + 1) (readN s n)
 unfold flushSteps;(repeat' split) <;> simp <;> omega
set_option maxRecDepth 20000 in
set_option maxHeartbeats 4000000 in
theorem l21All_c (c : SC) (s : Store) (w : World) (h : OwnS c w s) (hs : StoreP s) :
  Calls Tryz.prog 68 #[.agg #[c.fv s,c.dv s]] w (RetO c w (playAllS s)):=by
 have HNB:=Lib.hid h.new
 have HS:=Lib.hid hs
 obtain ⟨A,hA⟩ : ∃ A,playAllS s = A:=⟨_,rfl⟩
 rw [hA]
 have HA : Hid ((addrs6.drop 0).foldl allStep s = A):=Lib.hid hA
 clear hA hs
 go_enter Tryz.func68,Tryz.ntmps68
 go_wp2_with fail
 go_loopw [3] (fun y wr=>∃ (k : Nat) (s1 : Store),k ≤ 6 ∧ y = .int .i64 ((k : Int) + 1) ∧ Chg c.L w wr ∧ OwnS c wr s1 ∧ Hid (StoreP s1) ∧ Hid (s1.flash.length = s.flash.length ∧ s1.disk.length = s.disk.length) ∧
  Hid ((addrs6.drop k).foldl allStep s1 = A) ∧ wr.heap[w.heap.size]? = some (.cells #[c.fv s,c.dv s] 42 (0,0)) ∧ wr.heap[w.heap.size + 1]? = some (.cells #[.slice none 0 0,.slice none 0 0] 42 (0,0))) (fun y _=>7 - (intOf y).toNat)
 case atStart =>
  exact ⟨0,s,by omega,rfl,Chg.of_ext (by go_grown),h.ext (by go_grown),HS,Lib.hid ⟨rfl,rfl⟩,HA,hg_alloc (hg_new rfl),hg_new (by simp)⟩
 case round =>
  obtain ⟨k,s1,hk,rfl,hC,hO,HS1,HE,HR,G0,G1⟩:=hrel
  obtain ⟨g0,gf0⟩:=cellsK G0
  obtain ⟨g1,gf1⟩:=cellsK G1
  have l0:=heap_lt G0
  have l1:=heap_lt G1
  by_cases hlt : k < 6
  ·have hq:=addrStep_at (flushSteps s1) k hlt
   have hfo:=flush_ok (flashOk_iff.1 HS1.out.flash) hlt
   have hfl:=flush_le HS1.out.flash k
   have ht:=toSteps_all s1 (flushSteps s1 k)
   have hsp:=HS1.out.allStep hlt
   have hal:=allStep_len s1 k
   rw [foldl_drop _ _ _ _ hlt,addrs6_get hlt,show allStep s1 k = doAll s1 (flushSteps s1 k) from rfl] at HR
   rw [show allStep s1 k = doAll s1 (flushSteps s1 k) from rfl] at hsp hal
   have HT:=Lib.hid ht;have HFO:=Lib.hid hfo;have HQ:=Lib.hid hq;have HSP:=Lib.hid hsp;have HAL:=Lib.hid hal
   clear ht hfo hq hsp hal
   go_wp2_with fail
   refine (l12Flush_c _ _ s1 ((k : Int) + 1) _ (hO.v HE.out) HS1.out).mono ?_;rintro e1 w1 ⟨sv,rfl,hx1,hS,hsl⟩
   rw [HQ.out] at hS hsl
   generalize flushSteps s1 k = FS at *
   have hat:=hS.at_ (c:=c) fun b hb hm=>by have:=hO.lt b hm;omega
   obtain ⟨sa,scap,rfl⟩:=hS.form
   have HAT:=Lib.hid hat
   replace G0:=keep_ext hx1 G0
   replace G1:=keep_ext hx1 G1
   clear g0 gf0 g1 gf1 hat hS
   obtain ⟨g0,gf0⟩:=cellsK G0
   obtain ⟨g1,gf1⟩:=cellsK G1
   go_wp2_with fail
   refine (l12To_v c s1 s _ FS FS.length false _ (hO.ext hx1) HS1.out.shape HAT.out (fun x hm=>(HFO.out x hm).fit) (by omega) (by omega) HE.out).mono ?_;rintro e2 w2 ⟨rfl,hC2,hO2⟩
   rw [HT.out] at hO2
   have HC2:=Lib.hid (hC.trans (Chg.trans (Chg.of_ext hx1) hC2));have HO2:=Lib.hid hO2
   replace G0:=hC2.keep G0 (HNB.out _ (by omega))
   replace G1:=hC2.keep G1 (HNB.out _ (by omega))
   clear hC2 hO2 g0 gf0 g1 gf1
   obtain ⟨g0,gf0⟩:=cellsK G0
   obtain ⟨g1,gf1⟩:=cellsK G1
   go_wp2_with fail
   refine ⟨⟨k + 1,doAll s1 FS,by omega,by go_num,?_,?_,HSP,Lib.hid ⟨HAL.out.1.trans HE.out.1,HAL.out.2.trans HE.out.2⟩,HR,hgo (by (repeat (first | with_reducible apply hg_here | (with_reducible apply hg_set;focus (dsimp only;omega)) | with_reducible apply hg_alloc));with_reducible exact G0) ?_,(by (repeat (first | with_reducible apply hg_here | (with_reducible apply hg_set;focus (dsimp only;omega)) | with_reducible apply hg_alloc));with_reducible exact G1)⟩,by simp [intOf];omega⟩
   ·have hc:=HC2.out
    ((repeat (first | with_reducible (refine Chg.set2 ?_ ?_);focus (exact Or.inr (by dsimp only;omega)) | with_reducible refine Chg.alloc2 ?_));with_reducible exact hc)
   ·have ho:=HO2.out
    ((repeat (first | (with_reducible apply OwnS.set2;focus (exact HNB.out _ (by dsimp only;omega))) | with_reducible apply OwnS.alloc2));with_reducible exact ho)
   ·simp
  ·obtain rfl : k = 6:=by omega
   have hsA : s1 = A:=HR.out
   subst hsA
   clear HR HA
   go_wp2_with fail
   refine bodyPost_ret (v:=.agg #[c.fv s,c.dv s]) (by simp [results,Tryz.results68,go_sem,g0,gf0,g1,gf1]) rfl ?_
   obtain ⟨q1,q2⟩:=SC.same (c:=c) HE.out
   refine ⟨by rw [q1,q2],?_,?_⟩
   ·((repeat (first | with_reducible (refine Chg.set2 ?_ ?_);focus (exact Or.inr (by dsimp only;omega)) | with_reducible refine Chg.alloc2 ?_));with_reducible exact hC)
   ·((repeat (first | (with_reducible apply OwnS.set2;focus (exact HNB.out _ (by dsimp only;omega))) | with_reducible apply OwnS.alloc2));with_reducible exact hO)
theorem playAllS_len (s : Store) : (playAllS s).flash.length = s.flash.length ∧ (playAllS s).disk.length = s.disk.length:=
 foldl_inv allStep (fun t=>t.flash.length = s.flash.length ∧ t.disk.length = s.disk.length) addrs6 s ⟨rfl,rfl⟩ fun t n _ ht=>⟨(allStep_len t n).1.trans ht.1,(allStep_len t n).2.trans ht.2⟩
theorem play_le {s : Store} (h : flashOkB s.flash = true) (e : Event) : (playSteps s e).length ≤ 7:=by
 unfold playSteps putSteps
 split
 ·have:=write_le h 1 e.a e.b;omega
 ·split
  ·unfold addrStep;split
   ·exact flush_le h _
   ·simp
  ·split
   ·unfold addrStep;split
    ·unfold fillSteps;split
     ·simp
     ·have:=write_le h 2 (((e.a - 1).toNat : Int) + 1) (s.disk.getD (e.a - 1).toNat 0);omega
    ·simp
   ·simp
set_option maxRecDepth 20000 in
set_option maxHeartbeats 4000000 in
theorem l21Do_c (c : SC) (s : Store) (e : Event) (w : World) (h : OwnS c w s) (hs : StoreP s) :
  Calls Tryz.prog 50 #[.agg #[c.fv s,c.dv s],eventA e] w (RetO c w (playDoS s e)):=by
 have HNB:=Lib.hid h.new
 have HS:=Lib.hid hs
 obtain ⟨k,a,b,cut,torn⟩:=e
 by_cases h4 : k = 4
 ·subst h4
  rw [show playDoS s ⟨4,a,b,cut,torn⟩ = playAllS s from rfl]
  clear hs
  go_enter Tryz.func50,Tryz.ntmps50
  go_wp2_with fail
  refine (l21All_c c s _ (h.ext (by go_grown)) HS.out).mono ?_;rintro e1 w1 ⟨rfl,hC,hO⟩
  obtain ⟨q1,q2⟩:=SC.same (c:=c) (playAllS_len s)
  have G2:=hC.keep (hg_new (b:=w.heap.size + 1 + 1) (by simp)) (HNB.out _ (by omega))
  obtain ⟨g2,gf2⟩:=cellsK G2
  have HC:=Lib.hid (Chg.trans (Chg.of_ext (by go_grown)) hC : Chg c.L w w1);have HO:=Lib.hid hO
  have HR : Hid (RetO c w (playAllS s) (.returned (.agg #[c.fv s,c.dv s])) ((w1.setCell ⟨w.heap.size + 1 + 1,0,none⟩ (c.fv s)).setCell ⟨w.heap.size + 1 + 1,1,none⟩ (c.dv s))):=by
   refine Lib.hid ⟨by rw [q1,q2],?_,?_⟩
   ·have hc:=HC.out
    ((repeat (first | with_reducible (refine Chg.set2 ?_ ?_);focus (exact Or.inr (by dsimp only;omega)) | with_reducible refine Chg.alloc2 ?_));with_reducible exact hc)
   ·have ho:=HO.out
    ((repeat (first | (with_reducible apply OwnS.set2;focus (exact HNB.out _ (by dsimp only;omega))) | with_reducible apply OwnS.alloc2));with_reducible exact ho)
  rw [q1,q2]
  clear hC hO q1 q2
  generalize playAllS s = s2 at *
  go_wp2_with fail
  exact bodyPost_ret (v:=.agg #[c.fv s,c.dv s]) (by simp [results,Tryz.results50,go_sem,g2,gf2]) rfl HR.out
 by_cases hc0 : cut < 0
 ·rw [show playDoS s ⟨k,a,b,cut,torn⟩ = s from by unfold playDoS;rw [if_neg h4,if_pos hc0]]
  have hkf : (k == 4) = false:=by simpa using h4
  clear h4 hs
  go_enter Tryz.func50,Tryz.ntmps50
  go_wp2_with fail
  refine bodyPost_ret (v:=.agg #[c.fv s,c.dv s]) (by simp [results,Tryz.results50,go_sem]) rfl ⟨rfl,?_,?_⟩
  ·exact Chg.of_ext (by go_grown)
  ·exact h.ext (by go_grown)
 ·have hq : playDoS s ⟨k,a,b,cut,torn⟩ = toSteps s (playSteps s ⟨k,a,b,cut,torn⟩) cut torn:=by unfold playDoS;rw [if_neg h4,if_neg hc0]
  rw [hq]
  have hkf : (k == 4) = false:=by simpa using h4
  have hfo:=play_ok (flashOk_iff.1 hs.flash) ⟨k,a,b,cut,torn⟩
  have hle:=play_le hs.flash ⟨k,a,b,cut,torn⟩
  have HFO:=Lib.hid hfo;have HLE:=Lib.hid hle
  obtain ⟨PS,hps⟩ : ∃ PS,playSteps s ⟨k,a,b,cut,torn⟩ = PS:=⟨_,rfl⟩
  have HPS:=Lib.hid hps
  rw [hps]
  have hst : ∀ w',Ext w w' → Calls Tryz.prog 70 #[.agg #[c.fv s,c.dv s],eventA ⟨k,a,b,cut,torn⟩] w' (RetP w' (SΦ w.heap.size PS)):=fun w' hx =>
   (l21Steps_c _ _ s ⟨k,a,b,cut,torn⟩ w' ((h.ext hx).v ⟨rfl,rfl⟩) hs).mono fun e w'' h=>by rw [hps] at h;exact RetS.weak h hx.size
  have HST:=Lib.hid hst
  clear h4 hs hq hps hfo hle hst
  go_enter Tryz.func50,Tryz.ntmps50
  go_wp2_with fail
  refine wp_region_ext [3] [0,1,2,4,5,6,7,3] [] [8,9] (by kernel_rfl) (by kernel_rfl) ?late ?_
  case late=>exact fun f hf=>absurd hf List.not_mem_nil
  iterate 3
   refine Rob.y (v:=?_) rfl rfl (fun w1 hx hH=>?_) ?_;rotate_left
   ·(obtain ⟨hcx,hfx⟩:=bcell hx);go_simp;first | done | rfl
   simp only [Act.put,slA,slB,slC]
  refine Rob.y (v:=?_) rfl rfl (fun w1 hx hH=>?_) ?_;rotate_left
  ·go_simp;first | done | rfl | exact (Bool.not_not _).symm
  simp only [Act.put,slA,slB,slC]
  refine Rob.y (v:=?_) rfl rfl (fun w1 hx hH=>?_) ?_;rotate_left
  ·(obtain ⟨hcx,hfx⟩:=bcell hx);go_simp;first | done | rfl
  simp only [Act.put,slA,slB,slC]
  refine Rob.y (v:=?_) rfl rfl (fun w1 hx hH=>?_) ?_;rotate_left
  ·go_simp;first | done | rfl | exact (Bool.not_not _).symm
  simp only [Act.put,slA,slB,slC]
  refine Rob.y (v:=?_) rfl rfl (fun w1 hx hH=>?_) ?_;rotate_left
  ·(obtain ⟨hcx,hfx⟩:=bcell hx);go_simp;first | done | rfl
  simp only [Act.put,slA,slB,slC]
  refine Rob.c ((fun lo hi v w'=>SΦ w.heap.size PS v w')) rfl rfl rfl (fun _ _=>ext_trans) (fun _ _ _ _ _=>fun h hx=>h.ext hx) (fun w1 hx hH=>?_) (fun lo3 hi3 v3 hlo3 hhi3 hv3=>?_)
  ·unfold RunTo;go_simp;exact ((HST.out _ (ext_trans (by go_grown) hx))).mono fun e w' h=>h.to
  simp only [Act.put,slA,slB,slC]
  refine fin_tail (fun w2 hx2 _=>?_)
  simp only [dstOf,List.getElem?_cons_succ,List.getElem?_cons_zero,Option.bind_some,Act.put,slA,slB,slC,List.filterMap_cons,List.filterMap_nil]
  obtain ⟨hX2,⟨bb,hbb,hS⟩,hsl⟩:=hx2
  have X2 : Ext w w2:=ext_trans (by go_grown) hX2
  have hO:=h.ext X2
  have hat:=hS.at_ (c:=c) fun b' hb' hm=>by have:=h.lt b' hm;omega
  obtain ⟨sa,scap,rfl⟩:=hS.form
  have HAT:=Lib.hid hat;clear hat hS
  have G2:=keep_ext hX2 (hg_new (b:=w.heap.size + 1 + 1) (by simp))
  obtain ⟨g2,gf2⟩:=cellsK G2
  go_wp2_with (go_at_call 69;refine (l12To_v c s s _ PS cut torn _ hO HS.out.shape HAT.out (fun x hm=>(HFO.out x (by rw [HPS.out];exact hm)).fit) (by omega) (by omega) ⟨rfl,rfl⟩).mono ?_;rintro e3 w3 ⟨rfl,hC3,hO3⟩;have HC3:=Lib.hid (Chg.trans (Chg.of_ext X2) hC3);have HO3:=Lib.hid hO3;replace G2:=hC3.keep G2 (HNB.out _ (by omega));clear hC3 hO3 g2 gf2;obtain ⟨g2,gf2⟩:=cellsK G2)
  have l2:=heap_lt G2
  obtain ⟨q1,q2⟩:=SC.same (c:=c) (toSteps_len s PS cut torn)
  refine bodyPost_ret (v:=.agg #[c.fv s,c.dv s]) (by simp [results,Tryz.results50,go_sem,g2,gf2]) rfl ⟨by rw [q1,q2],?_,?_⟩
  ·have hc:=HC3.out
   ((repeat (first | with_reducible (refine Chg.set2 ?_ ?_);focus (exact Or.inr (by dsimp only;omega)) | with_reducible refine Chg.alloc2 ?_));with_reducible exact hc)
  ·have ho:=HO3.out
   ((repeat (first | (with_reducible apply OwnS.set2;focus (exact HNB.out _ (by dsimp only;omega))) | with_reducible apply OwnS.alloc2));with_reducible exact ho)
end Go.Bu
namespace Go.Bu
open Go
def W (b : Block) (r : Rec) : Prop:=∃ p ∈ b.pages,p.state = 1 ∧ p.r = r
def WF (f : List Block) (r : Rec) : Prop:=∃ b ∈ f,W b r
theorem W.seq {b : Block} {r : Rec} (h : W b r) : r.seq ∈ pseqs b.pages:=by obtain ⟨p,hp,h1,rfl⟩:=h;exact mem_pseqs.2 ⟨p,hp,h1,rfl⟩
theorem W.of_seq {b : Block} {n : Int} (h : n ∈ pseqs b.pages) : ∃ r,W b r ∧ r.seq = n:=by obtain ⟨p,hp,h1,h2⟩:=mem_pseqs.1 h;exact ⟨p.r,⟨p,hp,h1,rfl⟩,h2⟩
theorem WF.seq {f : List Block} {r : Rec} (h : WF f r) : r.seq ∈ seqs f:=by obtain ⟨b,hb,p,hp,h1,rfl⟩:=h;exact mem_seqs.2 ⟨b,hb,p,hp,h1,rfl⟩
theorem WF.ok {f : List Block} (hf : FlashOk f) {r : Rec} (h : WF f r) : recOkB r = true:=by obtain ⟨b,hb,p,hp,h1,rfl⟩:=h;exact liveP_ok hf hb hp h1
theorem W.ok {f : List Block} (hf : FlashOk f) {b : Block} (hb : b ∈ f) {r : Rec} (h : W b r) : recOkB r = true:=WF.ok hf ⟨b,hb,h⟩
theorem filterMap_uniq {α β : Type} (g : α → Option β) : ∀ (xs : List α),(xs.filterMap g).Nodup → ∀ x y v,x ∈ xs → y ∈ xs → g x = some v → g y = some v → x = y
 | [],_,_,_,_,hx,_,_,_=>by cases hx
 | a :: xs,hn,x,y,v,hx,hy,h1,h2=>by
  have hin : ∀ z,z ∈ xs → g z = some v → v ∈ xs.filterMap g:=fun z hz h=>List.mem_filterMap.2 ⟨z,hz,h⟩
  cases ha : g a with
  | none =>
   rw [List.filterMap_cons_none ha] at hn
   rcases List.mem_cons.1 hx with rfl | hx
   ·rw [h1] at ha;cases ha
   ·rcases List.mem_cons.1 hy with rfl | hy
    ·rw [h2] at ha;cases ha
    ·exact filterMap_uniq g xs hn x y v hx hy h1 h2
  | some u =>
   rw [List.filterMap_cons_some ha,List.nodup_cons] at hn
   rcases List.mem_cons.1 hx with e1 | hx1
   ·rcases List.mem_cons.1 hy with e2 | hy1
    ·rw [e1,e2]
    ·rw [e1,ha] at h1;cases h1;exact absurd (hin y hy1 h2) hn.1
   ·rcases List.mem_cons.1 hy with e2 | hy1
    ·rw [e2,ha] at h2;cases h2;exact absurd (hin x hx1 h1) hn.1
    ·exact filterMap_uniq g xs hn.2 x y v hx1 hy1 h1 h2
theorem seqs_flat (f : List Block) : seqs f = (f.flatMap (·.pages)).filterMap seqOf:=by
 unfold seqs pseqs
 induction f with
 | nil=>rfl
 | cons b f ih=>rw [List.flatMap_cons,List.flatMap_cons,List.filterMap_append,ih]
theorem FlashOk.rec_uniq {f : List Block} (h : FlashOk f) {r q : Rec} (hr : WF f r) (hq : WF f q) (he : r.seq = q.seq) : r = q:=by
 have hn:=h.nd
 rw [seqs_flat] at hn
 obtain ⟨b,hb,p,hp,h1,rfl⟩:=hr
 obtain ⟨c,hc,p',hp',h1',rfl⟩:=hq
 have:=filterMap_uniq seqOf _ hn p p' p.r.seq (List.mem_flatMap.2 ⟨b,hb,hp⟩) (List.mem_flatMap.2 ⟨c,hc,hp'⟩) (by unfold seqOf;rw [if_pos h1]) (by unfold seqOf;rw [if_pos h1',he])
 rw [this]
theorem FlashOk.one_block {f : List Block} (h : FlashOk f) {i k : Nat} {a b : Block} (ha : f[i]? = some a) (hb : f[k]? = some b) (hik : i ≠ k) {m : Int} (h1 : m ∈ pseqs a.pages) (h2 : m ∈ pseqs b.pages) : False:=by
 obtain ⟨hi,rfl⟩:=List.getElem?_eq_some_iff.1 ha
 obtain ⟨hk,rfl⟩:=List.getElem?_eq_some_iff.1 hb
 obtain ⟨p,hp,p1,p2⟩:=mem_pseqs.1 h1
 obtain ⟨q,hq,q1,q2⟩:=mem_pseqs.1 h2
 exact h.apart hi hk hik hp hq p1 q1 (by omega)
theorem mostFold_spec : ∀ (ps : List Page) (n : Int),n ≤ ps.foldl mostStep n ∧ (∀ p ∈ ps,p.r.seq ≤ ps.foldl mostStep n)
 | [],n=>⟨Int.le_refl _,fun _ h=>(by cases h)⟩
 | p :: ps,n=>by
  rw [List.foldl_cons]
  obtain ⟨h1,h2⟩:=mostFold_spec ps (mostStep n p)
  have h3 : n ≤ mostStep n p ∧ p.r.seq ≤ mostStep n p:=by unfold mostStep;split <;> omega
  refine ⟨by omega,fun q hq=>?_⟩
  rcases List.mem_cons.1 hq with rfl | hq
  ·omega
  ·exact h2 q hq
theorem leastFold_spec : ∀ (ps : List Page) (n : Int),0 ≤ n → 0 ≤ ps.foldl leastStep n ∧ (0 < n → 0 < ps.foldl leastStep n ∧ ps.foldl leastStep n ≤ n) ∧ (∀ p ∈ ps,0 < p.r.seq → 0 < ps.foldl leastStep n ∧ ps.foldl leastStep n ≤ p.r.seq)
 | [],n,h=>⟨h,fun h=>⟨h,Int.le_refl _⟩,fun _ h=>(by cases h)⟩
 | p :: ps,n,h=>by
  rw [List.foldl_cons]
  have h3 : 0 ≤ leastStep n p ∧ (0 < n → 0 < leastStep n p ∧ leastStep n p ≤ n) ∧ (0 < p.r.seq → 0 < leastStep n p ∧ leastStep n p ≤ p.r.seq):=by unfold leastStep;split <;> omega
  obtain ⟨h1,h2,h4⟩:=leastFold_spec ps (leastStep n p) h3.1
  refine ⟨h1,fun hn=>?_,fun q hq hs=>?_⟩
  ·have:=h3.2.1 hn;have:=h2 this.1;omega
  ·rcases List.mem_cons.1 hq with rfl | hq
   ·have:=h3.2.2 hs;have:=h2 this.1;omega
   ·exact h4 q hq hs
theorem pg_state {p : Page} (h : pageOkB p = true) (hs : 0 < p.r.seq) : p.state = 1:=Decidable.byContradiction fun hn=>by have:=(pageOk_one h).2 hn;omega
theorem most_spec {ps : List Page} (h : ∀ p ∈ ps,pageOkB p = true) : (∀ n ∈ pseqs ps,1 ≤ n ∧ n ≤ most ps) ∧ (0 < most ps → most ps ∈ pseqs ps) ∧ 0 ≤ most ps:=by
 have hf:=mostFold_spec ps 0
 refine ⟨fun n hn=>?_,fun hm=>?_,hf.1⟩
 ·obtain ⟨p,hp,h1,rfl⟩:=mem_pseqs.1 hn
  exact ⟨(pageOk_one (h p hp)).1 h1,hf.2 p hp⟩
 ·rcases most_mem ps 0 with e | ⟨p,hp,e⟩
  ·unfold most at hm;omega
  ·have e' : p.r.seq = most ps:=e
   exact mem_pseqs.2 ⟨p,hp,pg_state (h p hp) (by omega),e'⟩
theorem least_spec {ps : List Page} (h : ∀ p ∈ ps,pageOkB p = true) : (∀ n ∈ pseqs ps,least ps ≤ n) ∧ (0 < most ps → least ps ∈ pseqs ps):=by
 have hf:=leastFold_spec ps 0 (Int.le_refl _)
 refine ⟨fun n hn=>?_,fun hm=>?_⟩
 ·obtain ⟨p,hp,h1,rfl⟩:=mem_pseqs.1 hn
  exact (hf.2.2 p hp (by have:=(pageOk_one (h p hp)).1 h1;omega)).2
 ·obtain ⟨p,hp,h1,h2⟩:=mem_pseqs.1 ((most_spec h).2.1 hm)
  have hp0:=(hf.2.2 p hp (by omega)).1
  rcases least_mem ps 0 with e | ⟨q,hq,e⟩
  ·rw [e] at hp0;exact absurd hp0 (by decide)
  ·have e' : q.r.seq = least ps:=e
   have h0 : 0 < least ps:=hp0
   exact mem_pseqs.2 ⟨q,hq,pg_state (h q hq) (by omega),e'⟩
def ordP (a b : Block) : Prop:=(∀ m ∈ pseqs a.pages,∀ n ∈ pseqs b.pages,n ≤ m) ∨ ∀ m ∈ pseqs a.pages,∀ n ∈ pseqs b.pages,m ≤ n
def topP (a b : Block) : Prop:=partB a.pages = true → partB b.pages = false ∧ (pseqs a.pages ≠ [] → ∀ n ∈ pseqs b.pages,∃ m ∈ pseqs a.pages,n ≤ m)
theorem ordP.symm {a b : Block} (h : ordP a b) : ordP b a:=h.elim (fun h=>.inr fun m hm n hn=>h n hn m hm) fun h=>.inl fun m hm n hn=>h n hn m hm
theorem ne_nil_of_mem' {α : Type} {x : α} {xs : List α} (h : x ∈ xs) : xs ≠ []:=by rintro rfl;cases h
theorem badPair_recs {i k : Nat} {a b : Block} (ha : ∀ p ∈ a.pages,pageOkB p = true) (hb : ∀ p ∈ b.pages,pageOkB p = true) : badPair i k a b = false ↔ (i ≠ k → ordP a b ∧ topP a b):=by
 rw [badPair_iff]
 obtain ⟨a1,a2,a3⟩:=most_spec ha
 obtain ⟨b1,b2,b3⟩:=most_spec hb
 obtain ⟨a4,a5⟩:=least_spec ha
 obtain ⟨b4,b5⟩:=least_spec hb
 have hmm : ∀ {ps : List Page},(∀ n ∈ pseqs ps,1 ≤ n ∧ n ≤ most ps) → pseqs ps ≠ [] → 0 < most ps:=by
  intro ps h hne
  obtain ⟨x,hx⟩:=List.exists_mem_of_ne_nil _ hne
  have:=h x hx;omega
 constructor
 ·intro h hik
  obtain ⟨h1,h2⟩:=h hik
  refine ⟨?_,fun hpt=>?_⟩
  ·by_cases hA : 0 < most a.pages
   ·by_cases hB : 0 < most b.pages
    ·by_cases hl : least a.pages < most b.pages
     ·right
      intro m hm n hn
      have:=(a1 m hm).2;have:=b4 n hn
      omega
     ·left
      intro m hm n hn
      have:=(b1 n hn).2;have:=a4 m hm
      omega
    ·left
     intro m hm n hn
     exact absurd (hmm b1 (ne_nil_of_mem' hn)) hB
   ·left
    intro m hm n hn
    exact absurd (hmm a1 (ne_nil_of_mem' hm)) hA
  ·refine ⟨?_,fun hne n hn=>⟨most a.pages,a2 (hmm a1 hne),?_⟩⟩
   ·rw [← Bool.not_eq_true];exact fun hb=>h2 ⟨hpt,.inl hb⟩
   ·have:=(b1 n hn).2
    have h0:=hmm a1 hne
    have : ¬ most a.pages < most b.pages:=fun hlt=>h2 ⟨hpt,.inr ⟨h0,hlt⟩⟩
    omega
 ·intro h hik
  obtain ⟨h1,h2⟩:=h hik
  refine ⟨?_,?_⟩
  ·rintro ⟨c1,c2,c3,c4⟩
   rcases h1 with h1 | h1
   ·have:=h1 _ (a5 c1) _ (b2 c2);omega
   ·have:=h1 _ (a2 c1) _ (b5 c2);omega
  ·rintro ⟨hpt,h3⟩
   obtain ⟨h4,h5⟩:=h2 hpt
   rcases h3 with h3 | ⟨h3,h6⟩
   ·rw [h3] at h4;cases h4
   ·have hma:=a2 h3
    obtain ⟨m,hm,hle⟩:=h5 (ne_nil_of_mem' hma) _ (b2 (by omega))
    have:=(a1 m hm).2
    omega
structure Ord (f : List Block) : Prop where
 ok : FlashOk f
 pair : ∀ (i k : Nat) a b,f[i]? = some a → f[k]? = some b → i ≠ k → ordP a b ∧ topP a b
theorem order_iff {f : List Block} : orderB f = true ↔ Ord f:=by
 unfold orderB
 rw [Bool.and_eq_true,flashOk_iff]
 constructor
 ·rintro ⟨h1,h2⟩
  refine ⟨h1,fun i k a b ha hb hik=>?_⟩
  obtain ⟨hi,rfl⟩:=List.getElem?_eq_some_iff.1 ha
  obtain ⟨hk,rfl⟩:=List.getElem?_eq_some_iff.1 hb
  have:=(orderIn_iff _ _ f 0).1 ((orderOut_iff f f 0).1 h2 i hi) k hk
  exact (badPair_recs (h1.pg (List.getElem_mem _)) (h1.pg (List.getElem_mem _))).1 this (by omega)
 ·rintro ⟨h1,h2⟩
  refine ⟨h1,(orderOut_iff f f 0).2 fun i hi=>(orderIn_iff _ _ f 0).2 fun k hk=>?_⟩
  refine (badPair_recs (h1.pg (List.getElem_mem _)) (h1.pg (List.getElem_mem _))).2 fun hik=>?_
  exact h2 i k _ _ (List.getElem?_eq_getElem hi) (List.getElem?_eq_getElem hk) (by omega)
theorem lastFold_spec (a : Int) : ∀ (ps : List Page) (r : Rec),(ps.foldl (lastStep a) r = r ∨ ∃ p ∈ ps,p.state = 1 ∧ p.r = ps.foldl (lastStep a) r ∧ p.r.addr = a) ∧ r.seq ≤ (ps.foldl (lastStep a) r).seq ∧ ∀ p ∈ ps,p.state = 1 → p.r.addr = a → p.r.seq ≤ (ps.foldl (lastStep a) r).seq
 | [],r=>⟨.inl rfl,Int.le_refl _,fun _ h=>(by cases h)⟩
 | p :: ps,r=>by
  rw [List.foldl_cons]
  obtain ⟨h1,h2,h3⟩:=lastFold_spec a ps (lastStep a r p)
  have h4 : r.seq ≤ (lastStep a r p).seq ∧ (p.state = 1 → p.r.addr = a → p.r.seq ≤ (lastStep a r p).seq):=by
   unfold lastStep
   split
   ·exact ⟨by omega,fun _ _=>Int.le_refl _⟩
   ·rename_i hc
    refine ⟨Int.le_refl _,fun s1 s2=>?_⟩
    have : ¬ r.seq < p.r.seq:=fun h=>hc ⟨s1,s2,h⟩
    omega
  refine ⟨?_,by omega,fun q hq s1 s2=>?_⟩
  ·rcases h1 with h1 | ⟨q,hq,s1,s2,s3⟩
   ·unfold lastStep at h1
    split at h1
    ·rename_i hc
     refine .inr ⟨p,by simp,hc.1,?_,hc.2.1⟩
     unfold lastStep;rw [if_pos hc,h1]
    ·rename_i hc
     left;unfold lastStep;rw [if_neg hc];exact h1
   ·exact .inr ⟨q,by simp [hq],s1,s2,s3⟩
  ·rcases List.mem_cons.1 hq with rfl | hq
   ·have:=h4.2 s1 s2;omega
   ·exact h3 q hq s1 s2
theorem last_flat (f : List Block) (a : Int) : last f a = (f.flatMap (·.pages)).foldl (lastStep a) rec0:=by rw [List.foldl_flatMap];rfl
theorem WF.flat {f : List Block} {r : Rec} : WF f r ↔ ∃ p ∈ f.flatMap (·.pages),p.state = 1 ∧ p.r = r:=
 ⟨fun ⟨b,hb,p,hp,h1,h2⟩=>⟨p,List.mem_flatMap.2 ⟨b,hb,hp⟩,h1,h2⟩,fun ⟨p,hp,h1,h2⟩=>by obtain ⟨b,hb,hp⟩:=List.mem_flatMap.1 hp;exact ⟨b,hb,p,hp,h1,h2⟩⟩
theorem last_spec {f : List Block} (h : FlashOk f) (a : Int) : (last f a = rec0 ∧ ∀ r,WF f r → r.addr ≠ a) ∨ (WF f (last f a) ∧ (last f a).addr = a ∧ 0 < (last f a).seq ∧ ∀ r,WF f r → r.addr = a → r.seq ≤ (last f a).seq):=by
 rw [last_flat]
 obtain ⟨h1,h2,h3⟩:=lastFold_spec a (f.flatMap (·.pages)) rec0
 generalize (f.flatMap (·.pages)).foldl (lastStep a) rec0 = x at *
 by_cases hx : 0 < x.seq
 ·right
  rcases h1 with rfl | ⟨p,hp,s1,s2,s3⟩
  ·exact absurd hx (by decide)
  ·exact ⟨WF.flat.2 ⟨p,hp,s1,s2⟩,by rw [← s2];exact s3,hx,fun r hr ha=>by obtain ⟨q,hq,t1,rfl⟩:=WF.flat.1 hr;exact h3 q hq t1 ha⟩
 ·left
  refine ⟨?_,fun r hr ha=>?_⟩
  ·rcases h1 with h1 | ⟨p,hp,s1,s2,s3⟩
   ·exact h1
   ·have:=recOkB_iff.1 (WF.ok h (WF.flat.2 ⟨p,hp,s1,rfl⟩));rw [s2] at this;omega
  ·have:=recOkB_iff.1 (WF.ok h hr)
   obtain ⟨q,hq,t1,rfl⟩:=WF.flat.1 hr
   have:=h3 q hq t1 ha
   omega
theorem last_eq {f : List Block} (h : FlashOk f) {a : Int} {r : Rec} (hr : WF f r) (ha : r.addr = a) (hm : ∀ q,WF f q → q.addr = a → q.seq ≤ r.seq) : last f a = r:=by
 rcases last_spec h a with ⟨_,h2⟩ | ⟨h1,h2,_,h3⟩
 ·exact absurd ha (h2 r hr)
 ·have:=hm _ h1 h2;have:=h3 r hr ha
  exact h.rec_uniq h1 hr (by omega)
theorem last_none {f : List Block} (h : FlashOk f) {a : Int} (hm : ∀ q,WF f q → q.addr ≠ a) : last f a = rec0:=by
 rcases last_spec h a with ⟨h1,_⟩ | ⟨h1,h2,_,_⟩
 ·exact h1
 ·exact absurd h2 (hm _ h1)
theorem last_same {f g : List Block} (hf : FlashOk f) (hg : FlashOk g) (h : ∀ r,WF f r ↔ WF g r) (a : Int) : last g a = last f a:=by
 rcases last_spec hf a with ⟨h1,h2⟩ | ⟨h1,h2,_,h3⟩
 ·rw [h1];exact last_none hg fun q hq=>h2 q ((h q).2 hq)
 ·exact last_eq hg ((h _).1 h1) h2 fun q hq=>h3 q ((h q).2 hq)
theorem maxSeq_ge {f : List Block} (h : FlashOk f) {r : Rec} (hr : WF f r) : r.seq ≤ maxSeq f:=by
 have key : ∀ (bs : List Block) (n : Int),n ≤ bs.foldl nextStep n ∧ ∀ b ∈ bs,most b.pages ≤ bs.foldl nextStep n:=by
  intro bs
  induction bs with
  | nil=>exact fun n=>⟨Int.le_refl _,fun _ h=>(by cases h)⟩
  | cons b bs ih =>
   intro n
   rw [List.foldl_cons]
   obtain ⟨h1,h2⟩:=ih (nextStep n b)
   have h3 : n ≤ nextStep n b ∧ most b.pages ≤ nextStep n b:=by unfold nextStep;split <;> omega
   refine ⟨by omega,fun c hc=>?_⟩
   rcases List.mem_cons.1 hc with rfl | hc
   ·omega
   ·exact h2 c hc
 obtain ⟨b,hb,hw⟩:=hr
 have:=(key f 0).2 b hb
 have:=((most_spec (h.pg hb)).1 _ hw.seq).2
 unfold maxSeq;omega
end Go.Bu
namespace Go.Bu
open Go
theorem part_no {b : Block} (h : cleanN b.pages = 0) : partB b.pages = false:=by unfold partB;rw [h];rfl
theorem clean_no_recs {b : Block} (hb : blockB b = true) (h : partB b.pages = false) (h0 : cleanN b.pages ≠ 0) : pseqs b.pages = []:=by
 obtain ⟨f1,f2,f3,f4⟩:=blockB_free hb
 have h4 : cleanN b.pages = 4:=by
  unfold partB at h
  simp only [Bool.and_eq_false_iff,decide_eq_false_iff_not] at h
  omega
 rw [h4] at f2
 have : ∀ p ∈ b.pages,p.state = 0:=f2
 rw [List.eq_nil_iff_forall_not_mem]
 intro n hn
 obtain ⟨p,hp,h1,_⟩:=mem_pseqs.1 hn
 have:=this p hp
 omega
structure Openable (f : List Block) (i : Nat) : Prop where
 at_ : ∃ b,f[i]? = some b ∧ cleanN b.pages ≠ 0
 part : ∀ (k : Nat) c,k ≠ i → f[k]? = some c → partB c.pages = false
theorem write_get {f : List Block} (h : FlashOk f) {i : Nat} {b : Block} (hb : f[i]? = some b) (hc : cleanN b.pages ≠ 0) {r : Rec} (hs : r.seq ∉ seqs f) (t : Bool) :
  ∃ b',writeF f i r t = f.set i b' ∧ (∀ n,n ∈ pseqs b'.pages ↔ n ∈ pseqs b.pages ∨ (t = false ∧ n = r.seq)) ∧ (∀ q,W b' q ↔ W b q ∨ (t = false ∧ q = r)):=by
 obtain ⟨hi,rfl⟩:=List.getElem?_eq_some_iff.1 hb
 have hbl:=h.blocks _ (List.getElem_mem hi)
 obtain ⟨f1,f2,f3,f4⟩:=blockB_free hbl
 have h4:=(blockB_iff.1 hbl).1
 unfold writeF writeOk
 rw [blockAt_get hi]
 have hu : seqUsed f r.seq = false:=by rw [← Bool.not_eq_true];exact fun e=>hs (seqUsed_iff.1 e)
 rw [if_pos (by rw [hu];simp [hc])]
 have hk4 : 4 - (cleanN f[i].pages).toNat < f[i].pages.length:=by omega
 have hst : (f[i].pages[4 - (cleanN f[i].pages).toNat]).state = 0:=f2 _ (by rw [List.drop_eq_getElem_cons hk4];exact List.mem_cons_self)
 generalize 4 - (cleanN f[i].pages).toNat = j at *
 refine ⟨_,rfl,?_⟩
 have key : ∀ q,W ⟨f[i].pages.set j (pageW r t),f[i].worn⟩ q ↔ W f[i] q ∨ (t = false ∧ q = r):=by
  intro q
  constructor
  ·rintro ⟨p,hp,h1,h2⟩
   rcases mem_set hp with hp | rfl
   ·exact .inl ⟨p,hp,h1,h2⟩
   ·cases t
    ·exact .inr ⟨rfl,h2.symm⟩
    ·exact absurd h1 (by simp [pageW])
  ·rintro (⟨p,hp,h1,h2⟩ | ⟨rfl,rfl⟩)
   ·obtain ⟨m,hm,rfl⟩:=List.mem_iff_getElem.1 hp
    refine ⟨f[i].pages[m],List.mem_iff_getElem.2 ⟨m,by simpa using hm,?_⟩,h1,h2⟩
    rw [List.getElem_set_ne (by rintro rfl;omega)]
   ·exact ⟨_,List.mem_iff_getElem.2 ⟨j,by simpa using hk4,List.getElem_set_self (by simpa using hk4)⟩,rfl,rfl⟩
 refine ⟨fun n=>?_,key⟩
 constructor
 ·intro hn
  obtain ⟨q,hq,rfl⟩:=W.of_seq hn
  rcases (key q).1 hq with hq | ⟨ht,rfl⟩
  ·exact .inl hq.seq
  ·exact .inr ⟨ht,rfl⟩
 ·rintro (hn | ⟨rfl,rfl⟩)
  ·obtain ⟨q,hq,rfl⟩:=W.of_seq hn
   exact ((key q).2 (.inl hq)).seq
  ·exact ((key r).2 (.inr ⟨rfl,rfl⟩)).seq
theorem Ord.write {f : List Block} (h : Ord f) {i : Nat} (ho : Openable f i) {r : Rec} (hr : recOkB r = true) (hnew : ∀ n ∈ seqs f,n < r.seq) (t : Bool) : Ord (writeF f i r t):=by
 obtain ⟨b,hb,hc⟩:=ho.at_
 have hi4 : i < 4:=by have:=(List.getElem?_eq_some_iff.1 hb).1;have:=h.ok.len;omega
 have hok:=h.ok.write hi4 hr t
 have hil:=(List.getElem?_eq_some_iff.1 hb).1
 obtain ⟨b',e,hm,_⟩:=write_get (r:=r) h.ok hb hc (fun hs=>by have:=hnew _ hs;omega) t
 rw [e] at hok ⊢
 have hbl:=h.ok.blocks b (List.mem_of_getElem? hb)
 have hlt : ∀ {k : Nat} {c : Block},f[k]? = some c → ∀ n ∈ pseqs c.pages,n < r.seq:=by
  intro k c hk n hn
  obtain ⟨q,hq,rfl⟩:=W.of_seq hn
  exact hnew _ (WF.seq ⟨c,List.mem_of_getElem? hk,hq⟩)
 have key : ∀ (k : Nat) c,k ≠ i → f[k]? = some c → ordP b' c ∧ topP b' c:=by
  intro k c hki hk
  obtain ⟨o1,o2⟩:=h.pair i k b c hb hk (Ne.symm hki)
  have hpc:=ho.part k c hki hk
  by_cases hpb : partB b.pages = true
  ·obtain ⟨_,o4⟩:=o2 hpb
   by_cases he : pseqs b.pages = []
   ·refine ⟨.inl fun m hm' n hn=>?_,fun _=>⟨hpc,fun hne n hn=>?_⟩⟩
    ·rcases (hm m).1 hm' with hm' | ⟨_,rfl⟩
     ·rw [he] at hm';cases hm'
     ·have:=hlt hk n hn;omega
    ·obtain ⟨m,hm'⟩:=List.exists_mem_of_ne_nil _ hne
     rcases (hm m).1 hm' with hm'' | ⟨ht,rfl⟩
     ·rw [he] at hm'';cases hm''
     ·exact ⟨_,hm',by have:=hlt hk n hn;omega⟩
   ·refine ⟨.inl fun m hm' n hn=>?_,fun _=>⟨hpc,fun hne n hn=>?_⟩⟩
    ·rcases (hm m).1 hm' with hm' | ⟨_,rfl⟩
     ·rcases o1 with o1 | o1
      ·exact o1 m hm' n hn
      ·obtain ⟨m0,h0,hle⟩:=o4 he n hn
       have h1:=o1 m0 h0 n hn
       have : m0 = n:=by omega
       subst this
       exact (h.ok.one_block hb hk (Ne.symm hki) h0 hn).elim
     ·have:=hlt hk n hn;omega
    ·obtain ⟨m0,h0,hle⟩:=o4 he n hn
     exact ⟨m0,(hm m0).2 (.inl h0),hle⟩
  ·have he:=clean_no_recs hbl (by simpa using hpb) hc
   refine ⟨.inl fun m hm' n hn=>?_,fun _=>⟨hpc,fun hne n hn=>?_⟩⟩
   ·rcases (hm m).1 hm' with hm' | ⟨_,rfl⟩
    ·rw [he] at hm';cases hm'
    ·have:=hlt hk n hn;omega
   ·obtain ⟨m,hm'⟩:=List.exists_mem_of_ne_nil _ hne
    rcases (hm m).1 hm' with hm'' | ⟨ht,rfl⟩
    ·rw [he] at hm'';cases hm''
    ·exact ⟨_,hm',by have:=hlt hk n hn;omega⟩
 refine ⟨hok,fun k l x y hx hy hkl=>?_⟩
 rw [List.getElem?_set] at hx hy
 by_cases hki : i = k
 ·subst hki
  rw [if_pos rfl,if_pos hil] at hx
  obtain rfl:=Option.some.inj hx
  rw [if_neg hkl] at hy
  exact key l y (Ne.symm hkl) hy
 ·rw [if_neg hki] at hx
  by_cases hli : i = l
  ·subst hli
   rw [if_pos rfl,if_pos hil] at hy
   obtain rfl:=Option.some.inj hy
   obtain ⟨k1,k2⟩:=key k x (Ne.symm hki) hx
   exact ⟨k1.symm,fun hp=>by rw [ho.part k x (Ne.symm hki) hx] at hp;cases hp⟩
  ·rw [if_neg hli] at hy
   exact h.pair k l x y hx hy hkl
theorem wipe_get {f : List Block} {i : Nat} (hi : i < f.length) (hw : (blockAt f i).worn < 200) (t : Bool) :
  ∃ b',wipeF f i t = f.set i b' ∧ pseqs b'.pages = [] ∧ (∀ q,¬ W b' q) ∧ partB b'.pages = false ∧ (t = false → cleanN b'.pages ≠ 0):=by
 unfold wipeF
 rw [if_neg (by omega)]
 refine ⟨_,rfl,by cases t <;> rfl,?_,by cases t <;> rfl,by rintro rfl;intro h;cases h⟩
 rintro q ⟨p,hp,h1,_⟩
 obtain rfl:=List.eq_of_mem_replicate hp
 cases t <;> exact absurd h1 (by simp [blank,tornSt])
theorem Ord.wipe {f : List Block} (h : Ord f) {i : Nat} (hi : i < f.length) (hp : ∀ b ∈ f,partB b.pages = false) (t : Bool) : Ord (wipeF f i t):=by
 by_cases hw : (blockAt f i).worn < 200
 ·have hok:=h.ok.wipe (i:=i) (by have:=h.ok.len;omega) t
  obtain ⟨b',e,h1,h2,h3,h4⟩:=wipe_get hi hw t
  rw [e] at hok ⊢
  have hpp : ∀ (k : Nat) x,(f.set i b')[k]? = some x → partB x.pages = false:=by
   intro k x hx
   rcases mem_set (List.mem_of_getElem? hx) with hx | rfl
   ·exact hp x hx
   ·exact h3
  refine ⟨hok,fun k l x y hx hy hkl=>⟨?_,fun hpx=>by rw [hpp k x hx] at hpx;cases hpx⟩⟩
  rw [List.getElem?_set] at hx hy
  by_cases hki : i = k
  ·subst hki
   rw [if_pos rfl,if_pos hi] at hx
   obtain rfl:=Option.some.inj hx
   exact .inl fun m hm=>by rw [h1] at hm;cases hm
  ·rw [if_neg hki] at hx
   by_cases hli : i = l
   ·subst hli
    rw [if_pos rfl,if_pos hi] at hy
    obtain rfl:=Option.some.inj hy
    exact .inl fun m hm n hn=>by rw [h1] at hn;cases hn
   ·rw [if_neg hli] at hy
    exact (h.pair k l x y hx hy hkl).1
 ·unfold wipeF;rw [if_pos (by omega)];exact h
theorem openScan_spec {f : List Block} (hf : ∀ b ∈ f,0 ≤ cleanN b.pages) : ∀ (rest : List Block) (i : Nat) (out : Int),f.drop i = rest → (∀ (k : Nat) c,k < i → f[k]? = some c → partB c.pages = false) →
  (0 ≤ out → ∃ b,f[out.toNat]? = some b ∧ cleanN b.pages ≠ 0) → (out < 0 → ∀ (k : Nat) c,k < i → f[k]? = some c → cleanN c.pages = 0) →
  ((openScan f i out rest).2 = true → ∃ b,f[(openScan f i out rest).1.toNat]? = some b ∧ cleanN b.pages ≠ 0 ∧ (partB b.pages = true ∨ ∀ c ∈ f,partB c.pages = false)) ∧
  ((openScan f i out rest).2 = false → ∀ c ∈ f,cleanN c.pages = 0):=by
 intro rest
 induction rest with
 | nil =>
  intro i out hd hp h1 h2
  have hi : f.length ≤ i:=List.drop_eq_nil_iff.1 hd
  have hall : ∀ {c : Block},c ∈ f → ∃ k,k < i ∧ f[k]? = some c:=by
   intro c hc
   obtain ⟨k,hk,rfl⟩:=List.mem_iff_getElem.1 hc
   exact ⟨k,by omega,List.getElem?_eq_getElem hk⟩
  simp only [openScan]
  refine ⟨fun ho=>?_,fun ho c hc=>?_⟩
  ·have ho' : 0 ≤ out:=by simpa using ho
   obtain ⟨b,hb,hc⟩:=h1 ho'
   refine ⟨b,?_,hc,.inr fun c hc=>by obtain ⟨k,hk,he⟩:=hall hc;exact hp k c hk he⟩
   split
   ·exact hb
   ·rw [show out = 0 by omega] at hb;exact hb
  ·have ho' : out < 0:=by simpa using ho
   obtain ⟨k,hk,he⟩:=hall hc
   exact h2 ho' k c hk he
 | cons b rest ih =>
  intro i out hd hp h1 h2
  have hil : i < f.length:=by
   refine Decidable.byContradiction fun hn=>?_
   rw [List.drop_eq_nil_of_le (by omega)] at hd;cases hd
  rw [List.drop_eq_getElem_cons hil] at hd
  have hb : f[i] = b:=(List.cons.inj hd).1
  have hr : f.drop (i + 1) = rest:=(List.cons.inj hd).2
  have hbi : f[i]? = some b:=by rw [List.getElem?_eq_getElem hil,hb]
  rw [openScan]
  by_cases hc : 0 < cleanN b.pages ∧ cleanN b.pages < 4
  ·rw [if_pos hc]
   exact ⟨fun _=>⟨b,by simpa using hbi,by omega,.inl (by unfold partB;simp [hc.1,hc.2])⟩,fun h=>(by cases h)⟩
  ·rw [if_neg hc]
   have h0:=hf b (List.mem_of_getElem? hbi)
   refine ih (i + 1) _ hr (fun k c hk he=>?_) (fun ho=>?_) (fun ho k c hk he=>?_)
   ·by_cases hki : k = i
    ·subst hki
     rw [hbi] at he;obtain rfl:=Option.some.inj he
     unfold partB;simpa using hc
    ·exact hp k c (by omega) he
   ·unfold openStep at ho ⊢
    split at ho
    ·rename_i hcc
     rw [if_pos hcc]
     exact ⟨b,by simpa using hbi,by omega⟩
    ·rename_i hcc
     rw [if_neg hcc]
     exact h1 ho
   ·unfold openStep at ho
    split at ho
    ·omega
    ·rename_i hcc
     by_cases hki : k = i
     ·subst hki
      rw [hbi] at he;obtain rfl:=Option.some.inj he
      have : ¬ 0 < cleanN b.pages:=fun h=>hcc ⟨h,.inl ho⟩
      omega
     ·exact h2 ho k c (by omega) he
theorem openB_yes {f : List Block} (h : Ord f) (ho : (openB f).2 = true) : Openable f (openB f).1.toNat:=by
 have hf : ∀ b ∈ f,0 ≤ cleanN b.pages:=fun b hb=>(blockB_free (h.ok.blocks b hb)).2.2.1
 obtain ⟨b,hb,hc,hp⟩:=(openScan_spec hf f 0 (-1) rfl (fun k _ hk=>absurd hk (Nat.not_lt_zero _)) (fun h=>absurd h (by decide)) (fun _ k _ hk=>absurd hk (Nat.not_lt_zero _))).1 ho
 refine ⟨⟨b,hb,hc⟩,fun k c hk he=>?_⟩
 rcases hp with hp | hp
 ·exact ((h.pair _ k b c hb he (Ne.symm hk)).2 hp).1
 ·exact hp c (List.mem_of_getElem? he)
theorem openB_no {f : List Block} (h : FlashOk f) (ho : (openB f).2 = false) : ∀ b ∈ f,cleanN b.pages = 0:=by
 have hf : ∀ b ∈ f,0 ≤ cleanN b.pages:=fun b hb=>(blockB_free (h.blocks b hb)).2.2.1
 exact (openScan_spec hf f 0 (-1) rfl (fun k _ hk=>absurd hk (Nat.not_lt_zero _)) (fun h=>absurd h (by decide)) (fun _ k _ hk=>absurd hk (Nat.not_lt_zero _))).2 ho
end Go.Bu
namespace Go.Bu
open Go
theorem WF.set {f : List Block} {i : Nat} {b b' : Block} (hb : f[i]? = some b) {P : Rec → Prop} (hW : ∀ q,W b' q ↔ W b q ∨ P q) (q : Rec) : WF (f.set i b') q ↔ WF f q ∨ P q:=by
 obtain ⟨hi,rfl⟩:=List.getElem?_eq_some_iff.1 hb
 constructor
 ·rintro ⟨c,hc,hq⟩
  rcases mem_set hc with hc | rfl
  ·exact .inl ⟨c,hc,hq⟩
  ·rcases (hW q).1 hq with hq | hq
   ·exact .inl ⟨_,List.getElem_mem hi,hq⟩
   ·exact .inr hq
 ·have hs : b' ∈ f.set i b':=List.mem_iff_getElem.2 ⟨i,by simpa using hi,List.getElem_set_self (by simpa using hi)⟩
  rintro (⟨c,hc,hq⟩ | hq)
  ·obtain ⟨k,hk,rfl⟩:=List.mem_iff_getElem.1 hc
   by_cases hki : i = k
   ·subst hki;exact ⟨b',hs,(hW q).2 (.inl hq)⟩
   ·exact ⟨f[k],List.mem_iff_getElem.2 ⟨k,by simpa using hk,by rw [List.getElem_set_ne hki]⟩,hq⟩
  ·exact ⟨b',hs,(hW q).2 (.inr hq)⟩
theorem WF.gone {f : List Block} {i : Nat} {b' : Block} (hW : ∀ q,¬ W b' q) (q : Rec) : WF (f.set i b') q ↔ ∃ (k : Nat) (c : Block),k ≠ i ∧ f[k]? = some c ∧ W c q:=by
 constructor
 ·rintro ⟨c,hc,hq⟩
  obtain ⟨k,hk,rfl⟩:=List.mem_iff_getElem.1 hc
  by_cases hki : i = k
  ·subst hki;rw [List.getElem_set_self] at hq;exact absurd hq (hW q)
  ·rw [List.getElem_set_ne hki] at hq
   exact ⟨k,_,Ne.symm hki,List.getElem?_eq_getElem (by simpa using hk),hq⟩
 ·rintro ⟨k,c,hki,hk,hq⟩
  obtain ⟨hkl,rfl⟩:=List.getElem?_eq_some_iff.1 hk
  exact ⟨f[k],List.mem_iff_getElem.2 ⟨k,by simpa using hkl,by rw [List.getElem_set_ne (Ne.symm hki)]⟩,hq⟩
theorem last_write {f : List Block} (h : FlashOk f) {i : Nat} {b : Block} (hb : f[i]? = some b) (hc : cleanN b.pages ≠ 0) {r : Rec} (hr : recOkB r = true) (hnew : ∀ n ∈ seqs f,n < r.seq) (a : Int) :
  last (writeF f i r true) a = last f a ∧ last (writeF f i r false) a = if a = r.addr then r else last f a:=by
 have hi4 : i < 4:=by have:=(List.getElem?_eq_some_iff.1 hb).1;have:=h.len;omega
 have hw:=fun t=>write_get (r:=r) h hb hc (fun hs=>by have:=hnew _ hs;omega) t
 constructor
 ·have hok:=h.write hi4 hr true
  obtain ⟨b',e,_,hW⟩:=hw true
  rw [e] at hok ⊢
  refine last_same h hok (fun q=>?_) a
  rw [WF.set hb hW q]
  constructor
  ·exact .inl
  ·rintro (h | ⟨h,_⟩)
   ·exact h
   ·cases h
 ·have hok:=h.write hi4 hr false
  obtain ⟨b',e,_,hW⟩:=hw false
  rw [e] at hok ⊢
  have hWF:=WF.set hb hW
  by_cases ha : a = r.addr
  ·rw [if_pos ha]
   refine last_eq hok ((hWF r).2 (.inr ⟨rfl,rfl⟩)) ha.symm fun q hq _=>?_
   rcases (hWF q).1 hq with hq | ⟨_,rfl⟩
   ·have:=hnew _ hq.seq;omega
   ·omega
  ·rw [if_neg ha]
   rcases last_spec h a with ⟨h1,h2⟩ | ⟨h1,h2,_,h3⟩
   ·rw [h1]
    refine last_none hok fun q hq=>?_
    rcases (hWF q).1 hq with hq | ⟨_,rfl⟩
    ·exact h2 q hq
    ·exact Ne.symm ha
   ·refine last_eq hok ((hWF _).2 (.inl h1)) h2 fun q hq hqa=>?_
    rcases (hWF q).1 hq with hq | ⟨_,rfl⟩
    ·exact h3 q hq hqa
    ·exact absurd hqa.symm ha
theorem oldScan_spec {f : List Block} : ∀ (rest : List Block) (i out : Nat),f.drop i = rest → (∃ b,f[out]? = some b) → (∀ (k : Nat) c,k < i → f[k]? = some c → most ((f[out]?.map (·.pages)).getD []) ≤ most c.pages) →
  ∀ c ∈ f,most ((f[oldScan f i out rest]?.map (·.pages)).getD []) ≤ most c.pages:=by
 intro rest
 induction rest with
 | nil =>
  intro i out hd hb h c hc
  obtain ⟨k,hk,rfl⟩:=List.mem_iff_getElem.1 hc
  have hi : f.length ≤ i:=List.drop_eq_nil_iff.1 hd
  exact h k _ (by omega) (List.getElem?_eq_getElem hk)
 | cons b rest ih =>
  intro i out hd hb h
  have hil : i < f.length:=by
   refine Decidable.byContradiction fun hn=>?_
   rw [List.drop_eq_nil_of_le (by omega)] at hd;cases hd
  rw [List.drop_eq_getElem_cons hil] at hd
  have hbe : f[i] = b:=(List.cons.inj hd).1
  have hr : f.drop (i + 1) = rest:=(List.cons.inj hd).2
  have hbi : f[i]? = some b:=by rw [List.getElem?_eq_getElem hil,hbe]
  rw [oldScan]
  by_cases hlt : most b.pages < most ((f[out]?.map (·.pages)).getD [])
  ·rw [if_pos hlt]
   refine ih (i + 1) i hr ⟨b,hbi⟩ fun k c hk he=>?_
   rw [hbi]
   by_cases hki : k = i
   ·subst hki;rw [hbi] at he;obtain rfl:=Option.some.inj he;exact Int.le_refl _
   ·have h1:=h k c (by omega) he
    have h2 : most ((Option.map (·.pages) (some b)).getD []) = most b.pages:=rfl
    rw [h2];omega
  ·rw [if_neg hlt]
   refine ih (i + 1) out hr hb fun k c hk he=>?_
   by_cases hki : k = i
   ·subst hki;rw [hbi] at he;obtain rfl:=Option.some.inj he;omega
   ·exact h k c (by omega) he
theorem old_least {f : List Block} (h0 : 0 < f.length) : ∀ c ∈ f,most (blockAt f (old f)).pages ≤ most c.pages:=by
 have hk:=oldScan_spec (f:=f) (f.drop 1) 1 0 rfl ⟨f[0],List.getElem?_eq_getElem h0⟩ (fun k c hk he=>by
  obtain rfl : k = 0:=by omega
  rw [he];exact Int.le_refl _)
 intro c hc
 have h1:=hk c hc
 unfold blockAt
 have e : ((f[old f]?).getD ⟨[],0⟩).pages = ((f[old f]?.map (·.pages)).getD []):=by cases f[old f]? <;> rfl
 rw [e];exact h1
theorem Ord.elder {f : List Block} (h : Ord f) {b : Block} (hb : f[old f]? = some b) {k : Nat} {c : Block} (hk : f[k]? = some c) (hki : k ≠ old f) : ∀ m ∈ pseqs b.pages,∀ n ∈ pseqs c.pages,m < n:=by
 have h0 : 0 < f.length:=by have:=h.ok.len;omega
 have hm:=old_least h0 c (List.mem_of_getElem? hk)
 have e : blockAt f (old f) = b:=by unfold blockAt;rw [hb];rfl
 rw [e] at hm
 obtain ⟨b1,b2,b3⟩:=most_spec (h.ok.pg (List.mem_of_getElem? hb))
 obtain ⟨c1,c2,c3⟩:=most_spec (h.ok.pg (List.mem_of_getElem? hk))
 intro m hmm n hn
 have hne : m ≠ n:=fun e=>by subst e;exact h.ok.one_block hb hk (Ne.symm hki) hmm hn
 rcases (h.pair (old f) k b c hb hk (Ne.symm hki)).1 with h1 | h1
 ·exfalso
  have hc:=c2 (by have:=c1 n hn;omega)
  have h2:=h1 m hmm _ hc
  have h3:=(b1 m hmm).2
  have : m = most c.pages:=by omega
  rw [← this] at hc
  exact h.ok.one_block hb hk (Ne.symm hki) hmm hc
 ·have:=h1 m hmm n hn;omega
theorem last_wipe {f : List Block} (h : Ord f) (hp : ∀ b ∈ f,partB b.pages = false) (hw : (blockAt f (old f)).worn < 200) (t : Bool) (a : Int) :
  (W (blockAt f (old f)) (last f a) ∧ last (wipeF f (old f) t) a = rec0) ∨ (¬ W (blockAt f (old f)) (last f a) ∧ last (wipeF f (old f) t) a = last f a):=by
 have hol:=old_lt (f:=f) (by have:=h.ok.len;omega)
 have hb : f[old f]? = some f[old f]:=List.getElem?_eq_getElem hol
 rw [blockAt_get hol] at hw ⊢
 have hok:=h.ok.wipe (i:=old f) (by have:=h.ok.len;omega) t
 obtain ⟨b',e,_,h2,_,_⟩:=wipe_get (f:=f) hol (by rw [blockAt_get hol];exact hw) t
 rw [e] at hok ⊢
 have hWF:=WF.gone (f:=f) (i:=old f) h2
 have hsub : ∀ q,WF (f.set (old f) b') q → WF f q:=fun q hq=>by
  obtain ⟨k,c,_,hk,hq⟩:=(hWF q).1 hq
  exact ⟨c,List.mem_of_getElem? hk,hq⟩
 rcases last_spec h.ok a with ⟨h1,h2⟩ | ⟨h1,h2,h0,h3⟩
 ·right
  refine ⟨fun hW=>?_,?_⟩
  ·rw [h1] at hW
   have:=recOkB_iff.1 (hW.ok h.ok (List.getElem_mem hol))
   exact absurd this.2.1.1 (by decide)
  ·rw [h1];exact last_none hok fun q hq=>h2 q (hsub q hq)
 ·by_cases hW : W f[old f] (last f a)
  ·left
   refine ⟨hW,last_none hok fun q hq hqa=>?_⟩
   obtain ⟨k,c,hki,hk,hq'⟩:=(hWF q).1 hq
   have:=h3 q (hsub q hq) hqa
   have:=h.elder hb hk hki _ hW.seq _ hq'.seq
   omega
  ·right
   refine ⟨hW,last_eq hok ?_ h2 fun q hq hqa=>h3 q (hsub q hq) hqa⟩
   obtain ⟨c,hc,hq⟩:=h1
   obtain ⟨k,hk,rfl⟩:=List.mem_iff_getElem.1 hc
   refine (hWF _).2 ⟨k,_,?_,List.getElem?_eq_getElem hk,hq⟩
   rintro rfl;exact hW hq
structure DiskOk (r : Rec) (d : Int) : Prop where
 val : 0 ≤ d ∧ d ≤ 9
 told : 0 < r.seq → r.kind = 2 → r.val = d
structure SOk (s : Store) : Prop where
 ord : Ord s.flash
 len : s.disk.length = 6
 disk : ∀ (n : Nat) d,s.disk[n]? = some d → DiskOk (last s.flash ((n : Int) + 1)) d
theorem badDisk_iff {r : Rec} {d : Int} : badDisk r d = false ↔ DiskOk r d:=by
 unfold badDisk
 rw [Bool.or_eq_false_iff,Bool.not_eq_false',inB_iff]
 constructor
 ·rintro ⟨h1,h2⟩
  refine ⟨h1,fun h3 h4=>?_⟩
  rw [decide_eq_true h3,h4] at h2
  simpa using h2
 ·rintro ⟨h1,h2⟩
  refine ⟨h1,?_⟩
  by_cases h3 : 0 < r.seq
  ·by_cases h4 : r.kind = 2
   ·rw [h2 h3 h4];simp
   ·simp [h4]
  ·simp [h3]
theorem diskScan_iff (f : List Block) : ∀ (ds : List Int) (k : Nat),diskScan f k ds = true ↔ ∀ (j : Nat) d,ds[j]? = some d → DiskOk (last f (((k + j : Nat) : Int) + 1)) d
 | [],k=>by simp [diskScan]
 | d :: ds,k=>by
  rw [diskScan]
  constructor
  ·intro h j x hj
   cases hb : badDisk (last f ((k : Int) + 1)) d
   ·rw [if_neg (by rw [hb];simp)] at h
    cases j with
    | zero =>
     obtain rfl : d = x:=by simpa using hj
     exact badDisk_iff.1 hb
    | succ j =>
     have:=(diskScan_iff f ds (k + 1)).1 h j x (by simpa using hj)
     rwa [show k + 1 + j = k + (j + 1) by omega] at this
   ·rw [if_pos hb] at h;cases h
  ·intro h
   have h0:=h 0 d rfl
   rw [if_neg (by rw [Bool.not_eq_true];exact badDisk_iff.2 h0)]
   refine (diskScan_iff f ds (k + 1)).2 fun j x hj=>?_
   have:=h (j + 1) x (by simpa using hj)
   rwa [show k + (j + 1) = k + 1 + j by omega] at this
theorem storeOk_iff {s : Store} : storeOkB s = true ↔ SOk s:=by
 unfold storeOkB
 rw [Bool.and_eq_true,Bool.and_eq_true,order_iff,beq_iff_eq,diskScan_iff]
 constructor
 ·rintro ⟨⟨h1,h2⟩,h3⟩
  exact ⟨h1,h2,fun n d hd=>by have:=h3 n d hd;rwa [Nat.zero_add] at this⟩
 ·rintro ⟨h1,h2,h3⟩
  exact ⟨⟨h1,h2⟩,fun n d hd=>by rw [Nat.zero_add];exact h3 n d hd⟩
def Safe : Store → List Step → Prop
 | s,[]=>SOk s
 | s,x :: xs=>SOk s ∧ SOk (doStep s x true) ∧ Safe (doStep s x false) xs
theorem Safe.here : ∀ {xs : List Step} {s : Store},Safe s xs → SOk s
 | [],_,h=>h
 | _ :: _,_,h=>h.1
theorem Safe.to : ∀ {xs : List Step} {s : Store},Safe s xs → ∀ (n : Nat) (t : Bool),SOk (if t = true ∧ n < xs.length then doStep (doAll s (xs.take n)) ((xs[n]?).getD ⟨0,0,0,0,rec0⟩) true else doAll s (xs.take n))
 | [],s,h,n,t=>by simp only [List.length_nil,Nat.not_lt_zero,and_false,if_false,List.take_nil];exact h
 | x :: xs,s,h,0,t=>by
  cases t
  ·exact h.1
  ·exact h.2.1
 | x :: xs,s,h,n + 1,t=>by
  have:=Safe.to h.2.2 n t
  simp only [List.length_cons,Nat.succ_lt_succ_iff,List.take_succ_cons,List.getElem?_cons_succ]
  exact this
theorem Safe.toSteps {xs : List Step} {s : Store} (h : Safe s xs) (cut : Int) (t : Bool) : SOk (toSteps s xs cut t):=by
 unfold Bu.toSteps
 have:=h.to cut.toNat t
 by_cases hc : 0 ≤ cut
 ·by_cases hl : cut.toNat < xs.length
  ·have e : decide (cut < (xs.length : Int)) = true:=decide_eq_true (by omega)
   rw [e,decide_eq_true hc]
   cases t
   ·rw [if_neg (by simp)] at this ⊢;exact this
   ·rw [if_pos ⟨rfl,hl⟩] at this
    rw [if_pos (show (true && true && true) = true from rfl)];exact this
  ·have e : decide (cut < (xs.length : Int)) = false:=decide_eq_false (by omega)
   rw [e,if_neg (by simp)]
   rw [if_neg (fun h=>hl h.2)] at this;exact this
 ·rw [decide_eq_false hc,if_neg (by simp),show cut.toNat = 0 by omega]
  exact h.here
theorem Safe.all {xs : List Step} {s : Store} (h : Safe s xs) : SOk (doAll s xs):=by
 have:=h.toSteps xs.length false
 rwa [toSteps_all] at this
theorem SOk.write {s : Store} (h : SOk s) {i : Nat} (ho : Openable s.flash i) {r : Rec} (hr : recOkB r = true) (hnew : ∀ n ∈ seqs s.flash,n < r.seq) (hv : r.kind = 2 → s.disk.getD (r.addr - 1).toNat 0 = r.val) (t : Bool) : SOk ⟨writeF s.flash i r t,s.disk⟩:=by
 obtain ⟨b,hb,hc⟩:=ho.at_
 refine ⟨h.ord.write ho hr hnew t,h.len,fun n d hd=>?_⟩
 have hd0:=h.disk n d hd
 obtain ⟨l1,l2⟩:=last_write h.ord.ok hb hc hr hnew ((n : Int) + 1)
 cases t
 ·show DiskOk (last (writeF s.flash i r false) ((n : Int) + 1)) d
  rw [l2]
  split
  ·rename_i ha
   refine ⟨hd0.val,fun _ hk=>?_⟩
   have:=hv hk
   rw [← ha,show ((n : Int) + 1 - 1).toNat = n by omega,List.getD_eq_getElem?_getD,hd] at this
   exact this.symm
  ·exact hd0
 ·show DiskOk (last (writeF s.flash i r true) ((n : Int) + 1)) d
  rw [l1];exact hd0
theorem SOk.wipe {s : Store} (h : SOk s) (hp : ∀ b ∈ s.flash,partB b.pages = false) (hw : (blockAt s.flash (old s.flash)).worn < 200) (t : Bool) : SOk ⟨wipeF s.flash (old s.flash) t,s.disk⟩:=by
 refine ⟨h.ord.wipe (old_lt (by have:=h.ord.ok.len;omega)) hp t,h.len,fun n d hd=>?_⟩
 have hd0:=h.disk n d hd
 show DiskOk (last (wipeF s.flash (old s.flash) t) ((n : Int) + 1)) d
 rcases last_wipe h.ord hp hw t ((n : Int) + 1) with ⟨_,e⟩ | ⟨_,e⟩
 ·rw [e];exact ⟨hd0.val,fun h=>absurd h (by decide)⟩
 ·rw [e];exact hd0
theorem SOk.tell {s : Store} (h : SOk s) {a v : Int} (ha : 1 ≤ a ∧ a ≤ 6) (hv : 0 ≤ v ∧ v ≤ 9) (hl : (last s.flash a).kind = 1) : SOk ⟨s.flash,s.disk.set (a - 1).toNat v⟩:=by
 refine ⟨h.ord,by simp [h.len],fun n d hd=>?_⟩
 rw [List.getElem?_set] at hd
 split at hd
 ·rename_i e
  split at hd
  ·obtain rfl:=Option.some.inj hd
   refine ⟨hv,fun _ hk=>?_⟩
   have : (n : Int) + 1 = a:=by omega
   rw [this,hl] at hk;exact absurd hk (by decide)
  ·cases hd
 ·exact h.disk n d hd
def Told (s : Store) (kind addr val : Int) : Prop:=kind = 2 → s.disk.getD (addr - 1).toNat 0 = val ∧ (0 < (last s.flash addr).seq → (last s.flash addr).val = val)
theorem recEq_iff {a b : Rec} : recEq a b = true ↔ a = b:=by
 unfold recEq
 simp only [Bool.and_eq_true,beq_iff_eq]
 obtain ⟨a1,a2,a3,a4⟩:=a;obtain ⟨b1,b2,b3,b4⟩:=b
 simp only [Rec.mk.injEq,and_assoc]
theorem safe_tell {s : Store} (h : SOk s) {x : Step} (h1 : x.kind = 1) (ha : 1 ≤ x.addr ∧ x.addr ≤ 6) (hv : 0 ≤ x.val ∧ x.val ≤ 9) (hl : (last s.flash x.addr).kind = 1) : doStep s x true = s ∧ doStep s x false = ⟨s.flash,s.disk.set (x.addr - 1).toNat x.val⟩ ∧ SOk (doStep s x false):=by
 have e : doStep s x false = ⟨s.flash,s.disk.set (x.addr - 1).toNat x.val⟩:=by unfold doStep;rw [if_pos h1];rfl
 exact ⟨by unfold doStep;rw [if_pos h1];rfl,e,by rw [e];exact h.tell ha hv hl⟩
theorem safe_room {f : List Block} (kind addr val : Int) (hadd : 1 ≤ addr) (rest : List Step) : ∀ (ds : List Step),(∀ x ∈ ds,x.kind = 1 ∧ (1 ≤ x.addr ∧ x.addr ≤ 6) ∧ (0 ≤ x.val ∧ x.val ≤ 9) ∧ (last f x.addr).kind = 1 ∧ 0 < (last f x.addr).seq ∧ (last f x.addr).val = x.val) →
  ∀ s : Store,s.flash = f → SOk s → Told s kind addr val → (∀ s' : Store,s'.flash = f → SOk s' → Told s' kind addr val → Safe s' rest) → Safe s (ds ++ rest)
 | [],_,s,hs,h,ht,hk=>hk s hs h ht
 | x :: ds,hx,s,hs,h,ht,hk=>by
  obtain ⟨h1,ha,hv,hl,h0,hlv⟩:=hx x (by simp)
  rw [← hs] at hl h0 hlv
  obtain ⟨e1,e2,h2⟩:=safe_tell h h1 ha hv hl
  show SOk s ∧ SOk (doStep s x true) ∧ Safe (doStep s x false) (ds ++ rest)
  refine ⟨h,by rw [e1];exact h,safe_room kind addr val hadd rest ds (fun y hy=>hx y (by simp [hy])) _ (by rw [e2];exact hs) h2 ?_ hk⟩
  rw [e2]
  intro hkd
  obtain ⟨t1,t2⟩:=ht hkd
  refine ⟨?_,t2⟩
  show (s.disk.set (x.addr - 1).toNat x.val).getD (addr - 1).toNat 0 = val
  rw [List.getD_eq_getElem?_getD,List.getElem?_set]
  rw [List.getD_eq_getElem?_getD] at t1
  split
  ·rename_i e
   split
   ·by_cases hadr : x.addr = addr
    ·rw [hadr] at h0 hlv
     have:=t2 h0
     show x.val = val
     omega
    ·omega
   ·rename_i hl2
    have:=h.len;omega
  ·exact t1
theorem safe_write {s : Store} (h : SOk s) (kind addr val : Int) (ht : Told s kind addr val) : Safe s (writeSteps s.flash kind addr val):=by
 unfold writeSteps
 split
 ·rename_i hc
  rw [Bool.and_eq_true] at hc
  obtain ⟨hc1,hr⟩:=hc
  have hrr:=recOkB_iff.1 hr
  have hnew : ∀ n ∈ seqs s.flash,n < (⟨kind,next s.flash,addr,val⟩ : Rec).seq:=by
   intro n hn
   obtain ⟨b,hb,p,hp,h1,rfl⟩:=mem_seqs.1 hn
   have:=maxSeq_ge h.ord.ok ⟨b,hb,p,hp,h1,rfl⟩
   show _ < next s.flash
   unfold next;omega
  unfold room at hc1 ⊢
  by_cases ho : (openB s.flash).2 = true
  ·rw [if_pos ho]
   have hop:=openB_yes h.ord ho
   have hv : (⟨kind,next s.flash,addr,val⟩ : Rec).kind = 2 → s.disk.getD ((⟨kind,next s.flash,addr,val⟩ : Rec).addr - 1).toNat 0 = (⟨kind,next s.flash,addr,val⟩ : Rec).val:=fun hk=>(ht hk).1
   exact ⟨h,h.write hop hr hnew hv true,h.write hop hr hnew hv false⟩
  ·rw [if_neg ho] at hc1 ⊢
   have ho' : (openB s.flash).2 = false:=by simpa using ho
   have hno:=openB_no h.ord.ok ho'
   have hp : ∀ b ∈ s.flash,partB b.pages = false:=fun b hb=>part_no (hno b hb)
   have hw : (blockAt s.flash (old s.flash)).worn < 200:=by simpa using hc1
   have hol:=old_lt (f:=s.flash) (by have:=h.ord.ok.len;omega)
   have hb : s.flash[old s.flash]? = some s.flash[old s.flash]:=List.getElem?_eq_getElem hol
   rw [List.append_assoc]
   refine safe_room (f:=s.flash) kind addr val hrr.2.2.1.1 _ _ (fun x hx=>?_) s rfl h ht fun s' hs h' ht'=>?_
   ·obtain ⟨p,hp,hm⟩:=List.mem_flatMap.1 hx
    unfold roomOne at hm
    split at hm
    ·rename_i hcc
     obtain rfl:=List.mem_singleton.1 hm
     have hl:=hcc.1
     simp only [liveP,Bool.and_eq_true,beq_iff_eq,recEq_iff] at hl
     have hok:=recOkB_iff.1 (liveP_ok h.ord.ok (blockAt_mem hol) hp hl.1)
     have e : last s.flash (diskStepOf p).addr = p.r:=hl.2
     exact ⟨rfl,hok.2.2.1,hok.2.2.2,by rw [e];exact hcc.2,by rw [e];omega,by rw [e];rfl⟩
    ·cases hm
   ·obtain ⟨b',e,h1,h2,h3,h4⟩:=wipe_get (f:=s.flash) hol hw false
    have d2 : ∀ t,doStep s' ⟨2,0,0,(old s.flash : Int),rec0⟩ t = ⟨wipeF s'.flash (old s'.flash) t,s'.disk⟩:=fun t=>by rw [hs];show (⟨wipeF s'.flash ((old s.flash : Int)).toNat t,s'.disk⟩ : Store) = _;rw [Int.toNat_natCast,hs]
    have hp' : ∀ b ∈ s'.flash,partB b.pages = false:=by rw [hs];exact hp
    have hw' : (blockAt s'.flash (old s'.flash)).worn < 200:=by rw [hs];exact hw
    have k2:=h'.wipe hp' hw' false
    rw [← d2] at k2
    refine ⟨h',by rw [d2];exact h'.wipe hp' hw' true,?_⟩
    have hfl : (doStep s' ⟨2,0,0,(old s.flash : Int),rec0⟩ false).flash = s.flash.set (old s.flash) b':=by rw [d2,hs];exact e
    have hdk : (doStep s' ⟨2,0,0,(old s.flash : Int),rec0⟩ false).disk = s'.disk:=by rw [d2]
    generalize doStep s' ⟨2,0,0,(old s.flash : Int),rec0⟩ false = s2 at *
    have hsub : ∀ n ∈ seqs s2.flash,n ∈ seqs s.flash:=by
     intro n hn
     obtain ⟨c,hcm,hcn⟩:=mem_seqs.1 hn
     rw [hfl] at hcm
     rcases mem_set hcm with hcm | rfl
     ·exact mem_seqs.2 ⟨c,hcm,hcn⟩
     ·obtain ⟨p,hp,q1,q2⟩:=hcn
      exact absurd ⟨p,hp,q1,rfl⟩ (h2 p.r)
    have hop : Openable s2.flash (old s.flash):=by
     rw [hfl]
     refine ⟨⟨b',by rw [List.getElem?_set_self hol],h4 rfl⟩,fun k c hk hkc=>?_⟩
     rw [List.getElem?_set_ne (Ne.symm hk)] at hkc
     exact hp c (List.mem_of_getElem? hkc)
    have hv : (⟨kind,next s.flash,addr,val⟩ : Rec).kind = 2 → s2.disk.getD ((⟨kind,next s.flash,addr,val⟩ : Rec).addr - 1).toNat 0 = (⟨kind,next s.flash,addr,val⟩ : Rec).val:=fun hk=>by rw [hdk];exact (ht' hk).1
    have hnew2 : ∀ n ∈ seqs s2.flash,n < (⟨kind,next s.flash,addr,val⟩ : Rec).seq:=fun n hn=>hnew n (hsub n hn)
    exact ⟨k2,k2.write hop hr hnew2 hv true,k2.write hop hr hnew2 hv false⟩
 ·exact h
theorem safe_flush {s : Store} (h : SOk s) {n : Nat} (hn : n < 6) : Safe s (flushSteps s n):=by
 unfold flushSteps
 split
 ·rename_i hd
  split
  ·exact h
  ·unfold dirtyB at hd
   rw [Bool.and_eq_true,decide_eq_true_eq,beq_iff_eq] at hd
   have hv : readN s n = (last s.flash ((n : Int) + 1)).val:=by unfold readN;rw [if_pos hd.1]
   have hok : recOkB (last s.flash ((n : Int) + 1)) = true:=by
    rcases last_spec h.ord.ok ((n : Int) + 1) with ⟨e,_⟩ | ⟨hW,_⟩
    ·rw [e] at hd;exact absurd hd.1 (by decide)
    ·exact hW.ok h.ord.ok
   have hr:=recOkB_iff.1 hok
   obtain ⟨e1,e2,h2⟩:=safe_tell h (x:=⟨1,(n : Int) + 1,readN s n,0,rec0⟩) rfl (by dsimp only;omega) (by dsimp only;rw [hv];exact hr.2.2.2) hd.2
   refine ⟨h,by rw [e1];exact h,?_⟩
   have hfl : (doStep s ⟨1,(n : Int) + 1,readN s n,0,rec0⟩ false).flash = s.flash:=by rw [e2]
   rw [← hfl]
   refine safe_write h2 _ _ _ fun _=>?_
   rw [hfl,e2]
   refine ⟨?_,fun _=>hv.symm⟩
   show (s.disk.set ((n : Int) + 1 - 1).toNat (readN s n)).getD ((n : Int) + 1 - 1).toNat 0 = readN s n
   rw [List.getD_eq_getElem?_getD,List.getElem?_set_self (by have:=h.len;omega)]
   rfl
 ·exact h
theorem safe_fill {s : Store} (h : SOk s) (n : Nat) : Safe s (fillSteps s n):=by
 unfold fillSteps
 split
 ·exact h
 ·rename_i h0
  refine safe_write h _ _ _ fun _=>⟨?_,fun h1=>absurd h1 h0⟩
  rw [show ((n : Int) + 1 - 1).toNat = n by omega]
theorem safe_addr {s : Store} (h : SOk s) {g : Nat → List Step} (hg : ∀ n,n < 6 → Safe s (g n)) (a : Int) : Safe s (addrStep g a):=by
 unfold addrStep
 split
 ·rename_i hc;have:=inB_iff.1 hc;exact hg _ (by omega)
 ·exact h
theorem safe_put {s : Store} (h : SOk s) (a v : Int) : Safe s (writeSteps s.flash 1 a v):=safe_write h 1 a v fun h=>absurd h (by decide)
theorem safe_play {s : Store} (h : SOk s) (e : Event) : Safe s (playSteps s e):=by
 unfold playSteps putSteps
 split
 ·exact safe_put h _ _
 ·split
  ·exact safe_addr h (fun n hn=>safe_flush h hn) _
  ·split
   ·exact safe_addr h (fun n _=>safe_fill h n) _
   ·exact h
theorem storeOk_flush {s : Store} (h : storeOkB s = true) {n : Nat} (hn : n < 6) : storeOkB (allStep s n) = true:=storeOk_iff.2 (safe_flush (storeOk_iff.1 h) hn).all
theorem storeOk_playAll {s : Store} (h : storeOkB s = true) : storeOkB (playAllS s) = true:=
 foldl_inv allStep (fun s=>storeOkB s = true) addrs6 s h fun s n hn hs=>storeOk_flush hs (by simp [addrs6] at hn;omega)
theorem storeOk_play {s : Store} (h : storeOkB s = true) (e : Event) : storeOkB (playDoS s e) = true:=by
 unfold playDoS
 split
 ·exact storeOk_playAll h
 ·split
  ·exact h
  ·exact storeOk_iff.2 ((safe_play (storeOk_iff.1 h) e).toSteps _ _)
theorem storeOk_new : storeOkB newStore = true:=by decide +kernel
end Go.Bu
namespace Go.Bu
open Go Go.RowKit Go.Plan Go.Proofs Go.Shelf
attribute [local go_sem] Oper.semAt_some
set_option maxRecDepth 20000 in
set_option maxHeartbeats 4000000 in
theorem implFindNext_c (v : Value) (f : List Block) (w : World) (h : Flash (Old w) w v f) (hok : flashOkB f = true) :
  Calls Tryz.prog 158 #[v] w (Ret w (.int .i64 (next f))):=by
 have hp:=pages_short hok
 have hFO:=fun (w' : World) (hx : Ext w w')=>implFlashOk_c v f w' (h.ext hx) hp
 rw [hok] at hFO
 have hF:=flashOk_iff.1 hok
 have h4:=hF.len
 have HN:=Lib.hid (nextL_all hF)
 have HS : Hid (∀ b ∈ f,∀ p ∈ b.pages,0 ≤ p.r.seq ∧ p.r.seq ≤ 600):=Lib.hid fun b hb p hp=>pageOk_seq (hF.pg hb p hp)
 have HM:=Lib.hid (maxSeq_bd hok)
 obtain ⟨a,cap,rfl⟩:=h.form
 rw [h4] at h hFO ⊢
 have H4:=Lib.hid h4
 have HP:=Lib.hid hp
 clear hp h4 hF hok
 refine (callsIn_wide (n:=9)).1 ?_
 refine callsIn_of_wp_marks Tryz.func158 rfl trivial ?_ rfl
 simp only [Tryz.ntmps158,List.size_toArray,List.length_cons,List.length_nil,Nat.reduceAdd,Nat.reduceSub,Array.replicate_succ,Array.replicate_zero,List.push_toArray,List.append_toArray,List.nil_append,List.cons_append]
 gi_wp2_with (refine ⟨trivial,?_⟩;gi_at_call 83;refine (callsIn_wide.2 (hFO _ (ext_refl _))).mono ?_;rintro e1 w1 ⟨rfl,hx1⟩)
 clear hFO
 gi_wp2_with (refine ⟨trivial,?_⟩;gi_at_call 64;refine (callsIn_wide.2 (eachPage_c _ _ _ _)).mono ?_;rintro e w' ⟨rfl,rfl⟩)
 have XW : Ext w ((w1.alloc (.cells #[.int .i64 0] 3)).alloc (.cells #[.slice a 4 cap] 39)):=ext_trans hx1 (ext_alloc (ext_alloc (ext_refl _) _) _)
 obtain ⟨W0,hW0⟩ : ∃ W0,((w1.alloc (.cells #[.int .i64 0] 3)).alloc (.cells #[.slice a 4 cap] 39)) = W0:=⟨_,rfl⟩
 have G1 : W0.heap[w1.heap.size]? = some (.cells #[.int .i64 0] 3 (0,0)):=by rw [← hW0];exact hg_alloc (hg_new rfl)
 have G2 : W0.heap[w1.heap.size + 1]? = some (.cells #[.slice a 4 cap] 39 (0,0)):=by rw [← hW0];exact hg_new (by simp)
 have hs0 : W0.heap.size = w1.heap.size + 2:=by rw [← hW0];simp
 have hs1:=hx1.size
 rw [hW0] at XW ⊢
 have HD : ∀ i,(i < w.heap.size ∨ i = w1.heap.size + 1) → i < W0.heap.size:=fun i hi=>by omega
 have HS0:=Lib.hid hs0
 clear hs0 hW0 hx1
 refine wpIn_rangeFunc_ownH rfl (by omega) (gf:=86) (lb:=#[.pointer (some ⟨w1.heap.size + 1,0,none⟩)]) rfl trivial (enters_of Tryz.func86 (by kernel_rfl) rfl)
  (each_stops 8 (by omega) (fun i=>i < w.heap.size ∨ i = w1.heap.size + 1) (w1.heap.size + 1) (.slice a 4 cap) f W0 (cell_block G2 0) (.inr rfl) HD (Sl.same blockE_kept h (same_old XW) (fun b hb=>.inl hb)) (by rw [H4.out];omega) HP.out)
  (fun h k=>h.trans k) (fun W l o o' hl _ _ _=>KpD.put HD W l o o' hl) (Below.refl _ _) (fun _=>rfl)
  (fun pre W=>W.heap[w1.heap.size]? = some (.cells #[.int .i64 (nextL (pre.map (·.1)))] 3 (0,0)) ∧ Ext w W ∧ W0.heap.size ≤ W.heap.size)
  (fun _ _ _=>False) ?hI (fun _ _ _ _ _ h _ _=>h.elim) ?h0
  (fun x a' W=>∃ By,W0.heap.size ≤ By ∧ W.heap[By]? = some (.cells (pageC x.1.2.2).toArray 102 (0,0)) ∧
   a' = { tmps:=#[.slice a 4 cap,undef,.int .i64 0,.pointer (some ⟨w1.heap.size,0,none⟩),undef,.pointer (some ⟨By,0,none⟩),.slice a 4 cap,.bool true,.bool false,.slice a 4 cap,.func (.func 86) #[] #[.pointer (some ⟨w1.heap.size + 1,0,none⟩)],.agg #[.int .i64 x.1.1,.int .i64 x.1.2.1],pageA x.1.2.2,undef,undef,undef,undef,undef,undef,undef,undef,undef,undef],defers:=[] })
  ?hAx ?assign ?body ?done ?stop
 case hI =>
  rintro s X Y row ⟨h2,h3,h4⟩ hg hr
  have hx:=grown_ext h3 (fun g hg'=>by have:=(hr g hg').1;have:=XW.size;omega) hg
  exact ⟨cells_own h2 hg hr,hx,Nat.le_trans h4 hg.size⟩
 case h0=>exact ⟨G1,XW,Nat.le_refl _⟩
 case hAx =>
  rintro x a' s X Y row ⟨By,h2,h4,h5⟩ hg hr
  exact ⟨By,h2,cells_own h4 hg hr,h5⟩
 case stop=>rintro D c pre W _ _ h;exact h.elim
 case assign =>
  rintro l pre ⟨⟨i,j,p⟩,hin⟩ W K ⟨h2,h3,h4⟩ hK
  simp only [encS]
  gi_wp2
  have hx : Ext W (W.alloc (.cells (pageC p).toArray 102)):=ext_alloc (ext_refl _) _
  exact hK _ _ ((KeepsOthers.alloc _ _).from _) (KpD.of_below hx fun b hb=>Nat.lt_of_lt_of_le (HD b hb) h4) ⟨keep_ext hx h2,ext_trans h3 hx,Nat.le_trans h4 hx.size⟩
   ⟨W.heap.size,h4,hg_new rfl,rfl⟩
 case done =>
  rintro D xs W hD hS ⟨h2,h3,h4⟩ hK
  obtain ⟨g3,gf3⟩:=cellsK h2
  have hbd : nextL (xs.map (·.1)) = maxSeq f:=by rw [hS];exact HN.out
  rw [hbd] at g3
  have hb:=HM.out
  have hnx : maxSeq f + 1 = next f:=rfl
  generalize maxSeq f = m at *
  gi_wp2
  refine ⟨by simp,.inl ⟨_,_,rfl,run_takeDeferred hK,?_⟩⟩
  refine ⟨_,results_tmp rfl _ _ _,rfl,?_⟩
  exact grown_ext h3 (fun g hg=>by cases hg;have:=HS0.out;omega) (grownBy_putObj' W D _)
 case body =>
  rintro l pre ⟨⟨i,j,p⟩,hin⟩ a' W hl ⟨r,hr⟩ ⟨h2,h3,h4⟩ ⟨By,hB2,g5,rfl⟩ hlt
  have hsq : 0 ≤ p.r.seq ∧ p.r.seq ≤ 600:=by
   obtain ⟨b,hb,hp⟩:=hin
   exact HS.out b (List.mem_of_getElem? hb) p (List.mem_of_getElem? hp)
  have HX : Hid (nextL ((pre ++ [⟨(i,j,p),hin⟩] : List (SpotIn f)).map (·.1)) = nextPg (nextL (pre.map (·.1))) p):=Lib.hid (by rw [List.map_append];exact nextL_snoc _ _)
  generalize nextL (pre.map (·.1)) = n at *
  dsimp only at g5
  obtain ⟨q5,qf5⟩:=cellsK g5
  obtain ⟨q3,qf3⟩:=cellsK h2
  have hC:=fun v : Value=>(Chg.of_ext (ext_refl W)).set (L:=[w1.heap.size]) (p:=⟨w1.heap.size,0,none⟩) (.inl (by simp)) v
  have hk:=fun v : Value=>hg_here (k:=0) (v:=v) h2
  by_cases hst : p.state = 1
  ·by_cases hgt : n < p.r.seq
   ·gi_wp2
    refine ⟨KeepsFrom.of_chg (hC _) (by have:=HS0.out;simp;omega),KpD.of_chg (hC _) (fun b hb=>⟨Nat.lt_of_lt_of_le (HD b hb) h4,by simp;omega⟩),hgo (hk _) ?_,Chg.ext h3 (hC _) (by simp;omega),Nat.le_trans h4 (hC _).size⟩
    rw [HX.out];unfold nextPg;rw [if_pos hst,if_pos hgt];rfl
   ·gi_wp2
    refine ⟨KeepsFrom.of_chg (hC _) (by have:=HS0.out;simp;omega),KpD.of_chg (hC _) (fun b hb=>⟨Nat.lt_of_lt_of_le (HD b hb) h4,by simp;omega⟩),hgo (hk _) ?_,Chg.ext h3 (hC _) (by simp;omega),Nat.le_trans h4 (hC _).size⟩
    rw [HX.out];unfold nextPg;rw [if_pos hst,if_neg (by omega)];rfl
  ·gi_wp2
   refine ⟨(KeepsOthers.refl _).from _,⟨Nat.le_refl _,fun _ _=>rfl⟩,hgo h2 ?_,h3,h4⟩
   rw [HX.out];unfold nextPg;rw [if_neg hst]
theorem last_out {f : List Block} (h : flashOkB f = true) {a : Int} (ha : inB a 1 6 = false) : last f a = rec0:=by
 rcases last_spec (flashOk_iff.1 h) a with ⟨h1,_⟩ | ⟨h1,h2,_⟩
 ·exact h1
 ·have:=recOkB_iff.1 (h1.ok (flashOk_iff.1 h))
  have:=inB_no.1 ha
  omega
set_option maxRecDepth 20000 in
set_option maxHeartbeats 4000000 in
theorem implFindLast_c (v : Value) (f : List Block) (addr : Int) (w : World) (h : Flash (Old w) w v f) (hok : flashOkB f = true) :
  Calls Tryz.prog 146 #[v,.int .i64 addr] w (Ret w (.tuple #[recA (last f addr),.bool (decide (0 < (last f addr).seq))])):=by
 have hp:=pages_short hok
 have hFO:=fun (w' : World) (hx : Ext w w')=>implFlashOk_c v f w' (h.ext hx) hp
 rw [hok] at hFO
 have hF:=flashOk_iff.1 hok
 have h4:=hF.len
 have HS : Hid (∀ b ∈ f,∀ p ∈ b.pages,pageOkB p = true):=Lib.hid fun b hb p hp=>hF.pg hb p hp
 obtain ⟨a,cap,rfl⟩:=h.form
 rw [h4] at h hFO ⊢
 cases hin : inB addr 1 6
 ·rw [last_out hok hin]
  clear hp h4 hF hok
  go_enter Tryz.func146,Tryz.ntmps146
  go_wp2_with (go_at_call 145;refine (addrOk_c _ _).mono ?_;rw [hin];rintro e w' ⟨rfl,rfl⟩)
  have G1:=hg_new (w:=w.alloc (.cells #[.int .i64 addr] 3)) (b:=w.heap.size + 1) (x:=.cells #[.int .i64 0,.int .i64 0,.int .i64 0,.int .i64 0] 78) (by simp)
  obtain ⟨g1,gf1⟩:=cellsK G1
  refine bodyPost_ret (v:=.tuple #[recA rec0,.bool false]) (by simp [results,Tryz.results146,go_sem,g1,gf1,rec0]) rfl ⟨rfl,?_⟩
  exact ext_alloc (ext_alloc (ext_refl _) _) _
 ·have H4:=Lib.hid h4
  have HP:=Lib.hid hp
  clear hp h4 hF hok
  refine (callsIn_wide (n:=9)).1 ?_
  refine callsIn_of_wp_marks Tryz.func146 rfl trivial ?_ rfl
  simp only [Tryz.ntmps146,List.size_toArray,List.length_cons,List.length_nil,Nat.reduceAdd,Nat.reduceSub,Array.replicate_succ,Array.replicate_zero,List.push_toArray,List.append_toArray,List.nil_append,List.cons_append]
  gi_wp2_with (refine ⟨trivial,?_⟩;gi_at_call 145;refine (callsIn_wide.2 (addrOk_c _ _)).mono ?_;rw [hin];rintro e1 w1 ⟨rfl,rfl⟩)
  gi_wp2_with (refine ⟨trivial,?_⟩;gi_at_call 83;refine (callsIn_wide.2 (hFO _ (ext_alloc (ext_alloc (ext_refl _) _) _))).mono ?_;rintro e1 w1 ⟨rfl,hx1⟩)
  have B0:=keep_ext hx1 (hg_alloc (hg_new (b:=w.heap.size) rfl))
  have B1:=keep_ext hx1 (hg_new (b:=w.heap.size + 1) (by simp))
  gi_wp2_with (refine ⟨trivial,?_⟩;gi_at_call 64;refine (callsIn_wide.2 (eachPage_c _ _ _ _)).mono ?_;rintro e w' ⟨rfl,rfl⟩)
  have XW : Ext w ((w1.alloc (.cells #[.int .i64 0,.int .i64 0,.int .i64 0,.int .i64 0] 78)).alloc (.cells #[.slice a 4 cap] 39)):=ext_trans (ext_of2 hx1) (ext_alloc (ext_alloc (ext_refl _) _) _)
  obtain ⟨W0,hW0⟩ : ∃ W0,((w1.alloc (.cells #[.int .i64 0,.int .i64 0,.int .i64 0,.int .i64 0] 78)).alloc (.cells #[.slice a 4 cap] 39)) = W0:=⟨_,rfl⟩
  have G1 : W0.heap[w1.heap.size]? = some (.cells #[.int .i64 0,.int .i64 0,.int .i64 0,.int .i64 0] 78 (0,0)):=by rw [← hW0];exact hg_alloc (hg_new rfl)
  have G2 : W0.heap[w1.heap.size + 1]? = some (.cells #[.slice a 4 cap] 39 (0,0)):=by rw [← hW0];exact hg_new (by simp)
  replace B0 : W0.heap[w.heap.size]? = some (.cells #[.int .i64 addr] 3 (0,0)):=by rw [← hW0];exact hg_alloc (hg_alloc B0)
  replace B1 : W0.heap[w.heap.size + 1]? = some (.cells #[.int .i64 0,.int .i64 0,.int .i64 0,.int .i64 0] 78 (0,0)):=by rw [← hW0];exact hg_alloc (hg_alloc B1)
  have hs0 : W0.heap.size = w1.heap.size + 2:=by rw [← hW0];simp
  have hs1:=hx1.size
  simp at hs1
  rw [hW0] at XW ⊢
  have HD : ∀ i,(i < w.heap.size ∨ i = w1.heap.size + 1) → i < W0.heap.size:=fun i hi=>by omega
  have HS0:=Lib.hid hs0
  have HS1:=Lib.hid hs1
  clear hs0 hW0 hx1 hs1
  refine wpIn_rangeFunc_ownH rfl (by omega) (gf:=86) (lb:=#[.pointer (some ⟨w1.heap.size + 1,0,none⟩)]) rfl trivial (enters_of Tryz.func86 (by kernel_rfl) rfl)
   (each_stops 8 (by omega) (fun i=>i < w.heap.size ∨ i = w1.heap.size + 1) (w1.heap.size + 1) (.slice a 4 cap) f W0 (cell_block G2 0) (.inr rfl) HD (Sl.same blockE_kept h (same_old XW) (fun b hb=>.inl hb)) (by rw [H4.out];omega) HP.out)
   (fun h k=>h.trans k) (fun W l o o' hl _ _ _=>KpD.put HD W l o o' hl) (Below.refl _ _) (fun _=>rfl)
   (fun pre W=>W.heap[w.heap.size]? = some (.cells #[.int .i64 addr] 3 (0,0)) ∧ W.heap[w.heap.size + 1]? = some (.cells #[.int .i64 0,.int .i64 0,.int .i64 0,.int .i64 0] 78 (0,0)) ∧ W.heap[w1.heap.size]? = some (.cells (recC (lastL (pre.map (·.1)) addr)).toArray 78 (0,0)) ∧ Ext w W ∧ W0.heap.size ≤ W.heap.size)
   (fun _ _ _=>False) ?hI (fun _ _ _ _ _ h _ _=>h.elim) ?h0
   (fun x a' W=>∃ By,W0.heap.size ≤ By ∧ W.heap[By]? = some (.cells (pageC x.1.2.2).toArray 102 (0,0)) ∧
    a' = { tmps:=#[.slice a 4 cap,.int .i64 addr,undef,.pointer (some ⟨w.heap.size,0,none⟩),.pointer (some ⟨w.heap.size + 1,0,none⟩),.bool false,.pointer (some ⟨w1.heap.size,0,none⟩),undef,.pointer (some ⟨By,0,none⟩),.int .i64 addr,.bool true,.bool false,.bool false,.slice a 4 cap,.bool true,.bool false,.bool false,undef,.slice a 4 cap,.func (.func 86) #[] #[.pointer (some ⟨w1.heap.size + 1,0,none⟩)],.agg #[.int .i64 x.1.1,.int .i64 x.1.2.1],pageA x.1.2.2,undef,undef,undef,undef,undef,undef,undef,undef,undef,undef,undef,undef,undef,undef,undef,undef,undef,undef,undef,undef,undef,undef,undef,undef],defers:=[] })
   ?hAx ?assign ?body ?done ?stop
  case hI =>
   rintro s X Y row ⟨h0,h1,h2,h3,h4⟩ hg hr
   have hx:=grown_ext h3 (fun g hg'=>by have:=(hr g hg').1;have:=XW.size;omega) hg
   exact ⟨cells_own h0 hg hr,cells_own h1 hg hr,cells_own h2 hg hr,hx,Nat.le_trans h4 hg.size⟩
  case h0=>exact ⟨B0,B1,G1,XW,Nat.le_refl _⟩
  case hAx =>
   rintro x a' s X Y row ⟨By,h2,h4,h5⟩ hg hr
   exact ⟨By,h2,cells_own h4 hg hr,h5⟩
  case stop=>rintro D c pre W _ _ h;exact h.elim
  case assign =>
   rintro l pre ⟨⟨i,j,p⟩,hin⟩ W K ⟨h0,h1,h2,h3,h4⟩ hK
   simp only [encS]
   gi_wp2
   have hx : Ext W (W.alloc (.cells (pageC p).toArray 102)):=ext_alloc (ext_refl _) _
   exact hK _ _ ((KeepsOthers.alloc _ _).from _) (KpD.of_below hx fun b hb=>Nat.lt_of_lt_of_le (HD b hb) h4) ⟨keep_ext hx h0,keep_ext hx h1,keep_ext hx h2,ext_trans h3 hx,Nat.le_trans h4 hx.size⟩
    ⟨W.heap.size,h4,hg_new rfl,rfl⟩
  case done =>
   rintro D xs W hD hS ⟨h0,h1,h2,h3,h4⟩ hK
   have hbd : lastL (xs.map (·.1)) addr = last f addr:=by rw [hS];exact lastL_all f addr
   rw [hbd] at h2
   generalize last f addr = r at *
   obtain ⟨g0,gf0⟩:=cellsK h0
   obtain ⟨g1,gf1⟩:=cellsK h1
   obtain ⟨g2,gf2⟩:=cellsK h2
   have l1:=heap_lt h1
   have l2:=heap_lt h2
   dsimp only [recA]
   gi_wp2
   refine wpIn_wide.2 ?_
   refine wp_region_st [4] h1 [0,1,2,3,4,5] [] [] (by kernel_rfl) (by kernel_rfl) ?late ?_
   case late=>exact fun f hf=>absurd hf List.not_mem_nil
   refine Rob.y (v:=?_) rfl rfl (fun w1 hx hH=>?_) ?_;rotate_left
   ·(obtain ⟨q2,qf2⟩:=cellsK (hx.1.keep h2 (by have:=HS1.out;simp;omega)));go_simp;first | done | rfl
   simp only [Act.put,slA,slB,slC]
   refine Rob.y (v:=?_) rfl rfl (fun w1 hx hH=>?_) ?_;rotate_left
   ·go_simp;first | done | rfl | exact (Bool.not_not _).symm
   simp only [Act.put,slA,slB,slC]
   refine Rob.y (v:=?_) rfl rfl (fun w1 hx hH=>?_) ?_;rotate_left
   ·(obtain ⟨q2,qf2⟩:=cellsK (hx.1.keep h2 (by have:=HS1.out;simp;omega)));go_simp;first | done | rfl
   simp only [Act.put,slA,slB,slC]
   refine Rob.y (v:=?_) rfl rfl (fun w1 hx hH=>?_) ?_;rotate_left
   ·go_simp;first | done | rfl | exact (Bool.not_not _).symm
   simp only [Act.put,slA,slB,slC]
   refine Rob.st rfl rfl rfl rfl rfl rfl (by kernel_rfl) (by kernel_rfl) rfl (by omega) (fun lo4 hi4 hlo4 hhi4=>?_)
   simp only [Act.put,slA,slB,slC]
   refine Rob.y (v:=?_) rfl rfl (fun w1 hx hH=>?_) ?_;rotate_left
   ·go_simp;first | done | rfl | exact (Bool.not_not _).symm
   simp only [Act.put,slA,slB,slC]
   refine fin_nil (fun w3 hx3 _=>?_)
   obtain ⟨⟨hC,-⟩,G⟩:=hx3
   obtain ⟨d0,e0⟩:=cellsK G
   gi_wp2
   have hs:=HS0.out
   have hs1:=HS1.out
   have hK3 : w3.heap[D]? = some (.deferred (some [])):=(hC.block D (Array.getElem?_eq_some_iff.1 hK).1 (by simp;omega)).trans hK
   have G' : (w3.putObj D (.deferred none)).heap[w.heap.size + 1]? = _:=(World.putObj_heap_other (by omega)).trans G
   obtain ⟨y0,y1⟩:=cellsK G'
   have X3 : Ext w (w3.putObj D (.deferred none)):=grown_ext (hC.ext h3 (by simp)) (fun g hg=>by cases hg;omega) (grownBy_putObj' w3 D _)
   refine ⟨by simp,.inl ⟨_,_,rfl,run_takeDeferred hK3,?_⟩⟩
   exact ⟨.tuple #[recA r,.bool (decide (0 < r.seq))],by simp [results,Tryz.results146,go_sem,y0,y1],rfl,X3⟩
  case body =>
   rintro l pre ⟨⟨i,j,p⟩,hin⟩ a' W hl ⟨r,hr⟩ ⟨h0,h1,h2,h3,h4⟩ ⟨By,hB2,g5,rfl⟩ hlt
   have hpo : pageOkB p = true:=by
    obtain ⟨b,hb,hp⟩:=hin
    exact HS.out b (List.mem_of_getElem? hb) p (List.mem_of_getElem? hp)
   have hsq:=pageOk_seq hpo
   have HX : Hid (lastL ((pre ++ [⟨(i,j,p),hin⟩] : List (SpotIn f)).map (·.1)) addr = lastStep addr (lastL (pre.map (·.1)) addr) p):=Lib.hid (by rw [List.map_append];exact lastL_snoc _ _ _)
   generalize lastL (pre.map (·.1)) addr = q at *
   dsimp only at g5
   obtain ⟨q5,qf5⟩:=cellsK g5
   obtain ⟨q0,qf0⟩:=cellsK h0
   obtain ⟨q2,qf2⟩:=cellsK h2
   by_cases hst : p.state = 1
   ·by_cases had : p.r.addr = addr
    ·by_cases hgt : q.seq < p.r.seq
     ·gi_wp2
      have hC : Chg [w1.heap.size] W ((((W.setCell ⟨w1.heap.size,0,none⟩ (.int .i64 p.r.kind)).setCell ⟨w1.heap.size,1,none⟩ (.int .i64 p.r.seq)).setCell ⟨w1.heap.size,2,none⟩ (.int .i64 addr)).setCell ⟨w1.heap.size,3,none⟩ (.int .i64 p.r.val)):=
       ((((Chg.of_ext (ext_refl W)).set (p:=⟨w1.heap.size,0,none⟩) (.inl (by simp)) _).set (p:=⟨w1.heap.size,1,none⟩) (.inl (by simp)) _).set (p:=⟨w1.heap.size,2,none⟩) (.inl (by simp)) _).set (p:=⟨w1.heap.size,3,none⟩) (.inl (by simp)) _
      have hs:=HS0.out
      have hs1:=HS1.out
      refine ⟨KeepsFrom.of_chg hC (by simp;omega),KpD.of_chg hC (fun b hb=>⟨Nat.lt_of_lt_of_le (HD b hb) h4,by simp;omega⟩),hC.keep h0 (by simp;omega),hC.keep h1 (by simp;omega),hgo (hg_here (hg_here (hg_here (hg_here h2)))) ?_,Chg.ext h3 hC (by simp;omega),Nat.le_trans h4 hC.size⟩
      rw [HX.out];unfold lastStep;rw [if_pos ⟨hst,had,hgt⟩,← had];rfl
     ·gi_wp2
      refine ⟨(KeepsOthers.refl _).from _,⟨Nat.le_refl _,fun _ _=>rfl⟩,h0,h1,hgo h2 ?_,h3,h4⟩
      rw [HX.out];unfold lastStep;rw [if_neg]
      omega
    ·gi_wp2
     refine ⟨(KeepsOthers.refl _).from _,⟨Nat.le_refl _,fun _ _=>rfl⟩,h0,h1,hgo h2 ?_,h3,h4⟩
     rw [HX.out];unfold lastStep;rw [if_neg]
     omega
   ·gi_wp2
    refine ⟨(KeepsOthers.refl _).from _,⟨Nat.le_refl _,fun _ _=>rfl⟩,h0,h1,hgo h2 ?_,h3,h4⟩
    rw [HX.out];unfold lastStep;rw [if_neg]
    omega
theorem blockOk_c (n : Int) (w : World) : Calls Tryz.prog 151 #[.int .i64 n] w (RetSame w (.bool (inB n 0 3))):=by
 go_enter Tryz.func151,Tryz.ntmps151
 go_wp2
 all_goals
  go_ret
  refine ⟨?_,rfl⟩
  simp_all [inB]
  try omega
set_option maxRecDepth 20000 in
set_option maxHeartbeats 4000000 in
theorem implFindLive_c (v : Value) (f : List Block) (i j : Nat) (x : Block) (p : Page) (w : World) (h : Flash (Old w) w v f) (hok : flashOkB f = true) (hx : f[i]? = some x) (hj : x.pages[j]? = some p) :
  Calls Tryz.prog 161 #[v,.int .i64 i,.int .i64 j] w (Ret w (.bool (liveP f p))):=by
 have hps:=pages_short hok
 have hFO:=fun (w' : World) (hx : Ext w w')=>implFlashOk_c v f w' (h.ext hx) hps
 rw [hok] at hFO
 have hFL:=fun (a : Int) (w' : World) (hx : Ext w w')=>implFindLast_c v f a w' (h.ext hx) hok
 have hF:=flashOk_iff.1 hok
 have h4:=hF.len
 obtain ⟨hil,rfl⟩:=List.getElem?_eq_some_iff.1 hx
 obtain ⟨hjl,rfl⟩:=List.getElem?_eq_some_iff.1 hj
 have hp4:=(blockB_iff.1 (hF.blocks _ (List.getElem_mem hil))).1
 have hpo:=hF.pg (List.getElem_mem hil) _ (List.getElem_mem hjl)
 obtain ⟨a,cap,rfl⟩:=h.form
 obtain ⟨b,o,pv,rfl,hb,hpp,c0,c1⟩:=h.at2 hil
 obtain ⟨a2,cap2,rfl⟩:=hpp.form
 obtain ⟨b2,o2,rfl,hb2,d0,d1,d2,d3,d4⟩:=hpp.at5 hjl
 have hq : liveP f f[i].pages[j] = (f[i].pages[j].state == 1 && recEq (last f f[i].pages[j].r.addr) f[i].pages[j].r):=rfl
 have hpos : f[i].pages[j].state = 1 → 1 ≤ f[i].pages[j].r.seq:=(pageOk_one hpo).1
 have HQ:=Lib.hid hq
 rw [hp4] at c0
 rw [h4] at hFO hFL ⊢
 clear hq hps hF hpo hx hj
 generalize f[i].pages[j] = p at *
 have hb' : b < w.heap.size:=hb
 have hb2' : b2 < w.heap.size:=hb2
 go_enter Tryz.func161,Tryz.ntmps161
 go_wp2_with fail
 refine (hFO _ (ext_refl _)).mono ?_;rintro e1 w1 ⟨rfl,hx1⟩
 obtain ⟨hc1,hf1⟩:=bcell hx1
 have hj4 : (j : Int) < 4:=by omega
 have hj0 : ¬ (j : Int) < 0:=by omega
 by_cases hst : p.state = 1
 ·go_wp2_with (go_at_call 151;refine (blockOk_c _ _).mono ?_;rw [inB_iff.2 (by omega)];rintro e w' ⟨rfl,rfl⟩)
  refine (hFL _ _ (ext_trans hx1 (ext_alloc (ext_refl _) _))).mono ?_;rintro e2 w2 ⟨rfl,hx2⟩
  have G1:=keep_ext hx2 (hg_new (b:=w1.heap.size) rfl)
  obtain ⟨g1,gf1⟩:=cellsK G1
  have l1:=heap_lt G1
  have hsq:=hpos hst
  have X2:=ext_trans hx1 (ext_trans (ext_alloc (ext_refl _) _) hx2)
  have hL : liveP f p = (decide (0 < (last f p.r.addr).seq) && recEq (last f p.r.addr) p.r):=by
   rw [HQ.out,hst]
   cases hr : recEq (last f p.r.addr) p.r
   ·simp
   ·rw [recEq_iff.1 hr];simp;omega
  have HL:=Lib.hid hL
  clear hL HQ
  generalize last f p.r.addr = r at *
  clear hc1 hf1 hFO hFL c0 c1 d0 d1 d2 d3 d4
  go_wp2_with fail
  all_goals
   go_ret
   try simp only [beq_iff_eq,Bool.not_eq_true,beq_eq_false_iff_ne,ne_eq,bne_iff_ne,bne_eq_false_iff_eq,decide_eq_true_eq,decide_eq_false_iff_not] at *
   refine ⟨by rw [HL.out];simp [recEq, *];try omega,?_⟩
   first | exact X2 | exact ext_alloc X2 _
 ·have hL : liveP f p = false:=by rw [HQ.out,show (p.state == 1) = false by simpa using hst];rfl
  have HL:=Lib.hid hL
  go_wp2_with (go_at_call 151;refine (blockOk_c _ _).mono ?_;rw [inB_iff.2 (by omega)];rintro e w' ⟨rfl,rfl⟩)
  go_ret
  refine ⟨by rw [HL.out];rfl,ext_trans hx1 (ext_alloc (ext_refl _) _)⟩
end Go.Bu
namespace Go.Bu
open Go Go.RowKit Go.Plan Go.Proofs
set_option maxRecDepth 20000 in
set_option maxHeartbeats 4000000 in
theorem implFindOpen_c (v : Value) (f : List Block) (w : World) (h : Flash (Old w) w v f) (hok : flashOkB f = true) :
  Calls Tryz.prog 159 #[v] w (Ret w (.tuple #[.int .i64 (openB f).1,.bool (openB f).2])):=by
 have hps:=pages_short hok
 have hFO:=fun (w' : World) (hx : Ext w w')=>implFlashOk_c v f w' (h.ext hx) hps
 rw [hok] at hFO
 have hF:=flashOk_iff.1 hok
 have h4:=hF.len
 have hp4 : Hid (∀ b ∈ f,b.pages.length = 4):=Lib.hid fun b hb=>(blockB_iff.1 (hF.blocks b hb)).1
 obtain ⟨A,hA⟩ : ∃ A,openB f = A:=⟨_,rfl⟩
 rw [hA]
 rw [openI_eq hp4.out] at hA
 have HA:=Lib.hid hA
 have HP:=Lib.hid hps
 have HCB : Hid (∀ b ∈ f,0 ≤ cleanN b.pages ∧ cleanN b.pages ≤ 4):=Lib.hid fun b hb=>(blockB_free (hF.blocks b hb)).2.2
 obtain ⟨a,cap,rfl⟩:=h.form
 rw [h4] at h hFO ⊢
 clear hps hF hA hok
 go_enter Tryz.func159,Tryz.ntmps159
 go_wp2_with fail
 refine (hFO _ (ext_refl _)).mono ?_;rintro e1 w1 ⟨rfl,hx1⟩
 clear hFO
 go_wp2_with fail
 go_loopw [15] (fun y wr=>∃ k : Nat,k ≤ 4 ∧ y = .int .i64 k ∧ Ext w wr ∧ Hid (partScan k (f.drop k) = partScan 0 f)) (fun y _=>4 - (intOf y).toNat)
 case atStart=>exact ⟨0,by omega,rfl,hx1,Lib.hid rfl⟩
 case round =>
  obtain ⟨k,hk,rfl,hX,HR⟩:=hrel
  by_cases hlt : k < 4
  ·have hkl : k < f.length:=by omega
   obtain ⟨b,o,pv,heq,hb,hpp,c0,c1⟩:=h.at2 hkl
   have hb' : b < w.heap.size:=hb
   have hm:=List.getElem_mem hkl
   rw [partScan_drop _ _ hkl] at HR
   obtain rfl:=heq
   obtain ⟨hc1,hf1⟩:=bcell hX
   have hpu:=fun (w' : World) (hx : Ext w w')=>partlyUsed_c pv f[k].pages f[k].worn w' (hpp.ext hx) (HP.out _ hm)
   obtain ⟨a2,cap2,rfl⟩:=hpp.form
   generalize partB f[k].pages = u at *
   generalize f[k] = x at *
   obtain ⟨xs,xw⟩:=x
   dsimp only at hpu c0 c1 ⊢
   go_wp2_with fail
   refine (hpu _ (ext_trans hX (ext_alloc (ext_refl _) _))).mono ?_;rintro e2 w2 ⟨rfl,hx2⟩
   have X2:=ext_trans hX (ext_trans (ext_alloc (ext_refl _) _) hx2)
   clear hc1 hf1 hpu c0 c1
   cases u
   ·have HR2 : Hid (partScan (k + 1) (f.drop (k + 1)) = partScan 0 f):=Lib.hid (by have:=HR.out;rwa [if_neg (by simp)] at this)
    go_wp2_with fail
    go_roundw
    case rel=>exact ⟨k + 1,by omega,by go_num,X2,HR2⟩
    case measure=>simp [intOf];omega
   ·have hA : A = ((k : Int),true):=by
     have h1:=HR.out
     rw [if_pos rfl] at h1
     rw [← HA.out];unfold openI;rw [← h1]
    subst hA
    go_wp2_with fail
    go_ret2
    exact ⟨rfl,X2⟩
  ·obtain rfl : k = 4:=by omega
   have hA : A = (((bestScan f 0 0 false f).1 : Int),(bestScan f 0 0 false f).2):=by
    have h1:=HR.out
    rw [List.drop_eq_nil_of_le (by omega)] at h1
    rw [← HA.out];unfold openI;rw [← h1];rfl
   have HB0 : Hid ((((bestScan f 0 0 false (f.drop 0)).1 : Int),(bestScan f 0 0 false (f.drop 0)).2) = A):=Lib.hid hA.symm
   clear HR HA hA
   rw [show ((4 : Nat) : Int) = 4 from rfl]
   go_wp2_with fail
   go_loopw [6,7,26] (fun n fd y wr=>∃ (k m : Nat) (u : Bool),k ≤ 4 ∧ m < 4 ∧ y = .int .i64 k ∧ n = .int .i64 m ∧ fd = .bool u ∧ Ext w wr ∧ Hid ((((bestScan f k m u (f.drop k)).1 : Int),(bestScan f k m u (f.drop k)).2) = A)) (fun _ _ y _=>4 - (intOf y).toNat)
   case atStart=>exact ⟨0,0,false,by omega,by omega,rfl,rfl,rfl,hX,HB0⟩
   case round =>
    clear HB0
    obtain ⟨k,m,u,hk,hm4,rfl,rfl,rfl,hX,HR⟩:=hrel
    by_cases hlt : k < 4
    ·have hkl : k < f.length:=by omega
     have hml : m < f.length:=by omega
     obtain ⟨b,o,pv,heq,hb,hpp,c0,c1⟩:=h.at2 hkl
     obtain ⟨b2,o2,pv2,heq2,hb2,hpp2,d0,d1⟩:=h.at2 hml
     obtain rfl:=heq
     simp only [Option.some.injEq,Addr.mk.injEq,and_true] at heq2
     obtain ⟨rfl,rfl⟩:=heq2
     have hb' : b < w.heap.size:=hb
     have hm:=List.getElem_mem hkl
     rw [bestScan_drop _ _ _ _ hkl,blockAt_get hml] at HR
     have hfp:=fun (w' : World) (hx : Ext w w')=>freePages_c pv f[k].pages f[k].worn w' (hpp.ext hx) (HP.out _ hm)
     have hcb:=HCB.out _ hm
     obtain ⟨a2,cap2,rfl⟩:=hpp.form
     obtain ⟨hc1,hf1⟩:=bcell hX
     obtain ⟨cn,hcn⟩ : ∃ cn,cleanN f[k].pages = cn:=⟨_,rfl⟩
     obtain ⟨xw,hxw⟩ : ∃ xw,f[k].worn = xw:=⟨_,rfl⟩
     obtain ⟨mw,hmw⟩ : ∃ mw,f[m].worn = mw:=⟨_,rfl⟩
     rw [hcn] at hfp hcb HR
     rw [hxw] at hfp c1 HR
     rw [hmw] at d1 HR
     have G9 : (wr.alloc (.cells #[.slice a2 f[k].pages.length cap2,.int .i64 xw] 104)).heap[wr.heap.size]? = some (.cells #[.slice a2 f[k].pages.length cap2,.int .i64 xw] 104 (0,0)):=hg_new rfl
     clear hcn hxw hmw hpp hpp2
     generalize f[k].pages.length = pn at *
     have XB : Ext w (wr.alloc (.cells #[.slice a2 pn cap2,.int .i64 xw] 104)):=ext_alloc hX _
     by_cases hc4 : cn = 4
     ·subst hc4
      have hm4' : (m : Int) < 4:=by omega
      have hm0' : ¬ (m : Int) < 0:=by omega
      cases u
      ·have hcond : (4 : Int) = 4 ∧ (false = false ∨ xw < mw):=⟨rfl,.inl rfl⟩
       go_wp2_with fail
       refine wp_region_ext [1] [0,1,2,3,4,5,6,7,8,9,10,11,12,13,14,15,16] [] [] (by kernel_rfl) (by kernel_rfl) ?late ?_
       case late=>exact fun f hf=>absurd hf List.not_mem_nil
       refine Rob.y (v:=?_) rfl rfl (fun w1 hx hH=>?_) ?_;rotate_left
       ·(obtain ⟨q9,qf9⟩:=cellsK (keep_ext hx G9));go_simp;first | done | rfl
       simp only [Act.put,slA,slB,slC]
       refine Rob.cv (.int .i64 4) rfl rfl rfl (fun _ _=>ext_trans) (fun w1 hx hH=>?_) (fun lo1 hi1 hlo1 hhi1=>?_)
       ·unfold RunTo;go_simp;exact (hfp _ (ext_trans XB hx)).mono fun e w' h=>h.to
       simp only [Act.put,slA,slB,slC]
       iterate 2
        refine Rob.y (v:=?_) rfl rfl (fun w1 hx hH=>?_) ?_;rotate_left
        ·go_simp;first | done | rfl | exact (Bool.not_not _).symm
        simp only [Act.put,slA,slB,slC]
       iterate 3
        refine Rob.yg (v:=?_) rfl rfl (fun w1 hx hH=>?_) ?_;rotate_left
        ·go_simp;first | done | rfl | exact (Bool.not_not _).symm
        simp only [Act.put,slA,slB,slC]
       iterate 8
        refine Rob.no rfl rfl ?_
        simp only [Act.put,slA,slB,slC]
       refine Rob.yg (v:=?_) rfl rfl (fun w1 hx hH=>?_) ?_;rotate_left
       ·go_simp;first | done | rfl | exact (Bool.not_not _).symm
       simp only [Act.put,slA,slB,slC]
       refine Rob.y (v:=?_) rfl rfl (fun w1 hx hH=>?_) ?_;rotate_left
       ·go_simp;first | done | rfl | exact (Bool.not_not _).symm
       simp only [Act.put,slA,slB,slC]
       have HR2 : Hid ((((bestScan f (k + 1) k true (f.drop (k + 1))).1 : Int),(bestScan f (k + 1) k true (f.drop (k + 1))).2) = A):=Lib.hid (by have:=HR.out;rwa [if_pos hcond] at this)
       clear hcond HR
       refine fin_nil (fun w3 hx3 _=>?_)
       have X3:=ext_trans XB hx3
       clear c0 c1 d0 d1 hc1 hf1
       go_wp2_with fail
       go_roundw
       case rel=>exact ⟨k + 1,k,true,by omega,by omega,by go_num,rfl,rfl,X3,HR2⟩
       case measure=>simp [intOf];omega
      ·by_cases hwn : xw < mw
       ·have hcond : (4 : Int) = 4 ∧ (true = false ∨ xw < mw):=⟨rfl,.inr hwn⟩
        go_wp2_with fail
        refine wp_region_ext [1] [0,1,2,3,4,5,6,7,8,9,10,11,12,13,14,15,16] [] [] (by kernel_rfl) (by kernel_rfl) ?late ?_
        case late=>exact fun f hf=>absurd hf List.not_mem_nil
        refine Rob.y (v:=?_) rfl rfl (fun w1 hx hH=>?_) ?_;rotate_left
        ·(obtain ⟨q9,qf9⟩:=cellsK (keep_ext hx G9);obtain ⟨hcx,hfx⟩:=bcell (ext_trans XB hx));go_simp;first | done | rfl
        simp only [Act.put,slA,slB,slC]
        refine Rob.cv (.int .i64 4) rfl rfl rfl (fun _ _=>ext_trans) (fun w1 hx hH=>?_) (fun lo1 hi1 hlo1 hhi1=>?_)
        ·unfold RunTo;go_simp;exact (hfp _ (ext_trans XB hx)).mono fun e w' h=>h.to
        simp only [Act.put,slA,slB,slC]
        iterate 2
         refine Rob.y (v:=?_) rfl rfl (fun w1 hx hH=>?_) ?_;rotate_left
         ·go_simp;first | done | rfl | exact (Bool.not_not _).symm
         simp only [Act.put,slA,slB,slC]
        iterate 4
         refine Rob.yg (v:=?_) rfl rfl (fun w1 hx hH=>?_) ?_;rotate_left
         ·go_simp;first | done | rfl | exact (Bool.not_not _).symm
         simp only [Act.put,slA,slB,slC]
        refine Rob.yg (v:=?_) rfl rfl (fun w1 hx hH=>?_) ?_;rotate_left
        ·(obtain ⟨q9,qf9⟩:=cellsK (keep_ext hx G9);obtain ⟨hcx,hfx⟩:=bcell (ext_trans XB hx));go_simp;first | done | rfl
        simp only [Act.put,slA,slB,slC]
        iterate 2
         refine Rob.yg (v:=?_) rfl rfl (fun w1 hx hH=>?_) ?_;rotate_left
         ·go_simp;first | done | rfl | exact (Bool.not_not _).symm
         simp only [Act.put,slA,slB,slC]
        refine Rob.yg (v:=?_) rfl rfl (fun w1 hx hH=>?_) ?_;rotate_left
        ·(obtain ⟨q9,qf9⟩:=cellsK (keep_ext hx G9);obtain ⟨hcx,hfx⟩:=bcell (ext_trans XB hx));go_simp;first | done | rfl
        simp only [Act.put,slA,slB,slC]
        refine Rob.yg (v:=?_) rfl rfl (fun w1 hx hH=>?_) ?_;rotate_left
        ·go_simp;first | done | rfl | exact (Bool.not_not _).symm
        simp only [Act.put,slA,slB,slC]
        refine Rob.yg (v:=?_) rfl rfl (fun w1 hx hH=>?_) ?_;rotate_left
        ·(obtain ⟨q9,qf9⟩:=cellsK (keep_ext hx G9);obtain ⟨hcx,hfx⟩:=bcell (ext_trans XB hx));go_simp;first | done | rfl
        simp only [Act.put,slA,slB,slC]
        iterate 2
         refine Rob.yg (v:=?_) rfl rfl (fun w1 hx hH=>?_) ?_;rotate_left
         ·go_simp;first | done | rfl | exact (Bool.not_not _).symm
         simp only [Act.put,slA,slB,slC]
        refine Rob.y (v:=?_) rfl rfl (fun w1 hx hH=>?_) ?_;rotate_left
        ·go_simp;first | done | rfl | exact (Bool.not_not _).symm
        simp only [Act.put,slA,slB,slC]
        have HR2 : Hid ((((bestScan f (k + 1) k true (f.drop (k + 1))).1 : Int),(bestScan f (k + 1) k true (f.drop (k + 1))).2) = A):=Lib.hid (by have:=HR.out;rwa [if_pos hcond] at this)
        clear hcond HR
        refine fin_nil (fun w3 hx3 _=>?_)
        have X3:=ext_trans XB hx3
        clear c0 c1 d0 d1 hc1 hf1
        go_wp2_with fail
        go_roundw
        case rel=>exact ⟨k + 1,k,true,by omega,by omega,by go_num,rfl,rfl,X3,HR2⟩
        case measure=>simp [intOf];omega
       ·have hcond : ¬ ((4 : Int) = 4 ∧ (true = false ∨ xw < mw)):=fun h=>h.2.elim (fun e=>by cases e) hwn
        go_wp2_with fail
        refine wp_region_ext [1] [0,1,2,3,4,5,6,7,8,9,10,11,12,13,14,15,16] [] [] (by kernel_rfl) (by kernel_rfl) ?late ?_
        case late=>exact fun f hf=>absurd hf List.not_mem_nil
        refine Rob.y (v:=?_) rfl rfl (fun w1 hx hH=>?_) ?_;rotate_left
        ·(obtain ⟨q9,qf9⟩:=cellsK (keep_ext hx G9);obtain ⟨hcx,hfx⟩:=bcell (ext_trans XB hx));go_simp;first | done | rfl
        simp only [Act.put,slA,slB,slC]
        refine Rob.cv (.int .i64 4) rfl rfl rfl (fun _ _=>ext_trans) (fun w1 hx hH=>?_) (fun lo1 hi1 hlo1 hhi1=>?_)
        ·unfold RunTo;go_simp;exact (hfp _ (ext_trans XB hx)).mono fun e w' h=>h.to
        simp only [Act.put,slA,slB,slC]
        iterate 2
         refine Rob.y (v:=?_) rfl rfl (fun w1 hx hH=>?_) ?_;rotate_left
         ·go_simp;first | done | rfl | exact (Bool.not_not _).symm
         simp only [Act.put,slA,slB,slC]
        iterate 4
         refine Rob.yg (v:=?_) rfl rfl (fun w1 hx hH=>?_) ?_;rotate_left
         ·go_simp;first | done | rfl | exact (Bool.not_not _).symm
         simp only [Act.put,slA,slB,slC]
        refine Rob.yg (v:=?_) rfl rfl (fun w1 hx hH=>?_) ?_;rotate_left
        ·(obtain ⟨q9,qf9⟩:=cellsK (keep_ext hx G9);obtain ⟨hcx,hfx⟩:=bcell (ext_trans XB hx));go_simp;first | done | rfl
        simp only [Act.put,slA,slB,slC]
        iterate 2
         refine Rob.yg (v:=?_) rfl rfl (fun w1 hx hH=>?_) ?_;rotate_left
         ·go_simp;first | done | rfl | exact (Bool.not_not _).symm
         simp only [Act.put,slA,slB,slC]
        refine Rob.yg (v:=?_) rfl rfl (fun w1 hx hH=>?_) ?_;rotate_left
        ·(obtain ⟨q9,qf9⟩:=cellsK (keep_ext hx G9);obtain ⟨hcx,hfx⟩:=bcell (ext_trans XB hx));go_simp;first | done | rfl
        simp only [Act.put,slA,slB,slC]
        refine Rob.yg (v:=?_) rfl rfl (fun w1 hx hH=>?_) ?_;rotate_left
        ·go_simp;first | done | rfl | exact (Bool.not_not _).symm
        simp only [Act.put,slA,slB,slC]
        refine Rob.yg (v:=?_) rfl rfl (fun w1 hx hH=>?_) ?_;rotate_left
        ·(obtain ⟨q9,qf9⟩:=cellsK (keep_ext hx G9);obtain ⟨hcx,hfx⟩:=bcell (ext_trans XB hx));go_simp;first | done | rfl
        simp only [Act.put,slA,slB,slC]
        iterate 2
         refine Rob.yg (v:=?_) rfl rfl (fun w1 hx hH=>?_) ?_;rotate_left
         ·go_simp;first | done | rfl | exact (Bool.not_not _).symm
         simp only [Act.put,slA,slB,slC]
        refine Rob.y (v:=?_) rfl rfl (fun w1 hx hH=>?_) ?_;rotate_left
        ·go_simp;first | done | rfl | exact (Bool.not_not _).symm
        simp only [Act.put,slA,slB,slC]
        have HR2 : Hid ((((bestScan f (k + 1) m true (f.drop (k + 1))).1 : Int),(bestScan f (k + 1) m true (f.drop (k + 1))).2) = A):=Lib.hid (by have:=HR.out;rwa [if_neg hcond] at this)
        clear hcond HR
        refine fin_nil (fun w3 hx3 _=>?_)
        have X3:=ext_trans XB hx3
        clear c0 c1 d0 d1 hc1 hf1
        go_wp2_with fail
        go_roundw
        case rel=>exact ⟨k + 1,m,_,by omega,hm4,by go_num,rfl,rfl,X3,HR2⟩
        case measure=>simp [intOf];omega
     ·have hcond : ¬ (cn = 4 ∧ (u = false ∨ xw < mw)):=fun h=>hc4 h.1
      go_wp2_with fail
      refine wp_region_ext [1] [0,1,2,3,4,5,6,7,8,9,10,11,12,13,14,15,16] [] [] (by kernel_rfl) (by kernel_rfl) ?late ?_
      case late=>exact fun f hf=>absurd hf List.not_mem_nil
      refine Rob.y (v:=?_) rfl rfl (fun w1 hx hH=>?_) ?_;rotate_left
      ·(obtain ⟨q9,qf9⟩:=cellsK (keep_ext hx G9));go_simp;first | done | rfl
      simp only [Act.put,slA,slB,slC]
      refine Rob.cv (.int .i64 cn) rfl rfl rfl (fun _ _=>ext_trans) (fun w1 hx hH=>?_) (fun lo1 hi1 hlo1 hhi1=>?_)
      ·unfold RunTo;go_simp;exact (hfp _ (ext_trans XB hx)).mono fun e w' h=>h.to
      simp only [Act.put,slA,slB,slC]
      refine Rob.y (v:=.bool false) rfl rfl (fun w1 hx hH=>?_) ?_
      ·(go_simp;try simp [hc4])
      simp only [Act.put,slA,slB,slC]
      refine Rob.y (v:=?_) rfl rfl (fun w1 hx hH=>?_) ?_;rotate_left
      ·go_simp;first | done | rfl | exact (Bool.not_not _).symm
      simp only [Act.put,slA,slB,slC]
      iterate 12
       refine Rob.no rfl rfl ?_
       simp only [Act.put,slA,slB,slC]
      refine Rob.y (v:=?_) rfl rfl (fun w1 hx hH=>?_) ?_;rotate_left
      ·go_simp;first | done | rfl | exact (Bool.not_not _).symm
      simp only [Act.put,slA,slB,slC]
      have HR2 : Hid ((((bestScan f (k + 1) m u (f.drop (k + 1))).1 : Int),(bestScan f (k + 1) m u (f.drop (k + 1))).2) = A):=Lib.hid (by have:=HR.out;rwa [if_neg hcond] at this)
      clear hcond HR
      refine fin_nil (fun w3 hx3 _=>?_)
      have X3:=ext_trans XB hx3
      clear c0 c1 d0 d1 hc1 hf1
      go_wp2_with fail
      go_roundw
      case rel=>exact ⟨k + 1,m,_,by omega,hm4,by go_num,rfl,rfl,X3,HR2⟩
      case measure=>simp [intOf];omega
    ·obtain rfl : k = 4:=by omega
     have hr:=HR.out
     rw [List.drop_eq_nil_of_le (by omega),bestScan] at hr
     go_wp2_with fail
     go_ret2
     exact ⟨by rw [← hr];rfl,hX⟩
set_option maxRecDepth 20000 in
set_option maxHeartbeats 4000000 in
theorem implFindOld_c (v : Value) (f : List Block) (w : World) (h : Flash (Old w) w v f) (hok : flashOkB f = true) :
  Calls Tryz.prog 160 #[v] w (Ret w (.int .i64 (old f))):=by
 have hps:=pages_short hok
 have hFO:=fun (w' : World) (hx : Ext w w')=>implFlashOk_c v f w' (h.ext hx) hps
 rw [hok] at hFO
 have hF:=flashOk_iff.1 hok
 have h4:=hF.len
 have hSP:=fun (w' : World) (hx : Ext w w')=>spansOf_c v f w' (h.ext hx) h4 hps (fun b hb p hpp=>pageOk_seq (hF.pg hb p hpp))
 have hse:=spansOf_eq h4 fun b hb=>hF.pg hb
 have HSL : Hid (∀ (k : Nat) (hk : k < (spansOf f).length) (hf : k < f.length),(spansOf f)[k] = (least f[k].pages,most f[k].pages)):=Lib.hid (by rw [hse];intro k hk hf;simp)
 have HL : Hid ((spansOf f).length = 4):=Lib.hid (spansL_len _)
 obtain ⟨A,hA⟩ : ∃ A,old f = A:=⟨_,rfl⟩
 rw [hA]
 unfold old at hA
 have HA:=Lib.hid hA
 clear hse hA
 generalize spansOf f = ss at *
 obtain ⟨a,cap,rfl⟩:=h.form
 rw [h4] at h hFO hSP ⊢
 clear hps hF hok
 go_enter Tryz.func160,Tryz.ntmps160
 go_wp2_with fail
 refine (hFO _ (ext_refl _)).mono ?_;rintro e1 w1 ⟨rfl,hx1⟩
 clear hFO
 go_wp2_with fail
 refine (hSP _ hx1).mono ?_;rintro e2 w2 ⟨B,rfl,hx2,hB,hO⟩
 have X2:=ext_trans hx1 hx2
 have HO:=Lib.hid hO
 clear hSP hx1 hx2 hO hB
 go_wp2_with fail
 go_loopw [3,14] (fun n y wr=>∃ k m : Nat,k ≤ 4 ∧ m < 4 ∧ y = .int .i64 k ∧ n = .int .i64 m ∧ Ext w2 wr ∧ Hid (if k = 0 then m = 0 else oldScan f k m (f.drop k) = A)) (fun _ y _=>4 - (intOf y).toNat)
 case atStart=>exact ⟨0,0,by omega,by omega,rfl,rfl,ext_refl _,Lib.hid rfl⟩
 case round =>
  obtain ⟨k,m,hk,hm,rfl,rfl,hX,HR⟩:=hrel
  by_cases hlt : k < 4
  ·have hO:=HO.out.ext hX
   have hkl : k < ss.length:=by rw [HL.out];omega
   have hml : m < ss.length:=by rw [HL.out];omega
   have hkf : k < f.length:=by omega
   have hmf : m < f.length:=by omega
   obtain ⟨c0,c1⟩:=hO.two' hkl
   obtain ⟨d0,d1⟩:=hO.two' hml
   have cf:=hO.frozen
   have hBl:=hO.lt
   rw [Nat.zero_add,HSL.out k hkl hkf] at c0 c1
   rw [Nat.zero_add,HSL.out m hml hmf] at d0 d1
   dsimp only at c0 c1 d0 d1
   have hstep : ∀ m2 : Nat,m2 = (if most f[k].pages < most f[m].pages then k else m) → Hid (if k + 1 = 0 then m2 = 0 else oldScan f (k + 1) m2 (f.drop (k + 1)) = A):=fun m2 hm2=>Lib.hid (by
    rw [if_neg (by omega)]
    have h1:=HR.out
    by_cases hk0 : k = 0
    ·subst hk0
     rw [if_pos rfl] at h1
     subst h1
     rw [if_neg (by omega)] at hm2
     subst hm2
     exact HA.out
    ·rw [if_neg hk0,oldScan_drop _ _ _ hkf] at h1
     rw [← h1,hm2]
     congr 1
     rw [List.getElem?_eq_getElem hmf];rfl)
   have HST:=Lib.hid hstep
   clear HR hstep
   obtain ⟨lo,hlo⟩ : ∃ lo,least f[k].pages = lo:=⟨_,rfl⟩
   generalize most f[k].pages = mk at *
   generalize most f[m].pages = mm at *
   rw [hlo] at c0
   have G6 : (wr.alloc (.cells #[.int .i64 lo,.int .i64 mk] 136)).heap[wr.heap.size]? = some (.cells #[.int .i64 lo,.int .i64 mk] 136 (0,0)):=hg_new rfl
   have XB : Ext w2 (wr.alloc (.cells #[.int .i64 lo,.int .i64 mk] 136)):=ext_alloc hX _
   have hm4' : (m : Int) < 4:=by omega
   have hm0' : ¬ (m : Int) < 0:=by omega
   have D1:=fun (w' : World) (hx : Ext (wr.alloc (.cells #[.int .i64 lo,.int .i64 mk] 136)) w')=>cell_ext (ext_trans (ext_alloc (ext_refl _) _) hx) d1
   have DF:=fun (w' : World) (hx : Ext (wr.alloc (.cells #[.int .i64 lo,.int .i64 mk] 136)) w')=>fun j=>(frozen_ext (ext_trans (ext_alloc (ext_refl _) _) hx) hBl j).trans (cf j)
   by_cases hq : mk < mm
   ·go_wp2_with fail
    refine wp_region_ext [] [0,1,2,3,4,5,6,7] [] [] (by kernel_rfl) (by kernel_rfl) ?late ?_
    case late=>exact fun f hf=>absurd hf List.not_mem_nil
    refine Rob.y (v:=?_) rfl rfl (fun w1 hx hH=>?_) ?_;rotate_left
    ·go_simp;first | done | rfl | exact (Bool.not_not _).symm
    simp only [Act.put,slA,slB,slC]
    refine Rob.y (v:=?_) rfl rfl (fun w1 hx hH=>?_) ?_;rotate_left
    ·(obtain ⟨q6,qf6⟩:=cellsK (keep_ext hx G6);have e1:=D1 _ hx;have ef:=DF _ hx);go_simp;first | done | rfl
    simp only [Act.put,slA,slB,slC]
    iterate 2
     refine Rob.y (v:=?_) rfl rfl (fun w1 hx hH=>?_) ?_;rotate_left
     ·go_simp;first | done | rfl | exact (Bool.not_not _).symm
     simp only [Act.put,slA,slB,slC]
    refine Rob.y (v:=?_) rfl rfl (fun w1 hx hH=>?_) ?_;rotate_left
    ·(obtain ⟨q6,qf6⟩:=cellsK (keep_ext hx G6);have e1:=D1 _ hx;have ef:=DF _ hx);go_simp;first | done | rfl
    simp only [Act.put,slA,slB,slC]
    refine Rob.y (v:=?_) rfl rfl (fun w1 hx hH=>?_) ?_;rotate_left
    ·go_simp;first | done | rfl | exact (Bool.not_not _).symm
    simp only [Act.put,slA,slB,slC]
    refine Rob.y (v:=?_) rfl rfl (fun w1 hx hH=>?_) ?_;rotate_left
    ·(obtain ⟨q6,qf6⟩:=cellsK (keep_ext hx G6);have e1:=D1 _ hx;have ef:=DF _ hx);go_simp;first | done | rfl
    simp only [Act.put,slA,slB,slC]
    refine Rob.y (v:=?_) rfl rfl (fun w1 hx hH=>?_) ?_;rotate_left
    ·go_simp;first | done | rfl | exact (Bool.not_not _).symm
    simp only [Act.put,slA,slB,slC]
    refine fin_nil (fun w3 hx3 _=>?_)
    have X3:=ext_trans XB hx3
    clear c0 c1 d0 d1 cf hO D1 DF
    go_wp2_with fail
    go_roundw
    case rel=>exact ⟨k + 1,k,by omega,by omega,by go_num,rfl,X3,HST.out k (by rw [if_pos hq])⟩
    case measure=>simp [intOf];omega
   ·go_wp2_with fail
    refine wp_region_ext [] [0,1,2,3,4,5,6,7] [] [] (by kernel_rfl) (by kernel_rfl) ?late ?_
    case late=>exact fun f hf=>absurd hf List.not_mem_nil
    refine Rob.y (v:=?_) rfl rfl (fun w1 hx hH=>?_) ?_;rotate_left
    ·go_simp;first | done | rfl | exact (Bool.not_not _).symm
    simp only [Act.put,slA,slB,slC]
    refine Rob.y (v:=?_) rfl rfl (fun w1 hx hH=>?_) ?_;rotate_left
    ·(obtain ⟨q6,qf6⟩:=cellsK (keep_ext hx G6);have e1:=D1 _ hx;have ef:=DF _ hx);go_simp;first | done | rfl
    simp only [Act.put,slA,slB,slC]
    iterate 2
     refine Rob.y (v:=?_) rfl rfl (fun w1 hx hH=>?_) ?_;rotate_left
     ·go_simp;first | done | rfl | exact (Bool.not_not _).symm
     simp only [Act.put,slA,slB,slC]
    refine Rob.y (v:=?_) rfl rfl (fun w1 hx hH=>?_) ?_;rotate_left
    ·(obtain ⟨q6,qf6⟩:=cellsK (keep_ext hx G6);have e1:=D1 _ hx;have ef:=DF _ hx);go_simp;first | done | rfl
    simp only [Act.put,slA,slB,slC]
    refine Rob.y (v:=?_) rfl rfl (fun w1 hx hH=>?_) ?_;rotate_left
    ·go_simp;first | done | rfl | exact (Bool.not_not _).symm
    simp only [Act.put,slA,slB,slC]
    refine Rob.y (v:=?_) rfl rfl (fun w1 hx hH=>?_) ?_;rotate_left
    ·(obtain ⟨q6,qf6⟩:=cellsK (keep_ext hx G6);have e1:=D1 _ hx;have ef:=DF _ hx);go_simp;first | done | rfl
    simp only [Act.put,slA,slB,slC]
    refine Rob.y (v:=?_) rfl rfl (fun w1 hx hH=>?_) ?_;rotate_left
    ·go_simp;first | done | rfl | exact (Bool.not_not _).symm
    simp only [Act.put,slA,slB,slC]
    refine fin_nil (fun w3 hx3 _=>?_)
    have X3:=ext_trans XB hx3
    clear c0 c1 d0 d1 cf hO D1 DF
    go_wp2_with fail
    go_roundw
    case rel=>exact ⟨k + 1,m,by omega,by omega,by go_num,rfl,X3,HST.out m (by rw [if_neg (by omega)])⟩
    case measure=>simp [intOf];omega
  ·obtain rfl : k = 4:=by omega
   have hr:=HR.out
   rw [if_neg (by omega),List.drop_eq_nil_of_le (by omega),oldScan] at hr
   subst hr
   go_wp2_with fail
   go_ret
   exact ⟨rfl,ext_trans X2 hX⟩
end Go.Bu