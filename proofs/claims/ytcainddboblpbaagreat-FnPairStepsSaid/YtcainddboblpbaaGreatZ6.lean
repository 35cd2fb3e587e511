/- The program's copies: pagesCopy, flashCopy, storeCopy. The laws' copies of arguments into the program's types: toRec, toPage, .. The laws' copies of blocks, stores and pairs: in memory of their own. The reference's copies of blocks, stores, pairs, in memory of their own. A value put in both stores of a pair, as the reference does it in place: l23Put. A value put in a store, and one store made as another one, as the reference does it in place: l23Set, l23Same. The laws' marks of disks, stores and pairs. Both stores of a pair while they are changed (the program's twins); PairLose. PairLose of the program. PairMend and PairBack of the reference. -/import Derived.Test.YtcainddboblpbaaGreatZ4
import Derived.Test.YtcainddboblpbaaGreatZ5
import Derived.Deep.MidRow
import Derived.Laws.IdiomCopy
import Derived.Test.YtcainddboblpbaaGreatZ1
import Derived.Test.YtcainddboblpbaaGreatProg
import Derived.ProofKit
import Derived.KernelRfl
import Derived.Lib.Hide
import Derived.Laws.MakeOwn
set_option maxHeartbeats 2000000
set_option linter.unusedVariables false
set_option linter.unusedSimpArgs false
namespace Go.Bu
open Go Go.RowKit Go.Plan Go.Proofs
theorem flat_inv {α : Type} {n : Nat} {enc : α → List Value} (hn : ∀ x,(enc x).length = n) (h0 : 0 < n) : ∀ (xs : List α) (j : Nat) (v : Value),(xs.flatMap enc)[j]? = some v → ∃ x,xs[j / n]? = some x ∧ (enc x)[j % n]? = some v
 | [],j,v,h=>by simp at h
 | x :: xs,j,v,h=>by
  rw [List.flatMap_cons] at h
  by_cases hj : j < n
  ·rw [List.getElem?_append_left (by rw [hn];exact hj)] at h
   exact ⟨x,by rw [Nat.div_eq_of_lt hj];rfl,by rw [Nat.mod_eq_of_lt hj];exact h⟩
  ·rw [List.getElem?_append_right (by rw [hn];omega),hn] at h
   obtain ⟨y,h1,h2⟩:=flat_inv hn h0 xs (j - n) v h
   have e : j = (j - n) + n:=by omega
   have e1 : j / n = (j - n) / n + 1:=by rw [e,Nat.add_div_right _ h0,Nat.add_sub_cancel]
   have e2 : j % n = (j - n) % n:=by conv=>lhs;rw [e]
                                     exact Nat.add_mod_right _ _
   exact ⟨y,by rw [e1];exact h1,by rw [e2];exact h2⟩
theorem run_copy_n {P : Program} (w : World) (dT sT ty elem : TypeId) (b o dLen dCap : Nat) (a : Addr) (sLen sCap k : Nat) (cs : List Value)
  (hu : P.underlying dT = some (.slice elem)) (hs : (P.info? elem).map (·.size) = some k) (hn : cs.length = Nat.min sLen dLen * k)
  (hsrc : ∀ j v,cs[j]? = some v → w.cell? (a.add j) = some v) (hc : ∀ j,j < cs.length → (w.cell? ⟨b,o + j,none⟩).isSome = true) (hf : ∀ j,j < cs.length → w.frozen? ⟨b,o + j,none⟩ = false) (h1 : ∀ v ∈ cs,v.oneCell' = true) :
  (Builtin.copy_ #[dT,sT] ty #[.slice (some ⟨b,o,none⟩) dLen dCap,.slice (some a) sLen sCap]).run P w = .ok (goInt (Nat.min sLen dLen)) (w.setCells b o cs):=by
 have hl:=run_loadCells_list (P:=P) w a cs hsrc
 have hst:=run_storeCells_cells (P:=P) b o cs 0 w (by simpa using hc) (by simpa using hf) h1
 cases hq : P.info? elem with
 | none=>simp [hq] at hs
 | some i =>
  have hi : i.size = k:=by simpa [hq] using hs
  simp [Builtin.copy_,run_underlying hu,Builtin.lenOf,Builtin.firstCells,sizeOf,typeInfo,hq,hi,← hn,hl,hst]
def Stopped (p : Prop) : Prop:=p
theorem wpList_copyN {P : Program} {w : World} {ops : Array Oper} {rest : List Oper} {o : Oper} {a : Act} {Q : Exit → Act → World → Prop} (hgd : o.guard = none) (d s : Operand) (dT sT : TypeId)
  (ho : o.op = .call { callee:=.builtin .copy,args:=#[d,s],argTypes:=#[dT,sT] }) (elem : TypeId) (k : Nat) (hu : P.underlying dT = some (.slice elem)) (hsz : (P.info? elem).map (·.size) = some k)
  (b off dLen dCap : Nat) (ad : Addr) (sLen sCap : Nat) (hd : a.eval d = .slice (some ⟨b,off,none⟩) dLen dCap) (hs : a.eval s = .slice (some ad) sLen sCap) (cs : List Value) (hn : cs.length = Nat.min sLen dLen * k)
  (hsrc : ∀ j v,cs[j]? = some v → w.cell? (ad.add j) = some v) (hc : ∀ j,j < cs.length → (w.cell? ⟨b,off + j,none⟩).isSome = true) (hf : ∀ j,j < cs.length → w.frozen? ⟨b,off + j,none⟩ = false) (h1 : ∀ v ∈ cs,v.oneCell' = true)
  (hK : Stopped (wpList P ops Q rest (a.put o.dst (goInt (Nat.min sLen dLen))) (setAll w b off cs))) : wpList P ops Q (o :: rest) a w:=by
 refine wpList_plain hgd fun K' hK'=>?_
 have hrun:=run_copy_n (P:=P) w dT sT o.type elem b off dLen dCap ad sLen sCap k cs hu hsz hn hsrc hc hf h1
 unfold Oper.wp
 simp [execOp,ho,resolve,invoke,builtin,hd,hs,hrun,Result.andThen]
 exact hK' _ _ hK
theorem flat_len {α : Type} {n : Nat} {enc : α → List Value} (hn : ∀ x,(enc x).length = n) (xs : List α) : (xs.flatMap enc).length = xs.length * n:=by
 induction xs with
 | nil=>simp
 | cons x xs ih=>rw [List.flatMap_cons,List.length_append,ih,hn,List.length_cons,Nat.add_mul];omega
theorem Sl.flat {α : Type} {n : Nat} {enc : α → List Value} (hn : ∀ x,(enc x).length = n) (h0 : 0 < n) {D : Nat → Prop} {w : World} {b o len cap : Nat} {xs : List α} (h : Sl n (plain enc) D w (.slice (some ⟨b,o,none⟩) len cap) xs) :
  ∀ j v,(xs.flatMap enc)[j]? = some v → w.cell? (Addr.add ⟨b,o,none⟩ j) = some v:=by
 intro j v hj
 obtain ⟨x,h1,h2⟩:=flat_inv hn h0 xs j v hj
 obtain ⟨a',cap',hv,hx⟩:=h
 injection hv with e1 e2 e3
 obtain ⟨b',o',cs,ha,_,he,hc⟩:=hx _ _ h1
 subst e1
 injection ha with ha
 injection ha with hb ho
 subst hb;subst ho
 have he' : cs = enc x:=he
 subst he'
 have:=hc _ _ h2
 rw [show o + j / n * n + j % n = o + j by have:=Nat.div_add_mod j n;rw [Nat.mul_comm] at this;omega] at this
 unfold Addr.add
 split
 ·rename_i h0';subst h0';exact this
 ·exact this
theorem OwnV.filled {α : Type} {n : Nat} {enc : α → List Value} (hn : ∀ x,(enc x).length = n) {w : World} {B T : Nat} {c : Array Value} {xs : List α} (hB : w.heap[B]? = some (.cells c T (0,0))) (hc : c.size = xs.length * n) (cap : Nat) :
  OwnV n enc (setAll w B 0 (xs.flatMap enc)) (.slice (some ⟨B,0,none⟩) xs.length (xs.length + cap)) xs B:=by
 obtain ⟨c',h1,h2,h3⟩:=setAll_block (xs.flatMap enc) w 0 c hB (by rw [flat_len hn,hc];omega)
 refine ⟨T,0,cap,rfl,c',h1,fun i x hi j u hu=>?_⟩
 rw [h3,if_pos (Nat.zero_le _),Nat.sub_zero,Nat.zero_add]
 exact flat_get hn xs i x j u hi hu
theorem oneCell_page (ps : List Page) : ∀ v ∈ ps.flatMap pageC,v.oneCell' = true:=by
 intro v hv
 obtain ⟨p,_,hp⟩:=List.mem_flatMap.1 hv
 simp at hp
 rcases hp with rfl | rfl | rfl | rfl | rfl <;> rfl
set_option maxRecDepth 20000 in
theorem pagesCopy_c (pv : Value) (ps : List Page) (w : World) (h : Pages (Old w) w pv ps) (h4 : ps.length = 4) :
  Calls Tryz.prog 124 #[pv] w (fun e w'=>∃ B,e = .returned (.slice (some ⟨B,0,none⟩) 4 4) ∧ Ext w w' ∧ w.heap.size ≤ B ∧ OwnPages w' (.slice (some ⟨B,0,none⟩) 4 4) ps B):=by
 obtain ⟨a,cap,rfl⟩:=h.form
 obtain ⟨b,o,rfl,hb,-⟩:=h.at5 (k:=0) (by omega)
 have hfl:=Sl.flat (n:=5) (enc:=pageC) (fun _=>rfl) (by omega) h
 have hone:=oneCell_page ps
 have hlen : (ps.flatMap pageC).length = 20:=by rw [flat_len (n:=5) (fun _=>rfl),h4]
 have hfill:=fun (w : World) (B T : Nat) (c : Array Value) (hB : w.heap[B]? = some (.cells c T (0,0))) (hc : c.size = 20)=>OwnV.filled (n:=5) (enc:=pageC) (fun _=>rfl) (xs:=ps) hB (by rw [h4,hc]) 0
 rw [h4] at hfill
 rw [h4]
 have HF:=Lib.hid hfill
 generalize ps.flatMap pageC = cs at *
 have HFL:=Lib.hid hfl
 have HO:=Lib.hid hone
 clear hfl hone h hfill
 obtain ⟨c0,hc0⟩ : ∃ c0 : Array Value,#[.int .i64 0,.int .i64 0,.int .i64 0,.int .i64 0,.int .i64 0,.int .i64 0,.int .i64 0,.int .i64 0,.int .i64 0,.int .i64 0,.int .i64 0,.int .i64 0,.int .i64 0,.int .i64 0,.int .i64 0,.int .i64 0,.int .i64 0,.int .i64 0,.int .i64 0,.int .i64 0] = c0:=⟨_,rfl⟩
 have hs0 : c0.size = 20:=by rw [← hc0];rfl
 have hb' : b < w.heap.size:=hb
 go_enter Tryz.func124,Tryz.ntmps124
 go_wp2_with (refine wpList_copyN rfl _ _ 112 112 rfl 116 5 Tryz.underlying112 (by kernel_rfl) w.heap.size 0 4 4 ⟨b,o,none⟩ 4 cap rfl rfl cs (by rw [hlen];rfl) ?src ?cells ?frz HO.out ?_)
 case src =>
  intro j v hj
  have:=HFL.out j v hj
  have hadd : Addr.add ⟨b,o,none⟩ j = ⟨b,o + j,none⟩:=by unfold Addr.add;split <;> simp_all
  rw [hadd] at this ⊢
  unfold World.cell? at this ⊢
  rw [alloc_get_old hb'];exact this
 case cells=>intro j hj;rw [cell_block (alloc_get_new rfl),Nat.zero_add,Array.getElem?_eq_getElem (by omega)];rfl
 case frz=>intro j hj;exact frozen_block (alloc_get_new rfl) _
 unfold Stopped
 go_wp2_with fail
 have G0 : (w.alloc (.cells c0 158)).heap[w.heap.size]? = some (.cells c0 158 (0,0)):=hg_new rfl
 have hO:=HF.out _ _ _ _ G0 hs0
 have hX:=ext_setAll (ext_alloc (ext_refl w) (.cells c0 158)) (Nat.le_refl _) 0 cs
 refine bodyPost_ret (v:=.slice (some ⟨w.heap.size,0,none⟩) 4 4) (by simp [results,Tryz.results124,go_sem]) rfl ⟨w.heap.size,rfl,hX,Nat.le_refl _,hO⟩
def CopyΦ (w : World) (f : List Block) (e : Ending) (w' : World) : Prop:=∃ B bs cap,e = .returned (.slice (some ⟨B,0,none⟩) 4 cap) ∧ Ext w w' ∧ OwnFlash w' (.slice (some ⟨B,0,none⟩) 4 cap) f B bs ∧ (B :: bs).Nodup ∧ ∀ b ∈ B :: bs,w.heap.size ≤ b
set_option maxRecDepth 20000 in
set_option maxHeartbeats 2000000 in
theorem flashCopy_c (v : Value) (f : List Block) (w : World) (h : Flash (Old w) w v f) (h4 : f.length = 4) (hp : ∀ b ∈ f,b.pages.length = 4) :
  Calls Tryz.prog 88 #[v] w (CopyΦ w f):=by
 obtain ⟨a,cap,rfl⟩:=h.form
 rw [h4] at h ⊢
 have H4:=Lib.hid h4
 have HP:=Lib.hid hp
 clear h4 hp
 have hmk : ∀ w : World,(Instr.makeSlice 23 (.int .i64 4) (.int .i64 4)).run Tryz.prog w = .ok (.slice (some ⟨w.heap.size,0,none⟩) 4 4) (w.alloc (.cells #[.slice none 0 0,.int .i64 0,.slice none 0 0,.int .i64 0,.slice none 0 0,.int .i64 0,.slice none 0 0,.int .i64 0] 114)):=fun w=>by kernel_rfl
 have h0 : Filled 2 rowC (w.alloc (.cells #[.slice none 0 0,.int .i64 0,.slice none 0 0,.int .i64 0,.slice none 0 0,.int .i64 0,.slice none 0 0,.int .i64 0] 114)) w.heap.size 114 8 ([] : List (Value × Int)):=⟨_,alloc_get_new rfl,rfl,fun i x hx=>by simp at hx⟩
 have H0:=Lib.hid h0
 clear h0
 go_enter Tryz.func88,Tryz.ntmps88
 go_wp2_with fail
 clear hmk
 go_loopw [11] (fun i wr=>∃ (k : Nat) (rows : List (Value × Int)) (bs : List Nat),k ≤ 4 ∧ i = .int .i64 k ∧ Ext w wr ∧ Filled 2 rowC wr w.heap.size 114 8 rows ∧ rows.length = k ∧ bs.length = k ∧ bs.Nodup ∧ Hid (∀ b ∈ bs,w.heap.size < b) ∧ Hid (PagesAt wr rows (f.take k) bs)) (fun i _=>4 - (intOf i).toNat)
 case atStart=>exact ⟨0,[],[],Nat.zero_le _,rfl,ext_alloc (ext_refl _) _,H0.out,rfl,rfl,List.nodup_nil,Lib.hid (fun b hb=>by cases hb),Lib.hid (fun i x r b h=>by simp at h)⟩
 case round =>
  clear H0
  obtain ⟨k,rows,bs,hk,rfl,hX,hfl,hrl,hbl,hnd,HB,HPA⟩:=hrel
  by_cases hlt : k < 4
  ·have hkf : k < f.length:=by have:=H4.out;omega
   obtain ⟨b,o,pv,rfl,hb,hpp,e0,e1⟩:=h.at2 hkf
   have hb' : b < w.heap.size:=hb
   obtain ⟨hc,hf⟩:=bcell hX
   obtain ⟨pa,pcap,rfl⟩:=hpp.form
   have hp4:=HP.out f[k] (List.getElem_mem _)
   rw [hp4] at e0 hpp
   have HPC:=fun (w' : World) (hx : Ext wr w')=>pagesCopy_c (.slice pa 4 pcap) f[k].pages w' (hpp.ext (ext_trans hX hx)) hp4
   clear hp4
   have lB : w.heap.size < wr.heap.size:=by obtain ⟨c,hc,_⟩:=hfl;exact heap_lt hc
   go_wp2_with fail
   have G5 : (wr.alloc (.cells #[.slice pa 4 pcap,.int .i64 f[k].worn] 114)).heap[wr.heap.size]? = some (.cells #[.slice pa 4 pcap,.int .i64 f[k].worn] 114 (0,0)):=hg_new rfl
   have XA : Ext wr (wr.alloc (.cells #[.slice pa 4 pcap,.int .i64 f[k].worn] 114)):=ext_alloc (ext_refl _) _
   clear hc hf e0 e1
   refine wp_region_ext [4] [0,1,2,3,5,6,4,7,8] [] [9] (by kernel_rfl) (by kernel_rfl) ?late ?_
   case late=>exact fun f hf=>absurd hf List.not_mem_nil
   iterate 3
    refine Rob.y (v:=?_) rfl rfl (fun w1 hx hH=>?_) ?_;rotate_left
    ·go_simp;first | done | rfl | exact (Bool.not_not _).symm
    simp only [Act.put,slA,slB,slC]
   refine Rob.y (v:=?_) rfl rfl (fun w1 hx hH=>?_) ?_;rotate_left
   ·(have hE : Ext _ w1:=(by first | exact hx | exact hx.1);obtain ⟨g5,gf5⟩:=cellsK (keep_ext hE G5));go_simp;first | done | rfl
   simp only [Act.put,slA,slB,slC]
   refine Rob.y (v:=?_) rfl rfl (fun w1 hx hH=>?_) ?_;rotate_left
   ·go_simp;first | done | rfl | exact (Bool.not_not _).symm
   simp only [Act.put,slA,slB,slC]
   refine Rob.y (v:=?_) rfl rfl (fun w1 hx hH=>?_) ?_;rotate_left
   ·(have hE : Ext _ w1:=(by first | exact hx | exact hx.1);obtain ⟨g5,gf5⟩:=cellsK (keep_ext hE G5));go_simp;first | done | rfl
   simp only [Act.put,slA,slB,slC]
   refine Rob.c (fun lo hi v w'=>∃ B,v = .slice (some ⟨B,0,none⟩) 4 4 ∧ lo ≤ B ∧ B < hi ∧ OwnPages w' (.slice (some ⟨B,0,none⟩) 4 4) f[k].pages B) rfl rfl rfl (fun _ _=>ext_trans) (fun lo hi v w w' ⟨B,e,h1,h2,h3⟩ hx=>⟨B,e,h1,h2,h3.ext hx⟩) (fun w1 hx hH=>?_) (fun lo4 hi4 v4 hlo4 hhi4 hv4=>?_)
   ·unfold RunTo;go_simp;exact (HPC _ (ext_trans XA hx)).mono fun e w' ⟨B,he,hx',hB,hO⟩=>⟨_,he,hx',B,rfl,hB,hO.lt,hO⟩
   simp only [Act.put,slA,slB,slC]
   obtain ⟨_,b1,rfl,hb1,hb2,_⟩:=hv4
   refine Rob.y (v:=?_) rfl rfl (fun w1 hx hH=>?_) ?_;rotate_left
   ·go_simp;first | done | rfl | exact (Bool.not_not _).symm
   simp only [Act.put,slA,slB,slC]
   refine Rob.y (v:=?_) rfl rfl (fun w1 hx hH=>?_) ?_;rotate_left
   ·(have hE : Ext _ w1:=(by first | exact hx | exact hx.1);obtain ⟨g5,gf5⟩:=cellsK (keep_ext hE G5));go_simp;first | done | rfl
   simp only [Act.put,slA,slB,slC]
   refine fin_tail (fun w3 hx3 _=>?_)
   simp only [dstOf,List.getElem?_cons_succ,List.getElem?_cons_zero,Option.bind_some,Act.put,slA,slB,slC,List.filterMap_cons,List.filterMap_nil]
   obtain ⟨hx3,B',hB',-,-,hO1⟩:=hx3
   injection hB' with hB'
   injection hB' with hB'
   injection hB' with hB'
   subst hB'
   have X3:=ext_trans XA hx3
   have hfl1:=hfl.ext X3
   simp only [World.alloc,Array.size_push] at hlo4
   have hth:=hfl1.there (o:=k * 2) (m:=2) (by omega)
   have hF:=Filled.snoc (n:=2) (enc:=rowC) (fun _=>rfl) (.slice (some ⟨b1,0,none⟩) 4 4,f[k].worn) hfl1 (by rw [hrl];omega)
   rw [hrl] at hF
   have hXn:=ext_setAll (ext_trans hX X3) (Nat.le_refl _) (k * 2) (rowC (.slice (some ⟨b1,0,none⟩) 4 4,f[k].worn))
   have HF:=Lib.hid hF;have HXN:=Lib.hid hXn
   have HPN : Hid (PagesAt (setAll w3 w.heap.size (k * 2) (rowC (.slice (some ⟨b1,0,none⟩) 4 4,f[k].worn))) (rows ++ [(.slice (some ⟨b1,0,none⟩) 4 4,f[k].worn)]) (f.take (k + 1)) (bs ++ [b1])):=Lib.hid (by
    intro i x r b2 hx hr hbi
    rw [← take_snoc f k hkf] at hx
    by_cases hik : i < k
    ·rw [List.getElem?_append_left (by simp;omega)] at hx
     rw [List.getElem?_append_left (by omega)] at hr hbi
     obtain ⟨q1,q2⟩:=HPA.out i x r b2 hx hr hbi
     have:=HB.out b2 (List.mem_of_getElem? hbi)
     exact ⟨q1,(q2.ext X3).keep (setAll_other _ (by omega) _ _ _)⟩
    ·have hi : i = k:=by
      have:=(List.getElem?_eq_some_iff.1 hbi).1
      simp at this;omega
     subst hi
     rw [List.getElem?_append_right (by simp;omega)] at hx
     rw [List.getElem?_append_right (by omega)] at hr hbi
     simp [hbl] at hbi
     simp [hrl] at hr
     simp [show min i f.length = i by omega] at hx
     subst hbi;subst hr;subst hx
     exact ⟨rfl,hO1.keep (setAll_other _ (by omega) _ _ _)⟩)
   have HB2 : Hid (∀ b ∈ bs ++ [b1],w.heap.size < b):=Lib.hid (fun b hb=>by
    rcases List.mem_append.1 hb with hb | hb
    ·exact HB.out b hb
    ·rw [List.mem_singleton] at hb;omega)
   have hnd2 : (bs ++ [b1]).Nodup:=by
    rw [List.nodup_append]
    refine ⟨hnd,by simp,fun a ha b hb=>?_⟩
    rw [List.mem_singleton] at hb
    subst hb
    obtain ⟨i,hi,rfl⟩:=List.mem_iff_getElem.1 ha
    have:=(HPA.out i f[i] rows[i] bs[i] (by rw [List.getElem?_take_of_lt (by omega)];exact List.getElem?_eq_getElem (by omega)) (List.getElem?_eq_getElem (by omega)) (List.getElem?_eq_getElem hi)).2.lt
    omega
   clear hF hXn hfl1 hfl HPA HB hO1 hpp hnd HPC G5 XA
   refine wpList_store_mid rfl 114 _ _ rfl w.heap.size (k * 2) (rowC (.slice (some ⟨b1,0,none⟩) 4 4,f[k].worn)).toArray rfl rfl hth (by kernel_rfl) (by simp [Value.oneCell']) ?_
   change wpList _ _ _ _ _ (setAll w3 w.heap.size (k * 2) (rowC (.slice (some ⟨b1,0,none⟩) 4 4,f[k].worn)))
   generalize setAll w3 w.heap.size (k * 2) (rowC (.slice (some ⟨b1,0,none⟩) 4 4,f[k].worn)) = w4 at *
   refine wpList_nil ?_
   go_wp2_with fail
   go_roundw
   case rel=>exact ⟨k + 1,_,_,by omega,by go_num,HXN.out,HF.out,by simp [hrl],by simp [hbl],hnd2,HB2,HPN⟩
   case measure=>simp [intOf];omega
  ·obtain rfl : k = 4:=by omega
   go_wp2_with fail
   obtain ⟨c,g1,g2,g3⟩:=hfl
   refine bodyPost_ret (v:=.slice (some ⟨w.heap.size,0,none⟩) 4 4) (by simp [results,Tryz.results88,go_sem]) rfl ⟨w.heap.size,bs,4,rfl,hX,⟨rows,⟨114,0,0,by rw [hrl,Nat.add_zero],c,g1,g3⟩,by rw [hrl,H4.out],by rw [hbl,H4.out],?_⟩,List.nodup_cons.2 ⟨fun hm=>by have:=HB.out _ hm;omega,hnd⟩,fun b hb=>?_⟩
   ·have:=HPA.out;rw [List.take_of_length_le (by rw [H4.out];omega)] at this;exact this
   ·rcases List.mem_cons.1 hb with rfl | hb
    ·exact Nat.le_refl _
    ·exact Nat.le_of_lt (HB.out b hb)
def StoreCp (w : World) (s : Store) (e : Ending) (w' : World) : Prop:=∃ f' d' L,e = .returned (.agg #[f',d']) ∧ Ext w w' ∧ OwnStore w' f' d' s L ∧ L.Nodup ∧ ∀ b ∈ L,w.heap.size ≤ b
theorem oneCell_int (xs : List Int) : ∀ v ∈ xs.flatMap intC,v.oneCell' = true:=by
 intro v hv
 obtain ⟨p,_,hp⟩:=List.mem_flatMap.1 hv
 simp at hp
 subst hp;rfl
set_option maxRecDepth 20000 in
set_option maxHeartbeats 1000000 in
theorem storeCopy_c (fv dv : Value) (s : Store) (w : World) (h : StoreV w fv dv s) (h4 : s.flash.length = 4) (hp : ∀ b ∈ s.flash,b.pages.length = 4) (h6 : s.disk.length = 6) :
  Calls Tryz.prog 49 #[.agg #[fv,dv]] w (StoreCp w s):=by
 have hFC:=fun (w' : World) (hx : Ext w w')=>flashCopy_c fv s.flash w' (h.1.ext hx) h4 hp
 have hD:=h.2
 obtain ⟨fa,fcap,hfv⟩:=h.1.form
 obtain ⟨da,dcap,rfl⟩:=h.2.form
 obtain ⟨b,o,rfl,hb,-⟩:=hD.at1 (k:=0) (by omega)
 have hfl:=Sl.flat (n:=1) (enc:=intC) (fun _=>rfl) (by omega) hD
 have hone:=oneCell_int s.disk
 have hlen : (s.disk.flatMap intC).length = 6:=by rw [flat_len (n:=1) (fun _=>rfl),h6]
 have hfill:=fun (w : World) (B T : Nat) (c : Array Value) (hB : w.heap[B]? = some (.cells c T (0,0))) (hc : c.size = 6)=>OwnV.filled (n:=1) (enc:=intC) (fun _=>rfl) (xs:=s.disk) hB (by rw [h6,hc]) 0
 rw [h6] at hfill ⊢
 have HF:=Lib.hid hfill
 generalize s.disk.flatMap intC = cs at *
 have HFL:=Lib.hid hfl
 have HO:=Lib.hid hone
 rw [h4] at hfv
 subst hfv
 clear hfl hone hD hfill h4
 have hmk : ∀ w : World,(Instr.makeSlice 24 (.int .i64 6) (.int .i64 6)).run Tryz.prog w = .ok (.slice (some ⟨w.heap.size,0,none⟩) 6 6) (w.alloc (.cells #[.int .i64 0,.int .i64 0,.int .i64 0,.int .i64 0,.int .i64 0,.int .i64 0] 3)):=fun w=>by kernel_rfl
 have hb' : b < w.heap.size:=hb
 go_enter Tryz.func49,Tryz.ntmps49
 go_wp2_with (refine wpList_copyN rfl _ _ 24 24 rfl 3 1 Tryz.underlying24 (by kernel_rfl) (w.heap.size + 1 + 1) 0 6 6 ⟨b,o,none⟩ 6 dcap rfl rfl cs (by rw [hlen];rfl) ?src ?cells ?frz HO.out ?_)
 case src =>
  intro j v hj
  have:=HFL.out j v hj
  have hadd : Addr.add ⟨b,o,none⟩ j = ⟨b,o + j,none⟩:=by unfold Addr.add;split <;> simp_all
  rw [hadd] at this ⊢
  exact cell_ext (ext_alloc (ext_alloc (ext_alloc (ext_refl w) _) _) _) this
 case cells=>intro j hj;rw [cell_block (alloc_get_new (by simp)),Nat.zero_add,Array.getElem?_eq_getElem (by simp;omega)];rfl
 case frz=>intro j hj;exact frozen_block (alloc_get_new (by simp)) _
 unfold Stopped
 have G2 : (((w.alloc (.cells #[.slice fa 4 fcap,.slice (some ⟨b,o,none⟩) 6 dcap] 26)).alloc (.cells #[.slice none 0 0,.slice none 0 0] 26)).alloc (.cells #[.int .i64 0,.int .i64 0,.int .i64 0,.int .i64 0,.int .i64 0,.int .i64 0] 3)).heap[w.heap.size + 1 + 1]? = some (.cells #[.int .i64 0,.int .i64 0,.int .i64 0,.int .i64 0,.int .i64 0,.int .i64 0] 3 (0,0)):=hg_new (by simp)
 have G1 : (((w.alloc (.cells #[.slice fa 4 fcap,.slice (some ⟨b,o,none⟩) 6 dcap] 26)).alloc (.cells #[.slice none 0 0,.slice none 0 0] 26)).alloc (.cells #[.int .i64 0,.int .i64 0,.int .i64 0,.int .i64 0,.int .i64 0,.int .i64 0] 3)).heap[w.heap.size + 1]? = some (.cells #[.slice none 0 0,.slice none 0 0] 26 (0,0)):=hg_alloc (hg_new (by simp))
 have G0 : (((w.alloc (.cells #[.slice fa 4 fcap,.slice (some ⟨b,o,none⟩) 6 dcap] 26)).alloc (.cells #[.slice none 0 0,.slice none 0 0] 26)).alloc (.cells #[.int .i64 0,.int .i64 0,.int .i64 0,.int .i64 0,.int .i64 0,.int .i64 0] 3)).heap[w.heap.size]? = some (.cells #[.slice fa 4 fcap,.slice (some ⟨b,o,none⟩) 6 dcap] 26 (0,0)):=hg_alloc (hg_alloc (hg_new rfl))
 have XW : Ext w (((w.alloc (.cells #[.slice fa 4 fcap,.slice (some ⟨b,o,none⟩) 6 dcap] 26)).alloc (.cells #[.slice none 0 0,.slice none 0 0] 26)).alloc (.cells #[.int .i64 0,.int .i64 0,.int .i64 0,.int .i64 0,.int .i64 0,.int .i64 0] 3)):=ext_alloc (ext_alloc (ext_alloc (ext_refl w) _) _) _
 have hsz : (((w.alloc (.cells #[.slice fa 4 fcap,.slice (some ⟨b,o,none⟩) 6 dcap] 26)).alloc (.cells #[.slice none 0 0,.slice none 0 0] 26)).alloc (.cells #[.int .i64 0,.int .i64 0,.int .i64 0,.int .i64 0,.int .i64 0,.int .i64 0] 3)).heap.size = w.heap.size + 3:=by simp
 obtain ⟨W0,hW0⟩ : ∃ W0,((w.alloc (.cells #[.slice fa 4 fcap,.slice (some ⟨b,o,none⟩) 6 dcap] 26)).alloc (.cells #[.slice none 0 0,.slice none 0 0] 26)).alloc (.cells #[.int .i64 0,.int .i64 0,.int .i64 0,.int .i64 0,.int .i64 0,.int .i64 0] 3) = W0:=⟨_,rfl⟩
 rw [hW0] at G0 G1 G2 XW hsz ⊢
 clear hW0
 have hO:=HF.out _ _ _ _ G2 rfl
 have X1:=ext_setAll XW (B:=w.heap.size + 1 + 1) (by omega) 0 cs
 have G0':=(setAll_other (w.heap.size + 1 + 1) (b:=w.heap.size) (by omega) cs W0 0).trans G0
 have G1':=(setAll_other (w.heap.size + 1 + 1) (b:=w.heap.size + 1) (by omega) cs W0 0).trans G1
 have hz1 : (setAll W0 (w.heap.size + 1 + 1) 0 cs).heap.size = w.heap.size + 3:=by rw [setAll_size,hsz]
 obtain ⟨W1,hW1⟩ : ∃ W1,setAll W0 (w.heap.size + 1 + 1) 0 cs = W1:=⟨_,rfl⟩
 rw [hW1] at hO X1 G0' G1' hz1 ⊢
 clear hW1
 have HO1:=Lib.hid hO
 have HZ1:=Lib.hid hz1
 clear G0 G1 G2 hO HF HFL HO XW hsz hz1
 obtain ⟨g0,gf0⟩:=cellsK G0'
 have l0:=heap_lt G0'
 go_wp2_with fail
 refine (hFC _ X1).mono ?_;rintro e2 w2 ⟨B,bs,c2,rfl,hx2,hO2,hn2,hb2⟩
 have X2:=ext_trans X1 hx2
 have HO2:=Lib.hid hO2
 have HN2:=Lib.hid hn2
 have HB2:=Lib.hid hb2
 replace G1':=keep_ext hx2 G1'
 have hO1:=HO1.out.ext hx2
 have HO1':=Lib.hid hO1
 clear hFC hO2 hn2 hb2 g0 gf0 l0 G0' hx2 hO1 HO1
 obtain ⟨g1,gf1⟩:=cellsK G1'
 have l1:=heap_lt G1'
 go_wp2_with fail
 refine bodyPost_ret (v:=.agg #[.slice (some ⟨B,0,none⟩) 4 c2,.slice (some ⟨w.heap.size + 1 + 1,0,none⟩) 6 6]) (by simp [results,Tryz.results49,go_sem,g1,gf1]) rfl ⟨_,_,B :: bs ++ [w.heap.size + 1 + 1],rfl,?_,⟨B,bs,w.heap.size + 1 + 1,rfl,?_,?_⟩,?_,?_⟩
 ·((repeat (first | with_reducible (refine ext_set2 ?_ ?_);focus (first | exact Nat.le_refl _ | (dsimp only;omega) | (simp;omega)) | with_reducible refine ext_alloc2 ?_));with_reducible exact X2)
 ·refine HO2.out.keep fun b hb=>?_
  have:=HB2.out b hb;have:=HZ1.out
  rw [setCell_other (by omega),setCell_other (by omega)]
 ·exact HO1'.out.keep (by rw [setCell_other (by omega),setCell_other (by omega)])
 ·rw [List.nodup_append]
  refine ⟨HN2.out,by simp,fun x hx y hy e=>?_⟩
  rw [List.mem_singleton] at hy
  have:=HB2.out x hx;have:=HZ1.out;omega
 ·intro b hb
  rcases List.mem_append.1 hb with hb | hb
  ·have:=HB2.out b hb;have:=HZ1.out;omega
  ·rw [List.mem_singleton] at hb;omega
end Go.Bu
namespace Go.Bu
open Go Go.RowKit Go.Plan Go.Proofs
theorem toRec_c (r : Rec) (w : World) : Calls Tryz.prog 153 #[recA r] w (Ret w (recA r)):=by
 go_enter Tryz.func153,Tryz.ntmps153
 go_wp2
 refine bodyPost_ret (v:=recA r) (by simp [results,Tryz.results153,go_sem]) rfl ⟨rfl,?_⟩
 exact ext_alloc (ext_alloc (ext_alloc (ext_refl _) _) _) _
theorem toPage_c (p : Page) (w : World) : Calls Tryz.prog 149 #[pageA p] w (Ret w (pageA p)):=by
 go_enter Tryz.func149,Tryz.ntmps149
 go_wp2_with fail
 refine (toRec_c p.r _).mono ?_;rintro e1 w1 ⟨rfl,hx⟩
 obtain ⟨hc,hf,hz0,hz1,hz2,hX⟩:=after3 hx
 go_wp2
 refine bodyPost_ret (v:=pageA p) (by simp [results,Tryz.results149,go_sem,hc,hf,hz0,hz1,hz2]) rfl ⟨rfl,?_⟩
 ((repeat (first | with_reducible (refine ext_set2 ?_ ?_);focus (first | exact Nat.le_refl _ | (dsimp only;omega) | (simp;omega)) | with_reducible refine ext_alloc2 ?_));with_reducible exact hX)
end Go.Bu
namespace Go.Bu
open Go Go.RowKit Go.Plan Go.Proofs
theorem Filled.ownV {α : Type} {n : Nat} {enc : α → List Value} {w : World} {B T size : Nat} {xs : List α} (h : Filled n enc w B T size xs) : OwnV n enc w (.slice (some ⟨B,0,none⟩) xs.length xs.length) xs B:=by
 obtain ⟨c,h1,h2,h3⟩:=h
 exact ⟨T,0,0,rfl,c,h1,h3⟩
theorem OwnV.slf {α : Type} {n : Nat} {enc : α → List Value} {w : World} {v : Value} {xs : List α} {B : Nat} (h : OwnV n enc w v xs B) : ∃ o cap,v = .slice (some ⟨B,o,none⟩) xs.length cap:=by
 obtain ⟨T,o,cap,hv,_⟩:=h;exact ⟨o,_,hv⟩
theorem toPageS_c (v : Value) (xs : List Page) (w : World) (hp : Pages (Old w) w v xs) (hn : xs.length ≤ 1048576) :
  Calls Tryz.prog 144 #[v] w (fun e w'=>∃ v' B,e = .returned v' ∧ Ext w w' ∧ w.heap.size ≤ B ∧ OwnPages w' v' xs B):=by
 obtain ⟨a,cap,rfl⟩:=hp.form
 have hmk:=make_n (P:=Tryz.prog) 112 116 (pageC ⟨0,⟨0,0,0,0⟩⟩).toArray 5 40 Tryz.underlying112 (by kernel_rfl) xs.length (by omega) (by omega)
 go_enter Tryz.func144,Tryz.ntmps144
 go_wp2
 go_loopw [4] (fun i wr=>∃ k : Nat,k ≤ xs.length ∧ i = .int .i64 k ∧ Ext w wr ∧ Filled 5 pageC wr w.heap.size 116 (xs.length * 5) (xs.take k)) (fun i _=>xs.length - (intOf i).toNat)
 case atStart=>exact ⟨0,Nat.zero_le _,rfl,ext_alloc (ext_refl _) _,Filled.made _ _ _ _⟩
 case round =>
  obtain ⟨k,hk,rfl,hx,hfl⟩:=hrel
  by_cases hlt : k < xs.length
  ·obtain ⟨b,o,rfl,hb,h0,h1,h2,h3,h4⟩:=(hp.ext hx).at5 hlt
   go_wp2_with fail
   refine (toPage_c xs[k] _).mono ?_;rintro e1 w1 ⟨rfl,hx1⟩
   have hfl1:=hfl.ext hx1
   have hl : (xs.take k).length = k:=by simp;omega
   have hth:=hfl1.there (o:=k * 5) (m:=5) (by omega)
   have hF:=Filled.snoc (n:=5) (enc:=pageC) (fun _=>rfl) xs[k] hfl1 (by rw [hl];omega)
   rw [hl,take_snoc xs k hlt] at hF
   have hX:=ext_setAll (ext_trans hx hx1) (Nat.le_refl _) (k * 5) (pageC xs[k])
   have HF:=Lib.hid hF;have HX:=Lib.hid hX
   clear hF hX hfl1 hfl h0 h1 h2 h3 h4
   go_wp2_with (refine wpList_store_mid rfl 116 _ _ rfl w.heap.size (k * 5) (pageC xs[k]).toArray rfl rfl hth (by kernel_rfl) (by simp [Value.oneCell']) ?_;change wpList _ _ _ _ _ (setAll w1 w.heap.size (k * 5) (pageC xs[k]));generalize setAll w1 w.heap.size (k * 5) (pageC xs[k]) = w2 at *)
   go_roundw
   case rel=>exact ⟨k + 1,by omega,by go_num,HX.out,HF.out⟩
   case measure=>simp [intOf];omega
  ·obtain rfl : k = xs.length:=by omega
   go_wp2
   refine bodyPost_ret (v:=.slice (some ⟨w.heap.size,0,none⟩) xs.length xs.length) (by simp [results,Tryz.results144,go_sem]) rfl ⟨_,_,rfl,hx,Nat.le_refl _,?_⟩
   rw [List.take_length] at hfl
   exact hfl.ownV
theorem toIntS_c (v : Value) (xs : List Int) (w : World) (hp : Ints (Old w) w v xs) (hn : xs.length ≤ 1048576) :
  Calls Tryz.prog 96 #[v] w (fun e w'=>∃ v' B,e = .returned v' ∧ Ext w w' ∧ w.heap.size ≤ B ∧ OwnInts w' v' xs B):=by
 obtain ⟨a,cap,rfl⟩:=hp.form
 have hmk:=make_n (P:=Tryz.prog) 24 3 #[.int .i64 0] 1 8 Tryz.underlying24 (by kernel_rfl) xs.length (by omega) (by omega)
 go_enter Tryz.func96,Tryz.ntmps96
 go_wp2
 go_loopw [4] (fun i wr=>∃ k : Nat,k ≤ xs.length ∧ i = .int .i64 k ∧ Ext w wr ∧ Filled 1 intC wr w.heap.size 3 xs.length (xs.take k)) (fun i _=>xs.length - (intOf i).toNat)
 case atStart=>exact ⟨0,Nat.zero_le _,rfl,ext_alloc (ext_refl _) _,Filled.made _ _ _ _⟩
 case round =>
  obtain ⟨k,hk,rfl,hx,hfl⟩:=hrel
  by_cases hlt : k < xs.length
  ·obtain ⟨b,o,rfl,hb,h0⟩:=(hp.ext hx).at1 hlt
   have hl : (xs.take k).length = k:=by simp;omega
   have hth:=hfl.there (o:=k) (m:=1) (by omega)
   obtain ⟨hs1,hs2⟩:=hth 0 (by omega)
   obtain ⟨u,hu⟩:=Option.isSome_iff_exists.1 hs1
   simp only [Nat.add_zero] at hu hs2
   have hF:=Filled.snoc (n:=1) (enc:=fun n : Int=>[.int .i64 n]) (fun _=>rfl) xs[k] hfl (by rw [hl];omega)
   rw [hl,take_snoc xs k hlt] at hF
   have hX:=ext_setAll hx (Nat.le_refl _) (k * 1) [.int .i64 xs[k]]
   simp only [Nat.mul_one] at hX hF
   have HF:=Lib.hid hF;have HX:=Lib.hid hX
   clear hF hX hfl hth hs1
   go_wp2
   go_roundw
   case rel=>exact ⟨k + 1,by omega,by go_num,HX.out,by exact HF.out⟩
   case measure=>simp [intOf];omega
  ·obtain rfl : k = xs.length:=by omega
   go_wp2
   refine bodyPost_ret (v:=.slice (some ⟨w.heap.size,0,none⟩) xs.length xs.length) (by simp [results,Tryz.results96,go_sem]) rfl ⟨_,_,rfl,hx,Nat.le_refl _,?_⟩
   rw [List.take_length] at hfl
   exact hfl.ownV
theorem toBlock_c (pv : Value) (x : Block) (w : World) (hp : Pages (Old w) w pv x.pages) (hn : x.pages.length ≤ 1048576) :
  Calls Tryz.prog 128 #[.agg #[pv,.int .i64 x.worn]] w (fun e w'=>∃ pv' b,e = .returned (.agg #[pv',.int .i64 x.worn]) ∧ Ext w w' ∧ w.heap.size ≤ b ∧ OwnPages w' pv' x.pages b):=by
 have hc1:=fun (w' : World) (hx : Ext w w')=>toPageS_c pv x.pages w' (hp.ext hx) hn
 obtain ⟨a,cap,rfl⟩:=hp.form
 go_enter Tryz.func128,Tryz.ntmps128
 go_wp2_with fail
 refine (hc1 _ (ext_alloc (ext_alloc (ext_alloc (ext_refl _) _) _) _)).mono ?_;rintro e1 w1 ⟨v1,B,rfl,hx,hB,hO⟩
 obtain ⟨o,c,rfl⟩:=hO.slf
 simp at hB
 obtain ⟨hc,hf,hz0,hz1,hz2,hX⟩:=after3 hx
 have HO:=Lib.hid hO
 clear hO hc1
 go_wp2
 refine bodyPost_ret (v:=.agg #[.slice (some ⟨B,o,none⟩) x.pages.length c,.int .i64 x.worn]) (by simp [results,Tryz.results128,go_sem,hc,hf,hz0,hz1,hz2]) rfl ⟨_,B,rfl,?_,by omega,?_⟩
 ·((repeat (first | with_reducible (refine ext_set2 ?_ ?_);focus (first | exact Nat.le_refl _ | (dsimp only;omega) | (simp;omega)) | with_reducible refine ext_alloc2 ?_));with_reducible exact hX)
 ·exact HO.out.keep (by rw [setCell_other (by omega),setCell_other (by omega),setCell_other (by omega),setCell_other (by omega)])
set_option maxRecDepth 20000 in
set_option maxHeartbeats 1000000 in
theorem toBlockS_c (v : Value) (f : List Block) (w : World) (h : Flash (Old w) w v f) (hn : f.length ≤ 1048576) (hp : ∀ b ∈ f,b.pages.length ≤ 1048576) :
  Calls Tryz.prog 95 #[v] w (fun e w'=>∃ v' B bs,e = .returned v' ∧ Ext w w' ∧ OwnFlash w' v' f B bs ∧ (B :: bs).Nodup ∧ ∀ b ∈ B :: bs,w.heap.size ≤ b):=by
 obtain ⟨a,cap,rfl⟩:=h.form
 have HP:=Lib.hid hp
 clear hp
 have hmk:=make_n (P:=Tryz.prog) 23 114 (rowC (.slice none 0 0,0)).toArray 2 32 Tryz.underlying23 (by kernel_rfl) f.length (by omega) (by omega)
 go_enter Tryz.func95,Tryz.ntmps95
 go_wp2
 go_loopw [4] (fun i wr=>∃ (k : Nat) (rows : List (Value × Int)) (bs : List Nat),k ≤ f.length ∧ i = .int .i64 k ∧ Ext w wr ∧ Filled 2 rowC wr w.heap.size 114 (f.length * 2) rows ∧ rows.length = k ∧ bs.length = k ∧ bs.Nodup ∧ Hid (∀ b ∈ bs,w.heap.size < b) ∧ Hid (PagesAt wr rows (f.take k) bs)) (fun i _=>f.length - (intOf i).toNat)
 case atStart=>exact ⟨0,[],[],Nat.zero_le _,rfl,ext_alloc (ext_refl _) _,Filled.made _ _ _ _,rfl,rfl,List.nodup_nil,Lib.hid (fun b hb=>by cases hb),Lib.hid (fun i x r b h=>by simp at h)⟩
 case round =>
  obtain ⟨k,rows,bs,hk,rfl,hX,hfl,hrl,hbl,hnd,HB,HPA⟩:=hrel
  by_cases hlt : k < f.length
  ·obtain ⟨b,o,pv,rfl,hb,hpp,h0,h1⟩:=(h.ext hX).at2 hlt
   obtain ⟨pa,pcap,rfl⟩:=hpp.form
   have hpl:=HP.out f[k] (List.getElem_mem _)
   go_wp2_with fail
   refine (toBlock_c _ f[k] _ hpp hpl).mono ?_;rintro e1 w1 ⟨pv',b1,rfl,hx1,hb1,hO1⟩
   obtain ⟨o1,c1,rfl⟩:=hO1.slf
   have hfl1:=hfl.ext hx1
   have hth:=hfl1.there (o:=k * 2) (m:=2) (by omega)
   have hF:=Filled.snoc (n:=2) (enc:=rowC) (fun _=>rfl) (.slice (some ⟨b1,o1,none⟩) f[k].pages.length c1,f[k].worn) hfl1 (by rw [hrl];omega)
   rw [hrl] at hF
   have hlB : w.heap.size < wr.heap.size:=by obtain ⟨c,hc,_⟩:=hfl;exact heap_lt hc
   have hXn:=ext_setAll (ext_trans hX hx1) (Nat.le_refl _) (k * 2) (rowC (.slice (some ⟨b1,o1,none⟩) f[k].pages.length c1,f[k].worn))
   have HF:=Lib.hid hF;have HXN:=Lib.hid hXn
   have HPN : Hid (PagesAt (setAll w1 w.heap.size (k * 2) (rowC (.slice (some ⟨b1,o1,none⟩) f[k].pages.length c1,f[k].worn))) (rows ++ [(.slice (some ⟨b1,o1,none⟩) f[k].pages.length c1,f[k].worn)]) (f.take (k + 1)) (bs ++ [b1])):=Lib.hid (by
    intro i x r b2 hx hr hbi
    rw [← take_snoc f k hlt] at hx
    by_cases hik : i < k
    ·rw [List.getElem?_append_left (by simp;omega)] at hx
     rw [List.getElem?_append_left (by omega)] at hr hbi
     obtain ⟨q1,q2⟩:=HPA.out i x r b2 hx hr hbi
     have:=HB.out b2 (List.mem_of_getElem? hbi)
     exact ⟨q1,(q2.ext hx1).keep (setAll_other _ (by omega) _ _ _)⟩
    ·have hi : i = k:=by
      have:=(List.getElem?_eq_some_iff.1 hbi).1
      simp at this;omega
     subst hi
     rw [List.getElem?_append_right (by simp;omega)] at hx
     rw [List.getElem?_append_right (by omega)] at hr hbi
     simp [hbl] at hbi
     simp [hrl] at hr
     simp [show min i f.length = i by omega] at hx
     subst hbi;subst hr;subst hx
     exact ⟨rfl,hO1.keep (setAll_other _ (by omega) _ _ _)⟩)
   have HB2 : Hid (∀ b ∈ bs ++ [b1],w.heap.size < b):=Lib.hid (fun b hb=>by
    rcases List.mem_append.1 hb with hb | hb
    ·exact HB.out b hb
    ·rw [List.mem_singleton] at hb;omega)
   have hnd2 : (bs ++ [b1]).Nodup:=by
    rw [List.nodup_append]
    refine ⟨hnd,by simp,fun a ha b hb=>?_⟩
    rw [List.mem_singleton] at hb
    subst hb
    obtain ⟨i,hi,rfl⟩:=List.mem_iff_getElem.1 ha
    have:=(HPA.out i f[i] rows[i] bs[i] (by rw [List.getElem?_take_of_lt (by omega)];exact List.getElem?_eq_getElem (by omega)) (List.getElem?_eq_getElem (by omega)) (List.getElem?_eq_getElem hi)).2.lt
    omega
   clear hF hXn hfl1 hfl h0 h1 HPA HB hO1 hpp hnd
   go_wp2_with (refine wpList_store_mid rfl 114 _ _ rfl w.heap.size (k * 2) (rowC (.slice (some ⟨b1,o1,none⟩) f[k].pages.length c1,f[k].worn)).toArray rfl rfl hth (by kernel_rfl) (by simp [Value.oneCell']) ?_;change wpList _ _ _ _ _ (setAll w1 w.heap.size (k * 2) (rowC (.slice (some ⟨b1,o1,none⟩) f[k].pages.length c1,f[k].worn)));generalize setAll w1 w.heap.size (k * 2) (rowC (.slice (some ⟨b1,o1,none⟩) f[k].pages.length c1,f[k].worn)) = w2 at *)
   go_roundw
   case rel=>exact ⟨k + 1,_,_,by omega,by go_num,HXN.out,HF.out,by simp [hrl],by simp [hbl],hnd2,HB2,HPN⟩
   case measure=>simp [intOf];omega
  ·obtain rfl : k = f.length:=by omega
   go_wp2
   obtain ⟨c,g1,g2,g3⟩:=hfl
   refine bodyPost_ret (v:=.slice (some ⟨w.heap.size,0,none⟩) f.length f.length) (by simp [results,Tryz.results95,go_sem]) rfl ⟨_,w.heap.size,bs,rfl,hX,⟨rows,⟨114,0,0,by rw [hrl,Nat.add_zero],c,g1,g3⟩,hrl,hbl,?_⟩,List.nodup_cons.2 ⟨fun hm=>by have:=HB.out _ hm;omega,hnd⟩,fun b hb=>?_⟩
   ·have:=HPA.out;rw [List.take_length] at this;exact this
   ·rcases List.mem_cons.1 hb with rfl | hb
    ·exact Nat.le_refl _
    ·exact Nat.le_of_lt (HB.out b hb)
def StoreTo (w : World) (s : Store) (e : Ending) (w' : World) : Prop:=∃ f' d' L,e = .returned (.agg #[f',d']) ∧ Ext w w' ∧ OwnStore w' f' d' s L ∧ L.Nodup ∧ ∀ b ∈ L,w.heap.size ≤ b
theorem OwnFlash.slf {w : World} {v : Value} {f : List Block} {B : Nat} {bs : List Nat} (h : OwnFlash w v f B bs) : ∃ o cap,v = .slice (some ⟨B,o,none⟩) f.length cap:=by
 obtain ⟨rows,hO,h2,_⟩:=h
 obtain ⟨o,cap,hv⟩:=hO.slf
 exact ⟨o,cap,by rw [hv,h2]⟩
set_option maxRecDepth 20000 in
set_option maxHeartbeats 1000000 in
theorem toStore_c (f d : Value) (s : Store) (w : World) (h : StoreV w f d s) (hs : Small s) :
  Calls Tryz.prog 56 #[.agg #[f,d]] w (StoreTo w s):=by
 have hc1:=fun (w' : World) (hx : Ext w w')=>toBlockS_c f s.flash w' (h.1.ext hx) hs.1 hs.2.1
 have hc2:=fun (w' : World) (hx : Ext w w')=>toIntS_c d s.disk w' (h.2.ext hx) hs.2.2
 obtain ⟨a,cap,rfl⟩:=h.1.form
 obtain ⟨a2,cap2,rfl⟩:=h.2.form
 go_enter Tryz.func56,Tryz.ntmps56
 go_wp2_with fail
 refine (hc1 _ (ext_alloc (ext_alloc (ext_alloc (ext_refl _) _) _) _)).mono ?_;rintro e1 w1 ⟨v1,B,bs,rfl,hx1,hO1,hn1,hb1⟩
 obtain ⟨o1,c1,rfl⟩:=hO1.slf
 have G0:=keep_ext hx1 (hg_alloc (hg_alloc (hg_new (b:=w.heap.size) rfl)))
 have G1:=keep_ext hx1 (hg_alloc (hg_new (b:=w.heap.size + 1) (by simp)))
 have G2:=keep_ext hx1 (hg_new (b:=w.heap.size + 1 + 1) (by simp))
 have X1 : Ext w w1:=ext_trans (ext_alloc (ext_alloc (ext_alloc (ext_refl w) _) _) _) hx1
 simp only [World.alloc,Array.size_push] at hb1
 have hs1:=hx1.size
 simp at hs1
 have HO1:=Lib.hid hO1
 have HN1:=Lib.hid hn1
 have HB1 : Hid (∀ b ∈ B :: bs,w.heap.size + 3 ≤ b):=Lib.hid (fun b hb=>by have:=hb1 b hb;omega)
 have HL1:=Lib.hid hO1.lt
 clear hc1 hx1 hO1 hn1 hb1
 obtain ⟨g0,gf0⟩:=cellsK G0
 obtain ⟨g2,gf2⟩:=cellsK G2
 go_wp2_with fail
 refine (hc2 _ (ext_set X1 (by dsimp only;omega) _)).mono ?_;rintro e2 w2 ⟨v2,D,rfl,hx2,hD,hO2⟩
 obtain ⟨o2,c2,rfl⟩:=hO2.slf
 have X2 : Ext w w2:=ext_trans (ext_set X1 (by dsimp only;omega) _) hx2
 have HO2:=Lib.hid hO2
 have hO1' : OwnFlash w2 (.slice (some ⟨B,o1,none⟩) s.flash.length c1) s.flash B bs:=(HO1.out.keep (fun b hb=>setCell_other (by have:=HB1.out b hb;omega))).ext hx2
 have HO1':=Lib.hid hO1'
 have hD' : w1.heap.size ≤ D:=by rw [setCell_size] at hD;exact hD
 replace G0:=keep_ext hx2 (hg_set (by dsimp only;omega) G0)
 replace G1:=keep_ext hx2 (hg_set (by dsimp only;omega) G1)
 replace G2:=keep_ext hx2 (hg_here G2)
 clear hc2 hO2 hO1' HO1 hD X1 hx2 g0 gf0 g2 gf2
 obtain ⟨g0,gf0⟩:=cellsK G0
 obtain ⟨g1,gf1⟩:=cellsK G1
 obtain ⟨g2,gf2⟩:=cellsK G2
 go_wp2_with fail
 refine bodyPost_ret (v:=.agg #[.slice (some ⟨B,o1,none⟩) s.flash.length c1,.slice (some ⟨D,o2,none⟩) s.disk.length c2]) (by simp [results,Tryz.results56,go_sem,g1,gf1,g2,gf2]) rfl ⟨_,_,B :: bs ++ [D],rfl,?_,⟨B,bs,D,rfl,?_,?_⟩,?_,?_⟩
 ·((repeat (first | with_reducible (refine ext_set2 ?_ ?_);focus (first | exact Nat.le_refl _ | (dsimp only;omega) | (simp;omega)) | with_reducible refine ext_alloc2 ?_));with_reducible exact X2)
 ·refine HO1'.out.keep fun b hb=>?_
  have:=HB1.out b hb
  rw [setCell_other (by omega),setCell_other (by omega),setCell_other (by omega)]
 ·exact HO2.out.keep (by rw [setCell_other (by omega),setCell_other (by omega),setCell_other (by omega)])
 ·rw [List.nodup_append]
  refine ⟨HN1.out,by simp,fun x hx y hy e=>?_⟩
  rw [List.mem_singleton] at hy
  have:=HL1.out x hx;omega
 ·intro b hb
  rcases List.mem_append.1 hb with hb | hb
  ·have:=HB1.out b hb;omega
  ·rw [List.mem_singleton] at hb;omega
def PairTo (w : World) (p : Pair) (e : Ending) (w' : World) : Prop:=∃ f d g h L K,e = .returned (.agg #[f,d,g,h,.int .i64 p.lost]) ∧ Ext w w' ∧ OwnStore w' f d p.A L ∧ OwnStore w' g h p.B K ∧ (L ++ K).Nodup ∧ ∀ b ∈ L ++ K,w.heap.size ≤ b
set_option maxRecDepth 20000 in
set_option maxHeartbeats 1000000 in
theorem toPair_c (v : Value) (p : Pair) (w : World) (h : PairIn w v p) (hsA : Small p.A) (hsB : Small p.B) :
  Calls Tryz.prog 26 #[v] w (PairTo w p):=by
 obtain ⟨f,d,g,e,rfl,⟨hA,_⟩,hB,_⟩:=h
 have hc1:=fun (w' : World) (hx : Ext w w')=>toStore_c f d p.A w' (hA.ext hx) hsA
 have hc2:=fun (w' : World) (hx : Ext w w')=>toStore_c g e p.B w' (hB.ext hx) hsB
 obtain ⟨a1,n1,rfl⟩:=hA.1.form
 obtain ⟨a2,n2,rfl⟩:=hA.2.form
 obtain ⟨a3,n3,rfl⟩:=hB.1.form
 obtain ⟨a4,n4,rfl⟩:=hB.2.form
 go_enter Tryz.func26,Tryz.ntmps26
 go_wp2_with fail
 refine (hc1 _ (ext_alloc (ext_alloc (ext_alloc (ext_refl _) _) _) _)).mono ?_;rintro e1 w1 ⟨v1,v2,L,rfl,hx1,hO1,hn1,hb1⟩
 obtain ⟨b1,m1,c1,b2,m2,c2,rfl,rfl⟩:=hO1.forms
 have G0:=keep_ext hx1 (hg_alloc (hg_alloc (hg_new (b:=w.heap.size) rfl)))
 have G1:=keep_ext hx1 (hg_alloc (hg_new (b:=w.heap.size + 1) (by simp)))
 have G2:=keep_ext hx1 (hg_new (b:=w.heap.size + 1 + 1) (by simp))
 have X1 : Ext w w1:=ext_trans (ext_alloc (ext_alloc (ext_alloc (ext_refl w) _) _) _) hx1
 simp only [World.alloc,Array.size_push] at hb1
 have hs1:=hx1.size
 simp at hs1
 have HO1:=Lib.hid hO1
 have HN1:=Lib.hid hn1
 have HB1 : Hid (∀ b ∈ L,w.heap.size + 3 ≤ b):=Lib.hid (fun b hb=>by have:=hb1 b hb;omega)
 have HL1:=Lib.hid hO1.lt
 clear hc1 hx1 hO1 hn1 hb1
 obtain ⟨g0,gf0⟩:=cellsK G0
 obtain ⟨g2,gf2⟩:=cellsK G2
 go_wp2_with fail
 refine (hc2 _ (by ((repeat (first | with_reducible (refine ext_set2 ?_ ?_);focus (first | exact Nat.le_refl _ | (dsimp only;omega) | (simp;omega)) | with_reducible refine ext_alloc2 ?_));with_reducible exact X1))).mono ?_;rintro e2 w2 ⟨v3,v4,K,rfl,hx2,hO2,hn2,hb2⟩
 obtain ⟨b3,m3,c3,b4,m4,c4,rfl,rfl⟩:=hO2.forms
 have X2 : Ext w w2:=ext_trans (by ((repeat (first | with_reducible (refine ext_set2 ?_ ?_);focus (first | exact Nat.le_refl _ | (dsimp only;omega) | (simp;omega)) | with_reducible refine ext_alloc2 ?_));with_reducible exact X1)) hx2
 have HO2:=Lib.hid hO2
 have HN2:=Lib.hid hn2
 have hO1' : OwnStore w2 (.slice b1 m1 c1) (.slice b2 m2 c2) p.A L:=(HO1.out.keep (fun b hb=>by have:=HB1.out b hb;rw [setCell_other (by omega),setCell_other (by omega)])).ext hx2
 have HO1':=Lib.hid hO1'
 have HB2 : Hid (∀ b ∈ K,w1.heap.size ≤ b):=Lib.hid (fun b hb=>by have:=hb2 b hb;rw [setCell_size,setCell_size] at this;exact this)
 replace G0:=keep_ext hx2 (hg_set (by dsimp only;omega) (hg_set (by dsimp only;omega) G0))
 replace G1:=keep_ext hx2 (hg_set (by dsimp only;omega) (hg_set (by dsimp only;omega) G1))
 replace G2:=keep_ext hx2 (hg_here (hg_here G2))
 clear hc2 hO2 hO1' HO1 hb2 X1 hx2 hn2 g0 gf0 g2 gf2
 obtain ⟨g0,gf0⟩:=cellsK G0
 obtain ⟨g1,gf1⟩:=cellsK G1
 obtain ⟨g2,gf2⟩:=cellsK G2
 go_wp2_with fail
 refine bodyPost_ret (v:=.agg #[.slice b1 m1 c1,.slice b2 m2 c2,.slice b3 m3 c3,.slice b4 m4 c4,.int .i64 p.lost]) (by simp [results,Tryz.results26,go_sem,g1,gf1,g2,gf2]) rfl ⟨_,_,_,_,L,K,rfl,?_,?_,?_,?_,?_⟩
 ·((repeat (first | with_reducible (refine ext_set2 ?_ ?_);focus (first | exact Nat.le_refl _ | (dsimp only;omega) | (simp;omega)) | with_reducible refine ext_alloc2 ?_));with_reducible exact X2)
 ·refine HO1'.out.keep fun b hb=>?_
  have:=HB1.out b hb
  iterate 8 rw [setCell_other (by omega)]
 ·refine HO2.out.keep fun b hb=>?_
  have:=HB2.out b hb
  iterate 8 rw [setCell_other (by omega)]
 ·rw [List.nodup_append]
  refine ⟨HN1.out,HN2.out,fun x hx y hy e=>?_⟩
  have:=HL1.out x hx;have:=HB2.out y hy;omega
 ·intro b hb
  rcases List.mem_append.1 hb with hb | hb
  ·have:=HB1.out b hb;omega
  ·have:=HB2.out b hb;omega
end Go.Bu
namespace Go.Bu
open Go Go.RowKit Go.Plan Go.Proofs
section
variable {P : Program} {l : List Oper} {ch L : List Nat} {B0 : Nat} {S C : World → Prop} {iv : List (Nat × Nat)} {H : Nat} {a : Act} {fin : (World → Prop) → List (Nat × Nat) → Nat → Act → Prop}
theorem Rob.ap0 {α : Type} {i : Nat} {o : Oper} (sz bytes : Nat) (enc : α → List Value) (hn : ∀ x,(enc x).length = sz) (xs : List α) {s x : Operand} {t e : TypeId} {b0 ad : Addr} {c : Nat} (D : World → Nat → Prop) (ho : l[i]? = some o) (hc : ch.contains i = true) (hg : Region.wanted o (yielded l.toArray a.tmps) = true)
  (hop : o.op = .call { callee:=.builtin .append,args:=#[s,x],argTypes:=#[t,t] }) (hs : a.eval s = .slice (some b0) 0 0) (hx : a.eval x = .slice (some ad) xs.length c)
  (ht : P.underlying t = some (.slice e)) (hi : (P.info? e).bind (fun i=>i.zero.map fun z=>(z.cells.size,i.size,i.bytes)) = some (sz,sz,bytes)) (hsz : 0 < sz)
  (h0 : xs ≠ []) (h63 : xs.length ≤ maxLen) (hbytes : xs.length * bytes ≤ 140737488355328) (hS : ∀ w w',S w → Ext w w' → S w')
  (hsl : ∀ w1,S w1 → Sl sz (plain enc) (D w1) w1 (.slice (some ad) xs.length c) xs)
  (h : ∀ lo hi v,H ≤ lo → lo ≤ hi → (∃ w' : World,w'.ownsRow lo e sz v xs.length (xs.flatMap enc)) → Rob P l ch B0 fin L (fun w=>S w ∧ w.ownsRow lo e sz v xs.length (xs.flatMap enc)) C (iv ++ [(lo,hi)]) hi (a.put o.dst v)) (hCs : ∀ w w',C w → Ext w w' → C w':=by exact fun _ _ h _=>h) :
  Rob P l ch B0 fin (i :: L) S C iv H a:=by
 refine Rob.c (fun lo hi v w'=>w'.ownsRow lo e sz v xs.length (xs.flatMap enc)) ho hc hg hS (fun lo hi v w w' h hx=>ownsRow_ext h hx) (fun w1 hs1 hH=>?_) h hCs
 obtain ⟨inf,hi1,hi2⟩:=Option.bind_eq_some_iff.1 hi
 obtain ⟨z,hz,he⟩:=Option.map_eq_some_iff.1 hi2
 obtain ⟨hzs,he⟩:=Prod.mk.inj he
 obtain ⟨hsize,hby⟩:=Prod.mk.inj he
 have hS1:=hsl w1 hs1
 have hpos : 0 < xs.length:=List.length_pos_iff.2 h0
 obtain ⟨bb,oo,rfl⟩ : ∃ bb oo,ad = ⟨bb,oo,none⟩:=by
  obtain ⟨a',cap',hv,hx'⟩:=hS1
  injection hv with e1 e2 e3
  obtain ⟨b',o',cs,ha,_⟩:=hx' 0 xs[0] (List.getElem?_eq_getElem hpos)
  rw [← e1] at ha
  injection ha with ha
  exact ⟨b',o',ha⟩
 have hfl:=Sl.flat hn hsz hS1
 obtain ⟨v',w',hr,h2,h3⟩:=run_append_arg_grows (P:=P) w1 t o.type e inf z sz bytes ht hi1 hz hsize hby hzs hsz b0 0 0 [] (by simp) (by simp) ⟨bb,oo,none⟩ xs.length c (xs.flatMap enc) (by rw [flat_len hn]) hfl (by omega) (by omega) (by rw [Nat.zero_add];exact hbytes)
 unfold RunTo execOp
 simp only [hop,resolve,invoke,builtin,Sem.run_bind,Sem.run_pure,Result.andThen_ok,List.map_toArray,List.map_cons,List.map_nil,hs,hx,hr]
 refine ⟨Below.grown (ext_refl _) h3 (Nat.le_refl _) (fun k hk=>by cases hk),?_⟩
 rw [List.nil_append,Nat.zero_add] at h2
 exact h2
end
theorem OwnT.grown' {α : Type} {n : Nat} {enc : α → List Value} {e : TypeId} {w' : World} {v : Value} {xs : List α} {B : Nat} {W : World} {base m : Nat} {T : TypeId} {size : Nat} {u : Value} {ys : List Value} {w0 : World}
  (h : OwnT n enc e W v xs B) (ho : W.ownsRow base T size u m ys) (hT : e ≠ T) (hs : SA w0 W base T size u m ys w') : OwnT n enc e w' v xs B:=by
 obtain ⟨o,cap,hv,c,hh,hi⟩:=h
 exact ⟨o,cap,hv,c,hs.keep ho hT hh,hi⟩
theorem rowForm {base n m : Nat} {e : TypeId} {w : World} {v : Value} {xs : List Value} (h : w.ownsRow base e n v m xs) : ∃ a cap,v = .slice a m cap:=by
 rcases h.2 with ⟨rfl,h0⟩ | ⟨g,cap,cur,rfl,_⟩
 ·exact ⟨none,0,by rw [h0]⟩
 ·exact ⟨_,cap,rfl⟩
theorem ownsRow_new {base N n m : Nat} {e : TypeId} {w w' : World} {v : Value} {xs : List Value} (h : w.ownsRow base e n v m xs) (hN : N ≤ base) (hk : ∀ b,N ≤ b → b < w.heap.size → w'.heap[b]? = w.heap[b]?) : w'.ownsRow base e n v m xs:=by
 obtain ⟨h1,h2⟩:=h
 refine ⟨h1,h2.imp id fun ⟨g,cap,cur,hv,hb,hh,hr⟩=>⟨g,cap,cur,hv,hb,?_,hr⟩⟩
 rw [hk g (by omega) (heap_lt hh)];exact hh
section
variable {P : Program} {l : List Oper} {ch L : List Nat} {B0 : Nat} {S : World → Prop} {iv : List (Nat × Nat)} {H : Nat} {a : Act} {fin : (World → Prop) → List (Nat × Nat) → Nat → Act → Prop}
 {w0 W : World} {base size n : Nat} {e : TypeId} {v : Value} {xs : List Value}
theorem Rob.appR {i : Nat} {o : Oper} {s x : Operand} {t : TypeId} {ob : Obj} {lo : Nat} (bytes : Nat) (cs : List Value) (m : Nat) (ho : l[i]? = some o) (hc : ch.contains i = true) (hg : Region.wanted o (yielded l.toArray a.tmps) = true)
  (hop : o.op = .call { callee:=.builtin .append,args:=#[s,x],argTypes:=#[t,t] }) (hs : a.eval s = v) (hx : a.eval x = .slice (some ⟨lo,0,none⟩) m m)
  (ht : P.underlying t = some (.slice e)) (hi : (P.info? e).bind (fun i=>i.zero.map fun z=>(z.cells.size,i.size,i.bytes)) = some (size,size,bytes)) (hsz : 0 < size)
  (hob : ob = .cells cs.toArray e (0,0)) (hcs : cs.length = m * size) (h1 : ∀ u ∈ cs,u.oneCell' = true) (h63 : n + m ≤ maxLen) (hbytes : (n + m) * bytes ≤ 140737488355328) (hbase : base ≤ B0) (hBH : W.heap.size ≤ H) (hW : w0.heap.size = base) (hown : W.ownsRow base e size v n xs) (hlo : W.heap.size ≤ lo) (hB : B0 = W.heap.size)
  (hSA : ∀ w,S w → SA w0 W base e size v n xs w) (hSl : ∀ w,S w → w.heap[lo]? = some ob)
  (hSk : ∀ w w',S w → SA w0 W base e size v n xs w' → (∀ b,W.heap.size ≤ b → b < w.heap.size → w'.heap[b]? = w.heap[b]?) → S w')
  (h : ∀ lo' hi' v',H ≤ lo' → (∃ w' : World,w'.ownsRow base e size v' (n + m) (xs ++ cs)) → Rob P l ch B0 fin L (fun w=>S w ∧ w.ownsRow base e size v' (n + m) (xs ++ cs)) (fun _=>True) (iv ++ [(lo',hi')]) hi' (a.put o.dst v')) :
  Rob P l ch B0 fin (i :: L) S (fun _=>True) iv H a:=by
 have hvl : ∀ k,v.ownBlock = some k → k < W.heap.size:=fun k hk=>(hown.lt k hk).2
 refine ⟨o,ho,.inr ⟨hc,hg,fun lo' hi' v' w1=>w1.ownsRow base e size v' (n + m) (xs ++ cs),fun _ _ _ _=>True,⟨fun lo' hi' v' w1 w2 h hx=>ownsRow_ext h hx,fun _ _ _ _ _ _ _=>trivial⟩,fun w1 hsw _ hw=>?_,fun lo' hi' v' hh1 hh2 ⟨_,hv,_⟩=>h lo' hi' v' hh1 ⟨_,hv⟩⟩⟩
 have hSA1:=hSA w1 hsw
 have hlo1:=hSl w1 hsw
 obtain ⟨inf,hi1,hi2⟩:=Option.bind_eq_some_iff.1 hi
 obtain ⟨z,hz,he⟩:=Option.map_eq_some_iff.1 hi2
 obtain ⟨hzs,he⟩:=Prod.mk.inj he
 obtain ⟨hsize,hby⟩:=Prod.mk.inj he
 subst hob
 have hnews : ∀ j u,cs[j]? = some u → w1.cell? ((⟨lo,0,none⟩ : Addr).add j) = some u:=fun j u hu=>by
  rw [Addr.add_mid,cell_block hlo1,Nat.zero_add];simpa using hu
 obtain ⟨v',w',hr,hown',hgr,_⟩:=run_append_own (P:=P) w1 base t o.type e inf z size bytes ht hi1 hz hsize hby hzs hsz v n xs hSA1.own ⟨lo,0,none⟩ m m cs hcs hnews h1 h63 hbytes (by have:=hSA1.siz;omega)
 subst hsize hby
 have hkeep:=app_keeps (P:=P) w1 base t o.type e inf z ht hi1 hz v n xs hSA1.own ⟨lo,0,none⟩ m m cs hcs hnews h1 h63 hbytes hr
 unfold RunTo execOp
 simp only [hop,resolve,invoke,builtin,Sem.run_bind,Sem.run_pure,Result.andThen_ok,List.map_toArray,List.map_cons,List.map_nil,hs,hx,hr]
 have hlb : ∀ b,b < w1.heap.size → some b ≠ v.ownBlock → w'.heap[b]? = w1.heap[b]?:=fun b hb hn=>hgr.block b hb hn
 have hSA2 : SA w0 W base e inf.size v n xs w':=by
  refine ⟨?_,Nat.le_trans hSA1.siz hgr.size,fun b hb hn=>?_,hkeep⟩
  ·have ho2:=hSA1.own
   rw [← hW] at ho2
   exact ext_grown hSA1.ext ho2 hgr
  ·rw [hlb b (Nat.lt_of_lt_of_le hb hSA1.siz) hn];exact hSA1.same b hb hn
 refine ⟨⟨hgr.size,fun b hb hbl _=>hlb b hbl fun e=>?_⟩,hSk w1 w' hsw hSA2 (fun b hb hbl=>hlb b hbl fun e=>?_),hown',trivial⟩
 ·have:=hvl b e.symm;omega
 ·have:=hvl b e.symm;omega
end
def FlashTo (w : World) (f : List Block) (e : Ending) (w' : World) : Prop:=∃ v' B bs,e = .returned v' ∧ Ext w w' ∧ OwnFlash w' v' f B bs ∧ (B :: bs).Nodup ∧ ∀ b ∈ B :: bs,w.heap.size ≤ b
def RowsT (w : World) (f : List Block) (rows : List (Value × Int)) (bs : List Nat) (base : Nat) : Prop:=∀ (i : Nat) r b x,rows[i]? = some r → bs[i]? = some b → f[i]? = some x → r.2 = x.worn ∧ OwnT 5 pageC 116 w r.1 x.pages b ∧ base ≤ b
set_option maxRecDepth 20000 in
set_option maxHeartbeats 2000000 in
theorem l2Copy_c (v : Value) (f : List Block) (w : World) (h : Flash (Old w) w v f) (h4 : f.length = 4) (hp : ∀ b ∈ f,b.pages.length = 4) :
  Calls Tryz.prog 112 #[v] w (FlashTo w f):=by
 obtain ⟨fa,fcap,rfl⟩:=h.form
 rw [h4] at h ⊢
 have H4:=Lib.hid h4
 have HP:=Lib.hid hp
 clear h4 hp
 go_enter Tryz.func112,Tryz.ntmps112
 go_wp2_with fail
 go_loopw [3,4] (fun v i wr=>∃ (k : Nat) (rows : List (Value × Int)) (bs : List Nat),k ≤ 4 ∧ i = .int .i64 k ∧ Ext w wr ∧ wr.ownsRow w.heap.size 114 2 v k (rows.flatMap rowC) ∧ rows.length = k ∧ bs.length = k ∧ bs.Nodup ∧ Hid (RowsT wr f rows bs w.heap.size)) (fun _ i _=>4 - (intOf i).toNat)
 case atStart =>
  exact ⟨0,[],[],by omega,rfl,ext_alloc (ext_refl _) _,⟨rfl,.inr ⟨w.heap.size,0,_,rfl,Nat.le_refl _,alloc_get_new rfl,Nat.le_refl _,by simp,rfl,rfl⟩⟩,rfl,rfl,List.nodup_nil,Lib.hid (fun i r b x h=>by simp at h)⟩
 case round =>
  obtain ⟨k,rows,bs,hk,rfl,hX,hown,hrl,hbl,hnd,HR⟩:=hrel
  by_cases hlt : k < 4
  ·have hkf : k < f.length:=by have:=H4.out;omega
   obtain ⟨b,o,pv,rfl,hb,hpp,e0,e1⟩:=h.at2 hkf
   have hb' : b < w.heap.size:=hb
   have hp4:=HP.out f[k] (List.getElem_mem _)
   obtain ⟨pa,pcap,rfl⟩:=hpp.form
   obtain ⟨pb,po,rfl,-⟩:=hpp.at5 (k:=0) (by omega)
   have hS:=fun (w' : World) (hx : Ext w w')=>hpp.ext hx
   have hne : f[k].pages ≠ []:=fun e=>by rw [e] at hp4;simp at hp4
   have hlR:=hX.size
   go_wp2_with fail
   refine wp_region_sa hX hown [1,7,14,15] [0,2,3,4,5,6,8,9,10,11,12,1,7,13,14,15] [] [16] (by kernel_rfl) (by kernel_rfl) ?late ?_
   case late=>exact fun f hf=>absurd hf List.not_mem_nil
   iterate 3
    refine Rob.y (v:=?_) rfl rfl (fun w1 hx hH=>?_) ?_;rotate_left
    ·go_simp;first | done | rfl | exact (Bool.not_not _).symm
    simp only [Act.put,slA,slB,slC]
   refine Rob.y (v:=?_) rfl rfl (fun w1 hx hH=>?_) ?_;rotate_left
   ·(have hE : Ext w w1:=(by first | exact hx.ext | exact hx.1.ext | exact hx.1.1.ext | exact hx.1.1.1.ext);obtain ⟨hcx,hfx⟩:=bcell hE);go_simp;first | done | rfl
   simp only [Act.put,slA,slB,slC]
   refine Rob.y (v:=?_) rfl rfl (fun w1 hx hH=>?_) ?_;rotate_left
   ·go_simp;first | done | rfl | exact (Bool.not_not _).symm
   simp only [Act.put,slA,slB,slC]
   refine Rob.y (v:=?_) rfl rfl (fun w1 hx hH=>?_) ?_;rotate_left
   ·(have hE : Ext w w1:=(by first | exact hx.ext | exact hx.1.ext | exact hx.1.1.ext | exact hx.1.1.1.ext);obtain ⟨hcx,hfx⟩:=bcell hE);go_simp;first | done | rfl
   simp only [Act.put,slA,slB,slC]
   iterate 2
    refine Rob.y (v:=?_) rfl rfl (fun w1 hx hH=>?_) ?_;rotate_left
    ·go_simp;first | done | rfl | exact (Bool.not_not _).symm
    simp only [Act.put,slA,slB,slC]
   refine Rob.y (v:=?_) rfl rfl (fun w1 hx hH=>?_) ?_;rotate_left
   ·(have hE : Ext w w1:=(by first | exact hx.ext | exact hx.1.ext | exact hx.1.1.ext | exact hx.1.1.1.ext);obtain ⟨hcx,hfx⟩:=bcell hE);go_simp;first | done | rfl
   simp only [Act.put,slA,slB,slC]
   refine Rob.y (v:=?_) rfl rfl (fun w1 hx hH=>?_) ?_;rotate_left
   ·go_simp;first | done | rfl | exact (Bool.not_not _).symm
   simp only [Act.put,slA,slB,slC]
   refine Rob.y (v:=?_) rfl rfl (fun w1 hx hH=>?_) ?_;rotate_left
   ·(have hE : Ext w w1:=(by first | exact hx.ext | exact hx.1.ext | exact hx.1.1.ext | exact hx.1.1.1.ext);obtain ⟨hcx,hfx⟩:=bcell hE);go_simp;first | done | rfl
   simp only [Act.put,slA,slB,slC]
   refine Rob.al (.cells #[] 116) (fun lo=>.slice (some ⟨lo,0,none⟩) 0 0) rfl rfl rfl (fun _ _ h hx=>h.stab hx) (fun w1=>by go_simp) (fun lo1 hi1 hlo1 hhi1=>?_)
   simp only [Act.put,slA,slB,slC]
   refine Rob.ap0 5 40 pageC (fun _=>rfl) f[k].pages (fun w=>Old w) rfl rfl rfl rfl rfl (by rw [hp4];rfl) Tryz.underlying112 (by kernel_rfl) (by omega) hne (by simp [maxLen];omega) (by omega) (fun _ _ h hx=>⟨h.1.stab hx,keep_ext hx h.2⟩) (fun w1 hx=>hS w1 hx.1.ext) (fun lo7 hi7 v7 hlo7 hhi7 hv7=>?_)
   simp only [Act.put,slA,slB,slC]
   obtain ⟨_,hv7⟩:=hv7
   rw [hp4] at hv7
   obtain ⟨a7,c7,rfl⟩:=rowForm hv7
   refine Rob.y (v:=?_) rfl rfl (fun w1 hx hH=>?_) ?_;rotate_left
   ·go_simp;first | done | rfl | exact (Bool.not_not _).symm
   simp only [Act.put,slA,slB,slC]
   refine Rob.al (.cells (rowC (.slice a7 4 c7,f[k].worn)).toArray 114) (fun lo=>.slice (some ⟨lo,0,none⟩) 1 1) rfl rfl rfl (fun _ _ h hx=>⟨⟨h.1.1.stab hx,keep_ext hx h.1.2⟩,ownsRow_ext h.2 hx⟩) (fun w1=>by go_simp) (fun lo14 hi14 hlo14 hhi14=>?_)
   simp only [Act.put,slA,slB,slC]
   refine Rob.appR 32 (rowC (.slice a7 4 c7,f[k].worn)) 1 rfl rfl rfl rfl rfl rfl Tryz.underlying23 (by kernel_rfl) (by omega) rfl rfl (by simp [Value.oneCell']) (by simp [maxLen];omega) (by omega) hX.size (by omega) rfl hown (by omega) rfl (fun w hx=>hx.1.1.1) (fun w hx=>hx.2) (fun w w' hx hs hk=>⟨⟨⟨hs,(hk lo1 (by omega) (heap_lt hx.1.1.2)).trans hx.1.1.2⟩,ownsRow_new hx.1.2 (by omega) hk⟩,(hk lo14 (by omega) (heap_lt hx.2)).trans hx.2⟩) (fun lo15 hi15 v15 hlo15 hv15=>?_)
   simp only [Act.put,slA,slB,slC]
   refine fin_tail (fun w2 hx2 _=>?_)
   obtain ⟨⟨⟨⟨hSA,-⟩,hO⟩,-⟩,hR⟩:=hx2
   obtain ⟨B1,hB1,hOT⟩:=OwnT.of_owns (n:=5) (enc:=pageC) (fun _=>rfl) hO hne
   have hRR : w2.ownsRow w.heap.size 114 2 v15 (k + 1) ((rows ++ [((.slice a7 4 c7 : Value),f[k].worn)]).flatMap rowC):=by
    rw [List.flatMap_append];exact hR
   have hnd2 : (bs ++ [B1]).Nodup:=by
    rw [List.nodup_append]
    refine ⟨hnd,by simp,fun a ha b hb=>?_⟩
    rw [List.mem_singleton] at hb
    subst hb
    obtain ⟨i,hi,rfl⟩:=List.mem_iff_getElem.1 ha
    have:=(HR.out i rows[i] bs[i] f[i] (List.getElem?_eq_getElem (by omega)) (List.getElem?_eq_getElem hi) (List.getElem?_eq_getElem (by omega))).2.1.lt
    omega
   have HR2 : Hid (RowsT w2 f (rows ++ [((.slice a7 4 c7 : Value),f[k].worn)]) (bs ++ [B1]) w.heap.size):=Lib.hid (by
    intro i r b x hr hb hx
    by_cases hik : i < k
    ·rw [List.getElem?_append_left (by omega)] at hr hb
     obtain ⟨h1,h2,h3⟩:=HR.out i r b x hr hb hx
     exact ⟨h1,h2.grown' hown (by decide) hSA,h3⟩
    ·have hi : i = k:=by
      have:=(List.getElem?_eq_some_iff.1 hb).1
      simp at this;omega
     subst hi
     rw [List.getElem?_append_right (by omega)] at hr hb
     simp [hrl,hbl] at hr hb
     rw [List.getElem?_eq_getElem hkf] at hx
     obtain rfl:=Option.some.inj hx
     subst hr hb
     exact ⟨rfl,hOT,by omega⟩)
   have hE2:=hSA.ext
   clear hR hO hOT HR hSA hv7 hv15 hown hpp hS e0 e1
   simp only [dstOf,List.getElem?_cons_succ,List.getElem?_cons_zero,Option.bind_some,Act.put,slA,slB,slC,List.filterMap_cons,List.filterMap_nil]
   go_wp2_with fail
   go_roundw
   case rel=>exact ⟨k + 1,rows ++ [((.slice a7 4 c7 : Value),f[k].worn)],bs ++ [B1],by omega,by go_num,hE2,hRR,by simp [hrl],by simp [hbl],hnd2,HR2⟩
   case measure=>simp [intOf];omega
  ·obtain rfl : k = 4:=by omega
   have hne : rows ≠ []:=fun h=>by rw [h] at hrl;cases hrl
   obtain ⟨B,hB,hO⟩:=OwnT.of_owns (n:=2) (enc:=rowC) (fun _=>rfl) (by rw [hrl];exact hown) hne
   obtain ⟨a1,c1,rfl⟩:=rowForm hown
   go_wp2_with fail
   go_ret
   refine ⟨_,B,bs,rfl,hX,⟨rows,hO.any,by rw [hrl,H4.out],by rw [hbl,H4.out],fun i x r b hx hr hb=>?_⟩,List.nodup_cons.2 ⟨fun hm=>?_,hnd⟩,fun b hb=>?_⟩
   ·obtain ⟨h1,h2,h3⟩:=HR.out i r b x hr hb hx
    exact ⟨h1,h2.any⟩
   ·obtain ⟨i,hi,he⟩:=List.mem_iff_getElem.1 hm
    have hif : i < f.length:=by rw [H4.out];omega
    obtain ⟨h1,h2,h3⟩:=HR.out i rows[i] bs[i] f[i] (List.getElem?_eq_getElem (by omega)) (List.getElem?_eq_getElem hi) (List.getElem?_eq_getElem hif)
    obtain ⟨c,hc⟩:=h2.block
    obtain ⟨c',hc'⟩:=hO.block
    rw [he,hc'] at hc
    simp at hc
   ·rcases List.mem_cons.1 hb with rfl | hb
    ·exact hB
    ·obtain ⟨i,hi,rfl⟩:=List.mem_iff_getElem.1 hb
     have hif : i < f.length:=by rw [H4.out];omega
     exact (HR.out i rows[i] bs[i] f[i] (List.getElem?_eq_getElem (by omega)) (List.getElem?_eq_getElem hi) (List.getElem?_eq_getElem hif)).2.2
def StoreM (s : Store) (lo hi : Nat) (v : Value) (w : World) : Prop:=∃ f d L,v = .agg #[f,d] ∧ OwnStore w f d s L ∧ L.Nodup ∧ ∀ b ∈ L,lo ≤ b ∧ b < hi
theorem StoreM.ext {s : Store} {lo hi : Nat} {v : Value} {w w' : World} (h : StoreM s lo hi v w) (hx : Ext w w') : StoreM s lo hi v w':=by
 obtain ⟨f,d,L,h1,h2,h3⟩:=h;exact ⟨f,d,L,h1,h2.ext hx,h3⟩
theorem StoreM.own {s : Store} {lo hi : Nat} {f d : Value} {w : World} (h : StoreM s lo hi (.agg #[f,d]) w) : ∃ L,OwnStore w f d s L ∧ L.Nodup ∧ ∀ b ∈ L,lo ≤ b ∧ b < hi:=by
 obtain ⟨f2,d2,L,he,q⟩:=h
 injection he with he
 simp at he
 obtain ⟨rfl,rfl⟩:=he
 exact ⟨L,q⟩
theorem StoreM.forms {s : Store} {lo hi : Nat} {v : Value} {w : World} (h : StoreM s lo hi v w) : ∃ a n c b m k,v = .agg #[.slice a n c,.slice b m k]:=by
 obtain ⟨f,d,L,rfl,hO,_⟩:=h
 obtain ⟨a,n,c,b,m,k,rfl,rfl⟩:=hO.forms
 exact ⟨a,n,c,b,m,k,rfl⟩
theorem StoreTo.to {w w' : World} {s : Store} {e : Ending} (h : StoreTo w s e w') : ∃ v,e = .returned v ∧ RetC w (StoreM s) v w':=by
 obtain ⟨f,d,L,he,hx,ho,hn,hb⟩:=h
 exact ⟨_,he,hx,f,d,L,rfl,ho,hn,fun b hm=>⟨hb b hm,ho.lt b hm⟩⟩
def FlashM (f : List Block) (lo hi : Nat) (v : Value) (w : World) : Prop:=∃ B bs,OwnFlash w v f B bs ∧ (B :: bs).Nodup ∧ ∀ b ∈ B :: bs,lo ≤ b ∧ b < hi
theorem FlashM.ext {f : List Block} {lo hi : Nat} {v : Value} {w w' : World} (h : FlashM f lo hi v w) (hx : Ext w w') : FlashM f lo hi v w':=by
 obtain ⟨B,bs,h1,h2⟩:=h;exact ⟨B,bs,h1.ext hx,h2⟩
theorem FlashTo.to {w w' : World} {f : List Block} {e : Ending} (h : FlashTo w f e w') : ∃ v,e = .returned v ∧ RetC w (FlashM f) v w':=by
 obtain ⟨v,B,bs,he,hx,ho,hn,hb⟩:=h
 exact ⟨_,he,hx,B,bs,ho,hn,fun b hm=>⟨hb b hm,ho.lt b hm⟩⟩
theorem FlashM.form {f : List Block} {lo hi : Nat} {v : Value} {w : World} (h : FlashM f lo hi v w) : ∃ a c,v = .slice a f.length c:=by
 obtain ⟨B,bs,ho,_⟩:=h
 obtain ⟨o,c,hv⟩:=ho.slf
 exact ⟨_,c,hv⟩
theorem wpList_ap0 {P : Program} {w : World} {ops : Array Oper} {rest : List Oper} {o : Oper} {a : Act} {Q : Exit → Act → World → Prop} {α : Type} (sz bytes : Nat) (enc : α → List Value) (hn : ∀ x,(enc x).length = sz) (xs : List α) {s x : Operand} {t e : TypeId} {b0 ad : Addr} {n c : Nat} {D : Nat → Prop} (hgd : o.guard = none)
  (hop : o.op = .call { callee:=.builtin .append,args:=#[s,x],argTypes:=#[t,t] }) (hs : a.eval s = .slice (some b0) 0 0) (hx : a.eval x = .slice (some ad) n c) (hnx : n = xs.length)
  (ht : P.underlying t = some (.slice e)) (hi : (P.info? e).bind (fun i=>i.zero.map fun z=>(z.cells.size,i.size,i.bytes)) = some (sz,sz,bytes)) (hsz : 0 < sz)
  (h0 : xs ≠ []) (h63 : xs.length ≤ maxLen) (hbytes : xs.length * bytes ≤ 140737488355328) (hS1 : Sl sz (plain enc) D w (.slice (some ad) n c) xs)
  (h : ∀ v w',Ext w w' → w'.ownsRow w.heap.size e sz v xs.length (xs.flatMap enc) → wpList P ops Q rest (a.put o.dst v) w') : wpList P ops Q (o :: rest) a w:=by
 subst hnx
 obtain ⟨inf,hi1,hi2⟩:=Option.bind_eq_some_iff.1 hi
 obtain ⟨z,hz,he⟩:=Option.map_eq_some_iff.1 hi2
 obtain ⟨hzs,he⟩:=Prod.mk.inj he
 obtain ⟨hsize,hby⟩:=Prod.mk.inj he
 have hpos : 0 < xs.length:=List.length_pos_iff.2 h0
 obtain ⟨bb,oo,rfl⟩ : ∃ bb oo,ad = ⟨bb,oo,none⟩:=by
  obtain ⟨a',cap',hv,hx'⟩:=hS1
  injection hv with e1 e2 e3
  obtain ⟨b',o',cs,ha,_⟩:=hx' 0 xs[0] (List.getElem?_eq_getElem hpos)
  rw [← e1] at ha
  injection ha with ha
  exact ⟨b',o',ha⟩
 have hfl:=Sl.flat hn hsz hS1
 obtain ⟨v',w',hr,h2,h3⟩:=run_append_arg_grows (P:=P) w t o.type e inf z sz bytes ht hi1 hz hsize hby hzs hsz b0 0 0 [] (by simp) (by simp) ⟨bb,oo,none⟩ xs.length c (xs.flatMap enc) (by rw [flat_len hn]) hfl (by omega) (by omega) (by rw [Nat.zero_add];exact hbytes)
 rw [List.nil_append,Nat.zero_add] at h2
 have hfin:=h v' w' (Below.grown (ext_refl _) h3 (Nat.le_refl _) (fun k hk=>by cases hk)) h2
 refine wpList_plain hgd fun K hK'=>?_
 unfold Oper.wp
 simp [execOp,hop,resolve,invoke,builtin,hs,hx,hr,Result.andThen]
 exact hK' _ _ hfin
set_option maxRecDepth 20000 in
set_option maxHeartbeats 2000000 in
theorem l11Copy_c (fv dv : Value) (s : Store) (w : World) (h : StoreV w fv dv s) (h4 : s.flash.length = 4) (hp : ∀ b ∈ s.flash,b.pages.length = 4) (h6 : s.disk.length = 6) :
  Calls Tryz.prog 69 #[.agg #[fv,dv]] w (StoreTo w s):=by
 have hFC:=fun (w' : World) (hx : Ext w w')=>l2Copy_c fv s.flash w' (h.1.ext hx) h4 hp
 have hD:=h.2
 obtain ⟨fa,fcap,hfv⟩:=h.1.form
 obtain ⟨da,dcap,rfl⟩:=h.2.form
 obtain ⟨b,o,rfl,hb,-⟩:=hD.at1 (k:=0) (by omega)
 rw [h4] at hfv
 rw [h6] at hD ⊢
 subst hfv
 have hb' : b < w.heap.size:=hb
 have H6:=Lib.hid h6
 clear h h4 hp h6
 have XA : ∀ o1 o2,Ext w ((w.alloc o1).alloc o2):=fun _ _=>ext_alloc (ext_alloc (ext_refl _) _) _
 have G0 : (w.alloc (.cells #[.slice fa 4 fcap,.slice (some ⟨b,o,none⟩) 6 dcap] 26)).heap[w.heap.size]? = some (.cells #[.slice fa 4 fcap,.slice (some ⟨b,o,none⟩) 6 dcap] 26 (0,0)):=hg_new rfl
 go_enter Tryz.func69,Tryz.ntmps69
 go_wp2_with fail
 refine wp_region_ext [2] [0,1,4,5,2] [(3,.cells #[] 3,fun b=>.slice (some ⟨b,0,none⟩) 0 0)] [6,7,8] (by kernel_rfl) (by kernel_rfl) ?late ?_
 case late =>
  intro f hf
  obtain rfl:=List.mem_singleton.1 hf
  refine ⟨_,rfl,fun a w=>?_⟩
  go_simp
 refine Rob.y (v:=?_) rfl rfl (fun w1 hx hH=>?_) ?_;rotate_left
 ·go_simp;first | done | rfl | exact (Bool.not_not _).symm
 simp only [Act.put,slA,slB,slC]
 refine Rob.y (v:=?_) rfl rfl (fun w1 hx hH=>?_) ?_;rotate_left
 ·(have hE : Ext _ w1:=(by first | exact hx | exact hx.1);obtain ⟨g0,gf0⟩:=cellsK (keep_ext hE (hg_alloc G0)));go_simp;first | done | rfl
 simp only [Act.put,slA,slB,slC]
 refine Rob.y (v:=?_) rfl rfl (fun w1 hx hH=>?_) ?_;rotate_left
 ·go_simp;first | done | rfl | exact (Bool.not_not _).symm
 simp only [Act.put,slA,slB,slC]
 refine Rob.y (v:=?_) rfl rfl (fun w1 hx hH=>?_) ?_;rotate_left
 ·(have hE : Ext _ w1:=(by first | exact hx | exact hx.1);obtain ⟨g0,gf0⟩:=cellsK (keep_ext hE (hg_alloc G0)));go_simp;first | done | rfl
 simp only [Act.put,slA,slB,slC]
 refine Rob.c (FlashM s.flash) rfl rfl rfl (fun _ _=>ext_trans) (fun _ _ _ _ _=>fun h hx=>h.ext hx) (fun w1 hx hH=>?_) (fun lo2 hi2 v2 hlo2 hhi2 hv2=>?_)
 ·unfold RunTo;go_simp;exact (hFC _ (ext_trans (XA _ _) hx)).mono fun e w' h=>h.to
 simp only [Act.put,slA,slB,slC]
 obtain ⟨_,hv2⟩:=hv2
 obtain ⟨a2,c2,rfl⟩:=hv2.form
 refine fin_one (fun w3 b3 hx3 _ hb3 hlt3 ho3 _=>?_)
 simp only [dstOf,List.getElem?_cons_succ,List.getElem?_cons_zero,Option.bind_some,Act.put,slA,slB,slC,List.filterMap_cons,List.filterMap_nil]
 obtain ⟨hx3,hM⟩:=hx3
 have X3:=ext_trans (XA _ _) hx3
 have G1:=keep_ext hx3 (hg_new (b:=w.heap.size + 1) (by simp))
 have HM:=Lib.hid hM
 have HD:=hD.ext X3
 have hne : s.disk ≠ []:=fun e=>by have:=H6.out;rw [e] at this;simp at this
 have h6:=H6.out
 clear hFC hM hD hx3
 refine wpList_ap0 1 8 intC (fun _=>rfl) s.disk rfl rfl rfl rfl h6.symm Tryz.underlying24 (by kernel_rfl) (by omega) hne (by simp [maxLen];omega) (by omega) HD (fun v4 w4 hx4 hO=>?_)
 have X4:=ext_trans X3 hx4
 replace G1:=keep_ext hx4 G1
 have hM:=HM.out.ext hx4
 obtain ⟨D,hD,hOD⟩:=IRow.own hO hne
 rw [h6] at hO
 obtain ⟨a4,c4,rfl⟩:=rowForm hO
 obtain ⟨B,bs,hOF,hnd,hbs⟩:=hM
 have hlF : ∀ b ∈ B :: bs,b < w3.heap.size:=by obtain ⟨B',bs',ho',_⟩:=HM.out;exact fun b hb=>Nat.lt_of_lt_of_le (hbs b hb).2 (by assumption)
 have HOF:=Lib.hid hOF
 have HOD:=Lib.hid hOD
 have HND:=Lib.hid hnd
 have HBS:=Lib.hid hbs
 have s3:=X3.size
 clear HD HM hO hOF hOD hne hx4 X3 hnd hbs
 obtain ⟨g1,gf1⟩:=cellsK G1
 go_wp2
 refine bodyPost_ret (v:=.agg #[.slice a2 s.flash.length c2,.slice a4 6 c4]) (by simp [results,Tryz.results69,go_sem,g1,gf1]) rfl ⟨_,_,B :: bs ++ [D],rfl,?_,⟨B,bs,D,rfl,?_,?_⟩,?_,?_⟩
 ·((repeat (first | with_reducible (refine ext_set2 ?_ ?_);focus (first | exact Nat.le_refl _ | (dsimp only;omega) | (simp;omega)) | with_reducible refine ext_alloc2 ?_));with_reducible exact X4)
 ·refine HOF.out.keep fun b hb=>?_
  have:=HBS.out b hb
  simp at hlo2
  rw [setCell_other (by omega),setCell_other (by omega)]
 ·simp at hb3
  have:=HOD.out.keep (w':=(w4.setCell ⟨w.heap.size + 1,0,none⟩ (.slice a2 s.flash.length c2)).setCell ⟨w.heap.size + 1,1,none⟩ (.slice a4 6 c4)) (by rw [setCell_other (by omega),setCell_other (by omega)])
  exact this
 ·rw [List.nodup_append]
  refine ⟨HND.out,by simp,fun x hx y hy e=>?_⟩
  rw [List.mem_singleton] at hy
  have:=hlF x hx;omega
 ·intro b hb
  simp at hlo2
  rcases List.mem_append.1 hb with hb | hb
  ·have:=HBS.out b hb;omega
  ·rw [List.mem_singleton] at hb;omega
set_option maxRecDepth 20000 in
set_option maxHeartbeats 2000000 in
theorem l23Copy_c (f d g e : Value) (p : Pair) (w : World) (hA : StoreV w f d p.A) (hB : StoreV w g e p.B) (hsA : p.A.flash.length = 4) (hpA : ∀ b ∈ p.A.flash,b.pages.length = 4) (h6A : p.A.disk.length = 6) (hsB : p.B.flash.length = 4) (hpB : ∀ b ∈ p.B.flash,b.pages.length = 4) (h6B : p.B.disk.length = 6) :
  Calls Tryz.prog 42 #[.agg #[f,d,g,e,.int .i64 p.lost]] w (PairTo w p):=by
 have hC1:=fun (w' : World) (hx : Ext w w')=>l11Copy_c f d p.A w' (hA.ext hx) hsA hpA h6A
 have hC2:=fun (w' : World) (hx : Ext w w')=>l11Copy_c g e p.B w' (hB.ext hx) hsB hpB h6B
 obtain ⟨a1,n1,rfl⟩:=hA.1.form
 obtain ⟨a2,n2,rfl⟩:=hA.2.form
 obtain ⟨a3,n3,rfl⟩:=hB.1.form
 obtain ⟨a4,n4,rfl⟩:=hB.2.form
 clear hA hB hsA hpA h6A hsB hpB h6B
 have XA : ∀ o1 o2,Ext w ((w.alloc o1).alloc o2):=fun _ _=>ext_alloc (ext_alloc (ext_refl _) _) _
 have G0 : (w.alloc (.cells #[.slice a1 p.A.flash.length n1,.slice a2 p.A.disk.length n2,.slice a3 p.B.flash.length n3,.slice a4 p.B.disk.length n4,.int .i64 p.lost] 28)).heap[w.heap.size]? = some (.cells #[.slice a1 p.A.flash.length n1,.slice a2 p.A.disk.length n2,.slice a3 p.B.flash.length n3,.slice a4 p.B.disk.length n4,.int .i64 p.lost] 28 (0,0)):=hg_new rfl
 go_enter Tryz.func42,Tryz.ntmps42
 go_wp2_with fail
 refine wp_region_ext [2,5] [0,1,3,4,6,7,2,5,8] [] [9] (by kernel_rfl) (by kernel_rfl) ?late ?_
 case late=>exact fun f hf=>absurd hf List.not_mem_nil
 refine Rob.y (v:=?_) rfl rfl (fun w1 hx hH=>?_) ?_;rotate_left
 ·go_simp;first | done | rfl | exact (Bool.not_not _).symm
 simp only [Act.put,slA,slB,slC]
 refine Rob.y (v:=?_) rfl rfl (fun w1 hx hH=>?_) ?_;rotate_left
 ·(have hE : Ext _ w1:=(by first | exact hx | exact hx.1 | exact hx.1.1);obtain ⟨g0,gf0⟩:=cellsK (keep_ext hE (hg_alloc G0)));go_simp;first | done | rfl
 simp only [Act.put,slA,slB,slC]
 refine Rob.y (v:=?_) rfl rfl (fun w1 hx hH=>?_) ?_;rotate_left
 ·go_simp;first | done | rfl | exact (Bool.not_not _).symm
 simp only [Act.put,slA,slB,slC]
 refine Rob.y (v:=?_) rfl rfl (fun w1 hx hH=>?_) ?_;rotate_left
 ·(have hE : Ext _ w1:=(by first | exact hx | exact hx.1 | exact hx.1.1);obtain ⟨g0,gf0⟩:=cellsK (keep_ext hE (hg_alloc G0)));go_simp;first | done | rfl
 simp only [Act.put,slA,slB,slC]
 refine Rob.y (v:=?_) rfl rfl (fun w1 hx hH=>?_) ?_;rotate_left
 ·go_simp;first | done | rfl | exact (Bool.not_not _).symm
 simp only [Act.put,slA,slB,slC]
 refine Rob.y (v:=?_) rfl rfl (fun w1 hx hH=>?_) ?_;rotate_left
 ·(have hE : Ext _ w1:=(by first | exact hx | exact hx.1 | exact hx.1.1);obtain ⟨g0,gf0⟩:=cellsK (keep_ext hE (hg_alloc G0)));go_simp;first | done | rfl
 simp only [Act.put,slA,slB,slC]
 refine Rob.c (StoreM p.A) rfl rfl rfl (fun _ _=>(by (first | exact ext_trans | exact fun h k=>⟨ext_trans h.1 k,h.2.ext k⟩))) (fun _ _ _ _ _=>fun h hx=>h.ext hx) (fun w1 hx hH=>?_) (fun lo2 hi2 v2 hlo2 hhi2 hv2=>?_)
 ·unfold RunTo;go_simp;exact ((hC1 _ (ext_trans (XA _ _) hx))).mono fun e w' h=>h.to
 simp only [Act.put,slA,slB,slC]
 obtain ⟨_,hv2⟩:=hv2
 obtain ⟨b1,m1,c1,b2,m2,c2,rfl⟩:=hv2.forms
 refine Rob.c (StoreM p.B) rfl rfl rfl (fun _ _=>(by (first | exact ext_trans | exact fun h k=>⟨ext_trans h.1 k,h.2.ext k⟩))) (fun _ _ _ _ _=>fun h hx=>h.ext hx) (fun w1 hx hH=>?_) (fun lo5 hi5 v5 hlo5 hhi5 hv5=>?_)
 ·unfold RunTo;go_simp;exact ((hC2 _ (ext_trans (XA _ _) hx.1))).mono fun e w' h=>h.to
 simp only [Act.put,slA,slB,slC]
 obtain ⟨_,hv5⟩:=hv5
 obtain ⟨b3,m3,c3,b4,m4,c4,rfl⟩:=hv5.forms
 refine Rob.y (v:=?_) rfl rfl (fun w1 hx hH=>?_) ?_;rotate_left
 ·go_simp;first | done | rfl | exact (Bool.not_not _).symm
 simp only [Act.put,slA,slB,slC]
 refine fin_tail (fun w3 hx3 _=>?_)
 simp only [dstOf,List.getElem?_cons_succ,List.getElem?_cons_zero,Option.bind_some,Act.put,slA,slB,slC,List.filterMap_cons,List.filterMap_nil]
 obtain ⟨⟨hx3,hM1⟩,hM2⟩:=hx3
 obtain ⟨L,hO1,hn1,hb1⟩:=hM1.own
 obtain ⟨K,hO2,hn2,hb2⟩:=hM2.own
 have X3:=ext_trans (XA _ _) hx3
 have G1:=keep_ext hx3 (hg_new (b:=w.heap.size + 1) (by simp))
 obtain ⟨g1,gf1⟩:=cellsK G1
 have HO1:=Lib.hid hO1
 have HO2:=Lib.hid hO2
 have HN1:=Lib.hid hn1
 have HN2:=Lib.hid hn2
 simp at hlo2
 have HB1 : Hid (∀ b ∈ L,w.heap.size + 2 ≤ b ∧ b < hi2):=Lib.hid (fun b hb=>by have:=hb1 b hb;omega)
 have HB2 : Hid (∀ b ∈ K,w.heap.size + 2 ≤ b ∧ hi2 ≤ b):=Lib.hid (fun b hb=>by have:=hb2 b hb;omega)
 clear hC1 hC2 hM1 hM2 hO1 hO2 hn1 hn2 hb1 hb2 G0 hx3 hv2 hv5
 go_wp2
 refine bodyPost_ret (v:=.agg #[.slice b1 m1 c1,.slice b2 m2 c2,.slice b3 m3 c3,.slice b4 m4 c4,.int .i64 p.lost]) (by simp [results,Tryz.results42,go_sem,g1,gf1]) rfl ⟨_,_,_,_,L,K,rfl,?_,?_,?_,?_,?_⟩
 ·((repeat (first | with_reducible (refine ext_set2 ?_ ?_);focus (first | exact Nat.le_refl _ | (dsimp only;omega) | (simp;omega)) | with_reducible refine ext_alloc2 ?_));with_reducible exact X3)
 ·refine HO1.out.keep fun b hb=>?_
  have:=HB1.out b hb
  iterate 5 rw [setCell_other (by omega)]
 ·refine HO2.out.keep fun b hb=>?_
  have:=HB2.out b hb
  iterate 5 rw [setCell_other (by omega)]
 ·rw [List.nodup_append]
  refine ⟨HN1.out,HN2.out,fun x hx y hy e=>?_⟩
  have:=HB1.out x hx;have:=HB2.out y hy;omega
 ·intro b hb
  rcases List.mem_append.1 hb with hb | hb
  ·have:=HB1.out b hb;omega
  ·have:=HB2.out b hb;omega
end Go.Bu
namespace Go.Bu
open Go Go.RowKit Go.Plan Go.Proofs
abbrev SC.f4 (c : SC) : Value:=c.F.v 4
abbrev SC.d6 (c : SC) : Value:=c.D.v 6
theorem StoreP.lens {s : Store} (h : StoreP s) : s.flash.length = newStore.flash.length ∧ s.disk.length = newStore.disk.length:=⟨flashOk_len h.flash,h.disk⟩
def pv (a b : SC) (l : Int) : Value:=.agg #[a.f4,a.d6,b.f4,b.d6,.int .i64 l]
def RetPr (a b : SC) (w : World) (q : Pair) (e : Ending) (w' : World) : Prop:=e = .returned (pv a b q.lost) ∧ Chg (a.L ++ b.L) w w' ∧ OwnS a w' q.A ∧ OwnS b w' q.B
def listA (p : Pair) (addr val : Int) : List Step:=if p.lost = 1 then [] else writeSteps p.A.flash 1 addr val
def listB (p : Pair) (addr val : Int) : List Step:=if p.lost = 2 then [] else writeSteps p.B.flash 1 addr val
def putV (p : Pair) (addr val cut : Int) (torn : Bool) : Pair:=
 ⟨toSteps p.A (listA p addr val) cut torn,if (listA p addr val).length ≤ cut then toSteps p.B (listB p addr val) (cut - (listA p addr val).length) torn else p.B,p.lost⟩
theorem nsF : newStore.flash.length = 4:=rfl
theorem nsD : newStore.disk.length = 6:=rfl
theorem OwnS.at4 {c : SC} {w : World} {s : Store} (h : OwnS c w s) (hp : StoreP s) : StoreV w c.f4 c.d6 s:=h.v (t:=newStore) hp.lens
theorem SRow.newN {N : Nat} {w w' : World} {v : Value} {xs : List Step} (h : SRow N w v xs) (hk : ∀ b,N ≤ b → b < w.heap.size → w'.heap[b]? = w.heap[b]?) : SRow N w' v xs:=ownsRow_new h (Nat.le_refl _) hk
structure ListOk (s : Store) (xs : List Step) : Prop where
 fit : ∀ x ∈ xs,StepOk x
 len : xs.length ≤ 7
theorem listOk_nil (s : Store) : ListOk s []:=⟨fun x hx=>(by cases hx),by simp⟩
theorem listOk_write {s : Store} (h : StoreP s) (k a v : Int) : ListOk s (writeSteps s.flash k a v):=⟨write_ok (flashOk_iff.1 h.flash) k a v,by have:=write_le h.flash k a v;omega⟩
set_option maxRecDepth 20000 in
set_option maxHeartbeats 4000000 in
theorem l23Put_c (a b : SC) (p : Pair) (addr val cut : Int) (torn : Bool) (w : World) (hA : OwnS a w p.A) (hB : OwnS b w p.B) (hd : ∀ x ∈ a.L,x ∉ b.L) (pA : StoreP p.A) (pB : StoreP p.B) (hcut : -1000000 ≤ cut ∧ cut ≤ 9223372036854775807) :
  Calls Tryz.prog 41 #[pv a b p.lost,.int .i64 addr,.int .i64 val,.int .i64 cut,.bool torn] w (RetPr a b w (putV p addr val cut torn)):=by
 have hWA:=fun (w' : World) (hx : Ext w w')=>l12Write_c a.f4 a.d6 p.A 1 addr val w' ((hA.ext hx).at4 pA) pA.flash
 have hWB:=fun (w' : World) (hx : Ext w w')=>l12Write_c b.f4 b.d6 p.B 1 addr val w' ((hB.ext hx).at4 pB) pB.flash
 have hTA:=fun (sv : Value) (xs : List Step) (w' : World) (hx : Ext w w') (hr : SRow (w.heap.size + 2) w' sv xs) (hok : ListOk p.A xs)=>l12To_v a p.A newStore sv xs cut torn w' (hA.ext hx) pA.shape (hr.at_ fun x hx hm=>by have:=hA.lt x hm;omega) (fun x hm=>(hok.fit x hm).fit) (by have:=hok.len;omega) hcut.1 pA.lens
 have hTB:=fun (sv : Value) (xs : List Step) (m : Int) (w' : World) (ho : OwnS b w' p.B) (hr : SRow (w.heap.size + 2) w' sv xs) (hok : ListOk p.B xs) (hm : -1000000 ≤ m)=>l12To_v b p.B newStore sv xs m torn w' ho pB.shape (hr.at_ fun x hx hm=>by have:=hB.lt x hm;omega) (fun x hm=>(hok.fit x hm).fit) (by have:=hok.len;omega) hm pB.lens
 have hla : Hid (∀ x ∈ a.L,x < w.heap.size):=Lib.hid hA.lt
 have hlb : Hid (∀ x ∈ b.L,x < w.heap.size):=Lib.hid hB.lt
 have HD:=Lib.hid hd
 have HB:=Lib.hid hB
 have oA:=listOk_write pA 1 addr val
 have oB:=listOk_write pB 1 addr val
 have hNB : Hid (∀ x,w.heap.size ≤ x → x ∉ a.L ∧ x ∉ b.L):=Lib.hid (fun x hx=>⟨fun hm=>by have:=hA.lt x hm;omega,fun hm=>by have:=hB.lt x hm;omega⟩)
 have hQ1 : p.lost = 1 → putV p addr val cut torn = ⟨toSteps p.A [] cut torn,if ((([] : List Step).length : Nat) : Int) ≤ cut then toSteps p.B (writeSteps p.B.flash 1 addr val) (cut - (([] : List Step).length : Nat)) torn else p.B,p.lost⟩:=fun h=>by simp [putV,listA,listB,h]
 have hQ2 : p.lost = 2 → putV p addr val cut torn = ⟨toSteps p.A (writeSteps p.A.flash 1 addr val) cut torn,if ((writeSteps p.A.flash 1 addr val).length : Int) ≤ cut then toSteps p.B [] (cut - (writeSteps p.A.flash 1 addr val).length) torn else p.B,p.lost⟩:=fun h=>by unfold putV listA listB;rw [if_neg (by omega),if_pos h]
 have hQ3 : p.lost ≠ 1 → p.lost ≠ 2 → putV p addr val cut torn = ⟨toSteps p.A (writeSteps p.A.flash 1 addr val) cut torn,if ((writeSteps p.A.flash 1 addr val).length : Int) ≤ cut then toSteps p.B (writeSteps p.B.flash 1 addr val) (cut - (writeSteps p.A.flash 1 addr val).length) torn else p.B,p.lost⟩:=fun h h2=>by unfold putV listA listB;rw [if_neg h,if_neg h2]
 obtain ⟨Q,hQ⟩ : ∃ Q,putV p addr val cut torn = Q:=⟨_,rfl⟩
 rw [hQ] at hQ1 hQ2 hQ3 ⊢
 have HQ1:=Lib.hid hQ1
 have HQ2:=Lib.hid hQ2
 have HQ3:=Lib.hid hQ3
 clear hQ hQ1 hQ2 hQ3
 unfold pv
 clear hA hB hd
 generalize writeSteps p.A.flash 1 addr val = WA at *
 generalize writeSteps p.B.flash 1 addr val = WB at *
 have G00 : (w.alloc (.cells #[a.f4,a.d6,b.f4,b.d6,.int .i64 p.lost] 28)).heap[w.heap.size]? = some (.cells #[a.f4,a.d6,b.f4,b.d6,.int .i64 p.lost] 28 (0,0)):=hg_new rfl
 by_cases h1 : p.lost = 1
 ·rw [h1] at G00 ⊢
  go_enter Tryz.func41,Tryz.ntmps41
  go_wp2_with fail
  refine (hWB _ (ext_alloc (ext_alloc (ext_alloc (ext_alloc (ext_refl _) _) _) _) _)).mono ?_;rintro e1 w1 ⟨vb,rfl,hx1,hS1,hl1⟩
  have X : Ext w w1:=ext_trans (ext_alloc (ext_alloc (ext_alloc (ext_alloc (ext_refl _) _) _) _) _) hx1
  have G0:=keep_ext hx1 (hg_alloc (hg_alloc (hg_alloc G00)))
  have G1:=keep_ext hx1 (hg_alloc (hg_alloc (hg_new (b:=w.heap.size + 1) (by simp))))
  have GE:=keep_ext hx1 (hg_alloc (hg_new (b:=w.heap.size + 1 + 1) (by simp)))
  have SA : Hid (SRow (w.heap.size + 2) w1 (.slice (some ⟨w.heap.size + 1 + 1,0,none⟩) 0 0) []):=Lib.hid (SRow.empty GE (by omega))
  obtain ⟨sb,cb,rfl⟩:=hS1.form
  obtain ⟨vb,hvb⟩ : ∃ vb : Value,vb = .slice sb WB.length cb:=⟨_,rfl⟩
  have SB : Hid (SRow (w.heap.size + 2) w1 (.slice sb WB.length cb) WB):=Lib.hid (hS1.base (by simp))
  clear hx1 hS1 G00 GE
  have lg0:=heap_lt G0
  have lg1:=heap_lt G1
  obtain ⟨g0,gf0⟩:=cellsK G0
  obtain ⟨g1,gf1⟩:=cellsK G1
  clear hWA hWB
  go_wp2_with fail
  refine (hTA _ ([] : List Step) _ X SA.out (listOk_nil _)).mono ?_;rintro e5 w5 ⟨rfl,hC5,hO5⟩
  have hB5:=(HB.out.ext X).chg hC5 (fun x hx hm=>HD.out x hm hx)
  have C5 : Chg (a.L ++ b.L) w w5:=(Chg.of_ext X).trans (hC5.mono fun x hx=>List.mem_append_left _ hx)
  have hSB : ∀ (u1 u2 : Value),SRow (w.heap.size + 2) ((w5.setCell ⟨w.heap.size,0,none⟩ u1).setCell ⟨w.heap.size,1,none⟩ u2) (.slice sb WB.length cb) WB:=fun u1 u2=>SB.out.newN fun x hx hl=>by
   rw [setCell_other (by omega),setCell_other (by omega),hC5.block x hl (hNB.out x (by omega)).1]
  have HSB:=Lib.hid hSB
  have HO5:=Lib.hid hO5
  have HB5:=Lib.hid hB5
  have HC5:=Lib.hid C5
  replace G0:=hC5.keep G0 (hNB.out _ (by omega)).1
  replace G1:=hC5.keep G1 (hNB.out _ (by omega)).1
  clear hC5 hO5 hB5 C5 hSB SB SA X g0 gf0 g1 gf1 lg0 lg1 hTA
  obtain ⟨g0,gf0⟩:=cellsK G0
  obtain ⟨g1,gf1⟩:=cellsK G1
  have lg0:=heap_lt G0
  have lg1:=heap_lt G1
  by_cases hcc : (0 : Int) ≤ cut
  ·have hq : Q = ⟨toSteps p.A ([] : List Step) cut torn,toSteps p.B WB cut torn,p.lost⟩:=by rw [HQ1.out h1];first | rw [if_pos hcc] | simp [hcc]
   have OB:=(HB5.out.set (p:=⟨w.heap.size,0,none⟩) (hNB.out _ (Nat.le_refl _)).2 (a.fv newStore)).set (p:=⟨w.heap.size,1,none⟩) (hNB.out _ (Nat.le_refl _)).2 (a.dv newStore)
   have OA:=(HO5.out.set (p:=⟨w.heap.size,0,none⟩) (hNB.out _ (Nat.le_refl _)).1 (a.fv newStore)).set (p:=⟨w.heap.size,1,none⟩) (hNB.out _ (Nat.le_refl _)).1 (a.dv newStore)
   have hc2 : Chg (a.L ++ b.L) w ((w5.setCell ⟨w.heap.size,0,none⟩ (a.fv newStore)).setCell ⟨w.heap.size,1,none⟩ (a.dv newStore)):=(HC5.out.set (.inr (Nat.le_refl _)) _).set (.inr (Nat.le_refl _)) _
   have hcall:=hTB _ WB cut _ OB (HSB.out _ _) oB (by omega)
   replace G0:=hg_here (k:=1) (v:=a.dv newStore) (hg_here (k:=0) (v:=a.fv newStore) G0)
   replace G1:=hg_set (a:=⟨w.heap.size,1,none⟩) (v:=a.dv newStore) (by dsimp only;omega) (hg_set (a:=⟨w.heap.size,0,none⟩) (v:=a.fv newStore) (by dsimp only;omega) G1)
   have HQ:=Lib.hid hq
   have HA5:=Lib.hid OA
   have HC6:=Lib.hid hc2
   clear hq OB OA hc2 HSB HO5 HB5 HC5 hTB
   go_wp2_with fail
   refine hcall.mono ?_;rintro e6 w6 ⟨rfl,hC6,hO6⟩
   replace G0:=hC6.keep G0 (hNB.out _ (by omega)).2
   replace G1:=hC6.keep G1 (hNB.out _ (by omega)).2
   have hA6:=HA5.out.chg hC6 (fun x hx hm=>HD.out x hx hm)
   have hC7:=HC6.out.trans (hC6.mono fun x hx=>List.mem_append_right _ hx)
   have HA6:=Lib.hid hA6
   have HB6:=Lib.hid hO6
   have HC7:=Lib.hid hC7
   clear hcall HA5 HC6 hC6 hO6 hA6 hC7 g0 gf0 g1 gf1
   obtain ⟨g0,gf0⟩:=cellsK G0
   obtain ⟨g1,gf1⟩:=cellsK G1
   go_wp2_with fail
   refine bodyPost_ret (v:=pv a b 1) (by simp [results,Tryz.results41,go_sem,pv,g1,gf1,nsF,nsD]) rfl ?_
   rw [HQ.out]
   refine ⟨by simp [*],?_,?_,?_⟩
   ·have hc:=HC7.out
    ((repeat (first | with_reducible (refine Chg.set2 ?_ ?_);focus (exact Or.inr (by dsimp only;omega)) | with_reducible refine Chg.alloc2 ?_));with_reducible exact hc)
   ·have HNB : Hid (∀ x,w.heap.size ≤ x → x ∉ a.L):=Lib.hid fun x hx=>(hNB.out x hx).1
    have ho:=HA6.out
    ((repeat (first | (with_reducible apply OwnS.set2;focus (exact HNB.out _ (by dsimp only;omega))) | with_reducible apply OwnS.alloc2));with_reducible exact ho)
   ·have HNB : Hid (∀ x,w.heap.size ≤ x → x ∉ b.L):=Lib.hid fun x hx=>(hNB.out x hx).2
    have ho:=HB6.out
    ((repeat (first | (with_reducible apply OwnS.set2;focus (exact HNB.out _ (by dsimp only;omega))) | with_reducible apply OwnS.alloc2));with_reducible exact ho)
  ·have hq : Q = ⟨toSteps p.A ([] : List Step) cut torn,p.B,p.lost⟩:=by rw [HQ1.out h1];first | rw [if_neg hcc] | simp [hcc]
   have HQ:=Lib.hid hq
   have HA6:=Lib.hid HO5.out
   have HB6:=Lib.hid HB5.out
   have HC7:=Lib.hid HC5.out
   clear hq HSB HO5 HB5 HC5 hTB
   go_wp2_with fail
   refine bodyPost_ret (v:=pv a b 1) (by simp [results,Tryz.results41,go_sem,pv,g1,gf1,nsF,nsD]) rfl ?_
   rw [HQ.out]
   refine ⟨by simp [*],?_,?_,?_⟩
   ·have hc:=HC7.out
    ((repeat (first | with_reducible (refine Chg.set2 ?_ ?_);focus (exact Or.inr (by dsimp only;omega)) | with_reducible refine Chg.alloc2 ?_));with_reducible exact hc)
   ·have HNB : Hid (∀ x,w.heap.size ≤ x → x ∉ a.L):=Lib.hid fun x hx=>(hNB.out x hx).1
    have ho:=HA6.out
    ((repeat (first | (with_reducible apply OwnS.set2;focus (exact HNB.out _ (by dsimp only;omega))) | with_reducible apply OwnS.alloc2));with_reducible exact ho)
   ·have HNB : Hid (∀ x,w.heap.size ≤ x → x ∉ b.L):=Lib.hid fun x hx=>(hNB.out x hx).2
    have ho:=HB6.out
    ((repeat (first | (with_reducible apply OwnS.set2;focus (exact HNB.out _ (by dsimp only;omega))) | with_reducible apply OwnS.alloc2));with_reducible exact ho)
 ·by_cases h2 : p.lost = 2
  ·rw [h2] at G00 ⊢
   go_enter Tryz.func41,Tryz.ntmps41
   go_wp2_with fail
   refine (hWA _ (ext_alloc (ext_alloc (ext_alloc (ext_refl _) _) _) _)).mono ?_;rintro e1 w1 ⟨va,rfl,hx1,hS1,hl1⟩
   have X1 : Ext w w1:=ext_trans (ext_alloc (ext_alloc (ext_alloc (ext_refl _) _) _) _) hx1
   have X : Ext w (w1.alloc (.cells #[] 79)):=ext_alloc X1 _
   have G0:=hg_alloc (x:=.cells #[] 79) (keep_ext hx1 (hg_alloc (hg_alloc G00)))
   have G1:=hg_alloc (x:=.cells #[] 79) (keep_ext hx1 (hg_alloc (hg_new (b:=w.heap.size + 1) (by simp))))
   have s1:=hx1.size
   simp at s1
   obtain ⟨sa,ca,rfl⟩:=hS1.form
   have SA : Hid (SRow (w.heap.size + 2) (w1.alloc (.cells #[] 79)) (.slice sa WA.length ca) WA):=Lib.hid ((hS1.base (by simp)).ext (ext_alloc (ext_refl _) _))
   have SB : Hid (SRow (w.heap.size + 2) (w1.alloc (.cells #[] 79)) (.slice (some ⟨w1.heap.size,0,none⟩) 0 0) []):=Lib.hid (SRow.empty (hg_new rfl) (by omega))
   clear hx1 hS1 G00 X1
   have lg0:=heap_lt G0
   have lg1:=heap_lt G1
   obtain ⟨g0,gf0⟩:=cellsK G0
   obtain ⟨g1,gf1⟩:=cellsK G1
   clear hWA hWB
   go_wp2_with fail
   refine (hTA _ WA _ X SA.out oA).mono ?_;rintro e5 w5 ⟨rfl,hC5,hO5⟩
   have hB5:=(HB.out.ext X).chg hC5 (fun x hx hm=>HD.out x hm hx)
   have C5 : Chg (a.L ++ b.L) w w5:=(Chg.of_ext X).trans (hC5.mono fun x hx=>List.mem_append_left _ hx)
   have hSB : ∀ (u1 u2 : Value),SRow (w.heap.size + 2) ((w5.setCell ⟨w.heap.size,0,none⟩ u1).setCell ⟨w.heap.size,1,none⟩ u2) (.slice (some ⟨w1.heap.size,0,none⟩) 0 0) ([] : List Step):=fun u1 u2=>SB.out.newN fun x hx hl=>by
    rw [setCell_other (by omega),setCell_other (by omega),hC5.block x hl (hNB.out x (by omega)).1]
   have HSB:=Lib.hid hSB
   have HO5:=Lib.hid hO5
   have HB5:=Lib.hid hB5
   have HC5:=Lib.hid C5
   replace G0:=hC5.keep G0 (hNB.out _ (by omega)).1
   replace G1:=hC5.keep G1 (hNB.out _ (by omega)).1
   clear hC5 hO5 hB5 C5 hSB SB SA X g0 gf0 g1 gf1 lg0 lg1 hTA
   obtain ⟨g0,gf0⟩:=cellsK G0
   obtain ⟨g1,gf1⟩:=cellsK G1
   have lg0:=heap_lt G0
   have lg1:=heap_lt G1
   by_cases hcc : ((WA.length : Nat) : Int) ≤ cut
   ·have hq : Q = ⟨toSteps p.A WA cut torn,toSteps p.B ([] : List Step) (cut - (WA.length : Nat)) torn,p.lost⟩:=by rw [HQ2.out h2];first | rw [if_pos hcc] | simp [hcc]
    have OB:=(HB5.out.set (p:=⟨w.heap.size,0,none⟩) (hNB.out _ (Nat.le_refl _)).2 (a.fv newStore)).set (p:=⟨w.heap.size,1,none⟩) (hNB.out _ (Nat.le_refl _)).2 (a.dv newStore)
    have OA:=(HO5.out.set (p:=⟨w.heap.size,0,none⟩) (hNB.out _ (Nat.le_refl _)).1 (a.fv newStore)).set (p:=⟨w.heap.size,1,none⟩) (hNB.out _ (Nat.le_refl _)).1 (a.dv newStore)
    have hc2 : Chg (a.L ++ b.L) w ((w5.setCell ⟨w.heap.size,0,none⟩ (a.fv newStore)).setCell ⟨w.heap.size,1,none⟩ (a.dv newStore)):=(HC5.out.set (.inr (Nat.le_refl _)) _).set (.inr (Nat.le_refl _)) _
    have hcall:=hTB _ ([] : List Step) (cut - (WA.length : Nat)) _ OB (HSB.out _ _) (listOk_nil _) (by omega)
    replace G0:=hg_here (k:=1) (v:=a.dv newStore) (hg_here (k:=0) (v:=a.fv newStore) G0)
    replace G1:=hg_set (a:=⟨w.heap.size,1,none⟩) (v:=a.dv newStore) (by dsimp only;omega) (hg_set (a:=⟨w.heap.size,0,none⟩) (v:=a.fv newStore) (by dsimp only;omega) G1)
    have HQ:=Lib.hid hq
    have HA5:=Lib.hid OA
    have HC6:=Lib.hid hc2
    clear hq OB OA hc2 HSB HO5 HB5 HC5 hTB
    go_wp2_with fail
    refine hcall.mono ?_;rintro e6 w6 ⟨rfl,hC6,hO6⟩
    replace G0:=hC6.keep G0 (hNB.out _ (by omega)).2
    replace G1:=hC6.keep G1 (hNB.out _ (by omega)).2
    have hA6:=HA5.out.chg hC6 (fun x hx hm=>HD.out x hx hm)
    have hC7:=HC6.out.trans (hC6.mono fun x hx=>List.mem_append_right _ hx)
    have HA6:=Lib.hid hA6
    have HB6:=Lib.hid hO6
    have HC7:=Lib.hid hC7
    clear hcall HA5 HC6 hC6 hO6 hA6 hC7 g0 gf0 g1 gf1
    obtain ⟨g0,gf0⟩:=cellsK G0
    obtain ⟨g1,gf1⟩:=cellsK G1
    go_wp2_with fail
    refine bodyPost_ret (v:=pv a b 2) (by simp [results,Tryz.results41,go_sem,pv,g1,gf1,nsF,nsD]) rfl ?_
    rw [HQ.out]
    refine ⟨by simp [*],?_,?_,?_⟩
    ·have hc:=HC7.out
     ((repeat (first | with_reducible (refine Chg.set2 ?_ ?_);focus (exact Or.inr (by dsimp only;omega)) | with_reducible refine Chg.alloc2 ?_));with_reducible exact hc)
    ·have HNB : Hid (∀ x,w.heap.size ≤ x → x ∉ a.L):=Lib.hid fun x hx=>(hNB.out x hx).1
     have ho:=HA6.out
     ((repeat (first | (with_reducible apply OwnS.set2;focus (exact HNB.out _ (by dsimp only;omega))) | with_reducible apply OwnS.alloc2));with_reducible exact ho)
    ·have HNB : Hid (∀ x,w.heap.size ≤ x → x ∉ b.L):=Lib.hid fun x hx=>(hNB.out x hx).2
     have ho:=HB6.out
     ((repeat (first | (with_reducible apply OwnS.set2;focus (exact HNB.out _ (by dsimp only;omega))) | with_reducible apply OwnS.alloc2));with_reducible exact ho)
   ·have hq : Q = ⟨toSteps p.A WA cut torn,p.B,p.lost⟩:=by rw [HQ2.out h2];first | rw [if_neg hcc] | simp [hcc]
    have HQ:=Lib.hid hq
    have HA6:=Lib.hid HO5.out
    have HB6:=Lib.hid HB5.out
    have HC7:=Lib.hid HC5.out
    clear hq HSB HO5 HB5 HC5 hTB
    go_wp2_with fail
    refine bodyPost_ret (v:=pv a b 2) (by simp [results,Tryz.results41,go_sem,pv,g1,gf1,nsF,nsD]) rfl ?_
    rw [HQ.out]
    refine ⟨by simp [*],?_,?_,?_⟩
    ·have hc:=HC7.out
     ((repeat (first | with_reducible (refine Chg.set2 ?_ ?_);focus (exact Or.inr (by dsimp only;omega)) | with_reducible refine Chg.alloc2 ?_));with_reducible exact hc)
    ·have HNB : Hid (∀ x,w.heap.size ≤ x → x ∉ a.L):=Lib.hid fun x hx=>(hNB.out x hx).1
     have ho:=HA6.out
     ((repeat (first | (with_reducible apply OwnS.set2;focus (exact HNB.out _ (by dsimp only;omega))) | with_reducible apply OwnS.alloc2));with_reducible exact ho)
    ·have HNB : Hid (∀ x,w.heap.size ≤ x → x ∉ b.L):=Lib.hid fun x hx=>(hNB.out x hx).2
     have ho:=HB6.out
     ((repeat (first | (with_reducible apply OwnS.set2;focus (exact HNB.out _ (by dsimp only;omega))) | with_reducible apply OwnS.alloc2));with_reducible exact ho)
  ·go_enter Tryz.func41,Tryz.ntmps41
   go_wp2_with fail
   refine (hWA _ (ext_alloc (ext_alloc (ext_alloc (ext_refl _) _) _) _)).mono ?_;rintro e1 w1 ⟨va,rfl,hx1,hS1,hl1⟩
   have X1 : Ext w w1:=ext_trans (ext_alloc (ext_alloc (ext_alloc (ext_refl _) _) _) _) hx1
   have G0:=keep_ext hx1 (hg_alloc (hg_alloc G00))
   have G1:=keep_ext hx1 (hg_alloc (hg_new (b:=w.heap.size + 1) (by simp)))
   have s1:=hx1.size
   simp at s1
   obtain ⟨sa,ca,rfl⟩:=hS1.form
   obtain ⟨g0,gf0⟩:=cellsK G0
   have lg0:=heap_lt G0
   have SA:=Lib.hid (hS1.base (b':=w.heap.size + 2) (by simp))
   clear hx1 hS1 G00
   go_wp2_with fail
   refine (hWB _ (ext_alloc X1 _)).mono ?_;rintro e2 w2 ⟨vb,rfl,hx2,hS2,hl2⟩
   have X12:=ext_trans (ext_alloc (ext_refl _) _) hx2
   have X:=ext_trans X1 X12
   replace G0:=keep_ext X12 G0
   replace G1:=keep_ext X12 G1
   obtain ⟨sb,cb,rfl⟩:=hS2.form
   replace SA:=Lib.hid (SA.out.ext X12)
   have SB:=Lib.hid (hS2.base (b':=w.heap.size + 2) (by simp;omega))
   clear g0 gf0 lg0 hx2 hS2 X1 X12
   have lg0:=heap_lt G0
   have lg1:=heap_lt G1
   obtain ⟨g0,gf0⟩:=cellsK G0
   obtain ⟨g1,gf1⟩:=cellsK G1
   clear hWA hWB
   go_wp2_with fail
   refine (hTA _ WA _ X SA.out oA).mono ?_;rintro e5 w5 ⟨rfl,hC5,hO5⟩
   have hB5:=(HB.out.ext X).chg hC5 (fun x hx hm=>HD.out x hm hx)
   have C5 : Chg (a.L ++ b.L) w w5:=(Chg.of_ext X).trans (hC5.mono fun x hx=>List.mem_append_left _ hx)
   have hSB : ∀ (u1 u2 : Value),SRow (w.heap.size + 2) ((w5.setCell ⟨w.heap.size,0,none⟩ u1).setCell ⟨w.heap.size,1,none⟩ u2) (.slice sb WB.length cb) WB:=fun u1 u2=>SB.out.newN fun x hx hl=>by
    rw [setCell_other (by omega),setCell_other (by omega),hC5.block x hl (hNB.out x (by omega)).1]
   have HSB:=Lib.hid hSB
   have HO5:=Lib.hid hO5
   have HB5:=Lib.hid hB5
   have HC5:=Lib.hid C5
   replace G0:=hC5.keep G0 (hNB.out _ (by omega)).1
   replace G1:=hC5.keep G1 (hNB.out _ (by omega)).1
   clear hC5 hO5 hB5 C5 hSB SB SA X g0 gf0 g1 gf1 lg0 lg1 hTA
   obtain ⟨g0,gf0⟩:=cellsK G0
   obtain ⟨g1,gf1⟩:=cellsK G1
   have lg0:=heap_lt G0
   have lg1:=heap_lt G1
   by_cases hcc : ((WA.length : Nat) : Int) ≤ cut
   ·have hq : Q = ⟨toSteps p.A WA cut torn,toSteps p.B WB (cut - (WA.length : Nat)) torn,p.lost⟩:=by rw [HQ3.out h1 h2];first | rw [if_pos hcc] | simp [hcc]
    have OB:=(HB5.out.set (p:=⟨w.heap.size,0,none⟩) (hNB.out _ (Nat.le_refl _)).2 (a.fv newStore)).set (p:=⟨w.heap.size,1,none⟩) (hNB.out _ (Nat.le_refl _)).2 (a.dv newStore)
    have OA:=(HO5.out.set (p:=⟨w.heap.size,0,none⟩) (hNB.out _ (Nat.le_refl _)).1 (a.fv newStore)).set (p:=⟨w.heap.size,1,none⟩) (hNB.out _ (Nat.le_refl _)).1 (a.dv newStore)
    have hc2 : Chg (a.L ++ b.L) w ((w5.setCell ⟨w.heap.size,0,none⟩ (a.fv newStore)).setCell ⟨w.heap.size,1,none⟩ (a.dv newStore)):=(HC5.out.set (.inr (Nat.le_refl _)) _).set (.inr (Nat.le_refl _)) _
    have hcall:=hTB _ WB (cut - (WA.length : Nat)) _ OB (HSB.out _ _) oB (by omega)
    replace G0:=hg_here (k:=1) (v:=a.dv newStore) (hg_here (k:=0) (v:=a.fv newStore) G0)
    replace G1:=hg_set (a:=⟨w.heap.size,1,none⟩) (v:=a.dv newStore) (by dsimp only;omega) (hg_set (a:=⟨w.heap.size,0,none⟩) (v:=a.fv newStore) (by dsimp only;omega) G1)
    have HQ:=Lib.hid hq
    have HA5:=Lib.hid OA
    have HC6:=Lib.hid hc2
    clear hq OB OA hc2 HSB HO5 HB5 HC5 hTB
    go_wp2_with fail
    refine hcall.mono ?_;rintro e6 w6 ⟨rfl,hC6,hO6⟩
    replace G0:=hC6.keep G0 (hNB.out _ (by omega)).2
    replace G1:=hC6.keep G1 (hNB.out _ (by omega)).2
    have hA6:=HA5.out.chg hC6 (fun x hx hm=>HD.out x hx hm)
    have hC7:=HC6.out.trans (hC6.mono fun x hx=>List.mem_append_right _ hx)
    have HA6:=Lib.hid hA6
    have HB6:=Lib.hid hO6
    have HC7:=Lib.hid hC7
    clear hcall HA5 HC6 hC6 hO6 hA6 hC7 g0 gf0 g1 gf1
    obtain ⟨g0,gf0⟩:=cellsK G0
    obtain ⟨g1,gf1⟩:=cellsK G1
    go_wp2_with fail
    refine bodyPost_ret (v:=pv a b p.lost) (by simp [results,Tryz.results41,go_sem,pv,g1,gf1,nsF,nsD]) rfl ?_
    rw [HQ.out]
    refine ⟨by simp [*],?_,?_,?_⟩
    ·have hc:=HC7.out
     ((repeat (first | with_reducible (refine Chg.set2 ?_ ?_);focus (exact Or.inr (by dsimp only;omega)) | with_reducible refine Chg.alloc2 ?_));with_reducible exact hc)
    ·have HNB : Hid (∀ x,w.heap.size ≤ x → x ∉ a.L):=Lib.hid fun x hx=>(hNB.out x hx).1
     have ho:=HA6.out
     ((repeat (first | (with_reducible apply OwnS.set2;focus (exact HNB.out _ (by dsimp only;omega))) | with_reducible apply OwnS.alloc2));with_reducible exact ho)
    ·have HNB : Hid (∀ x,w.heap.size ≤ x → x ∉ b.L):=Lib.hid fun x hx=>(hNB.out x hx).2
     have ho:=HB6.out
     ((repeat (first | (with_reducible apply OwnS.set2;focus (exact HNB.out _ (by dsimp only;omega))) | with_reducible apply OwnS.alloc2));with_reducible exact ho)
   ·have hq : Q = ⟨toSteps p.A WA cut torn,p.B,p.lost⟩:=by rw [HQ3.out h1 h2];first | rw [if_neg hcc] | simp [hcc]
    have HQ:=Lib.hid hq
    have HA6:=Lib.hid HO5.out
    have HB6:=Lib.hid HB5.out
    have HC7:=Lib.hid HC5.out
    clear hq HSB HO5 HB5 HC5 hTB
    go_wp2_with fail
    refine bodyPost_ret (v:=pv a b p.lost) (by simp [results,Tryz.results41,go_sem,pv,g1,gf1,nsF,nsD]) rfl ?_
    rw [HQ.out]
    refine ⟨by simp [*],?_,?_,?_⟩
    ·have hc:=HC7.out
     ((repeat (first | with_reducible (refine Chg.set2 ?_ ?_);focus (exact Or.inr (by dsimp only;omega)) | with_reducible refine Chg.alloc2 ?_));with_reducible exact hc)
    ·have HNB : Hid (∀ x,w.heap.size ≤ x → x ∉ a.L):=Lib.hid fun x hx=>(hNB.out x hx).1
     have ho:=HA6.out
     ((repeat (first | (with_reducible apply OwnS.set2;focus (exact HNB.out _ (by dsimp only;omega))) | with_reducible apply OwnS.alloc2));with_reducible exact ho)
    ·have HNB : Hid (∀ x,w.heap.size ≤ x → x ∉ b.L):=Lib.hid fun x hx=>(hNB.out x hx).2
     have ho:=HB6.out
     ((repeat (first | (with_reducible apply OwnS.set2;focus (exact HNB.out _ (by dsimp only;omega))) | with_reducible apply OwnS.alloc2));with_reducible exact ho)
end Go.Bu
namespace Go.Bu
open Go Go.RowKit Go.Plan Go.Proofs
def setV (s : Store) (addr val : Int) : Store:=doAll s (writeSteps s.flash 1 addr val)
theorem StoreP.set {s : Store} (h : StoreP s) (addr val : Int) : StoreP (setV s addr val):=h.all (write_ok (flashOk_iff.1 h.flash) 1 addr val)
abbrev sv (c : SC) : Value:=.agg #[c.f4,c.d6]
def RetSt (c : SC) (w : World) (s : Store) (e : Ending) (w' : World) : Prop:=e = .returned (sv c) ∧ Chg c.L w w' ∧ OwnS c w' s
set_option maxRecDepth 20000 in
set_option maxHeartbeats 4000000 in
theorem l23Set_c (c : SC) (s : Store) (addr val : Int) (w : World) (h : OwnS c w s) (hp : StoreP s) :
  Calls Tryz.prog 105 #[sv c,.int .i64 addr,.int .i64 val] w (RetSt c w (setV s addr val)):=by
 have hW:=fun (w' : World) (hx : Ext w w')=>l12Write_c c.f4 c.d6 s 1 addr val w' ((h.ext hx).at4 hp) hp.flash
 have ok:=listOk_write hp 1 addr val
 have hT:=fun (v : Value) (w' : World) (hx : Ext w w') (hr : SRow (w.heap.size + 2) w' v (writeSteps s.flash 1 addr val))=>l12To_v c s newStore v (writeSteps s.flash 1 addr val) ((writeSteps s.flash 1 addr val).length : Nat) false w' (h.ext hx) hp.shape (hr.at_ fun x hx hm=>by have:=h.lt x hm;omega) (fun x hm=>(ok.fit x hm).fit) (by have:=ok.len;omega) (by omega) hp.lens
 have HNB : Hid (∀ x,w.heap.size ≤ x → x ∉ c.L):=Lib.hid h.new
 unfold setV
 have hl:=ok.len
 obtain ⟨Q,hQ⟩ : ∃ Q,toSteps s (writeSteps s.flash 1 addr val) ((writeSteps s.flash 1 addr val).length : Nat) false = Q:=⟨_,rfl⟩
 have hQ2:=hQ
 rw [toSteps_all] at hQ2
 rw [hQ2]
 simp only [hQ] at hT
 clear hQ hQ2 ok
 generalize writeSteps s.flash 1 addr val = WS at *
 go_enter Tryz.func105,Tryz.ntmps105
 go_wp2_with fail
 refine (hW _ (ext_alloc (ext_alloc (ext_refl _) _) _)).mono ?_;rintro e1 w1 ⟨v1,rfl,hx1,hS1,hl1⟩
 have X : Ext w w1:=ext_trans (ext_alloc (ext_alloc (ext_refl _) _) _) hx1
 have G0:=keep_ext hx1 (hg_alloc (hg_new (b:=w.heap.size) rfl))
 have G1:=keep_ext hx1 (hg_new (b:=w.heap.size + 1) (by simp))
 obtain ⟨g0,gf0⟩:=cellsK G0
 have lg0:=heap_lt G0
 obtain ⟨sa,ca,rfl⟩:=hS1.form
 have hcall:=hT _ _ X (hS1.base (by simp))
 clear hW hT hx1 hS1
 go_wp2_with fail
 refine hcall.mono ?_;rintro e2 w2 ⟨rfl,hC,hO⟩
 replace G1:=hC.keep G1 (HNB.out _ (by omega))
 have HC:=Lib.hid ((Chg.of_ext X).trans hC)
 have HO:=Lib.hid hO
 clear hcall hC hO g0 gf0 lg0 G0
 obtain ⟨g1,gf1⟩:=cellsK G1
 go_wp2_with fail
 refine bodyPost_ret (v:=sv c) (by simp [results,Tryz.results105,go_sem,g1,gf1,nsF,nsD]) rfl ⟨rfl,?_,?_⟩
 ·have hc:=HC.out
  ((repeat (first | with_reducible (refine Chg.set2 ?_ ?_);focus (exact Or.inr (by dsimp only;omega)) | with_reducible refine Chg.alloc2 ?_));with_reducible exact hc)
 ·have ho:=HO.out
  ((repeat (first | (with_reducible apply OwnS.set2;focus (exact HNB.out _ (by dsimp only;omega))) | with_reducible apply OwnS.alloc2));with_reducible exact ho)
def sameStep (fr t : Store) (n : Nat) : Store:=if readN t n = readN fr n then t else setV t ((n : Int) + 1) (readN fr n)
def sameV (fr t : Store) : Store:=addrs6.foldl (sameStep fr) t
theorem StoreP.sameStep {fr t : Store} (h : StoreP t) (n : Nat) : StoreP (sameStep fr t n):=by
 unfold Bu.sameStep;split
 ·exact h
 ·exact h.set _ _
theorem StoreP.same {fr t : Store} (h : StoreP t) : StoreP (sameV fr t):=foldl_inv (Bu.sameStep fr) StoreP addrs6 t h fun s n hn hs=>hs.sameStep n
set_option maxRecDepth 20000 in
set_option maxHeartbeats 4000000 in
theorem l23Same_c (a c : SC) (fr s : Store) (w : World) (hA : OwnS a w fr) (h : OwnS c w s) (hd : ∀ x ∈ a.L,x ∉ c.L) (pA : StoreP fr) (hp : StoreP s) :
  Calls Tryz.prog 63 #[sv a,sv c] w (RetSt c w (sameV fr s)):=by
 have HNB : Hid (∀ x,w.heap.size ≤ x → x ∉ c.L):=Lib.hid h.new
 have hRA:=fun (n : Nat) (hn : n < 6) (w' : World) (ho : OwnS a w' fr)=>l11Read_c a.f4 a.d6 fr n w' (ho.at4 pA) (by have:=flashOk_len pA.flash;omega) (pages_short pA.flash) (by have:=pA.disk;omega) (by have:=pA.disk;omega)
 have hRC:=fun (t : Store) (pt : StoreP t) (n : Nat) (hn : n < 6) (w' : World) (ho : OwnS c w' t)=>l11Read_c c.f4 c.d6 t n w' (ho.at4 pt) (by have:=flashOk_len pt.flash;omega) (pages_short pt.flash) (by have:=pt.disk;omega) (by have:=pt.disk;omega)
 have HRA:=Lib.hid hRA
 have HRC:=Lib.hid hRC
 have HP:=Lib.hid hp
 have HA:=Lib.hid hA
 have HD:=Lib.hid hd
 clear hRA hRC hp hA hd
 go_enter Tryz.func63,Tryz.ntmps63
 go_wp2_with fail
 go_loopw [5] (fun y wr=>∃ (k : Nat) (t : Store),k ≤ 6 ∧ y = .int .i64 ((k : Int) + 1) ∧ Chg c.L w wr ∧ OwnS c wr t ∧ Hid (StoreP t) ∧ Hid ((addrs6.drop k).foldl (sameStep fr) t = sameV fr s) ∧ wr.heap[w.heap.size]? = some (.cells #[a.f4,a.d6] 26 (0,0)) ∧ wr.heap[w.heap.size + 1]? = some (.cells #[c.f4,c.d6] 26 (0,0)) ∧ wr.heap[w.heap.size + 1 + 1]? = some (.cells #[.slice none 0 0,.slice none 0 0] 26 (0,0))) (fun y _=>7 - (intOf y).toNat)
 case atStart=>exact ⟨0,s,by omega,rfl,Chg.of_ext (by go_grown),h.ext (by go_grown),HP,Lib.hid rfl,hg_alloc (hg_alloc (hg_new rfl)),hg_alloc (hg_new (by simp)),hg_new (by simp)⟩
 case round =>
  obtain ⟨k,t,hk,rfl,hC,hO,HPt,HR,G0,G1,G2⟩:=hrel
  have hOA : OwnS a _ fr:=HA.out.chg hC HD.out
  obtain ⟨g0,gf0⟩:=cellsK G0
  obtain ⟨g1,gf1⟩:=cellsK G1
  obtain ⟨g2,gf2⟩:=cellsK G2
  have l0:=heap_lt G0
  have l1:=heap_lt G1
  have l2:=heap_lt G2
  by_cases hlt : k < 6
  ·rw [foldl_drop _ _ _ _ (show k < addrs6.length from hlt),addrs6_get] at HR
   have hrc:=fun (w' : World) (hx : Ext wr w')=>HRC.out t HPt.out k hlt w' (hO.ext hx)
   have hra:=fun (w' : World) (hx : Ext wr w')=>HRA.out k hlt w' (hOA.ext hx)
   have hset:=fun (v : Int) (w' : World) (hx : Ext wr w')=>l23Set_c c t ((k : Int) + 1) v w' (hO.ext hx) HPt.out
   have hP2:=Lib.hid (HPt.out.sameStep (fr:=fr) k)
   have hst : sameStep fr t k = if readN t k = readN fr k then t else setV t ((k : Int) + 1) (readN fr k):=rfl
   generalize sameStep fr t k = t2 at *
   generalize readN t k = x at *
   generalize readN fr k = y at *
   go_wp2_with fail
   refine wp_region_ext [2,5] [0,1,3,4,2,5,6] [] [] (by kernel_rfl) (by kernel_rfl) ?late ?_
   case late=>exact fun f hf=>absurd hf List.not_mem_nil
   refine Rob.y (v:=?_) rfl rfl (fun w1 hx hH=>?_) ?_;rotate_left
   ·(obtain ⟨hcx,hfx⟩:=bcell hx);go_simp;first | done | rfl
   simp only [Act.put,slA,slB,slC]
   refine Rob.y (v:=?_) rfl rfl (fun w1 hx hH=>?_) ?_;rotate_left
   ·go_simp;first | done | rfl | exact (Bool.not_not _).symm
   simp only [Act.put,slA,slB,slC]
   refine Rob.y (v:=?_) rfl rfl (fun w1 hx hH=>?_) ?_;rotate_left
   ·(obtain ⟨hcx,hfx⟩:=bcell hx);go_simp;first | done | rfl
   simp only [Act.put,slA,slB,slC]
   refine Rob.y (v:=?_) rfl rfl (fun w1 hx hH=>?_) ?_;rotate_left
   ·go_simp;first | done | rfl | exact (Bool.not_not _).symm
   simp only [Act.put,slA,slB,slC]
   refine Rob.cv (.int .i64 x) rfl rfl rfl (fun _ _=>ext_trans) (fun w1 hx hH=>?_) (fun lo2 hi2 hlo2 hhi2=>?_)
   ·unfold RunTo;go_simp;exact (hrc _ hx).mono fun e w' h=>h.to
   simp only [Act.put,slA,slB,slC]
   refine Rob.cv (.int .i64 y) rfl rfl rfl (fun _ _=>ext_trans) (fun w1 hx hH=>?_) (fun lo5 hi5 hlo5 hhi5=>?_)
   ·unfold RunTo;go_simp;exact (hra _ hx).mono fun e w' h=>h.to
   simp only [Act.put,slA,slB,slC]
   refine Rob.y (v:=?_) rfl rfl (fun w1 hx hH=>?_) ?_;rotate_left
   ·go_simp;first | done | rfl | exact (Bool.not_not _).symm
   simp only [Act.put,slA,slB,slC]
   refine fin_nil (fun w2 hx2 _=>?_)
   replace G0:=keep_ext hx2 G0
   replace G1:=keep_ext hx2 G1
   replace G2:=keep_ext hx2 G2
   clear g0 gf0 g1 gf1 g2 gf2
   obtain ⟨g0,gf0⟩:=cellsK G0
   obtain ⟨g1,gf1⟩:=cellsK G1
   obtain ⟨g2,gf2⟩:=cellsK G2
   by_cases hxy : x = y
   ·rw [if_pos hxy] at hst
    subst hst
    have hC2:=hC.trans (Chg.of_ext hx2)
    have hO2:=hO.ext hx2
    subst hxy
    go_wp2_with fail
    go_roundw
    case rel=>exact ⟨k + 1,t2,by omega,by go_num,hC2,hO2,hP2,HR,G0,G1,G2⟩
    case measure=>simp [intOf];omega
   ·rw [if_neg hxy] at hst
    go_wp2_with fail
    refine wp_region_ext [4] [0,1,2,3,4] [] [5,6] (by kernel_rfl) (by kernel_rfl) ?late ?_
    case late=>exact fun f hf=>absurd hf List.not_mem_nil
    refine Rob.y (v:=?_) rfl rfl (fun w1 hx hH=>?_) ?_;rotate_left
    ·(have hE : Ext _ w1:=(by first | exact hx | exact hx.1);obtain ⟨p0,pf0⟩:=cellsK (keep_ext hE G0);obtain ⟨p1,pf1⟩:=cellsK (keep_ext hE G1));go_simp;first | done | rfl
    simp only [Act.put,slA,slB,slC]
    refine Rob.y (v:=?_) rfl rfl (fun w1 hx hH=>?_) ?_;rotate_left
    ·go_simp;first | done | rfl | exact (Bool.not_not _).symm
    simp only [Act.put,slA,slB,slC]
    refine Rob.y (v:=?_) rfl rfl (fun w1 hx hH=>?_) ?_;rotate_left
    ·(have hE : Ext _ w1:=(by first | exact hx | exact hx.1);obtain ⟨p0,pf0⟩:=cellsK (keep_ext hE G0);obtain ⟨p1,pf1⟩:=cellsK (keep_ext hE G1));go_simp;first | done | rfl
    simp only [Act.put,slA,slB,slC]
    refine Rob.y (v:=?_) rfl rfl (fun w1 hx hH=>?_) ?_;rotate_left
    ·go_simp;first | done | rfl | exact (Bool.not_not _).symm
    simp only [Act.put,slA,slB,slC]
    refine Rob.cv (.int .i64 y) rfl rfl rfl (fun _ _=>ext_trans) (fun w1 hx hH=>?_) (fun lo4 hi4 hlo4 hhi4=>?_)
    ·unfold RunTo;go_simp;exact (hra _ (ext_trans hx2 hx)).mono fun e w' h=>h.to
    simp only [Act.put,slA,slB,slC]
    refine fin_tail (fun w3 hx3 _=>?_)
    simp only [dstOf,List.getElem?_cons_succ,List.getElem?_cons_zero,Option.bind_some,Act.put,slA,slB,slC,List.filterMap_cons,List.filterMap_nil]
    have X3:=ext_trans hx2 hx3
    replace G0:=keep_ext hx3 G0
    replace G1:=keep_ext hx3 G1
    replace G2:=keep_ext hx3 G2
    have hcall:=hset y w3 X3
    rw [← hst] at hcall
    clear g0 gf0 g1 gf1 g2 gf2 hrc hra hset hst
    obtain ⟨g1,gf1⟩:=cellsK G1
    go_wp2_with (go_at_call 105;refine hcall.mono ?_;rintro e4 w4 ⟨rfl,hC4,hO4⟩;have hC5:=(hC.trans (Chg.of_ext X3)).trans hC4;replace G0:=hC4.keep G0 (HNB.out _ (by omega));replace G1:=hC4.keep G1 (HNB.out _ (by omega));replace G2:=hC4.keep G2 (HNB.out _ (by omega));have HC5:=Lib.hid hC5;have HO5:=Lib.hid hO4;clear hC5 hC4 hO4 g1 gf1;obtain ⟨g1,gf1⟩:=cellsK G1)
    go_roundw
    case rel =>
     refine ⟨k + 1,t2,by omega,by go_num,?_,?_,hP2,HR,?_,?_,?_⟩
     ·have hc:=HC5.out
      ((repeat (first | with_reducible (refine Chg.set2 ?_ ?_);focus (exact Or.inr (by dsimp only;omega)) | with_reducible refine Chg.alloc2 ?_));with_reducible exact hc)
     ·have ho:=HO5.out
      ((repeat (first | (with_reducible apply OwnS.set2;focus (exact HNB.out _ (by dsimp only;omega))) | with_reducible apply OwnS.alloc2));with_reducible exact ho)
     ·exact (by (repeat (first | with_reducible apply hg_here | (with_reducible apply hg_set;focus (dsimp only;omega)) | with_reducible apply hg_alloc));with_reducible exact G0)
     ·refine hgo (by (repeat (first | with_reducible apply hg_here | (with_reducible apply hg_set;focus (dsimp only;omega)) | with_reducible apply hg_alloc));with_reducible exact G1) ?_
      rfl
     ·exact (by (repeat (first | with_reducible apply hg_here | (with_reducible apply hg_set;focus (dsimp only;omega)) | with_reducible apply hg_alloc));with_reducible exact G2)
    case measure=>simp [intOf];omega
  ·obtain rfl : k = 6:=by omega
   have hr:=HR.out
   rw [List.drop_eq_nil_of_le (by simp [addrs6])] at hr
   have hr : t = sameV fr s:=hr
   go_wp2_with fail
   refine bodyPost_ret (v:=sv c) (by simp [results,Tryz.results63,go_sem,g2,gf2]) rfl ⟨rfl,?_,?_⟩
   ·((repeat (first | with_reducible (refine Chg.set2 ?_ ?_);focus (exact Or.inr (by dsimp only;omega)) | with_reducible refine Chg.alloc2 ?_));with_reducible exact hC)
   ·rw [← hr]
    ((repeat (first | (with_reducible apply OwnS.set2;focus (exact HNB.out _ (by dsimp only;omega))) | with_reducible apply OwnS.alloc2));with_reducible exact hO)
end Go.Bu
namespace Go.Bu
open Go Go.RowKit Go.Plan Go.Proofs
set_option maxHeartbeats 1000000 in
theorem markIntS_c (v : Value) (ps : List Int) (b : Nat) (x : Int) (w : World) (h : OwnInts w v ps b) (hn : ps.length ≤ 1048576) (hx0 : 0 ≤ x) (hx1 : x ≤ 1152921504606846976) :
  Calls Tryz.prog 100 #[v,.int .i64 x] w (fun e w'=>e = .returned (.int .i64 (x + ps.length)) ∧ Chg [b] w w' ∧ ∃ qs,OwnInts w' v qs b ∧ qs.length = ps.length ∧ ∀ i : Nat,i < ps.length → qs[i]? = some (x + i)):=by
 obtain ⟨T,o,cap,rfl,hA⟩:=h
 go_enter Tryz.func100,Tryz.ntmps100
 go_wp2
 go_loopw [1,5] (fun y i wr=>∃ (k : Nat) (qs : List Int),k ≤ ps.length ∧ i = .int .i64 k ∧ y = .int .i64 (x + k) ∧ Chg [b] w wr ∧ OwnAt 1 intC T wr b o qs ∧ qs.length = ps.length ∧ ∀ i : Nat,i < k → qs[i]? = some (x + i)) (fun _ i _=>ps.length - (intOf i).toNat)
 case atStart=>exact ⟨0,ps,Nat.zero_le _,rfl,by simp,Chg.refl _ _,hA,rfl,fun i hi=>absurd hi (Nat.not_lt_zero _)⟩
 case round =>
  obtain ⟨k,qs,hk,rfl,rfl,hC,hO,hl,hq⟩:=hrel
  have HQ:=Lib.hid hq;clear hq
  by_cases hlt : k < ps.length
  ·have e0:=hO.one (k:=k) (by omega)
   have ef:=hO.frozen
   have hS:=OwnAt.set (n:=1) (enc:=intC) (fun _=>rfl) (by omega) hO (k:=k) (by omega) (x + k)
   simp only [Nat.mul_one] at hS
   have HS:=Lib.hid hS;clear hS
   go_wp2
   refine ⟨⟨k + 1,qs.set k (x + k),by omega,by go_num,congrArg (Value.int .i64) (by omega),hC.set (.inl (by simp)) _,HS.out,by rw [List.length_set];exact hl,fun i hi=>?_⟩,by simp [intOf];omega⟩
   by_cases hik : i = k
   ·subst hik;rw [List.getElem?_set_self (by omega)]
   ·rw [List.getElem?_set_ne (Ne.symm hik)];exact HQ.out i (by omega)
  ·obtain rfl : k = ps.length:=by omega
   go_wp2
   go_ret
   exact ⟨rfl,hC,qs,⟨T,o,cap,by rw [hl],hO⟩,hl,HQ.out⟩
set_option maxHeartbeats 1000000 in
theorem heldIntS_c (v : Value) (ps : List Int) (b : Nat) (x : Int) (w : World) (h : OwnInts w v ps b) (hn : ps.length ≤ 1048576) (hx0 : 0 ≤ x) (hx1 : x ≤ 1000000000) (hq : ∀ i : Nat,i < ps.length → ps[i]? = some (x + i)) :
  Calls Tryz.prog 102 #[v,.int .i64 x] w (Ret w (.int .i64 (x + ps.length))):=by
 obtain ⟨T,o,cap,rfl,hA⟩:=h
 have HQ:=Lib.hid hq;clear hq
 go_enter Tryz.func102,Tryz.ntmps102
 go_wp2
 go_loop [1,5] (fun y i=>∃ (k : Nat),k ≤ ps.length ∧ i = .int .i64 k ∧ y = .int .i64 (x + k)) (fun _ i=>ps.length - (intOf i).toNat)
 case atStart=>exact ⟨0,Nat.zero_le _,rfl,by simp⟩
 case round =>
  obtain ⟨k,hk,rfl,rfl⟩:=hrel
  by_cases hlt : k < ps.length
  ·have e0:=hA.one (k:=k) hlt
   have hp : ps[k] = x + k:=by have:=HQ.out k hlt;rw [List.getElem?_eq_getElem hlt] at this;exact Option.some.inj this
   rw [hp] at e0
   clear hp
   go_wp2
   refine ⟨⟨k + 1,by omega,by go_num,congrArg (Value.int .i64) (by omega)⟩,by simp [intOf];omega⟩
  ·obtain rfl : k = ps.length:=by omega
   go_wp2
   go_ret
   exact ⟨rfl,ext_refl _⟩
structure Shape4 (s : Store) : Prop where
 flash : s.flash.length = 4
 pages : ∀ b ∈ s.flash,b.pages.length = 4
 disk : s.disk.length = 6
structure Marked (s : Store) (x : Int) : Prop where
 len : s.flash.length = 4
 flash : ∀ i : Nat,i < 4 → s.flash[i]? = some (mkBlock (x + 21 * i))
 disk : s.disk.length = 6
 ints : ∀ i : Nat,i < 6 → s.disk[i]? = some (x + 84 + i)
theorem markStore_c (f d : Value) (s : Store) (L : List Nat) (x : Int) (w : World) (h : OwnStore w f d s L) (hnd : L.Nodup) (hs : Shape4 s) (hx0 : 0 ≤ x) (hx1 : x ≤ 100000) :
  Calls Tryz.prog 58 #[.agg #[f,d],.int .i64 x] w (fun e w'=>e = .returned (.int .i64 (x + 90)) ∧ Chg L w w' ∧ ∃ t,OwnStore w' f d t L ∧ Marked t x):=by
 obtain ⟨B,bs,D,rfl,hF,hD⟩:=h
 have hlt:=hF.lt
 have hDn : D ∉ B :: bs:=by
  rw [List.nodup_append] at hnd
  exact fun hm=>hnd.2.2 D hm D (by simp) rfl
 have hn1 : (B :: bs).Nodup:=(List.nodup_append.1 hnd).1
 go_enter Tryz.func58,Tryz.ntmps58
 go_wp2_with fail
 refine (markBlockS_c f s.flash B bs x _ (hF.ext (ext_alloc (ext_refl _) _)) hn1 (by rw [hs.flash];omega) hs.pages hx0 (by omega)).mono ?_;rintro e1 w1 ⟨rfl,hc1,gs,hO1,hl1,hq1⟩
 rw [hs.flash] at hl1 hq1 ⊢
 have G0:=hc1.keep (alloc_get_new rfl) (fun hm=>absurd (hlt _ hm) (Nat.lt_irrefl _))
 have hD1 : OwnInts w1 d s.disk D:=(hD.ext (ext_alloc (ext_refl _) _)).chg hc1 hDn
 have g0 : w1.cell? ⟨w.heap.size,0,none⟩ = some f:=by rw [cell_block G0];rfl
 have g1 : w1.cell? ⟨w.heap.size,1,none⟩ = some d:=by rw [cell_block G0];rfl
 have C1 : Chg (B :: bs ++ [D]) w w1:=((Chg.refl _ w).alloc _).trans (hc1.mono fun b hb=>List.mem_append_left _ hb)
 clear hc1 G0
 go_wp2_with fail
 refine (markIntS_c d s.disk D _ _ hD1 (by rw [hs.disk];omega) (by omega) (by omega)).mono ?_;rintro e2 w2 ⟨rfl,hc2,ds,hO2,hl2,hq2⟩
 rw [hs.disk] at hl2 hq2 ⊢
 have hF2:=hO1.chg hc2 (fun b hb hm=>hDn (by rw [List.mem_singleton] at hm;rw [← hm];exact hb))
 go_wp2_with fail
 go_ret
 refine ⟨congrArg (fun z=>Ending.returned (.int .i64 z)) (by omega),C1.trans (hc2.mono (by simp)),⟨gs,ds⟩,⟨B,bs,D,rfl,hF2,hO2⟩,hl1,hq1,hl2,fun i hi=>?_⟩
 rw [hq2 i hi]
theorem heldStore_c (f d : Value) (s : Store) (L : List Nat) (x : Int) (w : World) (h : OwnStore w f d s L) (hs : Marked s x) (hx0 : 0 ≤ x) (hx1 : x ≤ 100000) :
  Calls Tryz.prog 59 #[.agg #[f,d],.int .i64 x] w (Ret w (.int .i64 (x + 90))):=by
 obtain ⟨B,bs,D,rfl,hF,hD⟩:=h
 go_enter Tryz.func59,Tryz.ntmps59
 go_wp2_with fail
 refine (heldBlockS_c f s.flash B bs x _ (hF.ext (ext_alloc (ext_refl _) _)) (by rw [hs.len];omega) hx0 (by omega) (by rw [hs.len];exact hs.flash)).mono ?_;rintro e1 w1 ⟨rfl,hx1⟩
 rw [hs.len]
 obtain ⟨hc,hf,hz,hX⟩:=after1 hx1
 go_wp2_with fail
 refine (heldIntS_c d s.disk D _ _ (hD.ext hX) (by rw [hs.disk];omega) (by omega) (by omega) (by rw [hs.disk];intro i hi;rw [hs.ints i hi])).mono ?_;rintro e2 w2 ⟨rfl,hx2⟩
 rw [hs.disk]
 go_wp2_with fail
 go_ret
 exact ⟨congrArg (fun z=>Ending.returned (.int .i64 z)) (by omega),ext_trans hX hx2⟩
theorem markPair_c (f d g e : Value) (n : Int) (s t : Store) (L K : List Nat) (x : Int) (w : World) (h : OwnStore w f d s L) (h2 : OwnStore w g e t K) (hnd : (L ++ K).Nodup) (hs : Shape4 s) (ht : Shape4 t) (hx0 : 0 ≤ x) (hx1 : x ≤ 10000) :
  Calls Tryz.prog 28 #[.agg #[f,d,g,e,.int .i64 n],.int .i64 x] w (fun r w'=>r = .returned (.int .i64 (x + 180)) ∧ Chg (L ++ K) w w' ∧ ∃ s' t',OwnStore w' f d s' L ∧ OwnStore w' g e t' K ∧ Marked s' x ∧ Marked t' (x + 90)):=by
 have hlt:=h.lt
 have hap : ∀ b ∈ K,b ∉ L:=fun b hb hm=>(List.nodup_append.1 hnd).2.2 b hm b hb rfl
 go_enter Tryz.func28,Tryz.ntmps28
 go_wp2_with fail
 refine (markStore_c f d s L x _ (h.ext (ext_alloc (ext_refl _) _)) (List.nodup_append.1 hnd).1 hs hx0 (by omega)).mono ?_;rintro e1 w1 ⟨rfl,hc1,s',hO1,hM1⟩
 have G0:=hc1.keep (alloc_get_new rfl) (fun hm=>absurd (hlt _ hm) (Nat.lt_irrefl _))
 have g2 : w1.cell? ⟨w.heap.size,2,none⟩ = some g:=by rw [cell_block G0];rfl
 have g3 : w1.cell? ⟨w.heap.size,3,none⟩ = some e:=by rw [cell_block G0];rfl
 have hD1 : OwnStore w1 g e t K:=(h2.ext (ext_alloc (ext_refl _) _)).chg hc1 hap
 have C1 : Chg (L ++ K) w w1:=((Chg.refl _ w).alloc _).trans (hc1.mono fun b hb=>List.mem_append_left _ hb)
 clear hc1 G0
 go_wp2_with fail
 refine (markStore_c g e t K _ _ hD1 (List.nodup_append.1 hnd).2.1 ht (by omega) (by omega)).mono ?_;rintro e2 w2 ⟨rfl,hc2,t',hO2,hM2⟩
 have hF2:=hO1.chg hc2 (fun b hb hm=>hap b hm hb)
 go_wp2_with fail
 go_ret
 exact ⟨congrArg (fun z=>Ending.returned (.int .i64 z)) (by omega),C1.trans (hc2.mono fun b hb=>List.mem_append_right _ hb),s',t',hF2,hO2,hM1,hM2⟩
theorem heldPair_c (f d g e : Value) (n : Int) (s t : Store) (L K : List Nat) (x : Int) (w : World) (h : OwnStore w f d s L) (h2 : OwnStore w g e t K) (hs : Marked s x) (ht : Marked t (x + 90)) (hx0 : 0 ≤ x) (hx1 : x ≤ 10000) :
  Calls Tryz.prog 29 #[.agg #[f,d,g,e,.int .i64 n],.int .i64 x] w (Ret w (.int .i64 (x + 180))):=by
 go_enter Tryz.func29,Tryz.ntmps29
 go_wp2_with fail
 refine (heldStore_c f d s L x _ (h.ext (ext_alloc (ext_refl _) _)) hs hx0 (by omega)).mono ?_;rintro e1 w1 ⟨rfl,hx1⟩
 obtain ⟨hc,hf,hz,hX⟩:=after1 hx1
 go_wp2_with fail
 refine (heldStore_c g e t K _ _ (h2.ext hX) ht (by omega) (by omega)).mono ?_;rintro e2 w2 ⟨rfl,hx2⟩
 go_wp2_with fail
 go_ret
 exact ⟨congrArg (fun z=>Ending.returned (.int .i64 z)) (by omega),ext_trans hX hx2⟩
end Go.Bu
namespace Go.Bu
open Go Go.RowKit Go.Plan Go.Proofs
abbrev twV (b1 b2 : Nat) (l : Int) : Value:=.agg #[.pointer (some ⟨b1,0,none⟩),.pointer (some ⟨b2,0,none⟩),.int .i64 l]
abbrev slV (a : Option Addr) (n c : Nat) : Value:=.slice a n c
theorem first_c (b1 b2 : Nat) (l : Int) (f d : Value) (T : Nat) (w : World) (hf : ∃ a n c,f = .slice a n c) (hd : ∃ a n c,d = .slice a n c) (G : w.heap[b1]? = some (.cells #[f,d] T (0,0))) :
  Calls Tryz.prog 61 #[twV b1 b2 l] w (Ret w (.agg #[f,d])):=by
 obtain ⟨a1,n1,c1,rfl⟩:=hf
 obtain ⟨a2,n2,c2,rfl⟩:=hd
 obtain ⟨g0,gf0⟩:=cellsK G
 have l0:=heap_lt G
 go_enter Tryz.func61,Tryz.ntmps61
 go_wp2
 refine bodyPost_ret (v:=.agg #[.slice a1 n1 c1,.slice a2 n2 c2]) (by simp [results,Tryz.results61,go_sem]) rfl ?_
 exact ⟨rfl,by go_grown⟩
theorem other_c (b1 b2 : Nat) (l : Int) (f d : Value) (T : Nat) (w : World) (hf : ∃ a n c,f = .slice a n c) (hd : ∃ a n c,d = .slice a n c) (G : w.heap[b2]? = some (.cells #[f,d] T (0,0))) :
  Calls Tryz.prog 62 #[twV b1 b2 l] w (Ret w (.agg #[f,d])):=by
 obtain ⟨a1,n1,c1,rfl⟩:=hf
 obtain ⟨a2,n2,c2,rfl⟩:=hd
 obtain ⟨g0,gf0⟩:=cellsK G
 have l0:=heap_lt G
 go_enter Tryz.func62,Tryz.ntmps62
 go_wp2
 refine bodyPost_ret (v:=.agg #[.slice a1 n1 c1,.slice a2 n2 c2]) (by simp [results,Tryz.results62,go_sem]) rfl ?_
 exact ⟨rfl,by go_grown⟩
def SetΦ (w : World) (b T : Nat) (f d : Value) (e : Ending) (w' : World) : Prop:=e = .returned (.tuple #[]) ∧ Chg [b] w w' ∧ w'.heap[b]? = some (.cells #[f,d] T (0,0))
theorem setFirst_c (b1 b2 : Nat) (l : Int) (f d u0 u1 : Value) (T : Nat) (w : World) (hf : ∃ a n c,f = .slice a n c) (hd : ∃ a n c,d = .slice a n c) (G : w.heap[b1]? = some (.cells #[u0,u1] T (0,0))) :
  Calls Tryz.prog 38 #[twV b1 b2 l,.agg #[f,d]] w (SetΦ w b1 T f d):=by
 obtain ⟨a1,n1,c1,rfl⟩:=hf
 obtain ⟨a2,n2,c2,rfl⟩:=hd
 obtain ⟨g0,gf0⟩:=cellsK G
 have l0:=heap_lt G
 go_enter Tryz.func38,Tryz.ntmps38
 go_wp2
 go_end0
 exact ⟨rfl,(((Chg.refl _ _).set (.inl (by simp)) _).set (.inl (by simp)) _).alloc _ |>.alloc _,hg_alloc (hg_alloc (hgo (hg_here (hg_here G)) rfl))⟩
theorem setOther_c (b1 b2 : Nat) (l : Int) (f d u0 u1 : Value) (T : Nat) (w : World) (hf : ∃ a n c,f = .slice a n c) (hd : ∃ a n c,d = .slice a n c) (G : w.heap[b2]? = some (.cells #[u0,u1] T (0,0))) :
  Calls Tryz.prog 39 #[twV b1 b2 l,.agg #[f,d]] w (SetΦ w b2 T f d):=by
 obtain ⟨a1,n1,c1,rfl⟩:=hf
 obtain ⟨a2,n2,c2,rfl⟩:=hd
 obtain ⟨g0,gf0⟩:=cellsK G
 have l0:=heap_lt G
 go_enter Tryz.func39,Tryz.ntmps39
 go_wp2
 go_end0
 exact ⟨rfl,(((Chg.refl _ _).set (.inl (by simp)) _).set (.inl (by simp)) _).alloc _ |>.alloc _,hg_alloc (hg_alloc (hgo (hg_here (hg_here G)) rfl))⟩
theorem twPair_c (b1 b2 : Nat) (l : Int) (f d g e : Value) (T1 T2 : Nat) (w : World) (hf : ∃ a n c,f = .slice a n c) (hd : ∃ a n c,d = .slice a n c) (hg : ∃ a n c,g = .slice a n c) (he : ∃ a n c,e = .slice a n c)
  (G : w.heap[b1]? = some (.cells #[f,d] T1 (0,0))) (G' : w.heap[b2]? = some (.cells #[g,e] T2 (0,0))) :
  Calls Tryz.prog 40 #[twV b1 b2 l] w (Ret w (.agg #[f,d,g,e,.int .i64 l])):=by
 have hC1:=fun (w' : World) (hx : Ext w w')=>first_c b1 b2 l f d T1 w' hf hd (keep_ext hx G)
 have hC2:=fun (w' : World) (hx : Ext w w')=>other_c b1 b2 l g e T2 w' hg he (keep_ext hx G')
 obtain ⟨a1,n1,c1,rfl⟩:=hf
 obtain ⟨a2,n2,c2,rfl⟩:=hd
 obtain ⟨a3,n3,c3,rfl⟩:=hg
 obtain ⟨a4,n4,c4,rfl⟩:=he
 have G0 : (w.alloc (.cells #[.pointer (some ⟨b1,0,none⟩),.pointer (some ⟨b2,0,none⟩),.int .i64 l] 66)).heap[w.heap.size]? = some (.cells #[.pointer (some ⟨b1,0,none⟩),.pointer (some ⟨b2,0,none⟩),.int .i64 l] 66 (0,0)):=hg_new rfl
 have XA : ∀ o1 o2,Ext w ((w.alloc o1).alloc o2):=fun _ _=>ext_alloc (ext_alloc (ext_refl _) _) _
 go_enter Tryz.func40,Tryz.ntmps40
 go_wp2_with fail
 refine wp_region_ext [1,3] [0,2,4,5,1,3,6] [] [7] (by kernel_rfl) (by kernel_rfl) ?late ?_
 case late=>exact fun f hf=>absurd hf List.not_mem_nil
 iterate 2
  refine Rob.y (v:=?_) rfl rfl (fun w1 hx hH=>?_) ?_;rotate_left
  ·(have hE : Ext _ w1:=(by first | exact hx | exact hx.1);obtain ⟨g0,gf0⟩:=cellsK (keep_ext hE (hg_alloc G0)));go_simp;first | done | rfl
  simp only [Act.put,slA,slB,slC]
 refine Rob.y (v:=?_) rfl rfl (fun w1 hx hH=>?_) ?_;rotate_left
 ·go_simp;first | done | rfl | exact (Bool.not_not _).symm
 simp only [Act.put,slA,slB,slC]
 refine Rob.y (v:=?_) rfl rfl (fun w1 hx hH=>?_) ?_;rotate_left
 ·(have hE : Ext _ w1:=(by first | exact hx | exact hx.1);obtain ⟨g0,gf0⟩:=cellsK (keep_ext hE (hg_alloc G0)));go_simp;first | done | rfl
 simp only [Act.put,slA,slB,slC]
 refine Rob.cv (.agg #[.slice a1 n1 c1,.slice a2 n2 c2]) rfl rfl rfl (fun _ _=>ext_trans) (fun w1 hx hH=>?_) (fun lo1 hi1 hlo1 hhi1=>?_)
 ·unfold RunTo;go_simp;exact (hC1 _ (ext_trans (XA _ _) hx)).mono fun e w' h=>h.to
 simp only [Act.put,slA,slB,slC]
 refine Rob.cv (.agg #[.slice a3 n3 c3,.slice a4 n4 c4]) rfl rfl rfl (fun _ _=>ext_trans) (fun w1 hx hH=>?_) (fun lo3 hi3 hlo3 hhi3=>?_)
 ·unfold RunTo;go_simp;exact (hC2 _ (ext_trans (XA _ _) hx)).mono fun e w' h=>h.to
 simp only [Act.put,slA,slB,slC]
 refine Rob.y (v:=?_) rfl rfl (fun w1 hx hH=>?_) ?_;rotate_left
 ·go_simp;first | done | rfl | exact (Bool.not_not _).symm
 simp only [Act.put,slA,slB,slC]
 refine fin_tail (fun w3 hx3 _=>?_)
 simp only [dstOf,List.getElem?_cons_succ,List.getElem?_cons_zero,Option.bind_some,Act.put,slA,slB,slC,List.filterMap_cons,List.filterMap_nil]
 have G1:=keep_ext hx3 (hg_new (b:=w.heap.size + 1) (by simp))
 obtain ⟨g1,gf1⟩:=cellsK G1
 have X3:=ext_trans (XA _ _) hx3
 clear hC1 hC2 G0 G G'
 go_wp2
 refine bodyPost_ret (v:=.agg #[.slice a1 n1 c1,.slice a2 n2 c2,.slice a3 n3 c3,.slice a4 n4 c4,.int .i64 l]) (by simp [results,Tryz.results40,go_sem,g1,gf1]) rfl ⟨rfl,?_⟩
 ((repeat (first | with_reducible (refine ext_set2 ?_ ?_);focus (first | exact Nat.le_refl _ | (dsimp only;omega) | (simp;omega)) | with_reducible refine ext_alloc2 ?_));with_reducible exact X3)
def Tw (base : Nat) (w : World) (v : Value) (s t : Store) (l : Int) : Prop:=∃ b1 b2 f d g e L K T1 T2,v = twV b1 b2 l ∧ w.heap[b1]? = some (.cells #[f,d] T1 (0,0)) ∧ w.heap[b2]? = some (.cells #[g,e] T2 (0,0)) ∧ OwnStore w f d s L ∧ OwnStore w g e t K ∧ (b1 :: b2 :: (L ++ K)).Nodup ∧ ∀ b ∈ b1 :: b2 :: (L ++ K),base ≤ b
def TwTo (w : World) (p : Pair) (e : Ending) (w' : World) : Prop:=∃ v,e = .returned v ∧ Ext w w' ∧ Tw w.heap.size w' v p.A p.B p.lost
theorem StoreCp.to {w w' : World} {s : Store} {e : Ending} (h : StoreCp w s e w') : ∃ v,e = .returned v ∧ RetC w (StoreM s) v w':=by
 obtain ⟨f,d,L,he,hx,ho,hn,hb⟩:=h
 exact ⟨_,he,hx,f,d,L,rfl,ho,hn,fun b hm=>⟨hb b hm,ho.lt b hm⟩⟩
set_option maxRecDepth 20000 in
set_option maxHeartbeats 2000000 in
theorem twinsOf_c (f d g e : Value) (p : Pair) (w : World) (hA : StoreV w f d p.A) (hB : StoreV w g e p.B) (hsA : Shape4 p.A) (hsB : Shape4 p.B) :
  Calls Tryz.prog 37 #[.agg #[f,d,g,e,.int .i64 p.lost]] w (TwTo w p):=by
 have hC1:=fun (w' : World) (hx : Ext w w')=>storeCopy_c f d p.A w' (hA.ext hx) hsA.flash hsA.pages hsA.disk
 have hC2:=fun (w' : World) (hx : Ext w w')=>storeCopy_c g e p.B w' (hB.ext hx) hsB.flash hsB.pages hsB.disk
 obtain ⟨a1,n1,rfl⟩:=hA.1.form
 obtain ⟨a2,n2,rfl⟩:=hA.2.form
 obtain ⟨a3,n3,rfl⟩:=hB.1.form
 obtain ⟨a4,n4,rfl⟩:=hB.2.form
 clear hA hB hsA hsB
 have XA : ∀ o1 o2,Ext w ((w.alloc o1).alloc o2):=fun _ _=>ext_alloc (ext_alloc (ext_refl _) _) _
 have G0 : (w.alloc (.cells #[.slice a1 p.A.flash.length n1,.slice a2 p.A.disk.length n2,.slice a3 p.B.flash.length n3,.slice a4 p.B.disk.length n4,.int .i64 p.lost] 28)).heap[w.heap.size]? = some (.cells #[.slice a1 p.A.flash.length n1,.slice a2 p.A.disk.length n2,.slice a3 p.B.flash.length n3,.slice a4 p.B.disk.length n4,.int .i64 p.lost] 28 (0,0)):=hg_new rfl
 go_enter Tryz.func37,Tryz.ntmps37
 go_wp2_with fail
 refine wp_region_ext [2,5] [0,1,3,4,2,5] [(6,.cells #[.slice none 0 0,.slice none 0 0] 100,fun b=>.pointer (some ⟨b,0,none⟩)),(7,.cells #[.slice none 0 0,.slice none 0 0] 101,fun b=>.pointer (some ⟨b,0,none⟩))] [8,9] (by kernel_rfl) (by kernel_rfl) ?late ?_
 case late =>
  intro f hf
  simp only [List.mem_cons,List.not_mem_nil,or_false] at hf
  rcases hf with rfl | rfl
  all_goals (refine ⟨_,rfl,fun a w=>?_⟩;go_simp)
 refine Rob.y (v:=?_) rfl rfl (fun w1 hx hH=>?_) ?_;rotate_left
 ·go_simp;first | done | rfl | exact (Bool.not_not _).symm
 simp only [Act.put,slA,slB,slC]
 refine Rob.y (v:=?_) rfl rfl (fun w1 hx hH=>?_) ?_;rotate_left
 ·(have hE : Ext _ w1:=(by first | exact hx | exact hx.1 | exact hx.1.1);obtain ⟨g0,gf0⟩:=cellsK (keep_ext hE (hg_alloc G0)));go_simp;first | done | rfl
 simp only [Act.put,slA,slB,slC]
 refine Rob.y (v:=?_) rfl rfl (fun w1 hx hH=>?_) ?_;rotate_left
 ·go_simp;first | done | rfl | exact (Bool.not_not _).symm
 simp only [Act.put,slA,slB,slC]
 refine Rob.y (v:=?_) rfl rfl (fun w1 hx hH=>?_) ?_;rotate_left
 ·(have hE : Ext _ w1:=(by first | exact hx | exact hx.1 | exact hx.1.1);obtain ⟨g0,gf0⟩:=cellsK (keep_ext hE (hg_alloc G0)));go_simp;first | done | rfl
 simp only [Act.put,slA,slB,slC]
 refine Rob.c (StoreM p.A) rfl rfl rfl (fun _ _=>(by (first | exact ext_trans | exact fun h k=>⟨ext_trans h.1 k,h.2.ext k⟩))) (fun _ _ _ _ _=>fun h hx=>h.ext hx) (fun w1 hx hH=>?_) (fun lo2 hi2 v2 hlo2 hhi2 hv2=>?_)
 ·unfold RunTo;go_simp;exact ((hC1 _ (ext_trans (XA _ _) hx))).mono fun e w' h=>h.to
 simp only [Act.put,slA,slB,slC]
 obtain ⟨_,hv2⟩:=hv2
 obtain ⟨b1,m1,c1,b2,m2,c2,rfl⟩:=hv2.forms
 refine Rob.c (StoreM p.B) rfl rfl rfl (fun _ _=>(by (first | exact ext_trans | exact fun h k=>⟨ext_trans h.1 k,h.2.ext k⟩))) (fun _ _ _ _ _=>fun h hx=>h.ext hx) (fun w1 hx hH=>?_) (fun lo5 hi5 v5 hlo5 hhi5 hv5=>?_)
 ·unfold RunTo;go_simp;exact ((hC2 _ (ext_trans (XA _ _) hx.1))).mono fun e w' h=>h.to
 simp only [Act.put,slA,slB,slC]
 obtain ⟨_,hv5⟩:=hv5
 obtain ⟨b3,m3,c3,b4,m4,c4,rfl⟩:=hv5.forms
 refine fin_two (by decide) (fun w3 q1 q2 hx3 hH hq1 ht1 ho1 hr1 hq2 ht2 ho2 hr2 hne=>?_)
 simp only [dstOf,List.getElem?_cons_succ,List.getElem?_cons_zero,Option.bind_some,Act.put,slA,slB,slC,List.filterMap_cons,List.filterMap_nil]
 obtain ⟨⟨hx3,hM1⟩,hM2⟩:=hx3
 obtain ⟨L,hO1,hn1,hb1⟩:=hM1.own
 obtain ⟨K,hO2,hn2,hb2⟩:=hM2.own
 have X3:=ext_trans (XA _ _) hx3
 replace G0:=keep_ext hx3 (hg_alloc G0)
 have G1:=keep_ext hx3 (hg_new (b:=w.heap.size + 1) (by simp))
 simp at hlo2 hq1 hq2 hr1 hr2
 obtain ⟨z0,zf0⟩:=cellsK G0
 obtain ⟨z1,zf1⟩:=cellsK G1
 obtain ⟨k1,kf1⟩:=cellsK ho1
 obtain ⟨k2,kf2⟩:=cellsK ho2
 have HO1:=Lib.hid hO1
 have HO2:=Lib.hid hO2
 have HN : Hid ((q1 :: q2 :: (L ++ K)).Nodup):=Lib.hid (by
  have e1 : ∀ b ∈ L ++ K,(lo2 ≤ b ∧ b < hi2) ∨ (lo5 ≤ b ∧ b < hi5):=fun b hb=>(List.mem_append.1 hb).imp (hb1 b) (hb2 b)
  refine List.nodup_cons.2 ⟨fun hm=>?_,List.nodup_cons.2 ⟨fun hm=>?_,List.nodup_append.2 ⟨hn1,hn2,fun x hx y hy e=>?_⟩⟩⟩
  ·rcases List.mem_cons.1 hm with h | h
   ·exact hne h
   ·have:=e1 _ h;omega
  ·have:=e1 _ hm;omega
  ·have:=hb1 x hx;have:=hb2 y hy;omega)
 have HB : Hid (∀ b ∈ L ++ K,w.heap.size + 2 ≤ b ∧ b ≠ q1 ∧ b ≠ q2):=Lib.hid (fun b hb=>by
  have : (lo2 ≤ b ∧ b < hi2) ∨ (lo5 ≤ b ∧ b < hi5):=(List.mem_append.1 hb).imp (hb1 b) (hb2 b)
  omega)
 clear hC1 hC2 hM1 hM2 hO1 hO2 hn1 hn2 hb1 hb2 hx3 hv2 hv5 hr1 hr2
 go_wp2
 refine bodyPost_ret (v:=twV q1 q2 p.lost) (by simp [results,Tryz.results37,go_sem,z1,zf1]) rfl ⟨_,rfl,?_,q1,q2,.slice b1 m1 c1,.slice b2 m2 c2,.slice b3 m3 c3,.slice b4 m4 c4,L,K,100,101,rfl,?_,?_,?_,?_,HN.out,?_⟩
 ·((repeat (first | with_reducible (refine ext_set2 ?_ ?_);focus (first | exact Nat.le_refl _ | (dsimp only;omega) | (simp;omega)) | with_reducible refine ext_alloc2 ?_));with_reducible exact X3)
 ·exact hg_set (by dsimp only;omega) (hg_set (by dsimp only;omega) (hg_set (by dsimp only;omega) (hg_set (by exact hne) (hg_set (by exact hne) (hgo (hg_here (hg_here ho1)) rfl)))))
 ·exact hg_set (by dsimp only;omega) (hg_set (by dsimp only;omega) (hg_set (by dsimp only;omega) (hgo (hg_here (hg_here (hg_set (by exact Ne.symm hne) (hg_set (by exact Ne.symm hne) ho2)))) rfl)))
 ·refine HO1.out.keep fun b hb=>?_
  have:=HB.out b (List.mem_append_left _ hb)
  iterate 7 rw [setCell_other (by omega)]
 ·refine HO2.out.keep fun b hb=>?_
  have:=HB.out b (List.mem_append_right _ hb)
  iterate 7 rw [setCell_other (by omega)]
 ·intro b hb
  rcases List.mem_cons.1 hb with rfl | hb
  ·omega
  ·rcases List.mem_cons.1 hb with rfl | hb
   ·omega
   ·have:=HB.out b hb;omega
def pair0 : Pair:=⟨⟨[],[]⟩,⟨[],[]⟩,0⟩
def nilPair : Value:=.agg #[.slice none 0 0,.slice none 0 0,.slice none 0 0,.slice none 0 0,.int .i64 0]
def PairO (base : Nat) (w : World) (v : Value) (p : Pair) : Prop:=(v = nilPair ∧ p = pair0) ∨ ∃ f d g e L K,v = .agg #[f,d,g,e,.int .i64 p.lost] ∧ OwnStore w f d p.A L ∧ OwnStore w g e p.B K ∧ (L ++ K).Nodup ∧ (∀ b ∈ L ++ K,base ≤ b) ∧ Shape4 p.A ∧ Shape4 p.B
def PairΦ (w : World) (p : Pair) (e : Ending) (w' : World) : Prop:=∃ v,e = .returned v ∧ Ext w w' ∧ PairO w.heap.size w' v p
def pairLoseV (p : Pair) (which : Int) : Pair:=
 if pairOkB p = true ∧ 1 ≤ which ∧ which ≤ 2 then (if p.lost = 0 then (if which = 1 then ⟨newStore,p.B,1⟩ else ⟨p.A,newStore,2⟩) else p) else pair0
theorem storeOk_shape {s : Store} (h : storeOkB s = true) : Shape4 s:=
 ⟨flashOk_len (storeOk_flash h),fun b hb=>(flashOk_block (storeOk_flash h) hb).1,storeOk_disk h⟩
end Go.Bu
namespace Go.Bu
open Go Go.RowKit Go.Plan Go.Proofs
theorem StoreNews.to {w w' : World} {e : Ending} (h : StoreNews w e w') : ∃ v,e = .returned v ∧ RetC w (StoreM newStore) v w':=by
 obtain ⟨f,d,L,he,hx,ho,hn,hb⟩:=h
 exact ⟨_,he,hx,f,d,L,rfl,ho,hn,fun b hm=>⟨hb b hm,ho.lt b hm⟩⟩
theorem newShape4 : Shape4 newStore:=⟨rfl,by decide,rfl⟩
set_option maxRecDepth 20000 in
set_option maxHeartbeats 4000000 in
theorem implPairLose_c (f d g e : Value) (p : Pair) (which : Int) (w : World) (hA : StoreV w f d p.A) (hB : StoreV w g e p.B) (hsA : Small p.A) (hsB : Small p.B) :
  Calls Tryz.prog 22 #[.agg #[f,d,g,e,.int .i64 p.lost],.int .i64 which] w (PairΦ w (pairLoseV p which)):=by
 have hPO:=fun (w' : World) (hx : Ext w w')=>implPairOk_c f d g e p w' (hA.ext hx) (hB.ext hx) hsA.2.1 hsB.2.1 hsA.2.2 hsB.2.2
 rw [show (inB p.lost 0 2 && (storeOkB p.A && storeOkB p.B)) = pairOkB p from rfl] at hPO
 have hTW:=fun (w' : World) (hx : Ext w w') (h1 : Shape4 p.A) (h2 : Shape4 p.B)=>twinsOf_c f d g e p w' (hA.ext hx) (hB.ext hx) h1 h2
 unfold pairLoseV
 obtain ⟨a1,n1,rfl⟩:=hA.1.form
 obtain ⟨a2,n2,rfl⟩:=hA.2.form
 obtain ⟨a3,n3,rfl⟩:=hB.1.form
 obtain ⟨a4,n4,rfl⟩:=hB.2.form
 clear hA hB hsA hsB
 by_cases hok : pairOkB p = true
 ·obtain ⟨hl,hokA,hokB⟩:=pairOk_iff.1 hok
  have hSA:=storeOk_shape hokA
  have hSB:=storeOk_shape hokB
  have HSA:=Lib.hid hSA
  have HSB:=Lib.hid hSB
  have hTw:=fun (w' : World) (hx : Ext w w')=>hTW w' hx hSA hSB
  rw [hok] at hPO
  simp only [hok,true_and]
  clear hTW hok hokA hokB hSA hSB
  by_cases h1 : 1 ≤ which ∧ which ≤ 2
  ·rw [if_pos h1]
   obtain ⟨h1,h2⟩:=h1
   by_cases h0 : p.lost = 0
   ·rw [if_pos h0]
    rw [h0] at hTw hPO ⊢
    by_cases hw1 : which = 1
    ·subst hw1
     rw [if_pos rfl]
     go_enter Tryz.func22,Tryz.ntmps22
     go_wp2_with fail
     refine (hPO _ (ext_alloc (ext_alloc (ext_refl _) _) _)).mono ?_;rintro e1 w1 ⟨rfl,hx1⟩
     have X1:=ext_trans (ext_alloc (ext_alloc (ext_refl w) _) _) hx1
     have G0:=keep_ext hx1 (hg_alloc (hg_new (b:=w.heap.size) rfl))
     have G1:=keep_ext hx1 (hg_new (b:=w.heap.size + 1) (by simp))
     obtain ⟨g0,gf0⟩:=cellsK G0
     obtain ⟨g1,gf1⟩:=cellsK G1
     have lw2:=heap_lt G1
     clear hPO hx1
     go_wp2_with fail
     refine (hTw _ X1).mono ?_;rintro e2 w2 ⟨tv,rfl,hx2,b1,b2,f1,d1,g2,e2,L,K,T1,T2,rfl,H1,H2,hO1,hO2,hn,hb⟩
     have X2:=ext_trans X1 hx2
     have s1:=X1.size
     have sb1:=hb b1 (by simp)
     have sb2:=hb b2 (by simp)
     have l1:=heap_lt H1
     have l2:=heap_lt H2
     have hlL:=hO1.lt
     have hlK:=hO2.lt
     obtain ⟨q1,m1,c1,q2,m2,c2,rfl,rfl⟩:=hO1.forms
     obtain ⟨q3,m3,c3,q4,m4,c4,rfl,rfl⟩:=hO2.forms
     replace G1:=keep_ext hx2 G1
     have HO1:=Lib.hid hO1
     have HO2:=Lib.hid hO2
     have HN:=Lib.hid hn
     have HBb:=Lib.hid hb
     have HlL:=Lib.hid hlL
     have HlK:=Lib.hid hlK
     have lw1:=heap_lt G0
     clear G0 g0 gf0 g1 gf1 hTw hx2 hO1 hO2 hn hb hlL hlK
     obtain ⟨g1,gf1⟩:=cellsK G1
     have lg1:=heap_lt G1
     go_wp2_with fail
     have G5 : (w2.alloc (.cells #[.pointer (some ⟨b1,0,none⟩),.pointer (some ⟨b2,0,none⟩),.int .i64 1] 66)).heap[w2.heap.size]? = some (.cells #[.pointer (some ⟨b1,0,none⟩),.pointer (some ⟨b2,0,none⟩),.int .i64 1] 66 (0,0)):=hg_new rfl
     refine wp_region_ext [1] [0,1] [] [2] (by kernel_rfl) (by kernel_rfl) ?late ?_
     case late=>exact fun f hf=>absurd hf List.not_mem_nil
     refine Rob.y (v:=?_) rfl rfl (fun w1 hx hH=>?_) ?_;rotate_left
     ·(have hE : Ext _ w1:=(by first | exact hx | exact hx.1);obtain ⟨z5,zf5⟩:=cellsK (keep_ext hE G5));go_simp;first | done | rfl
     simp only [Act.put,slA,slB,slC]
     refine Rob.c (StoreM newStore) rfl rfl rfl (fun _ _=>ext_trans) (fun _ _ _ _ _=>fun h hx=>h.ext hx) (fun w1 hx hH=>?_) (fun lo1 hi1 v1 hlo1 hhi1 hv1=>?_)
     ·unfold RunTo;go_simp;exact (implStoreNew_c _).mono fun e w' h=>h.to
     simp only [Act.put,slA,slB,slC]
     obtain ⟨_,hv1⟩:=hv1
     obtain ⟨r1,k1,j1,r2,k2,j2,rfl⟩:=hv1.forms
     refine fin_tail (fun w3 hx3 _=>?_)
     simp only [dstOf,List.getElem?_cons_succ,List.getElem?_cons_zero,Option.bind_some,Act.put,slA,slB,slC,List.filterMap_cons,List.filterMap_nil]
     obtain ⟨hx3,hM⟩:=hx3
     obtain ⟨M,hOM,hnM,hbM⟩:=hM.own
     have X23 : Ext w2 w3:=ext_trans (ext_alloc (ext_refl _) _) hx3
     simp at hlo1
     have hne : b1 ≠ b2:=fun e=>(List.nodup_cons.1 HN.out).1 (by rw [e];simp)
     have HBM : Hid (∀ b ∈ M,w2.heap.size < b):=Lib.hid (fun b hb=>by have:=hbM b hb;omega)
     have HOM:=Lib.hid hOM
     have HNM:=Lib.hid hnM
     replace G5:=keep_ext hx3 G5
     replace G1:=keep_ext X23 G1
     replace H1:=keep_ext X23 H1
     replace H2:=keep_ext X23 H2
     have X3:=ext_trans X2 X23
     clear g1 gf1 hM hOM hnM hbM hx3 hv1
     obtain ⟨g5,gf5⟩:=cellsK G5
     have l5:=heap_lt G5
     go_wp2_with fail
     refine (setFirst_c b1 b2 1 _ _ _ _ T1 _ ⟨_,_,_,rfl⟩ ⟨_,_,_,rfl⟩ H1).mono ?_;rintro e4 w4 ⟨rfl,hC4,H4⟩
     have X4 : Ext w w4:=hC4.ext X3 (by simp;omega)
     replace G5:=hC4.keep G5 (by simp;omega)
     replace G1:=hC4.keep G1 (by simp;omega)
     replace H2:=hC4.keep H2 (by simp;omega)
     have hOM:=HOM.out.chg hC4 (fun b hb hm=>by have:=HBM.out b hb;simp at hm;omega)
     have hOO:=(HO2.out.ext X23).chg hC4 (fun b hb hm=>by
      simp at hm
      subst hm
      have hnd:=HN.out
      simp [hb] at hnd)
     have HOM2:=Lib.hid hOM
     have HOO:=Lib.hid hOO
     clear g5 gf5 hOM hOO HOM HO2 hC4
     obtain ⟨g5,gf5⟩:=cellsK G5
     have l5:=heap_lt G5
     go_wp2_with fail
     refine (twPair_c b1 b2 1 _ _ _ _ T1 T2 _ ⟨_,_,_,rfl⟩ ⟨_,_,_,rfl⟩ ⟨_,_,_,rfl⟩ ⟨_,_,_,rfl⟩ H4 H2).mono ?_;rintro e6 w6 ⟨rfl,hx6⟩
     have X6:=ext_trans X4 hx6
     replace G1:=keep_ext hx6 G1
     have hlM:=HOM2.out.lt
     have hOM3:=HOM2.out.ext hx6
     have hOO3:=HOO.out.ext hx6
     have HOM3:=Lib.hid hOM3
     have HOO3:=Lib.hid hOO3
     clear g5 gf5 HOM2 HOO hOM3 hOO3 hlM
     obtain ⟨g1,gf1⟩:=cellsK G1
     go_wp2_with fail
     refine bodyPost_ret (v:=.agg #[.slice r1 k1 j1,.slice r2 k2 j2,.slice q3 m3 c3,.slice q4 m4 c4,.int .i64 1]) (by simp [results,Tryz.results22,go_sem,g1,gf1]) rfl ⟨_,rfl,?_,.inr ⟨_,_,_,_,M,K,rfl,?_,?_,?_,?_,newShape4,HSB.out⟩⟩
     ·((repeat (first | with_reducible (refine ext_set2 ?_ ?_);focus (first | exact Nat.le_refl _ | (dsimp only;omega) | (simp;omega)) | with_reducible refine ext_alloc2 ?_));with_reducible exact X6)
     ·
      refine HOM3.out.keep fun b hb=>?_
      have:=HBM.out b hb
      iterate 5 rw [setCell_other (by omega)]
     ·
      refine HOO3.out.keep fun b hb=>?_
      have:=HBb.out b (by simp [hb])
      iterate 5 rw [setCell_other (by omega)]
     ·
      have hnd:=(List.nodup_cons.1 (List.nodup_cons.1 HN.out).2).2
      rw [List.nodup_append] at hnd ⊢
      exact ⟨HNM.out,hnd.2.1,fun x hx y hy e=>by have:=HBM.out x hx;have:=HlK.out y hy;omega⟩
     ·
      intro b hb
      rcases List.mem_append.1 hb with hb | hb
      ·have:=HBM.out b hb;omega
      ·have:=HBb.out b (by simp [hb]);omega
    ·obtain rfl : which = 2:=by omega
     rw [if_neg hw1]
     go_enter Tryz.func22,Tryz.ntmps22
     go_wp2_with fail
     refine (hPO _ (ext_alloc (ext_alloc (ext_refl _) _) _)).mono ?_;rintro e1 w1 ⟨rfl,hx1⟩
     have X1:=ext_trans (ext_alloc (ext_alloc (ext_refl w) _) _) hx1
     have G0:=keep_ext hx1 (hg_alloc (hg_new (b:=w.heap.size) rfl))
     have G1:=keep_ext hx1 (hg_new (b:=w.heap.size + 1) (by simp))
     obtain ⟨g0,gf0⟩:=cellsK G0
     obtain ⟨g1,gf1⟩:=cellsK G1
     have lw2:=heap_lt G1
     clear hPO hx1
     go_wp2_with fail
     refine (hTw _ X1).mono ?_;rintro e2 w2 ⟨tv,rfl,hx2,b1,b2,f1,d1,g2,e2,L,K,T1,T2,rfl,H1,H2,hO1,hO2,hn,hb⟩
     have X2:=ext_trans X1 hx2
     have s1:=X1.size
     have sb1:=hb b1 (by simp)
     have sb2:=hb b2 (by simp)
     have l1:=heap_lt H1
     have l2:=heap_lt H2
     have hlL:=hO1.lt
     have hlK:=hO2.lt
     obtain ⟨q1,m1,c1,q2,m2,c2,rfl,rfl⟩:=hO1.forms
     obtain ⟨q3,m3,c3,q4,m4,c4,rfl,rfl⟩:=hO2.forms
     replace G1:=keep_ext hx2 G1
     have HO1:=Lib.hid hO1
     have HO2:=Lib.hid hO2
     have HN:=Lib.hid hn
     have HBb:=Lib.hid hb
     have HlL:=Lib.hid hlL
     have HlK:=Lib.hid hlK
     have lw1:=heap_lt G0
     clear G0 g0 gf0 g1 gf1 hTw hx2 hO1 hO2 hn hb hlL hlK
     obtain ⟨g1,gf1⟩:=cellsK G1
     have lg1:=heap_lt G1
     go_wp2_with fail
     have G5 : (w2.alloc (.cells #[.pointer (some ⟨b1,0,none⟩),.pointer (some ⟨b2,0,none⟩),.int .i64 2] 66)).heap[w2.heap.size]? = some (.cells #[.pointer (some ⟨b1,0,none⟩),.pointer (some ⟨b2,0,none⟩),.int .i64 2] 66 (0,0)):=hg_new rfl
     refine wp_region_ext [1] [0,1] [] [2] (by kernel_rfl) (by kernel_rfl) ?late ?_
     case late=>exact fun f hf=>absurd hf List.not_mem_nil
     refine Rob.y (v:=?_) rfl rfl (fun w1 hx hH=>?_) ?_;rotate_left
     ·(have hE : Ext _ w1:=(by first | exact hx | exact hx.1);obtain ⟨z5,zf5⟩:=cellsK (keep_ext hE G5));go_simp;first | done | rfl
     simp only [Act.put,slA,slB,slC]
     refine Rob.c (StoreM newStore) rfl rfl rfl (fun _ _=>ext_trans) (fun _ _ _ _ _=>fun h hx=>h.ext hx) (fun w1 hx hH=>?_) (fun lo1 hi1 v1 hlo1 hhi1 hv1=>?_)
     ·unfold RunTo;go_simp;exact (implStoreNew_c _).mono fun e w' h=>h.to
     simp only [Act.put,slA,slB,slC]
     obtain ⟨_,hv1⟩:=hv1
     obtain ⟨r1,k1,j1,r2,k2,j2,rfl⟩:=hv1.forms
     refine fin_tail (fun w3 hx3 _=>?_)
     simp only [dstOf,List.getElem?_cons_succ,List.getElem?_cons_zero,Option.bind_some,Act.put,slA,slB,slC,List.filterMap_cons,List.filterMap_nil]
     obtain ⟨hx3,hM⟩:=hx3
     obtain ⟨M,hOM,hnM,hbM⟩:=hM.own
     have X23 : Ext w2 w3:=ext_trans (ext_alloc (ext_refl _) _) hx3
     simp at hlo1
     have hne : b1 ≠ b2:=fun e=>(List.nodup_cons.1 HN.out).1 (by rw [e];simp)
     have HBM : Hid (∀ b ∈ M,w2.heap.size < b):=Lib.hid (fun b hb=>by have:=hbM b hb;omega)
     have HOM:=Lib.hid hOM
     have HNM:=Lib.hid hnM
     replace G5:=keep_ext hx3 G5
     replace G1:=keep_ext X23 G1
     replace H1:=keep_ext X23 H1
     replace H2:=keep_ext X23 H2
     have X3:=ext_trans X2 X23
     clear g1 gf1 hM hOM hnM hbM hx3 hv1
     obtain ⟨g5,gf5⟩:=cellsK G5
     have l5:=heap_lt G5
     go_wp2_with fail
     refine (setOther_c b1 b2 2 _ _ _ _ T2 _ ⟨_,_,_,rfl⟩ ⟨_,_,_,rfl⟩ H2).mono ?_;rintro e4 w4 ⟨rfl,hC4,H4⟩
     have X4 : Ext w w4:=hC4.ext X3 (by simp;omega)
     replace G5:=hC4.keep G5 (by simp;omega)
     replace G1:=hC4.keep G1 (by simp;omega)
     replace H1:=hC4.keep H1 (by simp;omega)
     have hOM:=HOM.out.chg hC4 (fun b hb hm=>by have:=HBM.out b hb;simp at hm;omega)
     have hOO:=(HO1.out.ext X23).chg hC4 (fun b hb hm=>by
      simp at hm
      subst hm
      have hnd:=HN.out
      simp [hb] at hnd)
     have HOM2:=Lib.hid hOM
     have HOO:=Lib.hid hOO
     clear g5 gf5 hOM hOO HOM HO1 hC4
     obtain ⟨g5,gf5⟩:=cellsK G5
     have l5:=heap_lt G5
     go_wp2_with fail
     refine (twPair_c b1 b2 2 _ _ _ _ T1 T2 _ ⟨_,_,_,rfl⟩ ⟨_,_,_,rfl⟩ ⟨_,_,_,rfl⟩ ⟨_,_,_,rfl⟩ H1 H4).mono ?_;rintro e6 w6 ⟨rfl,hx6⟩
     have X6:=ext_trans X4 hx6
     replace G1:=keep_ext hx6 G1
     have hlM:=HOM2.out.lt
     have hOM3:=HOM2.out.ext hx6
     have hOO3:=HOO.out.ext hx6
     have HOM3:=Lib.hid hOM3
     have HOO3:=Lib.hid hOO3
     clear g5 gf5 HOM2 HOO hOM3 hOO3 hlM
     obtain ⟨g1,gf1⟩:=cellsK G1
     go_wp2_with fail
     refine bodyPost_ret (v:=.agg #[.slice q1 m1 c1,.slice q2 m2 c2,.slice r1 k1 j1,.slice r2 k2 j2,.int .i64 2]) (by simp [results,Tryz.results22,go_sem,g1,gf1]) rfl ⟨_,rfl,?_,.inr ⟨_,_,_,_,L,M,rfl,?_,?_,?_,?_,HSA.out,newShape4⟩⟩
     ·((repeat (first | with_reducible (refine ext_set2 ?_ ?_);focus (first | exact Nat.le_refl _ | (dsimp only;omega) | (simp;omega)) | with_reducible refine ext_alloc2 ?_));with_reducible exact X6)
     ·
      refine HOO3.out.keep fun b hb=>?_
      have:=HBb.out b (by simp [hb])
      iterate 5 rw [setCell_other (by omega)]
     ·
      refine HOM3.out.keep fun b hb=>?_
      have:=HBM.out b hb
      iterate 5 rw [setCell_other (by omega)]
     ·
      have hnd:=(List.nodup_cons.1 (List.nodup_cons.1 HN.out).2).2
      rw [List.nodup_append] at hnd ⊢
      exact ⟨hnd.1,HNM.out,fun x hx y hy e=>by have:=HlL.out x hx;have:=HBM.out y hy;omega⟩
     ·
      intro b hb
      rcases List.mem_append.1 hb with hb | hb
      ·have:=HBb.out b (by simp [hb]);omega
      ·have:=HBM.out b hb;omega
   ·rw [if_neg h0]
    go_enter Tryz.func22,Tryz.ntmps22
    go_wp2_with fail
    refine (hPO _ (ext_alloc (ext_alloc (ext_refl _) _) _)).mono ?_;rintro e1 w1 ⟨rfl,hx1⟩
    have X1:=ext_trans (ext_alloc (ext_alloc (ext_refl w) _) _) hx1
    have G0:=keep_ext hx1 (hg_alloc (hg_new (b:=w.heap.size) rfl))
    have G1:=keep_ext hx1 (hg_new (b:=w.heap.size + 1) (by simp))
    obtain ⟨g0,gf0⟩:=cellsK G0
    obtain ⟨g1,gf1⟩:=cellsK G1
    have lw2:=heap_lt G1
    clear hPO hx1
    go_wp2_with fail
    refine (hTw _ X1).mono ?_;rintro e2 w2 ⟨tv,rfl,hx2,b1,b2,f1,d1,g2,e2,L,K,T1,T2,rfl,H1,H2,hO1,hO2,hn,hb⟩
    have X2:=ext_trans X1 hx2
    have s1:=X1.size
    have sb1:=hb b1 (by simp)
    have sb2:=hb b2 (by simp)
    have l1:=heap_lt H1
    have l2:=heap_lt H2
    have hlL:=hO1.lt
    have hlK:=hO2.lt
    obtain ⟨q1,m1,c1,q2,m2,c2,rfl,rfl⟩:=hO1.forms
    obtain ⟨q3,m3,c3,q4,m4,c4,rfl,rfl⟩:=hO2.forms
    replace G1:=keep_ext hx2 G1
    have HO1:=Lib.hid hO1
    have HO2:=Lib.hid hO2
    have HN:=Lib.hid hn
    have HBb:=Lib.hid hb
    have HlL:=Lib.hid hlL
    have HlK:=Lib.hid hlK
    have lw1:=heap_lt G0
    clear G0 g0 gf0 g1 gf1 hTw hx2 hO1 hO2 hn hb hlL hlK
    obtain ⟨g1,gf1⟩:=cellsK G1
    have lg1:=heap_lt G1
    go_wp2_with fail
    refine (twPair_c b1 b2 p.lost _ _ _ _ T1 T2 _ ⟨_,_,_,rfl⟩ ⟨_,_,_,rfl⟩ ⟨_,_,_,rfl⟩ ⟨_,_,_,rfl⟩ (hg_alloc H1) (hg_alloc H2)).mono ?_;rintro e3 w3 ⟨rfl,hx3⟩
    have X23 : Ext w2 w3:=ext_trans (ext_alloc (ext_refl _) _) hx3
    have X3:=ext_trans X2 X23
    replace G1:=keep_ext X23 G1
    clear g1 gf1
    obtain ⟨g1,gf1⟩:=cellsK G1
    go_wp2_with fail
    refine bodyPost_ret (v:=.agg #[.slice q1 m1 c1,.slice q2 m2 c2,.slice q3 m3 c3,.slice q4 m4 c4,.int .i64 p.lost]) (by simp [results,Tryz.results22,go_sem,g1,gf1]) rfl ⟨_,rfl,?_,.inr ⟨_,_,_,_,L,K,rfl,?_,?_,?_,?_,HSA.out,HSB.out⟩⟩
    ·((repeat (first | with_reducible (refine ext_set2 ?_ ?_);focus (first | exact Nat.le_refl _ | (dsimp only;omega) | (simp;omega)) | with_reducible refine ext_alloc2 ?_));with_reducible exact X3)
    ·refine (HO1.out.ext X23).keep fun b hb=>?_
     have:=HBb.out b (by simp [hb])
     iterate 5 rw [setCell_other (by omega)]
    ·refine (HO2.out.ext X23).keep fun b hb=>?_
     have:=HBb.out b (by simp [hb])
     iterate 5 rw [setCell_other (by omega)]
    ·exact (List.nodup_cons.1 (List.nodup_cons.1 HN.out).2).2
    ·exact fun b hb=>by have:=HBb.out b (List.mem_cons_of_mem _ (List.mem_cons_of_mem _ hb));omega
  ·rw [if_neg h1]
   have h12 : which < 1 ∨ 2 < which:=by omega
   rcases h12 with h12 | h12
   ·go_enter Tryz.func22,Tryz.ntmps22
    go_wp2_with fail
    refine (hPO _ (ext_alloc (ext_alloc (ext_refl _) _) _)).mono ?_;rintro e1 w1 ⟨rfl,hx1⟩
    have X1:=ext_trans (ext_alloc (ext_alloc (ext_refl w) _) _) hx1
    have G0:=keep_ext hx1 (hg_alloc (hg_new (b:=w.heap.size) rfl))
    have G1:=keep_ext hx1 (hg_new (b:=w.heap.size + 1) (by simp))
    obtain ⟨g0,gf0⟩:=cellsK G0
    obtain ⟨g1,gf1⟩:=cellsK G1
    have lw2:=heap_lt G1
    clear hPO hx1
    go_wp2_with fail
    refine bodyPost_ret (v:=nilPair) (by simp [results,Tryz.results22,go_sem,g1,gf1,nilPair]) rfl ⟨_,rfl,?_,.inl ⟨rfl,rfl⟩⟩
    ((repeat (first | with_reducible (refine ext_set2 ?_ ?_);focus (first | exact Nat.le_refl _ | (dsimp only;omega) | (simp;omega)) | with_reducible refine ext_alloc2 ?_));with_reducible exact X1)
   ·go_enter Tryz.func22,Tryz.ntmps22
    go_wp2_with fail
    refine (hPO _ (ext_alloc (ext_alloc (ext_refl _) _) _)).mono ?_;rintro e1 w1 ⟨rfl,hx1⟩
    have X1:=ext_trans (ext_alloc (ext_alloc (ext_refl w) _) _) hx1
    have G0:=keep_ext hx1 (hg_alloc (hg_new (b:=w.heap.size) rfl))
    have G1:=keep_ext hx1 (hg_new (b:=w.heap.size + 1) (by simp))
    obtain ⟨g0,gf0⟩:=cellsK G0
    obtain ⟨g1,gf1⟩:=cellsK G1
    have lw2:=heap_lt G1
    clear hPO hx1
    go_wp2_with fail
    refine bodyPost_ret (v:=nilPair) (by simp [results,Tryz.results22,go_sem,g1,gf1,nilPair]) rfl ⟨_,rfl,?_,.inl ⟨rfl,rfl⟩⟩
    ((repeat (first | with_reducible (refine ext_set2 ?_ ?_);focus (first | exact Nat.le_refl _ | (dsimp only;omega) | (simp;omega)) | with_reducible refine ext_alloc2 ?_));with_reducible exact X1)
 ·rw [Bool.not_eq_true] at hok
  rw [hok] at hPO
  rw [if_neg (by rw [hok];simp)]
  go_enter Tryz.func22,Tryz.ntmps22
  go_wp2_with fail
  refine (hPO _ (ext_alloc (ext_alloc (ext_refl _) _) _)).mono ?_;rintro e1 w1 ⟨rfl,hx1⟩
  have X1:=ext_trans (ext_alloc (ext_alloc (ext_refl w) _) _) hx1
  have G0:=keep_ext hx1 (hg_alloc (hg_new (b:=w.heap.size) rfl))
  have G1:=keep_ext hx1 (hg_new (b:=w.heap.size + 1) (by simp))
  obtain ⟨g0,gf0⟩:=cellsK G0
  obtain ⟨g1,gf1⟩:=cellsK G1
  have lw2:=heap_lt G1
  clear hPO hx1
  go_wp2_with fail
  refine bodyPost_ret (v:=nilPair) (by simp [results,Tryz.results22,go_sem,g1,gf1,nilPair]) rfl ⟨_,rfl,?_,.inl ⟨rfl,rfl⟩⟩
  ((repeat (first | with_reducible (refine ext_set2 ?_ ?_);focus (first | exact Nat.le_refl _ | (dsimp only;omega) | (simp;omega)) | with_reducible refine ext_alloc2 ?_));with_reducible exact X1)
end Go.Bu
namespace Go.Bu
open Go Go.RowKit Go.Plan Go.Proofs
theorem OwnS.own {c : SC} {w : World} {s : Store} (h : OwnS c w s) : OwnStore w (c.fv s) (c.dv s) s c.L:=by
 refine ⟨c.F.b,c.ps.map (·.b),c.D.b,by simp [SC.L,SC.fl],⟨rowsOf s.flash c.ps,⟨c.F.T,c.F.o,c.F.cap,?_,h.flash.row⟩,rowsOf_len h.flash.len,by simp [h.flash.len],fun i x r b hx hr hb=>?_⟩,⟨c.D.T,c.D.o,c.D.cap,rfl,h.disk⟩⟩
 ·show Value.slice _ _ _ = _;rw [rowsOf_len h.flash.len]
 ·rw [List.getElem?_map] at hb
  obtain ⟨p,hp,rfl⟩:=Option.map_eq_some_iff.1 hb
  rw [rowsOf_get hx hp] at hr
  obtain rfl:=Option.some.inj hr
  exact ⟨rfl,p.T,p.o,p.cap,rfl,h.flash.pages i x p hx hp⟩
theorem StoreP.shape4 {s : Store} (h : StoreP s) : Shape4 s:=⟨flashOk_len h.flash,fun b hb=>(flashOk_block h.flash hb).1,h.disk⟩
theorem storeOk_P {s : Store} (h : storeOkB s = true) : StoreP s:=⟨storeOk_flash h,storeOk_disk h⟩
theorem OwnS.own4 {c : SC} {w : World} {s : Store} (h : OwnS c w s) (hp : StoreP s) : OwnStore w c.f4 c.d6 s c.L:=by
 have:=h.own
 rwa [show c.fv s = c.f4 by simp only [SC.fv,hp.lens.1];rfl,show c.dv s = c.d6 by simp only [SC.dv,hp.lens.2];rfl] at this
theorem OwnStore.at4 {w : World} {f d : Value} {s : Store} {L : List Nat} (h : OwnStore w f d s L) (hnd : L.Nodup) (hp : StoreP s) : ∃ c : SC,c.L = L ∧ f = c.f4 ∧ d = c.d6 ∧ OwnS c w s:=by
 obtain ⟨c,h1,h2,h3,h4⟩:=h.at_ hnd
 exact ⟨c,h1,by rw [h2];simp only [SC.fv,hp.lens.1];rfl,by rw [h3];simp only [SC.dv,hp.lens.2];rfl,h4⟩
def mendV (p : Pair) : Pair:=if pairOkB p = true then (if p.lost = 0 then ⟨p.A,sameV p.A p.B,0⟩ else p) else pair0
def backV (p : Pair) : Pair:=if pairOkB p = true then (if p.lost = 1 then ⟨sameV p.B p.A,p.B,0⟩ else if p.lost = 2 then ⟨p.A,sameV p.A p.B,0⟩ else ⟨p.A,p.B,0⟩) else pair0
theorem PairO.of {base : Nat} {w : World} {a b : SC} {p : Pair} (hA : OwnS a w p.A) (hB : OwnS b w p.B) (hpA : StoreP p.A) (hpB : StoreP p.B) (hn : (a.L ++ b.L).Nodup) (hb : ∀ x ∈ a.L ++ b.L,base ≤ x) : PairO base w (pv a b p.lost) p:=
 .inr ⟨_,_,_,_,a.L,b.L,rfl,hA.own4 hpA,hB.own4 hpB,hn,hb,hpA.shape4,hpB.shape4⟩
set_option maxRecDepth 20000 in
set_option maxHeartbeats 4000000 in
theorem specPairMend_c (f d g e : Value) (p : Pair) (w : World) (hA : StoreV w f d p.A) (hB : StoreV w g e p.B) (hsA : Small p.A) (hsB : Small p.B) :
  Calls Tryz.prog 32 #[.agg #[f,d,g,e,.int .i64 p.lost]] w (PairΦ w (mendV p)):=by
 have hPO:=fun (w' : World) (hx : Ext w w')=>specPairOk_c f d g e p w' (hA.ext hx) (hB.ext hx) hsA.1 hsB.1
 have hTW:=fun (w' : World) (hx : Ext w w') (h1 : Shape4 p.A) (h2 : Shape4 p.B)=>l23Copy_c f d g e p w' (hA.ext hx) (hB.ext hx) h1.flash h1.pages h1.disk h2.flash h2.pages h2.disk
 unfold mendV
 obtain ⟨a1,n1,rfl⟩:=hA.1.form
 obtain ⟨a2,n2,rfl⟩:=hA.2.form
 obtain ⟨a3,n3,rfl⟩:=hB.1.form
 obtain ⟨a4,n4,rfl⟩:=hB.2.form
 clear hA hB hsA hsB
 by_cases hok : pairOkB p = true
 ·obtain ⟨hl,hokA,hokB⟩:=pairOk_iff.1 hok
  have hTw:=fun (w' : World) (hx : Ext w w')=>hTW w' hx (storeOk_shape hokA) (storeOk_shape hokB)
  rw [hok] at hPO
  simp only [hok,if_true]
  have HPA:=Lib.hid (storeOk_P hokA)
  have HPB:=Lib.hid (storeOk_P hokB)
  have HOKA:=Lib.hid hokA
  have HOKB:=Lib.hid hokB
  clear hTW hok hokA hokB
  by_cases h0 : p.lost = 0
  ·rw [if_pos h0]
   rw [h0] at hTw hPO ⊢
   go_enter Tryz.func32,Tryz.ntmps32
   go_wp2_with fail
   refine (hPO _ (ext_alloc (ext_alloc (ext_refl _) _) _)).mono ?_;rintro e1 w1 ⟨rfl,hx1⟩
   have X1:=ext_trans (ext_alloc (ext_alloc (ext_refl w) _) _) hx1
   have G0:=keep_ext hx1 (hg_alloc (hg_new (b:=w.heap.size) rfl))
   have G1:=keep_ext hx1 (hg_new (b:=w.heap.size + 1) (by simp))
   obtain ⟨g0,gf0⟩:=cellsK G0
   obtain ⟨g1,gf1⟩:=cellsK G1
   have lw2:=heap_lt G1
   clear hPO hx1
   go_wp2_with fail
   refine (hTw _ X1).mono ?_;rintro e2 w2 ⟨f1,d1,g2,e2,L,K,rfl,hx2,hO1,hO2,hn,hb⟩
   have X2:=ext_trans X1 hx2
   have s1:=X1.size
   have sw2:=hx2.size
   replace G1:=keep_ext hx2 G1
   obtain ⟨a,rfl,rfl,rfl,hSa⟩:=hO1.at4 (List.nodup_append.1 hn).1 HPA.out
   obtain ⟨b,rfl,rfl,rfl,hSb⟩:=hO2.at4 (List.nodup_append.1 hn).2.1 HPB.out
   have hdis : ∀ x ∈ a.L,x ∉ b.L:=fun x h1 h2=>(List.nodup_append.1 hn).2.2 x h1 x h2 rfl
   have XA : Ext w2 (w2.alloc (.cells #[a.f4,a.d6,b.f4,b.d6,.int .i64 0] 28)):=ext_alloc (ext_refl _) _
   have G3 : (w2.alloc (.cells #[a.f4,a.d6,b.f4,b.d6,.int .i64 0] 28)).heap[w2.heap.size]? = some (.cells #[a.f4,a.d6,b.f4,b.d6,.int .i64 0] 28 (0,0)):=hg_new rfl
   have hla : Hid (∀ x ∈ a.L,w1.heap.size ≤ x ∧ x < w2.heap.size):=Lib.hid fun x hx=>⟨hb x (by simp [hx]),hSa.lt x hx⟩
   have hlb : Hid (∀ x ∈ b.L,w1.heap.size ≤ x ∧ x < w2.heap.size):=Lib.hid fun x hx=>⟨hb x (by simp [hx]),hSb.lt x hx⟩
   have HSa:=Lib.hid (hSa.ext XA)
   have HSb:=Lib.hid (hSb.ext XA)
   have HN:=Lib.hid hn
   have HD:=Lib.hid hdis
   replace G1:=keep_ext XA G1
   have lw3:=heap_lt G3
   have X20:=X2
   replace X2:=ext_trans X2 XA
   clear g0 gf0 g1 gf1 G0 hx2 hO1 hO2 hSa hSb hn hb hdis XA hTw
   obtain ⟨g1,gf1⟩:=cellsK G1
   obtain ⟨g3,gf3⟩:=cellsK G3
   have lg1:=heap_lt G1
   go_wp2_with fail
   refine (l23Same_c a b p.A p.B _ HSa.out HSb.out HD.out HPA.out HPB.out).mono ?_;rintro e4 w4 ⟨rfl,hC4,hS4⟩
   have lb:=hlb.out
   replace G1:=hC4.keep G1 (fun hm=>by have:=lb _ hm;omega)
   replace G3:=hC4.keep G3 (fun hm=>by have:=lb _ hm;omega)
   have X4:=hC4.ext X2 (fun x hm=>by have:=lb x hm;omega)
   have HF4:=Lib.hid (HSa.out.chg hC4 (fun x h1 h2=>HD.out x h1 h2))
   have HT4:=Lib.hid hS4
   clear hC4 hS4 HSa HSb g1 gf1 g3 gf3 X2 X20
   obtain ⟨g1,gf1⟩:=cellsK G1
   obtain ⟨g3,gf3⟩:=cellsK G3
   have lg1:=heap_lt G1
   have lg3:=heap_lt G3
   have hne : ¬ (w.heap.size + 1 = w2.heap.size):=by omega
   go_wp2_with fail
   refine bodyPost_ret (v:=pv a b 0) (by simp [results,Tryz.results32,go_sem,g1,gf1,lg1,pv]) rfl ⟨_,rfl,?_,PairO.of (p:=⟨p.A,sameV p.A p.B,0⟩) (HF4.out.keep fun x hx=>?_) (HT4.out.keep fun x hx=>?_) HPA.out HPB.out.same HN.out fun x hx=>?_⟩
   ·((repeat (first | with_reducible (refine ext_set2 ?_ ?_);focus (first | exact Nat.le_refl _ | (dsimp only;omega) | (simp;omega)) | with_reducible refine ext_alloc2 ?_));with_reducible exact X4)
   ·have:=hla.out x hx
    (repeat rw [setCell_other (by omega)])
   ·have:=hlb.out x hx
    (repeat rw [setCell_other (by omega)])
   ·rcases List.mem_append.1 hx with hx | hx
    ·have:=hla.out x hx;omega
    ·have:=hlb.out x hx;omega
  ·rw [if_neg h0]
   have h0b : (p.lost == 0) = false:=by simpa using h0
   go_enter Tryz.func32,Tryz.ntmps32
   go_wp2_with fail
   refine (hPO _ (ext_alloc (ext_alloc (ext_refl _) _) _)).mono ?_;rintro e1 w1 ⟨rfl,hx1⟩
   have X1:=ext_trans (ext_alloc (ext_alloc (ext_refl w) _) _) hx1
   have G0:=keep_ext hx1 (hg_alloc (hg_new (b:=w.heap.size) rfl))
   have G1:=keep_ext hx1 (hg_new (b:=w.heap.size + 1) (by simp))
   obtain ⟨g0,gf0⟩:=cellsK G0
   obtain ⟨g1,gf1⟩:=cellsK G1
   have lw2:=heap_lt G1
   clear hPO hx1
   go_wp2_with fail
   refine (hTw _ X1).mono ?_;rintro e2 w2 ⟨f1,d1,g2,e2,L,K,rfl,hx2,hO1,hO2,hn,hb⟩
   have X2:=ext_trans X1 hx2
   have s1:=X1.size
   have sw2:=hx2.size
   replace G1:=keep_ext hx2 G1
   obtain ⟨a,rfl,rfl,rfl,hSa⟩:=hO1.at4 (List.nodup_append.1 hn).1 HPA.out
   obtain ⟨b,rfl,rfl,rfl,hSb⟩:=hO2.at4 (List.nodup_append.1 hn).2.1 HPB.out
   have hdis : ∀ x ∈ a.L,x ∉ b.L:=fun x h1 h2=>(List.nodup_append.1 hn).2.2 x h1 x h2 rfl
   have XA : Ext w2 (w2.alloc (.cells #[a.f4,a.d6,b.f4,b.d6,.int .i64 p.lost] 28)):=ext_alloc (ext_refl _) _
   have G3 : (w2.alloc (.cells #[a.f4,a.d6,b.f4,b.d6,.int .i64 p.lost] 28)).heap[w2.heap.size]? = some (.cells #[a.f4,a.d6,b.f4,b.d6,.int .i64 p.lost] 28 (0,0)):=hg_new rfl
   have hla : Hid (∀ x ∈ a.L,w1.heap.size ≤ x ∧ x < w2.heap.size):=Lib.hid fun x hx=>⟨hb x (by simp [hx]),hSa.lt x hx⟩
   have hlb : Hid (∀ x ∈ b.L,w1.heap.size ≤ x ∧ x < w2.heap.size):=Lib.hid fun x hx=>⟨hb x (by simp [hx]),hSb.lt x hx⟩
   have HSa:=Lib.hid (hSa.ext XA)
   have HSb:=Lib.hid (hSb.ext XA)
   have HN:=Lib.hid hn
   have HD:=Lib.hid hdis
   replace G1:=keep_ext XA G1
   have lw3:=heap_lt G3
   have X20:=X2
   replace X2:=ext_trans X2 XA
   clear g0 gf0 g1 gf1 G0 hx2 hO1 hO2 hSa hSb hn hb hdis XA hTw
   obtain ⟨g1,gf1⟩:=cellsK G1
   obtain ⟨g3,gf3⟩:=cellsK G3
   have lg1:=heap_lt G1
   go_wp2_with fail
   refine bodyPost_ret (v:=pv a b p.lost) (by simp [results,Tryz.results32,go_sem,g1,gf1,lg1,pv]) rfl ⟨_,rfl,?_,PairO.of (p:=⟨p.A,p.B,p.lost⟩) (HSa.out.keep fun x hx=>?_) (HSb.out.keep fun x hx=>?_) HPA.out HPB.out HN.out fun x hx=>?_⟩
   ·((repeat (first | with_reducible (refine ext_set2 ?_ ?_);focus (first | exact Nat.le_refl _ | (dsimp only;omega) | (simp;omega)) | with_reducible refine ext_alloc2 ?_));with_reducible exact X20)
   ·have:=hla.out x hx
    (repeat rw [setCell_other (by omega)])
   ·have:=hlb.out x hx
    (repeat rw [setCell_other (by omega)])
   ·rcases List.mem_append.1 hx with hx | hx
    ·have:=hla.out x hx;omega
    ·have:=hlb.out x hx;omega
 ·rw [Bool.not_eq_true] at hok
  rw [hok] at hPO
  rw [if_neg (by rw [hok];simp)]
  go_enter Tryz.func32,Tryz.ntmps32
  go_wp2_with fail
  refine (hPO _ (ext_alloc (ext_alloc (ext_refl _) _) _)).mono ?_;rintro e1 w1 ⟨rfl,hx1⟩
  have X1:=ext_trans (ext_alloc (ext_alloc (ext_refl w) _) _) hx1
  have G0:=keep_ext hx1 (hg_alloc (hg_new (b:=w.heap.size) rfl))
  have G1:=keep_ext hx1 (hg_new (b:=w.heap.size + 1) (by simp))
  obtain ⟨g0,gf0⟩:=cellsK G0
  obtain ⟨g1,gf1⟩:=cellsK G1
  have lw2:=heap_lt G1
  clear hPO hx1
  go_wp2_with fail
  refine bodyPost_ret (v:=nilPair) (by simp [results,Tryz.results32,go_sem,g1,gf1,nilPair]) rfl ⟨_,rfl,?_,.inl ⟨rfl,rfl⟩⟩
  ((repeat (first | with_reducible (refine ext_set2 ?_ ?_);focus (first | exact Nat.le_refl _ | (dsimp only;omega) | (simp;omega)) | with_reducible refine ext_alloc2 ?_));with_reducible exact X1)
set_option maxRecDepth 20000 in
set_option maxHeartbeats 4000000 in
theorem specPairBack_c (f d g e : Value) (p : Pair) (w : World) (hA : StoreV w f d p.A) (hB : StoreV w g e p.B) (hsA : Small p.A) (hsB : Small p.B) :
  Calls Tryz.prog 65 #[.agg #[f,d,g,e,.int .i64 p.lost]] w (PairΦ w (backV p)):=by
 have hPO:=fun (w' : World) (hx : Ext w w')=>specPairOk_c f d g e p w' (hA.ext hx) (hB.ext hx) hsA.1 hsB.1
 have hTW:=fun (w' : World) (hx : Ext w w') (h1 : Shape4 p.A) (h2 : Shape4 p.B)=>l23Copy_c f d g e p w' (hA.ext hx) (hB.ext hx) h1.flash h1.pages h1.disk h2.flash h2.pages h2.disk
 unfold backV
 obtain ⟨a1,n1,rfl⟩:=hA.1.form
 obtain ⟨a2,n2,rfl⟩:=hA.2.form
 obtain ⟨a3,n3,rfl⟩:=hB.1.form
 obtain ⟨a4,n4,rfl⟩:=hB.2.form
 clear hA hB hsA hsB
 by_cases hok : pairOkB p = true
 ·obtain ⟨hl,hokA,hokB⟩:=pairOk_iff.1 hok
  have hTw:=fun (w' : World) (hx : Ext w w')=>hTW w' hx (storeOk_shape hokA) (storeOk_shape hokB)
  rw [hok] at hPO
  simp only [hok,if_true]
  have HPA:=Lib.hid (storeOk_P hokA)
  have HPB:=Lib.hid (storeOk_P hokB)
  have HOKA:=Lib.hid hokA
  have HOKB:=Lib.hid hokB
  clear hTW hok hokA hokB
  by_cases h1 : p.lost = 1
  ·rw [if_pos h1]
   rw [h1] at hTw hPO ⊢
   go_enter Tryz.func65,Tryz.ntmps65
   go_wp2_with fail
   refine (hPO _ (ext_alloc (ext_alloc (ext_refl _) _) _)).mono ?_;rintro e1 w1 ⟨rfl,hx1⟩
   have X1:=ext_trans (ext_alloc (ext_alloc (ext_refl w) _) _) hx1
   have G0:=keep_ext hx1 (hg_alloc (hg_new (b:=w.heap.size) rfl))
   have G1:=keep_ext hx1 (hg_new (b:=w.heap.size + 1) (by simp))
   obtain ⟨g0,gf0⟩:=cellsK G0
   obtain ⟨g1,gf1⟩:=cellsK G1
   have lw2:=heap_lt G1
   clear hPO hx1
   go_wp2_with fail
   refine (hTw _ X1).mono ?_;rintro e2 w2 ⟨f1,d1,g2,e2,L,K,rfl,hx2,hO1,hO2,hn,hb⟩
   have X2:=ext_trans X1 hx2
   have s1:=X1.size
   have sw2:=hx2.size
   replace G1:=keep_ext hx2 G1
   obtain ⟨a,rfl,rfl,rfl,hSa⟩:=hO1.at4 (List.nodup_append.1 hn).1 HPA.out
   obtain ⟨b,rfl,rfl,rfl,hSb⟩:=hO2.at4 (List.nodup_append.1 hn).2.1 HPB.out
   have hdis : ∀ x ∈ a.L,x ∉ b.L:=fun x h1 h2=>(List.nodup_append.1 hn).2.2 x h1 x h2 rfl
   have XA : Ext w2 (w2.alloc (.cells #[a.f4,a.d6,b.f4,b.d6,.int .i64 1] 28)):=ext_alloc (ext_refl _) _
   have G3 : (w2.alloc (.cells #[a.f4,a.d6,b.f4,b.d6,.int .i64 1] 28)).heap[w2.heap.size]? = some (.cells #[a.f4,a.d6,b.f4,b.d6,.int .i64 1] 28 (0,0)):=hg_new rfl
   have hla : Hid (∀ x ∈ a.L,w1.heap.size ≤ x ∧ x < w2.heap.size):=Lib.hid fun x hx=>⟨hb x (by simp [hx]),hSa.lt x hx⟩
   have hlb : Hid (∀ x ∈ b.L,w1.heap.size ≤ x ∧ x < w2.heap.size):=Lib.hid fun x hx=>⟨hb x (by simp [hx]),hSb.lt x hx⟩
   have HSa:=Lib.hid (hSa.ext XA)
   have HSb:=Lib.hid (hSb.ext XA)
   have HN:=Lib.hid hn
   have HD:=Lib.hid hdis
   replace G1:=keep_ext XA G1
   have lw3:=heap_lt G3
   have X20:=X2
   replace X2:=ext_trans X2 XA
   clear g0 gf0 g1 gf1 G0 hx2 hO1 hO2 hSa hSb hn hb hdis XA hTw
   obtain ⟨g1,gf1⟩:=cellsK G1
   obtain ⟨g3,gf3⟩:=cellsK G3
   have lg1:=heap_lt G1
   go_wp2_with fail
   refine (l23Same_c b a p.B p.A _ HSb.out HSa.out (fun x h1 h2=>HD.out x h2 h1) HPB.out HPA.out).mono ?_;rintro e4 w4 ⟨rfl,hC4,hS4⟩
   have la:=hla.out
   replace G1:=hC4.keep G1 (fun hm=>by have:=la _ hm;omega)
   replace G3:=hC4.keep G3 (fun hm=>by have:=la _ hm;omega)
   have X4:=hC4.ext X2 (fun x hm=>by have:=la x hm;omega)
   have HF4:=Lib.hid (HSb.out.chg hC4 (fun x h1 h2=>HD.out x h2 h1))
   have HT4:=Lib.hid hS4
   clear hC4 hS4 HSa HSb g1 gf1 g3 gf3 X2 X20
   obtain ⟨g1,gf1⟩:=cellsK G1
   obtain ⟨g3,gf3⟩:=cellsK G3
   have lg1:=heap_lt G1
   have lg3:=heap_lt G3
   have hne : ¬ (w.heap.size + 1 = w2.heap.size):=by omega
   go_wp2_with fail
   refine bodyPost_ret (v:=pv a b 0) (by simp [results,Tryz.results65,go_sem,g1,gf1,lg1,pv]) rfl ⟨_,rfl,?_,PairO.of (p:=⟨sameV p.B p.A,p.B,0⟩) (HT4.out.keep fun x hx=>?_) (HF4.out.keep fun x hx=>?_) HPA.out.same HPB.out HN.out fun x hx=>?_⟩
   ·((repeat (first | with_reducible (refine ext_set2 ?_ ?_);focus (first | exact Nat.le_refl _ | (dsimp only;omega) | (simp;omega)) | with_reducible refine ext_alloc2 ?_));with_reducible exact X4)
   ·have:=hla.out x hx
    (repeat rw [setCell_other (by omega)])
   ·have:=hlb.out x hx
    (repeat rw [setCell_other (by omega)])
   ·rcases List.mem_append.1 hx with hx | hx
    ·have:=hla.out x hx;omega
    ·have:=hlb.out x hx;omega
  ·rw [if_neg h1]
   by_cases h2 : p.lost = 2
   ·rw [if_pos h2]
    rw [h2] at hTw hPO ⊢
    go_enter Tryz.func65,Tryz.ntmps65
    go_wp2_with fail
    refine (hPO _ (ext_alloc (ext_alloc (ext_refl _) _) _)).mono ?_;rintro e1 w1 ⟨rfl,hx1⟩
    have X1:=ext_trans (ext_alloc (ext_alloc (ext_refl w) _) _) hx1
    have G0:=keep_ext hx1 (hg_alloc (hg_new (b:=w.heap.size) rfl))
    have G1:=keep_ext hx1 (hg_new (b:=w.heap.size + 1) (by simp))
    obtain ⟨g0,gf0⟩:=cellsK G0
    obtain ⟨g1,gf1⟩:=cellsK G1
    have lw2:=heap_lt G1
    clear hPO hx1
    go_wp2_with fail
    refine (hTw _ X1).mono ?_;rintro e2 w2 ⟨f1,d1,g2,e2,L,K,rfl,hx2,hO1,hO2,hn,hb⟩
    have X2:=ext_trans X1 hx2
    have s1:=X1.size
    have sw2:=hx2.size
    replace G1:=keep_ext hx2 G1
    obtain ⟨a,rfl,rfl,rfl,hSa⟩:=hO1.at4 (List.nodup_append.1 hn).1 HPA.out
    obtain ⟨b,rfl,rfl,rfl,hSb⟩:=hO2.at4 (List.nodup_append.1 hn).2.1 HPB.out
    have hdis : ∀ x ∈ a.L,x ∉ b.L:=fun x h1 h2=>(List.nodup_append.1 hn).2.2 x h1 x h2 rfl
    have XA : Ext w2 (w2.alloc (.cells #[a.f4,a.d6,b.f4,b.d6,.int .i64 2] 28)):=ext_alloc (ext_refl _) _
    have G3 : (w2.alloc (.cells #[a.f4,a.d6,b.f4,b.d6,.int .i64 2] 28)).heap[w2.heap.size]? = some (.cells #[a.f4,a.d6,b.f4,b.d6,.int .i64 2] 28 (0,0)):=hg_new rfl
    have hla : Hid (∀ x ∈ a.L,w1.heap.size ≤ x ∧ x < w2.heap.size):=Lib.hid fun x hx=>⟨hb x (by simp [hx]),hSa.lt x hx⟩
    have hlb : Hid (∀ x ∈ b.L,w1.heap.size ≤ x ∧ x < w2.heap.size):=Lib.hid fun x hx=>⟨hb x (by simp [hx]),hSb.lt x hx⟩
    have HSa:=Lib.hid (hSa.ext XA)
    have HSb:=Lib.hid (hSb.ext XA)
    have HN:=Lib.hid hn
    have HD:=Lib.hid hdis
    replace G1:=keep_ext XA G1
    have lw3:=heap_lt G3
    have X20:=X2
    replace X2:=ext_trans X2 XA
    clear g0 gf0 g1 gf1 G0 hx2 hO1 hO2 hSa hSb hn hb hdis XA hTw
    obtain ⟨g1,gf1⟩:=cellsK G1
    obtain ⟨g3,gf3⟩:=cellsK G3
    have lg1:=heap_lt G1
    go_wp2_with fail
    refine (l23Same_c a b p.A p.B _ HSa.out HSb.out HD.out HPA.out HPB.out).mono ?_;rintro e4 w4 ⟨rfl,hC4,hS4⟩
    have lb:=hlb.out
    replace G1:=hC4.keep G1 (fun hm=>by have:=lb _ hm;omega)
    replace G3:=hC4.keep G3 (fun hm=>by have:=lb _ hm;omega)
    have X4:=hC4.ext X2 (fun x hm=>by have:=lb x hm;omega)
    have HF4:=Lib.hid (HSa.out.chg hC4 (fun x h1 h2=>HD.out x h1 h2))
    have HT4:=Lib.hid hS4
    clear hC4 hS4 HSa HSb g1 gf1 g3 gf3 X2 X20
    obtain ⟨g1,gf1⟩:=cellsK G1
    obtain ⟨g3,gf3⟩:=cellsK G3
    have lg1:=heap_lt G1
    have lg3:=heap_lt G3
    have hne : ¬ (w.heap.size + 1 = w2.heap.size):=by omega
    go_wp2_with fail
    refine bodyPost_ret (v:=pv a b 0) (by simp [results,Tryz.results65,go_sem,g1,gf1,lg1,pv]) rfl ⟨_,rfl,?_,PairO.of (p:=⟨p.A,sameV p.A p.B,0⟩) (HF4.out.keep fun x hx=>?_) (HT4.out.keep fun x hx=>?_) HPA.out HPB.out.same HN.out fun x hx=>?_⟩
    ·((repeat (first | with_reducible (refine ext_set2 ?_ ?_);focus (first | exact Nat.le_refl _ | (dsimp only;omega) | (simp;omega)) | with_reducible refine ext_alloc2 ?_));with_reducible exact X4)
    ·have:=hla.out x hx
     (repeat rw [setCell_other (by omega)])
    ·have:=hlb.out x hx
     (repeat rw [setCell_other (by omega)])
    ·rcases List.mem_append.1 hx with hx | hx
     ·have:=hla.out x hx;omega
     ·have:=hlb.out x hx;omega
   ·rw [if_neg h2]
    have h0 : p.lost = 0:=by omega
    rw [h0] at hTw hPO ⊢
    clear h1 h2
    go_enter Tryz.func65,Tryz.ntmps65
    go_wp2_with fail
    refine (hPO _ (ext_alloc (ext_alloc (ext_refl _) _) _)).mono ?_;rintro e1 w1 ⟨rfl,hx1⟩
    have X1:=ext_trans (ext_alloc (ext_alloc (ext_refl w) _) _) hx1
    have G0:=keep_ext hx1 (hg_alloc (hg_new (b:=w.heap.size) rfl))
    have G1:=keep_ext hx1 (hg_new (b:=w.heap.size + 1) (by simp))
    obtain ⟨g0,gf0⟩:=cellsK G0
    obtain ⟨g1,gf1⟩:=cellsK G1
    have lw2:=heap_lt G1
    clear hPO hx1
    go_wp2_with fail
    refine (hTw _ X1).mono ?_;rintro e2 w2 ⟨f1,d1,g2,e2,L,K,rfl,hx2,hO1,hO2,hn,hb⟩
    have X2:=ext_trans X1 hx2
    have s1:=X1.size
    have sw2:=hx2.size
    replace G1:=keep_ext hx2 G1
    obtain ⟨a,rfl,rfl,rfl,hSa⟩:=hO1.at4 (List.nodup_append.1 hn).1 HPA.out
    obtain ⟨b,rfl,rfl,rfl,hSb⟩:=hO2.at4 (List.nodup_append.1 hn).2.1 HPB.out
    have hdis : ∀ x ∈ a.L,x ∉ b.L:=fun x h1 h2=>(List.nodup_append.1 hn).2.2 x h1 x h2 rfl
    have XA : Ext w2 (w2.alloc (.cells #[a.f4,a.d6,b.f4,b.d6,.int .i64 0] 28)):=ext_alloc (ext_refl _) _
    have G3 : (w2.alloc (.cells #[a.f4,a.d6,b.f4,b.d6,.int .i64 0] 28)).heap[w2.heap.size]? = some (.cells #[a.f4,a.d6,b.f4,b.d6,.int .i64 0] 28 (0,0)):=hg_new rfl
    have hla : Hid (∀ x ∈ a.L,w1.heap.size ≤ x ∧ x < w2.heap.size):=Lib.hid fun x hx=>⟨hb x (by simp [hx]),hSa.lt x hx⟩
    have hlb : Hid (∀ x ∈ b.L,w1.heap.size ≤ x ∧ x < w2.heap.size):=Lib.hid fun x hx=>⟨hb x (by simp [hx]),hSb.lt x hx⟩
    have HSa:=Lib.hid (hSa.ext XA)
    have HSb:=Lib.hid (hSb.ext XA)
    have HN:=Lib.hid hn
    have HD:=Lib.hid hdis
    replace G1:=keep_ext XA G1
    have lw3:=heap_lt G3
    have X20:=X2
    replace X2:=ext_trans X2 XA
    clear g0 gf0 g1 gf1 G0 hx2 hO1 hO2 hSa hSb hn hb hdis XA hTw
    obtain ⟨g1,gf1⟩:=cellsK G1
    obtain ⟨g3,gf3⟩:=cellsK G3
    have lg1:=heap_lt G1
    go_wp2_with fail
    refine bodyPost_ret (v:=pv a b 0) (by simp [results,Tryz.results65,go_sem,g1,gf1,lg1,pv]) rfl ⟨_,rfl,?_,PairO.of (p:=⟨p.A,p.B,0⟩) (HSa.out.keep fun x hx=>?_) (HSb.out.keep fun x hx=>?_) HPA.out HPB.out HN.out fun x hx=>?_⟩
    ·((repeat (first | with_reducible (refine ext_set2 ?_ ?_);focus (first | exact Nat.le_refl _ | (dsimp only;omega) | (simp;omega)) | with_reducible refine ext_alloc2 ?_));with_reducible exact X20)
    ·have:=hla.out x hx
     (repeat rw [setCell_other (by omega)])
    ·have:=hlb.out x hx
     (repeat rw [setCell_other (by omega)])
    ·rcases List.mem_append.1 hx with hx | hx
     ·have:=hla.out x hx;omega
     ·have:=hlb.out x hx;omega
 ·rw [Bool.not_eq_true] at hok
  rw [hok] at hPO
  rw [if_neg (by rw [hok];simp)]
  go_enter Tryz.func65,Tryz.ntmps65
  go_wp2_with fail
  refine (hPO _ (ext_alloc (ext_alloc (ext_refl _) _) _)).mono ?_;rintro e1 w1 ⟨rfl,hx1⟩
  have X1:=ext_trans (ext_alloc (ext_alloc (ext_refl w) _) _) hx1
  have G0:=keep_ext hx1 (hg_alloc (hg_new (b:=w.heap.size) rfl))
  have G1:=keep_ext hx1 (hg_new (b:=w.heap.size + 1) (by simp))
  obtain ⟨g0,gf0⟩:=cellsK G0
  obtain ⟨g1,gf1⟩:=cellsK G1
  have lw2:=heap_lt G1
  clear hPO hx1
  go_wp2_with fail
  refine bodyPost_ret (v:=nilPair) (by simp [results,Tryz.results65,go_sem,g1,gf1,nilPair]) rfl ⟨_,rfl,?_,.inl ⟨rfl,rfl⟩⟩
  ((repeat (first | with_reducible (refine ext_set2 ?_ ?_);focus (first | exact Nat.le_refl _ | (dsimp only;omega) | (simp;omega)) | with_reducible refine ext_alloc2 ?_));with_reducible exact X1)
end Go.Bu