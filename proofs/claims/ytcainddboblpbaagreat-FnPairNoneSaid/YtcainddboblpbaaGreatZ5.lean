/- The program's FlashOk. The program's spansOf: of each block the least and the greatest number of its records. The program's FindOrder and the reference's say the same, plainly. The program's FindOrder. The program's lastRecords: the last record of each address, in a map. The program's StoreOk and PairOk. Arguments that hold blocks, opened: stores and pairs. The laws' comparisons of stores and pairs: eqStore, eqPair, lqFlash, lqStore, lqPair. The reference's PairOk; equality with itself. All values of a store, and of a pair: the program's StoreAll, PairAll. All values of a store, and of a pair: the reference's StoreAll, PairAll. The laws' marks: what they write into a result, and that it is held. -/import Derived.Test.YtcainddboblpbaaGreatZ4
import Derived.Test.YtcainddboblpbaaGreatZ2
import Derived.Carry
import Derived.Maps.OwnIn
import Derived.Test.YtcainddboblpbaaGreatZ1
import Derived.Test.YtcainddboblpbaaGreatZ3
set_option maxHeartbeats 2000000
set_option linter.unusedVariables false
set_option linter.unusedSimpArgs false
namespace Go.Bu
open Go Go.RowKit Go.Plan Go.Proofs
def scanQ (seen : List Int) : List Page → Option (List Int)
 | []=>some seen
 | p :: ps=>if !pageOkB p then none else if p.state != 1 then scanQ seen ps else if seen.contains p.r.seq then none else scanQ (p.r.seq :: seen) ps
def scanG (seen : List Int) : List Block → Option (List Int)
 | []=>some seen
 | b :: f=>if !shapeB b.pages b.worn then none else (scanQ seen b.pages).bind fun s=>scanG s f
theorem scanP_Q : ∀ (ps : List Page) (prev : Bool) (seen : List Int),scanP prev seen ps = if freeScan prev ps then scanQ seen ps else none
 | [],prev,seen=>by simp [scanP,freeScan,scanQ]
 | p :: ps,prev,seen=>by
  rw [scanP,freeScan,scanQ,scanP_Q ps]
  by_cases h1 : pageOkB p = true
  ·by_cases h3 : p.state = 1
   ·by_cases h4 : p.r.seq ∈ seen
    ·cases prev <;> simp [h1,h3,h4]
    ·cases prev <;> simp [h1,h3,h4]
   ·by_cases h5 : p.state = 0
    ·cases prev <;> simp [h1,h5]
    ·cases prev <;> simp [h1,h3,h5]
  ·cases prev <;> simp [h1]
theorem scanF_G : ∀ (f : List Block) (seen : List Int),scanF seen f = scanG seen f
 | [],seen=>rfl
 | b :: f,seen=>by
  rw [scanF,scanG,scanP_Q]
  unfold shapeB
  by_cases h1 : b.pages.length = 4
  ·by_cases h2 : inB b.worn 0 200 = true
   ·by_cases h3 : freeScan false b.pages = true
    ·simp [h1,h2,h3,scanF_G f]
    ·simp [h1,h2,h3]
   ·simp [h1,h2]
  ·simp [h1]
theorem flashOk_G (f : List Block) : flashOkB f = (f.length == 4 && (scanG [] f).isSome):=by unfold flashOkB;rw [scanF_G]
theorem scanG_drop (seen : List Int) (f : List Block) (k : Nat) (h : k < f.length) : scanG seen (f.drop k) = if !shapeB f[k].pages f[k].worn then none else (scanQ seen f[k].pages).bind fun s=>scanG s (f.drop (k + 1)):=by
 rw [List.drop_eq_getElem_cons h,scanG]
theorem scanQ_drop (seen : List Int) (ps : List Page) (k : Nat) (h : k < ps.length) : scanQ seen (ps.drop k) =
  if !pageOkB ps[k] then none else if ps[k].state != 1 then scanQ seen (ps.drop (k + 1)) else if seen.contains ps[k].r.seq then none else scanQ (ps[k].r.seq :: seen) (ps.drop (k + 1)):=by
 rw [List.drop_eq_getElem_cons h,scanQ]
theorem grown_ext {w w1 w2 : World} {ob : Option Nat} (h : Ext w w1) (hob : ∀ g,ob = some g → w.heap.size ≤ g) (hg : w1.grownBy w2 ob) : Ext w w2:=by
 refine ⟨hg.os.trans h.os,hg.tape.trans h.tape,hg.output.trans h.output,Nat.le_trans h.size hg.size,fun k hk=>?_⟩
 rw [hg.block k (Nat.lt_of_lt_of_le hk h.size) fun e=>by have:=hob k e.symm;omega];exact h.block k hk
set_option maxRecDepth 20000 in
set_option maxHeartbeats 2000000 in
theorem implFlashOk_c (v : Value) (f : List Block) (w : World) (h : Flash (Old w) w v f) (hp : ∀ b ∈ f,b.pages.length ≤ 1048576) :
  Calls Tryz.prog 117 #[v] w (Ret w (.bool (flashOkB f))):=by
 obtain ⟨a,cap,rfl⟩:=h.form
 have X0:=ext_refl w
 by_cases h4 : f.length = 4
 ·obtain ⟨A,hA⟩ : ∃ A,(scanG [] f).isSome = A:=⟨_,rfl⟩
  have hs : flashOkB f = A:=by rw [flashOk_G,hA,h4];rfl
  rw [hs]
  have HA : Hid ((scanG [] (f.drop 0)).isSome = A):=Lib.hid (by rw [List.drop_zero];exact hA)
  have HP:=Lib.hid hp
  rw [h4] at h ⊢
  have H40:=Lib.hid h4
  clear hs hA hp h4
  have hM:=MapOf.made Tryz.prog 3 w
  have hmm:=@run_makeMap Tryz.prog
  go_enter Tryz.func117,Tryz.ntmps117
  go_wp2
  clear hmm
  go_loopw [14] (fun y wr=>∃ (i : Nat) (L : List Int) (n : Nat),i ≤ 4 ∧ y = .int .i64 i ∧ n ≤ 4 * i ∧ Ext w wr ∧ MapOf Tryz.prog 3 wr w.heap.size n (metG L) ∧ Hid ((scanG L (f.drop i)).isSome = A)) (fun y _=>4 - (intOf y).toNat)
  case atStart=>exact ⟨0,[],0,by omega,rfl,by omega,by go_grown,hM,HA⟩
  case round =>
   clear hM HA
   obtain ⟨i,L,n,hi,rfl,hn,hX,HM,HR⟩:=hrel
   by_cases hlt : i < 4
   ·have hif : i < f.length:=by have:=H40.out;omega
    obtain ⟨b,o,pv,rfl,hb,hpp,h0,h1⟩:=h.at2 hif
    have hb' : b < w.heap.size:=hb
    obtain ⟨hc,hf⟩:=bcell hX
    obtain ⟨pa,pcap,rfl⟩:=hpp.form
    have hpl:=HP.out f[i] (List.getElem_mem _)
    rw [scanG_drop _ _ _ hif] at HR
    have HBS : ∀ w',Ext wr w' → Calls Tryz.prog 141 #[.agg #[.slice pa f[i].pages.length pcap,.int .i64 f[i].worn]] w' (Ret w' (.bool (shapeB f[i].pages f[i].worn))):=fun w' hx=>blockShape_c _ _ _ w' (hpp.ext (ext_trans hX hx)) hpl
    generalize hsh : shapeB f[i].pages f[i].worn = sh at *
    go_wp2_with fail
    refine (HBS _ (ext_alloc (ext_refl _) _)).mono ?_;rintro e1 w1 ⟨rfl,hx1⟩
    have G5:=keep_ext hx1 (hg_new (b:=wr.heap.size) rfl)
    have X1 : Ext wr w1:=ext_trans (ext_alloc (ext_refl _) _) hx1
    have l5:=heap_lt G5
    obtain ⟨g5,gf5⟩:=cellsK G5
    have HM1:=HM.ext X1
    have lm:=HM1.lt
    clear HBS h0 h1 hx1 HM hc hf
    cases sh
    ·have hr:=HR.out
     have hr : false = A:=hr
     subst hr
     go_wp2_with fail
     go_ret
     exact ⟨rfl,ext_trans hX X1⟩
    ·have h4p : f[i].pages.length = 4:=by
      simp only [shapeB,Bool.and_eq_true,beq_iff_eq] at hsh;exact hsh.1.1
     have HRR : Hid (((scanQ L (f[i].pages.drop 0)).bind fun s=>scanG s (f.drop (i + 1))).isSome = A):=by
      rw [List.drop_zero];exact HR
     have H4:=Lib.hid h4p
     rw [h4p] at hpp g5
     clear HR hsh h4p
     have XW:=ext_trans hX X1
     go_wp2_with fail
     go_loopw [24] (fun y wr2=>∃ (k : Nat) (L : List Int) (n : Nat),k ≤ 4 ∧ y = .int .i64 k ∧ n ≤ 4 * i + k ∧ Ext w wr2 ∧ MapOf Tryz.prog 3 wr2 w.heap.size n (metG L) ∧ Hid (((scanQ L (f[i].pages.drop k)).bind fun s=>scanG s (f.drop (i + 1))).isSome = A)) (fun y _=>4 - (intOf y).toNat)
     case atStart=>exact ⟨0,L,n,by omega,rfl,by omega,XW,HM1,HRR⟩
     case round =>
      clear XW HM1 HRR hX X1 l5 g5 gf5 G5 lm
      obtain ⟨k,L,n,hk,rfl,hn,hX,HM,HR⟩:=hrel
      obtain ⟨hc,hf⟩:=bcell hX
      by_cases hk4 : k < 4
      ·have hkl : k < f[i].pages.length:=by have:=H4.out;omega
       obtain ⟨b2,o2,rfl,hb2,e0,e1,e2,e3,e4⟩:=hpp.at5 hkl
       have hb2' : b2 < w.heap.size:=hb2
       rw [scanQ_drop _ _ _ hkl] at HR
       have HPS : ∀ w',Calls Tryz.prog 142 #[pageA f[i].pages[k]] w' (Ret w' (.bool (pageOkB f[i].pages[k]))):=fun w'=>implPageOk_c _ w'
       have hsq:=@pageOk_seq f[i].pages[k]
       generalize f[i].pages[k] = pg at *
       generalize hpo : pageOkB pg = po at *
       cases po
       ·have hr:=HR.out
        have hr : false = A:=hr
        subst hr
        go_wp2_with fail
        refine (HPS _).mono ?_;rintro e1 w2 ⟨rfl,hx2⟩
        have X2:=ext_trans (ext_alloc (ext_refl _) _) hx2
        go_wp2_with fail
        go_ret
        exact ⟨rfl,ext_trans hX X2⟩
       ·obtain ⟨hs0,hs1⟩:=hsq rfl
        have hwf:=i64_wf (x:=pg.r.seq) (by omega) (by omega)
        go_wp2_with fail
        refine (HPS _).mono ?_;rintro e1 w2 ⟨rfl,hx2⟩
        have G7:=keep_ext hx2 (hg_new (b:=wr.heap.size) rfl)
        have X2:=ext_trans (ext_alloc (ext_refl _) _) hx2
        have l7:=heap_lt G7
        obtain ⟨g7,gf7⟩:=cellsK G7
        have HM2:=HM.ext X2
        have hlk:=HM2.lookup (t:=175) Tryz.underlying3 Tryz.underlying175 (z:=.int .i64 0) (by rfl) hwf false
        have X3:=ext_trans hX X2
        clear HPS hx2 HM e0 e1 e2 e3 e4 hc hf
        by_cases hst : pg.state = 1
        ·by_cases hin : L.contains pg.r.seq = true
         ·have hr:=HR.out
          rw [if_neg (by simp),if_neg (by simp [hst]),if_pos hin] at hr
          have hr : false = A:=hr
          subst hr
          have hv : (metG L pg.r.seq).getD (.int .i64 0) = .int .i64 1:=by unfold metG;rw [if_pos hin];rfl
          rw [hv] at hlk
          simp only [Bool.false_eq_true,if_false] at hlk
          have hst1:=hst
          clear HR hv hin
          go_wp2_with fail
          go_ret
          exact ⟨rfl,X3⟩
         ·have hr:=HR.out
          rw [if_neg (by simp),if_neg (by simp [hst]),if_neg hin] at hr
          have HR2 : Hid (((scanQ (pg.r.seq :: L) (f[i].pages.drop (k + 1))).bind fun s=>scanG s (f.drop (i + 1))).isSome = A):=Lib.hid hr
          have hv : (metG L pg.r.seq).getD (.int .i64 0) = .int .i64 0:=by unfold metG;rw [if_neg hin];rfl
          rw [hv] at hlk
          simp only [Bool.false_eq_true,if_false] at hlk
          clear HR hv hin hr
          go_wp2_with (at_mapUpdate;refine wpList_mapUpd rfl _ _ _ rfl Tryz.underlying3 Tryz.underlying175 rfl HM2 (by unfold maxLen;omega) rfl hwf (val:=.int .i64 1) rfl (fun w5 hM5 hg5=>?_))
          rw [metG_cons] at hM5
          have X5:=grown_ext X3 (fun g hg=>by cases hg;exact Nat.le_refl _) hg5
          clear hlk
          go_wp2_with fail
          exact ⟨⟨k + 1,pg.r.seq :: L,n + 1,by omega,by go_num,by omega,X5,hM5,HR2⟩,by simp [intOf];omega⟩
        ·have hr:=HR.out
         rw [if_neg (by simp),if_pos (by simp [hst])] at hr
         have HR2:=Lib.hid hr
         clear HR hr hlk
         go_wp2_with fail
         go_roundw
         case rel=>exact ⟨k + 1,L,n,by omega,by go_num,by omega,X3,HM2,HR2⟩
         case measure=>simp [intOf];omega
      ·obtain rfl : k = 4:=by omega
       have hr:=HR.out
       rw [List.drop_eq_nil_of_le (by rw [H4.out];omega)] at hr
       have HR2 : Hid ((scanG L (f.drop (i + 1))).isSome = A):=Lib.hid hr
       clear hr HR
       go_wp2_with fail
       exact ⟨⟨i + 1,L,n,by omega,by go_num,by omega,hX,HM,HR2⟩,by simp [intOf];omega⟩
   ·obtain rfl : i = 4:=by omega
    have hr:=HR.out
    rw [List.drop_eq_nil_of_le (by rw [H40.out];omega)] at hr
    have hr : true = A:=hr
    subst hr
    go_wp2_with fail
    go_ret
    exact ⟨rfl,hX⟩
 ·have hs : flashOkB f = false:=by rw [flashOk_G];simp [h4]
  rw [hs]
  go_enter Tryz.func117,Tryz.ntmps117
  go_wp2
  all_goals
   try simp only [beq_iff_eq,Bool.not_eq_true,beq_eq_false_iff_ne,ne_eq,bne_iff_ne,bne_eq_false_iff_eq,decide_eq_true_eq,decide_eq_false_iff_not] at *
   first
   | (exfalso;omega)
   | (go_ret;exact ⟨rfl,X0⟩)
end Go.Bu
namespace Go.Bu
open Go Go.RowKit Go.Plan Go.Proofs Go.Shelf
attribute [local go_sem] Oper.semAt_some
abbrev Span:=Int × Int
def spanC (s : Span) : List Value:=[.int .i64 s.1,.int .i64 s.2]
def spanStep (s : Span) (p : Page) : Span:=if p.state = 1 then (if s.1 = 0 ∨ p.r.seq < s.1 then p.r.seq else s.1,if s.2 < p.r.seq then p.r.seq else s.2) else s
def spanAt (ss : List Span) (x : Spot) : List Span:=ss.set x.1 (spanStep (ss.getD x.1 (0,0)) x.2.2)
def spansL (xs : List Spot) : List Span:=xs.foldl spanAt [(0,0),(0,0),(0,0),(0,0)]
theorem spansL_snoc (xs : List Spot) (x : Spot) : spansL (xs ++ [x]) = spanAt (spansL xs) x:=by unfold spansL;rw [List.foldl_append];rfl
theorem spansL_len (xs : List Spot) : (spansL xs).length = 4:=by
 have : ∀ (xs : List Spot) (s : List Span),(xs.foldl spanAt s).length = s.length:=by
  intro xs;induction xs with
  | nil=>exact fun _=>rfl
  | cons x xs ih=>intro s;rw [List.foldl_cons,ih];simp [spanAt]
 exact this _ _
def spansOf (f : List Block) : List Span:=spansL (spF f f.length)
theorem cells_own {X Y : World} {row : Option Nat} {b T : Nat} {c : Array Value} {fr : Nat × Nat} {B : Nat} (h : X.heap[b]? = some (.cells c T fr)) (hg : X.grownBy Y row) (hr : ∀ r,row = some r → B ≤ r ∧ ∃ o : Obj,X.heap[r]? = some o ∧ o.isCells = false) : Y.heap[b]? = some (.cells c T fr):=by
 rw [hg.block b (heap_lt h) fun e=>?_]
 ·exact h
 ·obtain ⟨o,ho,hc⟩:=(hr b e.symm).2
  rw [h] at ho;cases ho;cases hc
theorem OwnAt.two' {T : TypeId} {w : World} {B o : Nat} {xs : List Span} (h : OwnAt 2 spanC T w B o xs) {k : Nat} (hk : k < xs.length) :
  w.cell? ⟨B,o + k * 2,none⟩ = some (.int .i64 xs[k].1) ∧ w.cell? ⟨B,o + k * 2 + 1,none⟩ = some (.int .i64 xs[k].2):=
 ⟨h.cell (List.getElem?_eq_getElem hk) (j:=0) rfl,h.cell (List.getElem?_eq_getElem hk) (j:=1) rfl⟩
theorem KeepsFrom.of_chg {B : Nat} {L : List Nat} {W W' : World} (h : Chg L W W') (hL : ∀ b ∈ L,b < B) : KeepsFrom B W W':=
 ⟨h.size,fun k o hB hk _=>h.keep hk fun hm=>by have:=hL k hm;omega⟩
theorem frozen_ext {w w' : World} (h : Ext w w') {b : Nat} (hb : b < w.heap.size) (j : Nat) : w'.frozen? ⟨b,j,none⟩ = w.frozen? ⟨b,j,none⟩:=(bcell h).2 b j hb
def SpansΦ (w : World) (ss : List Span) (e : Ending) (w' : World) : Prop:=∃ b,e = .returned (.slice (some ⟨b,0,none⟩) 4 4) ∧ Ext w w' ∧ w.heap.size ≤ b ∧ OwnAt 2 spanC 148 w' b 0 ss
set_option maxRecDepth 20000 in
set_option maxHeartbeats 4000000 in
theorem spansOf_c (v : Value) (f : List Block) (w : World) (h : Flash (Old w) w v f) (h4 : f.length = 4) (hp : ∀ b ∈ f,b.pages.length ≤ 1048576) (hs : ∀ b ∈ f,∀ p ∈ b.pages,0 ≤ p.r.seq ∧ p.r.seq ≤ 600) :
  Calls Tryz.prog 118 #[v] w (SpansΦ w (spansOf f)):=by
 obtain ⟨a,cap,rfl⟩:=h.form
 rw [h4] at h ⊢
 have H4:=Lib.hid h4
 have HP:=Lib.hid hp
 have HS:=Lib.hid hs
 clear hp hs h4
 have hmk : ∀ w : World,(Instr.makeSlice 145 (.int .i64 4) (.int .i64 4)).run Tryz.prog w = .ok (.slice (some ⟨w.heap.size,0,none⟩) 4 4) (w.alloc (.cells #[.int .i64 0,.int .i64 0,.int .i64 0,.int .i64 0,.int .i64 0,.int .i64 0,.int .i64 0,.int .i64 0] 148)):=fun w=>by kernel_rfl
 refine (callsIn_wide (n:=9)).1 ?_
 refine callsIn_of_wp_marks Tryz.func118 rfl trivial ?_ rfl
 simp only [Tryz.ntmps118,List.size_toArray,List.length_cons,List.length_nil,Nat.reduceAdd,Nat.reduceSub,Array.replicate_succ,Array.replicate_zero,List.push_toArray,List.append_toArray,List.nil_append,List.cons_append]
 gi_wp2_with (refine ⟨trivial,?_⟩;gi_at_call 90;refine (callsIn_wide.2 (eachPage_c _ _ _ _)).mono ?_;rintro e w' ⟨rfl,rfl⟩)
 clear hmk
 have XW : Ext w (((w.alloc (.cells #[.int .i64 0,.int .i64 0,.int .i64 0,.int .i64 0,.int .i64 0,.int .i64 0,.int .i64 0,.int .i64 0] 148)).alloc (.cells #[.slice (some ⟨w.heap.size,0,none⟩) 4 4] 145)).alloc (.cells #[.slice a 4 cap] 23)):=ext_alloc (ext_alloc (ext_alloc (ext_refl _) _) _) _
 obtain ⟨W0,hW0⟩ : ∃ W0,((w.alloc (.cells #[.int .i64 0,.int .i64 0,.int .i64 0,.int .i64 0,.int .i64 0,.int .i64 0,.int .i64 0,.int .i64 0] 148)).alloc (.cells #[.slice (some ⟨w.heap.size,0,none⟩) 4 4] 145)).alloc (.cells #[.slice a 4 cap] 23) = W0:=⟨_,rfl⟩
 have G0 : W0.heap[w.heap.size]? = some (.cells #[.int .i64 0,.int .i64 0,.int .i64 0,.int .i64 0,.int .i64 0,.int .i64 0,.int .i64 0,.int .i64 0] 148 (0,0)):=by rw [← hW0];exact hg_alloc (hg_alloc (hg_new rfl))
 have G1 : W0.heap[w.heap.size + 1]? = some (.cells #[.slice (some ⟨w.heap.size,0,none⟩) 4 4] 145 (0,0)):=by rw [← hW0];exact hg_alloc (hg_new (by simp))
 have G2 : W0.heap[w.heap.size + 2]? = some (.cells #[.slice a 4 cap] 23 (0,0)):=by rw [← hW0];exact hg_new (by simp)
 have hs0 : W0.heap.size = w.heap.size + 3:=by rw [← hW0];simp
 rw [hW0] at XW ⊢
 have HD : ∀ i,(i < w.heap.size ∨ i = w.heap.size + 2) → i < W0.heap.size:=fun i hi=>by omega
 have HS0:=Lib.hid hs0
 clear hs0 hW0
 refine wpIn_rangeFunc_ownH rfl (by omega) (gf:=125) (lb:=#[.pointer (some ⟨w.heap.size + 2,0,none⟩)]) rfl trivial (enters_of Tryz.func125 (by kernel_rfl) rfl)
  (each_stops 8 (by omega) (fun i=>i < w.heap.size ∨ i = w.heap.size + 2) (w.heap.size + 2) (.slice a 4 cap) f W0 (cell_block G2 0) (.inr rfl) HD (Sl.same blockE_kept h (same_old XW) (fun b hb=>.inl hb)) (by rw [H4.out];omega) HP.out)
  (fun h k=>h.trans k) (fun W l o o' hl _ _ _=>KpD.put HD W l o o' hl) (Below.refl _ _) (fun _=>rfl)
  (fun pre W=>OwnAt 2 spanC 148 W w.heap.size 0 (spansL (pre.map (·.1))) ∧ W.heap[w.heap.size + 1]? = some (.cells #[.slice (some ⟨w.heap.size,0,none⟩) 4 4] 145 (0,0)) ∧ Ext w W ∧ W0.heap.size ≤ W.heap.size)
  (fun _ _ _=>False) ?hI (fun _ _ _ _ _ h _ _=>h.elim) ?h0
  (fun x a' W=>∃ Bx By,W0.heap.size ≤ Bx ∧ W0.heap.size ≤ By ∧ W.heap[Bx]? = some (.cells #[.int .i64 x.1.1,.int .i64 x.1.2.1] 129 (0,0)) ∧ W.heap[By]? = some (.cells (pageC x.1.2.2).toArray 116 (0,0)) ∧
   a' = { tmps:=#[.slice a 4 cap,undef,.slice none 0 0,.pointer (some ⟨w.heap.size + 1,0,none⟩),.pointer (some ⟨Bx,0,none⟩),.pointer (some ⟨By,0,none⟩),undef,.slice a 4 cap,.int .i64 4,.slice (some ⟨w.heap.size,0,none⟩) 4 4,.slice a 4 cap,.func (.func 125) #[] #[.pointer (some ⟨w.heap.size + 2,0,none⟩)],.agg #[.int .i64 x.1.1,.int .i64 x.1.2.1],pageA x.1.2.2,undef,undef,undef,undef,undef,undef,undef,undef,undef,undef,undef,undef,undef,undef,undef,undef,undef,undef,undef,undef,undef,undef,undef,undef,undef,undef,undef,undef,undef,undef,undef,undef,undef,undef,undef,undef,undef,undef,undef,undef],defers:=[] })
  ?hAx ?assign ?body ?done ?stop
 case hI =>
  rintro s X Y row ⟨h1,h2,h3,h4⟩ hg hr
  have hx:=grown_ext h3 (fun g hg'=>by have:=(hr g hg').1;have:=XW.size;omega) hg
  exact ⟨h1.keep (hg.block _ h1.lt fun e=>by have:=(hr _ e.symm).1;have:=HS0.out;omega),cells_own h2 hg hr,hx,Nat.le_trans h4 hg.size⟩
 case h0 =>
  refine ⟨⟨_,G0,?_⟩,G1,XW,Nat.le_refl _⟩
  intro i x hi j u hu
  have hx : x = (0,0):=by
   have:=List.mem_of_getElem? hi
   simp [spansL] at this;exact this
  subst hx
  have hi4 : i < 4:=(List.getElem?_eq_some_iff.1 hi).1
  have hj2 : j < 2:=(List.getElem?_eq_some_iff.1 hu).1
  match i,hi4,j,hj2 with
  | 0,_,0,_=>exact hu
  | 0,_,1,_=>exact hu
  | 1,_,0,_=>exact hu
  | 1,_,1,_=>exact hu
  | 2,_,0,_=>exact hu
  | 2,_,1,_=>exact hu
  | 3,_,0,_=>exact hu
  | 3,_,1,_=>exact hu
 case hAx =>
  rintro x a' s X Y row ⟨Bx,By,h1,h2,h3,h4,h5⟩ hg hr
  exact ⟨Bx,By,h1,h2,cells_own h3 hg hr,cells_own h4 hg hr,h5⟩
 case stop=>rintro D c pre W _ _ h;exact h.elim
 case assign =>
  rintro l pre ⟨⟨i,j,p⟩,hin⟩ W K ⟨h1,h2,h3,h4⟩ hK
  simp only [encS]
  gi_wp2
  have hx : Ext W ((W.alloc (.cells #[.int .i64 i,.int .i64 j] 129)).alloc (.cells (pageC p).toArray 116)):=ext_alloc (ext_alloc (ext_refl _) _) _
  exact hK _ _ (((KeepsOthers.alloc _ _).trans (KeepsOthers.alloc _ _)).from _) (KpD.of_below hx fun b hb=>Nat.lt_of_lt_of_le (HD b hb) h4) ⟨h1.ext hx,keep_ext hx h2,ext_trans h3 hx,Nat.le_trans h4 hx.size⟩
   ⟨W.heap.size,W.heap.size + 1,h4,by omega,hg_alloc (hg_new rfl),hg_new (by simp),rfl⟩
 case done =>
  rintro D xs W hD hS ⟨h1,h2,h3,h4⟩ hK
  obtain ⟨g3,gf3⟩:=cellsK h2
  gi_wp2
  refine ⟨by simp,.inl ⟨_,_,rfl,run_takeDeferred hK,?_⟩⟩
  refine ⟨_,results_tmp rfl _ _ _,w.heap.size,rfl,?_,Nat.le_refl _,?_⟩
  ·exact grown_ext h3 (fun g hg=>by cases hg;have:=HS0.out;omega) (grownBy_putObj' W D _)
  ·rw [spansOf,← hS];exact h1.keep (World.putObj_heap_other (by have:=HS0.out;omega))
 case body =>
  rintro l pre ⟨⟨i,j,p⟩,hin⟩ a' W hl ⟨r,hr⟩ ⟨h1,h2,h3,h4⟩ ⟨Bx,By,hB1,hB2,g4,g5,rfl⟩ hlt
  have hi4 : i < 4:=by
   obtain ⟨b,hb,_⟩:=hin
   have:=(List.getElem?_eq_some_iff.1 hb).1
   have:=H4.out;omega
  have hsq : 0 ≤ p.r.seq ∧ p.r.seq ≤ 600:=by
   obtain ⟨b,hb,hp⟩:=hin
   exact HS.out b (List.mem_of_getElem? hb) p (List.mem_of_getElem? hp)
  have hss:=spansL_len (pre.map (·.1))
  have hsn:=spansL_snoc (pre.map (·.1)) (i,j,p)
  have HSN : Hid (spansL ((pre ++ [⟨(i,j,p),hin⟩] : List (SpotIn f)).map (·.1)) = spanAt (spansL (pre.map (·.1))) (i,j,p)):=Lib.hid (by rw [List.map_append];exact hsn)
  clear hsn
  generalize spansL (pre.map (·.1)) = ss at *
  dsimp only at g4 g5
  obtain ⟨q4,qf4⟩:=cellsK g4
  obtain ⟨q5,qf5⟩:=cellsK g5
  obtain ⟨q3,qf3⟩:=cellsK h2
  have lB:=h1.lt
  by_cases hst : p.state = 1
  ·obtain ⟨lo,hi,he⟩ : ∃ lo hi,ss[i]? = some (lo,hi):=⟨ss[i].1,ss[i].2,by rw [List.getElem?_eq_getElem (by omega)]⟩
   have c0 : W.cell? ⟨w.heap.size,i * 2,none⟩ = some (.int .i64 lo):=by simpa using h1.cell he (j:=0) rfl
   have c1 : W.cell? ⟨w.heap.size,i * 2 + 1,none⟩ = some (.int .i64 hi):=by simpa using h1.cell he (j:=1) rfl
   have cf:=h1.frozen
   have hin4 : Hid (InF f (i,j,p)):=Lib.hid hin
   have hneB : By ≠ w.heap.size:=by have:=HS0.out;omega
   have hset:=h1
   have H1:=Lib.hid h1
   have HSS:=Lib.hid hss
   clear h1 hset hss
   have hspan : spanAt ss (i,j,p) = ss.set i (if lo = 0 ∨ p.r.seq < lo then p.r.seq else lo,if hi < p.r.seq then p.r.seq else hi):=by
    unfold spanAt spanStep;rw [if_pos hst,List.getD_eq_getElem?_getD,he];rfl
   have HSPAN:=Lib.hid hspan
   clear hspan
   by_cases hz : lo = 0
   ·have hz' : (lo == 0) = true:=by simpa using hz
    gi_wp2
    refine wpIn_region_ext [] [0,1,2,3,4,5,6,7,8,9,10,11,12,13,14] [] [] (by kernel_rfl) (by kernel_rfl) (by kernel_rfl) ?late ?_
    case late=>exact fun f hf=>absurd hf List.not_mem_nil
    refine Rob.y (v:=?_) rfl rfl (fun w1 hx hH=>?_) ?_;rotate_left
    ·go_simp;first | done | rfl | exact (Bool.not_not _).symm
    simp only [Act.put,slA,slB,slC]
    refine Rob.y (v:=?_) rfl rfl (fun w1 hx hH=>?_) ?_;rotate_left
    ·(obtain ⟨q5,qf5⟩:=cellsK (keep_ext hx g5);have d0:=cell_ext hx c0;have d1:=cell_ext hx c1);go_simp;first | done | rfl
    simp only [Act.put,slA,slB,slC]
    refine Rob.y (v:=?_) rfl rfl (fun w1 hx hH=>?_) ?_;rotate_left
    ·go_simp;first | done | rfl | exact (Bool.not_not _).symm
    simp only [Act.put,slA,slB,slC]
    refine Rob.y (v:=?_) rfl rfl (fun w1 hx hH=>?_) ?_;rotate_left
    ·(obtain ⟨q5,qf5⟩:=cellsK (keep_ext hx g5);have d0:=cell_ext hx c0;have d1:=cell_ext hx c1);go_simp;first | done | rfl
    simp only [Act.put,slA,slB,slC]
    iterate 2
     refine Rob.y (v:=?_) rfl rfl (fun w1 hx hH=>?_) ?_;rotate_left
     ·go_simp;first | done | rfl | exact (Bool.not_not _).symm
     simp only [Act.put,slA,slB,slC]
    iterate 8
     refine Rob.no rfl rfl ?_
     simp only [Act.put,slA,slB,slC]
    refine Rob.y (v:=?_) rfl rfl (fun w1 hx hH=>?_) ?_;rotate_left
    ·go_simp;first | done | rfl | exact (Bool.not_not _).symm
    simp only [Act.put,slA,slB,slC]
    refine fin_nil (fun w1 hx _=>?_)
    refine qn_mk ?_
    obtain ⟨q5,qf5⟩:=cellsK (keep_ext hx g5)
    have d0:=cell_ext hx c0
    have df:=fun j=>(frozen_ext hx H1.out.lt j).trans (cf j)
    gi_wp2
    obtain ⟨w2,hw2⟩ : ∃ w2,(w1.setCell ⟨w.heap.size,i * 2,none⟩ (.int .i64 p.r.seq)) = w2:=⟨_,rfl⟩
    obtain ⟨lo2,hlo2⟩ : ∃ lo2,p.r.seq = lo2:=⟨_,rfl⟩
    have HSN2 : Hid (spanAt ss (i,j,p) = ss.set i (lo2,if hi < p.r.seq then p.r.seq else hi)):=Lib.hid (by rw [HSPAN.out,if_pos (show lo = 0 ∨ p.r.seq < lo by omega),hlo2])
    have H2 : OwnAt 2 spanC 148 w2 w.heap.size 0 (ss.set i (lo2,hi)):=by
     obtain ⟨hil,he'⟩:=List.getElem?_eq_some_iff.1 he
     have:=OwnAt.set1 (n:=2) (enc:=spanC) (fun _=>rfl) (H1.out.ext hx) (k:=i) hil (j:=0) (by omega) (.int .i64 p.r.seq) (p.r.seq,hi) (by rw [he'];rfl)
     rw [Nat.zero_add,Nat.add_zero,hw2,hlo2] at this
     exact this
    have hC2 : Chg [w.heap.size] W w2:=by rw [← hw2];exact (Chg.of_ext hx).set (p:=⟨w.heap.size,i * 2,none⟩) (.inl (by simp)) _
    rw [hw2]
    clear hw2 hx hlo2 d0 df HSPAN H1
    have GP : w2.heap[By]? = some (.cells (pageC p).toArray 116 (0,0)):=hC2.keep g5 (by simp;omega)
    have C1 : w2.cell? ⟨w.heap.size,i * 2 + 1,none⟩ = some (.int .i64 hi):=by simpa using H2.cell (x:=(lo2,hi)) (List.getElem?_set_self (by rw [HSS.out];exact hi4)) (j:=1) rfl
    have CF:=H2.frozen
    have HH2:=Lib.hid H2
    clear H2 c0 c1 cf q3 qf3 q4 qf4 q5 qf5 hsq
    gi_wp2
    refine wpIn_region_ext [] [0,1,2,3,4,5,6,7,8,9,10] [] [11] (by kernel_rfl) (by kernel_rfl) (by kernel_rfl) ?late ?_
    case late=>exact fun f hf=>absurd hf List.not_mem_nil
    iterate 2
     refine Rob.y (v:=?_) rfl rfl (fun w1 hx hH=>?_) ?_;rotate_left
     ·go_simp;first | done | rfl | exact (Bool.not_not _).symm
     simp only [Act.put,slA,slB,slC]
    refine Rob.y (v:=?_) rfl rfl (fun w1 hx hH=>?_) ?_;rotate_left
    ·(obtain ⟨q5,qf5⟩:=cellsK (keep_ext hx GP);have d1:=cell_ext hx C1);go_simp;first | done | rfl
    simp only [Act.put,slA,slB,slC]
    refine Rob.y (v:=?_) rfl rfl (fun w1 hx hH=>?_) ?_;rotate_left
    ·go_simp;first | done | rfl | exact (Bool.not_not _).symm
    simp only [Act.put,slA,slB,slC]
    refine Rob.y (v:=?_) rfl rfl (fun w1 hx hH=>?_) ?_;rotate_left
    ·(obtain ⟨q5,qf5⟩:=cellsK (keep_ext hx GP);have d1:=cell_ext hx C1);go_simp;first | done | rfl
    simp only [Act.put,slA,slB,slC]
    iterate 2
     refine Rob.y (v:=?_) rfl rfl (fun w1 hx hH=>?_) ?_;rotate_left
     ·go_simp;first | done | rfl | exact (Bool.not_not _).symm
     simp only [Act.put,slA,slB,slC]
    refine Rob.y (v:=?_) rfl rfl (fun w1 hx hH=>?_) ?_;rotate_left
    ·(obtain ⟨q5,qf5⟩:=cellsK (keep_ext hx GP);have d1:=cell_ext hx C1);go_simp;first | done | rfl
    simp only [Act.put,slA,slB,slC]
    refine Rob.y (v:=?_) rfl rfl (fun w1 hx hH=>?_) ?_;rotate_left
    ·go_simp;first | done | rfl | exact (Bool.not_not _).symm
    simp only [Act.put,slA,slB,slC]
    refine Rob.y (v:=?_) rfl rfl (fun w1 hx hH=>?_) ?_;rotate_left
    ·(obtain ⟨q5,qf5⟩:=cellsK (keep_ext hx GP);have d1:=cell_ext hx C1);go_simp;first | done | rfl
    simp only [Act.put,slA,slB,slC]
    refine Rob.y (v:=?_) rfl rfl (fun w1 hx hH=>?_) ?_;rotate_left
    ·go_simp;first | done | rfl | exact (Bool.not_not _).symm
    simp only [Act.put,slA,slB,slC]
    refine fin_tail (fun w3 hx3 _=>?_)
    simp only [dstOf,List.getElem?_cons_succ,List.getElem?_cons_zero,Option.bind_some,Act.put,slA,slB,slC,List.filterMap_cons,List.filterMap_nil]
    have CF3:=fun j=>(frozen_ext hx3 HH2.out.lt j).trans (CF j)
    have c3:=cell_ext hx3 C1
    refine wpList_plain rfl (fun K hK=>?_)
    go_simp
    refine hK _ _ ?_
    clear hK K
    refine wpList_nil ?_
    refine qn_mk ?_
    have H3:=HH2.out.ext hx3
    obtain ⟨hi2,hhi2⟩ : ∃ hi2,(if hi < p.r.seq then p.r.seq else hi) = hi2:=⟨_,rfl⟩
    rw [hhi2] at HSN2 ⊢
    have hC3:=(hC2.trans (Chg.of_ext hx3)).set (p:=⟨w.heap.size,i * 2 + 1,none⟩) (.inl (by simp)) (.int .i64 hi2)
    clear hhi2
    gi_wp2
    refine ⟨KeepsFrom.of_chg hC3 (by have:=HS0.out;simp;omega),KpD.of_chg hC3 (fun b hb=>⟨Nat.lt_of_lt_of_le (HD b hb) h4,by simp;omega⟩),?_,hC3.keep h2 (by simp),Chg.ext h3 hC3 (by simp),Nat.le_trans h4 hC3.size⟩
    rw [HSN.out]
    have hS:=OwnAt.set1 (n:=2) (enc:=spanC) (fun _=>rfl) H3 (k:=i) (by simp;rw [HSS.out];exact hi4) (j:=1) (by omega) (.int .i64 hi2) (lo2,hi2) (by simp [spanC])
    rw [Nat.zero_add,List.set_set] at hS
    rw [HSN2.out];exact hS
   ·have hz' : (lo == 0) = false:=by simpa using hz
    by_cases hlt2 : p.r.seq < lo
    ·gi_wp2
     refine wpIn_region_ext [] [0,1,2,3,4,5,6,7,8,9,10,11,12,13,14] [] [] (by kernel_rfl) (by kernel_rfl) (by kernel_rfl) ?late ?_
     case late=>exact fun f hf=>absurd hf List.not_mem_nil
     refine Rob.y (v:=?_) rfl rfl (fun w1 hx hH=>?_) ?_;rotate_left
     ·go_simp;first | done | rfl | exact (Bool.not_not _).symm
     simp only [Act.put,slA,slB,slC]
     refine Rob.y (v:=?_) rfl rfl (fun w1 hx hH=>?_) ?_;rotate_left
     ·(obtain ⟨q5,qf5⟩:=cellsK (keep_ext hx g5);have d0:=cell_ext hx c0;have d1:=cell_ext hx c1);go_simp;first | done | rfl
     simp only [Act.put,slA,slB,slC]
     refine Rob.y (v:=?_) rfl rfl (fun w1 hx hH=>?_) ?_;rotate_left
     ·go_simp;first | done | rfl | exact (Bool.not_not _).symm
     simp only [Act.put,slA,slB,slC]
     refine Rob.y (v:=?_) rfl rfl (fun w1 hx hH=>?_) ?_;rotate_left
     ·(obtain ⟨q5,qf5⟩:=cellsK (keep_ext hx g5);have d0:=cell_ext hx c0;have d1:=cell_ext hx c1);go_simp;first | done | rfl
     simp only [Act.put,slA,slB,slC]
     iterate 2
      refine Rob.y (v:=?_) rfl rfl (fun w1 hx hH=>?_) ?_;rotate_left
      ·go_simp;first | done | rfl | exact (Bool.not_not _).symm
      simp only [Act.put,slA,slB,slC]
     iterate 2
      refine Rob.yg (v:=?_) rfl rfl (fun w1 hx hH=>?_) ?_;rotate_left
      ·go_simp;first | done | rfl | exact (Bool.not_not _).symm
      simp only [Act.put,slA,slB,slC]
     refine Rob.yg (v:=?_) rfl rfl (fun w1 hx hH=>?_) ?_;rotate_left
     ·(obtain ⟨q5,qf5⟩:=cellsK (keep_ext hx g5);have d0:=cell_ext hx c0;have d1:=cell_ext hx c1);go_simp;first | done | rfl
     simp only [Act.put,slA,slB,slC]
     refine Rob.yg (v:=?_) rfl rfl (fun w1 hx hH=>?_) ?_;rotate_left
     ·go_simp;first | done | rfl | exact (Bool.not_not _).symm
     simp only [Act.put,slA,slB,slC]
     refine Rob.yg (v:=?_) rfl rfl (fun w1 hx hH=>?_) ?_;rotate_left
     ·(obtain ⟨q5,qf5⟩:=cellsK (keep_ext hx g5);have d0:=cell_ext hx c0;have d1:=cell_ext hx c1);go_simp;first | done | rfl
     simp only [Act.put,slA,slB,slC]
     refine Rob.yg (v:=?_) rfl rfl (fun w1 hx hH=>?_) ?_;rotate_left
     ·go_simp;first | done | rfl | exact (Bool.not_not _).symm
     simp only [Act.put,slA,slB,slC]
     refine Rob.yg (v:=?_) rfl rfl (fun w1 hx hH=>?_) ?_;rotate_left
     ·(obtain ⟨q5,qf5⟩:=cellsK (keep_ext hx g5);have d0:=cell_ext hx c0;have d1:=cell_ext hx c1);go_simp;first | done | rfl
     simp only [Act.put,slA,slB,slC]
     refine Rob.yg (v:=?_) rfl rfl (fun w1 hx hH=>?_) ?_;rotate_left
     ·go_simp;first | done | rfl | exact (Bool.not_not _).symm
     simp only [Act.put,slA,slB,slC]
     refine Rob.y (v:=?_) rfl rfl (fun w1 hx hH=>?_) ?_;rotate_left
     ·go_simp;first | done | rfl | exact (Bool.not_not _).symm
     simp only [Act.put,slA,slB,slC]
     refine fin_nil (fun w1 hx _=>?_)
     refine qn_mk ?_
     obtain ⟨q5,qf5⟩:=cellsK (keep_ext hx g5)
     have d0:=cell_ext hx c0
     have df:=fun j=>(frozen_ext hx H1.out.lt j).trans (cf j)
     gi_wp2
     obtain ⟨w2,hw2⟩ : ∃ w2,(w1.setCell ⟨w.heap.size,i * 2,none⟩ (.int .i64 p.r.seq)) = w2:=⟨_,rfl⟩
     obtain ⟨lo2,hlo2⟩ : ∃ lo2,p.r.seq = lo2:=⟨_,rfl⟩
     have HSN2 : Hid (spanAt ss (i,j,p) = ss.set i (lo2,if hi < p.r.seq then p.r.seq else hi)):=Lib.hid (by rw [HSPAN.out,if_pos (show lo = 0 ∨ p.r.seq < lo by omega),hlo2])
     have H2 : OwnAt 2 spanC 148 w2 w.heap.size 0 (ss.set i (lo2,hi)):=by
      obtain ⟨hil,he'⟩:=List.getElem?_eq_some_iff.1 he
      have:=OwnAt.set1 (n:=2) (enc:=spanC) (fun _=>rfl) (H1.out.ext hx) (k:=i) hil (j:=0) (by omega) (.int .i64 p.r.seq) (p.r.seq,hi) (by rw [he'];rfl)
      rw [Nat.zero_add,Nat.add_zero,hw2,hlo2] at this
      exact this
     have hC2 : Chg [w.heap.size] W w2:=by rw [← hw2];exact (Chg.of_ext hx).set (p:=⟨w.heap.size,i * 2,none⟩) (.inl (by simp)) _
     rw [hw2]
     clear hw2 hx hlo2 d0 df HSPAN H1
     have GP : w2.heap[By]? = some (.cells (pageC p).toArray 116 (0,0)):=hC2.keep g5 (by simp;omega)
     have C1 : w2.cell? ⟨w.heap.size,i * 2 + 1,none⟩ = some (.int .i64 hi):=by simpa using H2.cell (x:=(lo2,hi)) (List.getElem?_set_self (by rw [HSS.out];exact hi4)) (j:=1) rfl
     have CF:=H2.frozen
     have HH2:=Lib.hid H2
     clear H2 c0 c1 cf q3 qf3 q4 qf4 q5 qf5 hsq
     gi_wp2
     refine wpIn_region_ext [] [0,1,2,3,4,5,6,7,8,9,10] [] [11] (by kernel_rfl) (by kernel_rfl) (by kernel_rfl) ?late ?_
     case late=>exact fun f hf=>absurd hf List.not_mem_nil
     iterate 2
      refine Rob.y (v:=?_) rfl rfl (fun w1 hx hH=>?_) ?_;rotate_left
      ·go_simp;first | done | rfl | exact (Bool.not_not _).symm
      simp only [Act.put,slA,slB,slC]
     refine Rob.y (v:=?_) rfl rfl (fun w1 hx hH=>?_) ?_;rotate_left
     ·(obtain ⟨q5,qf5⟩:=cellsK (keep_ext hx GP);have d1:=cell_ext hx C1);go_simp;first | done | rfl
     simp only [Act.put,slA,slB,slC]
     refine Rob.y (v:=?_) rfl rfl (fun w1 hx hH=>?_) ?_;rotate_left
     ·go_simp;first | done | rfl | exact (Bool.not_not _).symm
     simp only [Act.put,slA,slB,slC]
     refine Rob.y (v:=?_) rfl rfl (fun w1 hx hH=>?_) ?_;rotate_left
     ·(obtain ⟨q5,qf5⟩:=cellsK (keep_ext hx GP);have d1:=cell_ext hx C1);go_simp;first | done | rfl
     simp only [Act.put,slA,slB,slC]
     iterate 2
      refine Rob.y (v:=?_) rfl rfl (fun w1 hx hH=>?_) ?_;rotate_left
      ·go_simp;first | done | rfl | exact (Bool.not_not _).symm
      simp only [Act.put,slA,slB,slC]
     refine Rob.y (v:=?_) rfl rfl (fun w1 hx hH=>?_) ?_;rotate_left
     ·(obtain ⟨q5,qf5⟩:=cellsK (keep_ext hx GP);have d1:=cell_ext hx C1);go_simp;first | done | rfl
     simp only [Act.put,slA,slB,slC]
     refine Rob.y (v:=?_) rfl rfl (fun w1 hx hH=>?_) ?_;rotate_left
     ·go_simp;first | done | rfl | exact (Bool.not_not _).symm
     simp only [Act.put,slA,slB,slC]
     refine Rob.y (v:=?_) rfl rfl (fun w1 hx hH=>?_) ?_;rotate_left
     ·(obtain ⟨q5,qf5⟩:=cellsK (keep_ext hx GP);have d1:=cell_ext hx C1);go_simp;first | done | rfl
     simp only [Act.put,slA,slB,slC]
     refine Rob.y (v:=?_) rfl rfl (fun w1 hx hH=>?_) ?_;rotate_left
     ·go_simp;first | done | rfl | exact (Bool.not_not _).symm
     simp only [Act.put,slA,slB,slC]
     refine fin_tail (fun w3 hx3 _=>?_)
     simp only [dstOf,List.getElem?_cons_succ,List.getElem?_cons_zero,Option.bind_some,Act.put,slA,slB,slC,List.filterMap_cons,List.filterMap_nil]
     have CF3:=fun j=>(frozen_ext hx3 HH2.out.lt j).trans (CF j)
     have c3:=cell_ext hx3 C1
     refine wpList_plain rfl (fun K hK=>?_)
     go_simp
     refine hK _ _ ?_
     clear hK K
     refine wpList_nil ?_
     refine qn_mk ?_
     have H3:=HH2.out.ext hx3
     obtain ⟨hi2,hhi2⟩ : ∃ hi2,(if hi < p.r.seq then p.r.seq else hi) = hi2:=⟨_,rfl⟩
     rw [hhi2] at HSN2 ⊢
     have hC3:=(hC2.trans (Chg.of_ext hx3)).set (p:=⟨w.heap.size,i * 2 + 1,none⟩) (.inl (by simp)) (.int .i64 hi2)
     clear hhi2
     gi_wp2
     refine ⟨KeepsFrom.of_chg hC3 (by have:=HS0.out;simp;omega),KpD.of_chg hC3 (fun b hb=>⟨Nat.lt_of_lt_of_le (HD b hb) h4,by simp;omega⟩),?_,hC3.keep h2 (by simp),Chg.ext h3 hC3 (by simp),Nat.le_trans h4 hC3.size⟩
     rw [HSN.out]
     have hS:=OwnAt.set1 (n:=2) (enc:=spanC) (fun _=>rfl) H3 (k:=i) (by simp;rw [HSS.out];exact hi4) (j:=1) (by omega) (.int .i64 hi2) (lo2,hi2) (by simp [spanC])
     rw [Nat.zero_add,List.set_set] at hS
     rw [HSN2.out];exact hS
    ·gi_wp2
     refine wpIn_region_ext [] [0,1,2,3,4,5,6,7,8,9,10,11,12,13,14] [] [] (by kernel_rfl) (by kernel_rfl) (by kernel_rfl) ?late ?_
     case late=>exact fun f hf=>absurd hf List.not_mem_nil
     refine Rob.y (v:=?_) rfl rfl (fun w1 hx hH=>?_) ?_;rotate_left
     ·go_simp;first | done | rfl | exact (Bool.not_not _).symm
     simp only [Act.put,slA,slB,slC]
     refine Rob.y (v:=?_) rfl rfl (fun w1 hx hH=>?_) ?_;rotate_left
     ·(obtain ⟨q5,qf5⟩:=cellsK (keep_ext hx g5);have d0:=cell_ext hx c0;have d1:=cell_ext hx c1);go_simp;first | done | rfl
     simp only [Act.put,slA,slB,slC]
     refine Rob.y (v:=?_) rfl rfl (fun w1 hx hH=>?_) ?_;rotate_left
     ·go_simp;first | done | rfl | exact (Bool.not_not _).symm
     simp only [Act.put,slA,slB,slC]
     refine Rob.y (v:=?_) rfl rfl (fun w1 hx hH=>?_) ?_;rotate_left
     ·(obtain ⟨q5,qf5⟩:=cellsK (keep_ext hx g5);have d0:=cell_ext hx c0;have d1:=cell_ext hx c1);go_simp;first | done | rfl
     simp only [Act.put,slA,slB,slC]
     iterate 2
      refine Rob.y (v:=?_) rfl rfl (fun w1 hx hH=>?_) ?_;rotate_left
      ·go_simp;first | done | rfl | exact (Bool.not_not _).symm
      simp only [Act.put,slA,slB,slC]
     iterate 2
      refine Rob.yg (v:=?_) rfl rfl (fun w1 hx hH=>?_) ?_;rotate_left
      ·go_simp;first | done | rfl | exact (Bool.not_not _).symm
      simp only [Act.put,slA,slB,slC]
     refine Rob.yg (v:=?_) rfl rfl (fun w1 hx hH=>?_) ?_;rotate_left
     ·(obtain ⟨q5,qf5⟩:=cellsK (keep_ext hx g5);have d0:=cell_ext hx c0;have d1:=cell_ext hx c1);go_simp;first | done | rfl
     simp only [Act.put,slA,slB,slC]
     refine Rob.yg (v:=?_) rfl rfl (fun w1 hx hH=>?_) ?_;rotate_left
     ·go_simp;first | done | rfl | exact (Bool.not_not _).symm
     simp only [Act.put,slA,slB,slC]
     refine Rob.yg (v:=?_) rfl rfl (fun w1 hx hH=>?_) ?_;rotate_left
     ·(obtain ⟨q5,qf5⟩:=cellsK (keep_ext hx g5);have d0:=cell_ext hx c0;have d1:=cell_ext hx c1);go_simp;first | done | rfl
     simp only [Act.put,slA,slB,slC]
     refine Rob.yg (v:=?_) rfl rfl (fun w1 hx hH=>?_) ?_;rotate_left
     ·go_simp;first | done | rfl | exact (Bool.not_not _).symm
     simp only [Act.put,slA,slB,slC]
     refine Rob.yg (v:=?_) rfl rfl (fun w1 hx hH=>?_) ?_;rotate_left
     ·(obtain ⟨q5,qf5⟩:=cellsK (keep_ext hx g5);have d0:=cell_ext hx c0;have d1:=cell_ext hx c1);go_simp;first | done | rfl
     simp only [Act.put,slA,slB,slC]
     refine Rob.yg (v:=?_) rfl rfl (fun w1 hx hH=>?_) ?_;rotate_left
     ·go_simp;first | done | rfl | exact (Bool.not_not _).symm
     simp only [Act.put,slA,slB,slC]
     refine Rob.y (v:=?_) rfl rfl (fun w1 hx hH=>?_) ?_;rotate_left
     ·go_simp;first | done | rfl | exact (Bool.not_not _).symm
     simp only [Act.put,slA,slB,slC]
     refine fin_nil (fun w1 hx _=>?_)
     refine qn_mk ?_
     obtain ⟨w2,hw2⟩ : ∃ w2,w1 = w2:=⟨_,rfl⟩
     obtain ⟨lo2,hlo2⟩ : ∃ lo2,lo = lo2:=⟨_,rfl⟩
     have HSN2 : Hid (spanAt ss (i,j,p) = ss.set i (lo2,if hi < p.r.seq then p.r.seq else hi)):=Lib.hid (by rw [HSPAN.out,if_neg (show ¬ (lo = 0 ∨ p.r.seq < lo) by omega),hlo2])
     have H2 : OwnAt 2 spanC 148 w2 w.heap.size 0 (ss.set i (lo2,hi)):=by
      rw [← hw2,← hlo2,show ss.set i (lo,hi) = ss by
       obtain ⟨hl,he'⟩:=List.getElem?_eq_some_iff.1 he
       rw [← he'];simp]
      exact H1.out.ext hx
     have hC2 : Chg [w.heap.size] W w2:=by rw [← hw2];exact Chg.of_ext hx
     gi_wp2
     rw [hw2]
     clear hw2 hx hlo2 HSPAN H1
     have GP : w2.heap[By]? = some (.cells (pageC p).toArray 116 (0,0)):=hC2.keep g5 (by simp;omega)
     have C1 : w2.cell? ⟨w.heap.size,i * 2 + 1,none⟩ = some (.int .i64 hi):=by simpa using H2.cell (x:=(lo2,hi)) (List.getElem?_set_self (by rw [HSS.out];exact hi4)) (j:=1) rfl
     have CF:=H2.frozen
     have HH2:=Lib.hid H2
     clear H2 c0 c1 cf q3 qf3 q4 qf4 q5 qf5 hsq
     gi_wp2
     refine wpIn_region_ext [] [0,1,2,3,4,5,6,7,8,9,10] [] [11] (by kernel_rfl) (by kernel_rfl) (by kernel_rfl) ?late ?_
     case late=>exact fun f hf=>absurd hf List.not_mem_nil
     iterate 2
      refine Rob.y (v:=?_) rfl rfl (fun w1 hx hH=>?_) ?_;rotate_left
      ·go_simp;first | done | rfl | exact (Bool.not_not _).symm
      simp only [Act.put,slA,slB,slC]
     refine Rob.y (v:=?_) rfl rfl (fun w1 hx hH=>?_) ?_;rotate_left
     ·(obtain ⟨q5,qf5⟩:=cellsK (keep_ext hx GP);have d1:=cell_ext hx C1);go_simp;first | done | rfl
     simp only [Act.put,slA,slB,slC]
     refine Rob.y (v:=?_) rfl rfl (fun w1 hx hH=>?_) ?_;rotate_left
     ·go_simp;first | done | rfl | exact (Bool.not_not _).symm
     simp only [Act.put,slA,slB,slC]
     refine Rob.y (v:=?_) rfl rfl (fun w1 hx hH=>?_) ?_;rotate_left
     ·(obtain ⟨q5,qf5⟩:=cellsK (keep_ext hx GP);have d1:=cell_ext hx C1);go_simp;first | done | rfl
     simp only [Act.put,slA,slB,slC]
     iterate 2
      refine Rob.y (v:=?_) rfl rfl (fun w1 hx hH=>?_) ?_;rotate_left
      ·go_simp;first | done | rfl | exact (Bool.not_not _).symm
      simp only [Act.put,slA,slB,slC]
     refine Rob.y (v:=?_) rfl rfl (fun w1 hx hH=>?_) ?_;rotate_left
     ·(obtain ⟨q5,qf5⟩:=cellsK (keep_ext hx GP);have d1:=cell_ext hx C1);go_simp;first | done | rfl
     simp only [Act.put,slA,slB,slC]
     refine Rob.y (v:=?_) rfl rfl (fun w1 hx hH=>?_) ?_;rotate_left
     ·go_simp;first | done | rfl | exact (Bool.not_not _).symm
     simp only [Act.put,slA,slB,slC]
     refine Rob.y (v:=?_) rfl rfl (fun w1 hx hH=>?_) ?_;rotate_left
     ·(obtain ⟨q5,qf5⟩:=cellsK (keep_ext hx GP);have d1:=cell_ext hx C1);go_simp;first | done | rfl
     simp only [Act.put,slA,slB,slC]
     refine Rob.y (v:=?_) rfl rfl (fun w1 hx hH=>?_) ?_;rotate_left
     ·go_simp;first | done | rfl | exact (Bool.not_not _).symm
     simp only [Act.put,slA,slB,slC]
     refine fin_tail (fun w3 hx3 _=>?_)
     simp only [dstOf,List.getElem?_cons_succ,List.getElem?_cons_zero,Option.bind_some,Act.put,slA,slB,slC,List.filterMap_cons,List.filterMap_nil]
     have CF3:=fun j=>(frozen_ext hx3 HH2.out.lt j).trans (CF j)
     have c3:=cell_ext hx3 C1
     refine wpList_plain rfl (fun K hK=>?_)
     go_simp
     refine hK _ _ ?_
     clear hK K
     refine wpList_nil ?_
     refine qn_mk ?_
     have H3:=HH2.out.ext hx3
     obtain ⟨hi2,hhi2⟩ : ∃ hi2,(if hi < p.r.seq then p.r.seq else hi) = hi2:=⟨_,rfl⟩
     rw [hhi2] at HSN2 ⊢
     have hC3:=(hC2.trans (Chg.of_ext hx3)).set (p:=⟨w.heap.size,i * 2 + 1,none⟩) (.inl (by simp)) (.int .i64 hi2)
     clear hhi2
     gi_wp2
     refine ⟨KeepsFrom.of_chg hC3 (by have:=HS0.out;simp;omega),KpD.of_chg hC3 (fun b hb=>⟨Nat.lt_of_lt_of_le (HD b hb) h4,by simp;omega⟩),?_,hC3.keep h2 (by simp),Chg.ext h3 hC3 (by simp),Nat.le_trans h4 hC3.size⟩
     rw [HSN.out]
     have hS:=OwnAt.set1 (n:=2) (enc:=spanC) (fun _=>rfl) H3 (k:=i) (by simp;rw [HSS.out];exact hi4) (j:=1) (by omega) (.int .i64 hi2) (lo2,hi2) (by simp [spanC])
     rw [Nat.zero_add,List.set_set] at hS
     rw [HSN2.out];exact hS
  ·gi_wp2
   refine ⟨(KeepsOthers.refl _).from _,⟨Nat.le_refl _,fun _ _=>rfl⟩,?_,h2,h3,h4⟩
   rw [HSN.out]
   unfold spanAt spanStep
   rw [if_neg hst]
   rw [show ss.set i (ss.getD i (0,0)) = ss by rw [List.getD_eq_getElem?_getD,List.getElem?_eq_getElem (by omega)];simp]
   exact h1
end Go.Bu
namespace Go.Bu
open Go Go.RowKit Go.Plan Go.Proofs
theorem pageOk_one {p : Page} (h : pageOkB p = true) : (p.state = 1 → 1 ≤ p.r.seq) ∧ (p.state ≠ 1 → p.r.seq = 0):=by
 unfold pageOkB at h
 by_cases hs : p.state = 1
 ·rw [if_pos hs] at h
  simp only [recOkB,Bool.and_eq_true,inB_iff] at h
  exact ⟨fun _=>by omega,fun h=>absurd hs h⟩
 ·rw [if_neg hs] at h
  simp only [recZ,Bool.and_eq_true,beq_iff_eq] at h
  exact ⟨fun h=>absurd h hs,fun _=>by omega⟩
theorem spanFold_eq : ∀ (ps : List Page) (lo hi : Int),(∀ p ∈ ps,pageOkB p = true) → 0 ≤ hi → ps.foldl spanStep (lo,hi) = (ps.foldl leastStep lo,ps.foldl mostStep hi)
 | [],_,_,_,_=>rfl
 | p :: ps,lo,hi,h,h0=>by
  have hp:=pageOk_one (h p (by simp))
  rw [List.foldl_cons,List.foldl_cons,List.foldl_cons]
  have e : spanStep (lo,hi) p = (leastStep lo p,mostStep hi p):=by
   unfold spanStep leastStep mostStep
   by_cases hs : p.state = 1
   ·have:=hp.1 hs
    rw [if_pos hs]
    by_cases h1 : lo = 0 ∨ p.r.seq < lo
    ·rw [if_pos (show (lo,hi).1 = 0 ∨ p.r.seq < (lo,hi).1 from h1),if_pos (show 0 < p.r.seq ∧ (lo = 0 ∨ p.r.seq < lo) from ⟨by omega,h1⟩)]
    ·rw [if_neg (show ¬ ((lo,hi).1 = 0 ∨ p.r.seq < (lo,hi).1) from h1),if_neg (show ¬ (0 < p.r.seq ∧ (lo = 0 ∨ p.r.seq < lo)) from fun h=>h1 h.2)]
   ·have:=hp.2 hs
    rw [if_neg hs,if_neg (show ¬ (0 < p.r.seq ∧ (lo = 0 ∨ p.r.seq < lo)) by omega),if_neg (show ¬ hi < p.r.seq by omega)]
  rw [e]
  exact spanFold_eq ps _ _ (fun q hq=>h q (by simp [hq])) (by unfold mostStep;split <;> omega)
theorem spB_fold (i : Nat) (ps : List Page) : ∀ (k : Nat),k ≤ ps.length → ∀ ss : List Span,i < ss.length → (spB i ps k).foldl spanAt ss = ss.set i ((ps.take k).foldl spanStep (ss.getD i (0,0))):=by
 intro k
 induction k with
 | zero =>
  intro _ ss hi
  simp [spB,List.getElem?_eq_getElem hi]
 | succ k ih =>
  intro hk ss hi
  rw [spB_succ i ps k (by omega),List.foldl_append,ih (by omega) ss hi,← take_snoc ps k (by omega),List.foldl_append]
  simp [spanAt,List.getElem?_eq_getElem hi,hi]
theorem four {α : Type} {f : List α} (h : f.length = 4) : ∃ a b c d,f = [a,b,c,d]:=by
 match f,h with
 | [a,b,c,d],_=>exact ⟨a,b,c,d,rfl⟩
theorem spansOf_eq {f : List Block} (h4 : f.length = 4) (hp : ∀ b ∈ f,∀ p ∈ b.pages,pageOkB p = true) : spansOf f = f.map fun b=>(least b.pages,most b.pages):=by
 obtain ⟨b0,b1,b2,b3,rfl⟩:=four h4
 have e : spF [b0,b1,b2,b3] 4 = spB 0 b0.pages b0.pages.length ++ (spB 1 b1.pages b1.pages.length ++ (spB 2 b2.pages b2.pages.length ++ (spB 3 b3.pages b3.pages.length ++ []))):=rfl
 have g : ∀ b ∈ [b0,b1,b2,b3],b.pages.foldl spanStep (0,0) = (least b.pages,most b.pages):=fun b hb=>spanFold_eq _ 0 0 (hp b hb) (by decide)
 have g0:=g b0 (by simp)
 have g1:=g b1 (by simp)
 have g2:=g b2 (by simp)
 have g3:=g b3 (by simp)
 unfold spansOf spansL
 rw [h4,e]
 simp only [List.foldl_append,List.append_nil]
 rw [spB_fold 0 _ _ (Nat.le_refl _) _ (by simp),spB_fold 1 _ _ (Nat.le_refl _) _ (by simp),spB_fold 2 _ _ (Nat.le_refl _) _ (by simp),spB_fold 3 _ _ (Nat.le_refl _) _ (by simp)]
 simp [g0,g1,g2,g3]
theorem most_mem : ∀ (ps : List Page) (n : Int),ps.foldl mostStep n = n ∨ ∃ p ∈ ps,p.r.seq = ps.foldl mostStep n
 | [],n=>.inl rfl
 | p :: ps,n=>by
  rw [List.foldl_cons]
  rcases most_mem ps (mostStep n p) with h | ⟨q,hq,h⟩
  ·rw [h];unfold mostStep
   split
   ·exact .inr ⟨p,by simp,rfl⟩
   ·exact .inl rfl
  ·exact .inr ⟨q,by simp [hq],h⟩
theorem least_mem : ∀ (ps : List Page) (n : Int),ps.foldl leastStep n = n ∨ ∃ p ∈ ps,p.r.seq = ps.foldl leastStep n
 | [],n=>.inl rfl
 | p :: ps,n=>by
  rw [List.foldl_cons]
  rcases least_mem ps (leastStep n p) with h | ⟨q,hq,h⟩
  ·rw [h];unfold leastStep
   split
   ·exact .inr ⟨p,by simp,rfl⟩
   ·exact .inl rfl
  ·exact .inr ⟨q,by simp [hq],h⟩
theorem FlashOk.apart {f : List Block} (h : FlashOk f) {i k : Nat} (hi : i < f.length) (hk : k < f.length) (hik : i ≠ k) {p q : Page} (hp : p ∈ f[i].pages) (hq : q ∈ f[k].pages) (h1 : p.state = 1) (h2 : q.state = 1) : p.r.seq ≠ q.r.seq:=by
 have key : ∀ {i k : Nat} (hi : i < f.length) (hk : k < f.length),i < k → ∀ {p q : Page},p ∈ f[i].pages → q ∈ f[k].pages → p.state = 1 → q.state = 1 → p.r.seq ≠ q.r.seq:=by
  intro i k hi hk hlt p q hp hq h1 h2 e
  have hn:=h.nd
  rw [seqs_at f i hi] at hn
  have hn2:=(List.nodup_append.1 (List.nodup_append.1 hn).2.1).2.2
  refine hn2 p.r.seq (mem_pseqs.2 ⟨p,hp,h1,rfl⟩) q.r.seq (mem_seqs.2 ⟨f[k],?_,q,hq,h2,rfl⟩) e
  rw [List.mem_iff_getElem?]
  exact ⟨k - (i + 1),by rw [List.getElem?_drop,show i + 1 + (k - (i + 1)) = k by omega];exact List.getElem?_eq_getElem hk⟩
 rcases Nat.lt_or_gt_of_ne hik with h' | h'
 ·exact key hi hk h' hp hq h1 h2
 ·exact fun e=>key hk hi h' hq hp h2 h1 e.symm
theorem FlashOk.pg {f : List Block} (h : FlashOk f) {b : Block} (hb : b ∈ f) : ∀ p ∈ b.pages,pageOkB p = true:=(blockB_iff.1 (h.blocks b hb)).2.2.2.1
theorem FlashOk.uniq {f : List Block} (h : FlashOk f) {i k : Nat} (hi : i < f.length) (hk : k < f.length) (hik : i ≠ k) (hm : 0 < most f[i].pages) : least f[k].pages ≠ most f[i].pages:=by
 intro e
 have hpi:=h.pg (List.getElem_mem hi)
 have hpk:=h.pg (List.getElem_mem hk)
 rcases most_mem f[i].pages 0 with h1 | ⟨p,hp,h1⟩
 ·have h1' : most f[i].pages = 0:=h1
  omega
 ·rcases least_mem f[k].pages 0 with h2 | ⟨q,hq,h2⟩
  ·have h2' : least f[k].pages = 0:=h2
   omega
  ·have h1' : p.r.seq = most f[i].pages:=h1
   have h2' : q.r.seq = least f[k].pages:=h2
   have s1 : p.state = 1:=Decidable.byContradiction fun hs=>by have:=(pageOk_one (hpi p hp)).2 hs;omega
   have s2 : q.state = 1:=Decidable.byContradiction fun hs=>by have:=(pageOk_one (hpk q hq)).2 hs;omega
   exact h.apart hi hk hik hp hq s1 s2 (by omega)
def ovl (a b : Span) : Bool:=decide (0 < a.2) && decide (0 < b.2) && decide (b.1 ≤ a.2) && decide (a.1 ≤ b.2)
def spn (ss : List Span) (i : Nat) : Span:=ss.getD i (0,0)
def newN (ss : List Span) (i : Nat) : Int:=(ss.take i).foldl (fun n s=>if n < s.2 then s.2 else n) 0
def okI (ss : List Span) (i : Nat) : Bool:=(List.range i).all fun k=>!ovl (spn ss i) (spn ss k)
def blk (f : List Block) (i : Nat) : Block:=f.getD i ⟨[],0⟩
def okP (f : List Block) (ss : List Span) (i : Nat) : Bool:=!(partB (blk f i).pages && decide (0 < (spn ss i).2) && decide ((spn ss i).2 < newN ss 4))
def cntP (f : List Block) (i : Nat) : Int:=((f.take i).filter fun b=>partB b.pages).length
def implOrderB (f : List Block) : Bool:=flashOkB f && ((List.range 4).all (okI (spansOf f)) && ((List.range 4).all (okP f (spansOf f)) && decide (cntP f 4 ≤ 1)))
theorem order_logic (m l : Nat → Int) (pt : Nat → Bool) (N c : Int) (hN : (∀ k,k < 4 → m k ≤ N) ∧ (N = 0 ∨ ∃ k,k < 4 ∧ N = m k)) (hc : c ≤ 1 ↔ ∀ i k,i < 4 → k < 4 → i ≠ k → ¬ (pt i = true ∧ pt k = true))
  (hu : ∀ i k,i < 4 → k < 4 → i ≠ k → 0 < m i → l k ≠ m i) :
  ((∀ i k,i < 4 → k < i → ¬ (0 < m i ∧ 0 < m k ∧ l k ≤ m i ∧ l i ≤ m k)) ∧ (∀ i,i < 4 → ¬ (pt i = true ∧ 0 < m i ∧ m i < N)) ∧ c ≤ 1) ↔
  ∀ i k,i < 4 → k < 4 → i ≠ k → ¬ (0 < m i ∧ 0 < m k ∧ l i < m k ∧ l k < m i) ∧ ¬ (pt i = true ∧ (pt k = true ∨ (0 < m i ∧ m i < m k))):=by
 rw [hc]
 constructor
 ·rintro ⟨h1,h2,h3⟩ i k hi hk hik
  refine ⟨fun ⟨a,b,c,d⟩=>?_,fun ⟨a,b⟩=>?_⟩
  ·rcases Nat.lt_or_gt_of_ne hik with h | h
   ·exact h1 k i hk h ⟨b,a,by omega,by omega⟩
   ·exact h1 i k hi h ⟨a,b,by omega,by omega⟩
  ·rcases b with b | ⟨b,d⟩
   ·exact h3 i k hi hk hik ⟨a,b⟩
   ·exact h2 i hi ⟨a,b,by have:=hN.1 k hk;omega⟩
 ·intro h
  refine ⟨fun i k hi hk ⟨a,b,c,d⟩=>?_,fun i hi ⟨a,b,c⟩=>?_,fun i k hi hk hik ⟨a,b⟩=>(h i k hi hk hik).2 ⟨a,.inl b⟩⟩
  ·have u1:=hu i k hi (by omega) (by omega) a
   have u2:=hu k i (by omega) hi (by omega) b
   exact (h i k hi (by omega) (by omega)).1 ⟨a,b,by omega,by omega⟩
  ·rcases hN.2 with h0 | ⟨k,hk,h0⟩
   ·omega
   ·have hik : i ≠ k:=fun e=>by subst e;omega
    exact (h i k hi hk hik).2 ⟨a,.inr ⟨b,by omega⟩⟩
theorem orderIn_iff (i : Nat) (a : Block) : ∀ (f : List Block) (k : Nat),orderIn i a k f = true ↔ ∀ j (h : j < f.length),badPair i (k + j) a f[j] = false
 | [],k=>by simp [orderIn]
 | b :: f,k=>by
  rw [orderIn]
  by_cases hb : badPair i k a b = true
  ·rw [if_pos hb]
   constructor
   ·intro h;cases h
   ·intro h
    have:=h 0 (by simp)
    simp [hb] at this
  ·rw [if_neg hb,orderIn_iff i a f (k + 1)]
   constructor
   ·intro h j hj
    cases j with
    | zero=>simpa using hb
    | succ j=>have:=h j (by simpa using hj);rw [show k + (j + 1) = k + 1 + j by omega];simpa using this
   ·intro h j hj
    have:=h (j + 1) (by simpa using hj)
    rw [show k + (j + 1) = k + 1 + j by omega] at this;simpa using this
theorem orderOut_iff (g : List Block) : ∀ (f : List Block) (i : Nat),orderOut g i f = true ↔ ∀ j (h : j < f.length),orderIn (i + j) f[j] 0 g = true
 | [],i=>by simp [orderOut]
 | a :: f,i=>by
  rw [orderOut,Bool.and_eq_true,orderOut_iff g f (i + 1)]
  constructor
  ·rintro ⟨h1,h2⟩ j hj
   cases j with
   | zero=>simpa using h1
   | succ j=>have:=h2 j (by simpa using hj);rw [show i + (j + 1) = i + 1 + j by omega];simpa using this
  ·intro h
   refine ⟨by have:=h 0 (by simp);simpa using this,fun j hj=>?_⟩
   have:=h (j + 1) (by simpa using hj)
   rw [show i + (j + 1) = i + 1 + j by omega] at this;simpa using this
theorem newN_max (ss : List Span) : ∀ (n : Int),(∀ s ∈ ss,s.2 ≤ ss.foldl (fun n s=>if n < s.2 then s.2 else n) n) ∧ n ≤ ss.foldl (fun n s=>if n < s.2 then s.2 else n) n ∧
  (ss.foldl (fun n s=>if n < s.2 then s.2 else n) n = n ∨ ∃ s ∈ ss,ss.foldl (fun n s=>if n < s.2 then s.2 else n) n = s.2):=by
 induction ss with
 | nil=>intro n;exact ⟨fun s hs=>(by cases hs),Int.le_refl _,.inl rfl⟩
 | cons x ss ih =>
  intro n
  rw [List.foldl_cons]
  obtain ⟨h1,h2,h3⟩:=ih (if n < x.2 then x.2 else n)
  generalize ss.foldl (fun n s=>if n < s.2 then s.2 else n) (if n < x.2 then x.2 else n) = r at *
  by_cases hx : n < x.2
  ·rw [if_pos hx] at h2 h3
   refine ⟨fun s hs=>?_,by omega,?_⟩
   ·rcases List.mem_cons.1 hs with rfl | hs
    ·exact h2
    ·exact h1 s hs
   ·rcases h3 with h3 | ⟨s,hs,h3⟩
    ·exact .inr ⟨x,by simp,h3⟩
    ·exact .inr ⟨s,by simp [hs],h3⟩
  ·rw [if_neg hx] at h2 h3
   refine ⟨fun s hs=>?_,by omega,?_⟩
   ·rcases List.mem_cons.1 hs with rfl | hs
    ·omega
    ·exact h1 s hs
   ·rcases h3 with h3 | ⟨s,hs,h3⟩
    ·exact .inl h3
    ·exact .inr ⟨s,by simp [hs],h3⟩
theorem okI_iff {ss : List Span} {i : Nat} : okI ss i = true ↔ ∀ k,k < i → ¬ (0 < (spn ss i).2 ∧ 0 < (spn ss k).2 ∧ (spn ss k).1 ≤ (spn ss i).2 ∧ (spn ss i).1 ≤ (spn ss k).2):=by
 unfold okI
 rw [List.all_eq_true]
 simp only [List.mem_range,Bool.not_eq_true',← Bool.not_eq_true,ovl,Bool.and_eq_true,decide_eq_true_eq,and_assoc]
theorem okP_iff {f : List Block} {ss : List Span} {i : Nat} : okP f ss i = true ↔ ¬ (partB (blk f i).pages = true ∧ 0 < (spn ss i).2 ∧ (spn ss i).2 < newN ss 4):=by
 unfold okP
 simp only [Bool.not_eq_true',← Bool.not_eq_true,Bool.and_eq_true,decide_eq_true_eq,and_assoc]
theorem badPair_iff {i k : Nat} {a b : Block} : badPair i k a b = false ↔ (i ≠ k → ¬ (0 < most a.pages ∧ 0 < most b.pages ∧ least a.pages < most b.pages ∧ least b.pages < most a.pages) ∧ ¬ (partB a.pages = true ∧ (partB b.pages = true ∨ (0 < most a.pages ∧ most a.pages < most b.pages)))):=by
 rw [← Bool.not_eq_true]
 unfold badPair partB
 simp only [Bool.or_eq_true,Bool.and_eq_true,decide_eq_true_eq]
 constructor
 ·intro h hik
  exact ⟨fun ⟨a,b,c,d⟩=>h (.inl ⟨⟨⟨⟨hik,a⟩,b⟩,c⟩,d⟩),fun ⟨⟨a,b⟩,c⟩=>h (.inr ⟨⟨⟨hik,a⟩,b⟩,c⟩)⟩
 ·rintro h (⟨⟨⟨⟨hik,a⟩,b⟩,c⟩,d⟩ | ⟨⟨⟨hik,a⟩,b⟩,c⟩)
  ·exact (h hik).1 ⟨a,b,c,d⟩
  ·exact (h hik).2 ⟨⟨a,b⟩,c⟩
theorem implOrder_eq (f : List Block) : implOrderB f = orderB f:=by
 unfold implOrderB orderB
 by_cases hf : flashOkB f = true
 ·rw [hf,Bool.true_and,Bool.true_and]
  have hF:=flashOk_iff.1 hf
  have h4:=hF.len
  have hsp:=spansOf_eq h4 (fun b hb=>hF.pg hb)
  have hm : ∀ i (hi : i < 4),spn (spansOf f) i = (least f[i].pages,most f[i].pages):=fun i hi=>by
   rw [hsp];unfold spn;rw [List.getD_eq_getElem?_getD,List.getElem?_map,List.getElem?_eq_getElem (by omega)];rfl
  have hb : ∀ i (hi : i < 4),blk f i = f[i]:=fun i hi=>by
   unfold blk;rw [List.getD_eq_getElem?_getD,List.getElem?_eq_getElem (by omega)];rfl
  have hlen : (spansOf f).length = 4:=spansL_len _
  have hnew:=newN_max (spansOf f) 0
  have hN4 : newN (spansOf f) 4 = (spansOf f).foldl (fun n s=>if n < s.2 then s.2 else n) 0:=by unfold newN;rw [← hlen,List.take_length]
  rw [← hN4] at hnew
  have L:=order_logic (fun i=>(spn (spansOf f) i).2) (fun i=>(spn (spansOf f) i).1) (fun i=>partB (blk f i).pages) (newN (spansOf f) 4) (cntP f 4)
   ⟨fun k hk=>by
    refine hnew.1 _ ?_
    show spn (spansOf f) k ∈ spansOf f
    unfold spn;rw [List.getD_eq_getElem?_getD,List.getElem?_eq_getElem (by omega)];exact List.getElem_mem _,
   by
    rcases hnew.2.2 with h | ⟨s,hs,h⟩
    ·exact .inl h
    ·obtain ⟨k,hk,rfl⟩:=List.getElem_of_mem hs
     exact .inr ⟨k,by omega,by rw [h];show _ = (spn (spansOf f) k).2;unfold spn;rw [List.getD_eq_getElem?_getD,List.getElem?_eq_getElem hk];rfl⟩⟩
   (by
    obtain ⟨b0,b1,b2,b3,rfl⟩:=four h4
    have e : ∀ (P : Nat → Nat → Prop),(∀ i k,i < 4 → k < 4 → i ≠ k → P i k) ↔ (P 0 1 ∧ P 0 2 ∧ P 0 3 ∧ P 1 0 ∧ P 1 2 ∧ P 1 3 ∧ P 2 0 ∧ P 2 1 ∧ P 2 3 ∧ P 3 0 ∧ P 3 1 ∧ P 3 2):=by
     intro P
     constructor
     ·intro h;exact ⟨h 0 1 (by omega) (by omega) (by omega),h 0 2 (by omega) (by omega) (by omega),h 0 3 (by omega) (by omega) (by omega),h 1 0 (by omega) (by omega) (by omega),h 1 2 (by omega) (by omega) (by omega),h 1 3 (by omega) (by omega) (by omega),
       h 2 0 (by omega) (by omega) (by omega),h 2 1 (by omega) (by omega) (by omega),h 2 3 (by omega) (by omega) (by omega),h 3 0 (by omega) (by omega) (by omega),h 3 1 (by omega) (by omega) (by omega),h 3 2 (by omega) (by omega) (by omega)⟩
     ·rintro ⟨a01,a02,a03,a10,a12,a13,a20,a21,a23,a30,a31,a32⟩ i k hi hk hik
      obtain rfl | rfl | rfl | rfl : i = 0 ∨ i = 1 ∨ i = 2 ∨ i = 3:=by omega
      all_goals
       obtain rfl | rfl | rfl | rfl : k = 0 ∨ k = 1 ∨ k = 2 ∨ k = 3:=by omega
       all_goals first | exact absurd rfl hik | assumption
    rw [e]
    unfold cntP blk
    simp only [List.getD_eq_getElem?_getD,List.getElem?_cons_zero,List.getElem?_cons_succ,Option.getD_some,List.take_succ_cons,List.take_zero]
    rcases Bool.eq_false_or_eq_true (partB b0.pages) with h0 | h0 <;> rcases Bool.eq_false_or_eq_true (partB b1.pages) with h1 | h1 <;> rcases Bool.eq_false_or_eq_true (partB b2.pages) with h2 | h2 <;> rcases Bool.eq_false_or_eq_true (partB b3.pages) with h3 | h3 <;>
     simp [List.filter_cons,h0,h1,h2,h3])
   (fun i k hi hk hik h0=>by
    rw [hm i hi] at h0 ⊢;rw [hm k hk]
    exact hF.uniq (by omega) (by omega) hik h0)
  rw [Bool.eq_iff_iff]
  refine Iff.trans ?_ (L.trans ?_)
  ·simp only [Bool.and_eq_true,List.all_eq_true,List.mem_range,okI_iff,okP_iff,decide_eq_true_eq]
   exact ⟨fun ⟨h1,h2,h3⟩=>⟨fun i k hi hk=>h1 i hi k hk,h2,h3⟩,fun ⟨h1,h2,h3⟩=>⟨fun i hi k hk=>h1 i k hi hk,h2,h3⟩⟩
  ·rw [orderOut_iff]
   simp only [orderIn_iff,Nat.zero_add,badPair_iff]
   constructor
   ·intro h i hi k hk
    have:=h i k (by omega) (by omega)
    rw [hm i (by omega),hm k (by omega),hb i (by omega),hb k (by omega)] at this
    exact this
   ·intro h i k hi hk
    rw [hm i hi,hm k hk,hb i hi,hb k hk]
    exact h i (by omega) k (by omega)
 ·have : flashOkB f = false:=by simpa using hf
  rw [this];rfl
end Go.Bu
namespace Go.Bu
open Go Go.RowKit Go.Plan Go.Proofs
theorem badI {f : List Block} {i : Nat} (hi : i < 4) (h : okI (spansOf f) i = false) : orderB f = false:=by
 rw [← implOrder_eq];unfold implOrderB
 have : (List.range 4).all (okI (spansOf f)) = false:=by
  rw [← Bool.not_eq_true,List.all_eq_true];intro hh;have:=hh i (List.mem_range.2 hi);rw [h] at this;cases this
 rw [this];simp
theorem badP {f : List Block} {i : Nat} (hi : i < 4) (h : okP f (spansOf f) i = false) : orderB f = false:=by
 rw [← implOrder_eq];unfold implOrderB
 have : (List.range 4).all (okP f (spansOf f)) = false:=by
  rw [← Bool.not_eq_true,List.all_eq_true];intro hh;have:=hh i (List.mem_range.2 hi);rw [h] at this;cases this
 rw [this];simp
theorem orderEnd {f : List Block} (hf : flashOkB f = true) (h1 : ∀ i,i < 4 → okI (spansOf f) i = true) (h2 : ∀ i,i < 4 → okP f (spansOf f) i = true) : orderB f = decide (cntP f 4 ≤ 1):=by
 rw [← implOrder_eq];unfold implOrderB
 have e1 : (List.range 4).all (okI (spansOf f)) = true:=List.all_eq_true.2 fun i hi=>h1 i (List.mem_range.1 hi)
 have e2 : (List.range 4).all (okP f (spansOf f)) = true:=List.all_eq_true.2 fun i hi=>h2 i (List.mem_range.1 hi)
 rw [hf,e1,e2];simp
theorem newN_succ (ss : List Span) (i : Nat) (h : i < ss.length) : newN ss (i + 1) = if newN ss i < (spn ss i).2 then (spn ss i).2 else newN ss i:=by
 unfold newN spn
 rw [← take_snoc ss i h,List.foldl_append,List.getD_eq_getElem?_getD,List.getElem?_eq_getElem h];rfl
theorem cntP_succ (f : List Block) (i : Nat) (h : i < f.length) : cntP f (i + 1) = if partB (blk f i).pages = true then cntP f i + 1 else cntP f i:=by
 unfold cntP blk
 rw [← take_snoc f i h,List.filter_append,List.getD_eq_getElem?_getD,List.getElem?_eq_getElem h]
 by_cases hb : partB f[i].pages = true
 ·simp [hb]
 ·simp [hb]
theorem cntP_bd (f : List Block) (i : Nat) : 0 ≤ cntP f i ∧ cntP f i ≤ i:=by
 unfold cntP
 refine ⟨by omega,?_⟩
 have h1:=List.length_filter_le (fun b : Block=>partB b.pages) (f.take i)
 have h2:=List.length_take_le i f
 omega
theorem spn_get {ss : List Span} {k : Nat} (h : k < ss.length) : ss[k] = spn ss k:=by unfold spn;rw [List.getD_eq_getElem?_getD,List.getElem?_eq_getElem h];rfl
set_option maxRecDepth 20000 in
set_option maxHeartbeats 4000000 in
theorem implFindOrder_c (v : Value) (f : List Block) (w : World) (h : Flash (Old w) w v f) (hp : ∀ b ∈ f,b.pages.length ≤ 1048576) :
  Calls Tryz.prog 72 #[v] w (Ret w (.bool (orderB f))):=by
 have hFO:=fun (w' : World) (hx : Ext w w')=>implFlashOk_c v f w' (h.ext hx) hp
 by_cases hok : flashOkB f = true
 ·have hF:=flashOk_iff.1 hok
  have h4:=hF.len
  have hSP:=fun (w' : World) (hx : Ext w w')=>spansOf_c v f w' (h.ext hx) h4 hp (fun b hb p hpp=>pageOk_seq (hF.pg hb p hpp))
  have HBI:=fun i hi he=>Lib.hid (badI (f:=f) (i:=i) hi he)
  have HBP:=fun i hi he=>Lib.hid (badP (f:=f) (i:=i) hi he)
  have HE:=fun h1 h2=>Lib.hid (orderEnd hok h1 h2)
  rw [hok] at hFO
  have hlen : (spansOf f).length = 4:=spansL_len _
  have HP:=Lib.hid hp
  have H4:=Lib.hid h4
  clear hok hF hp
  generalize spansOf f = ss at *
  generalize orderB f = A at *
  obtain ⟨a,cap,rfl⟩:=h.form
  rw [h4] at h hFO hSP ⊢
  clear h4
  go_enter Tryz.func72,Tryz.ntmps72
  go_wp2_with fail
  refine (hFO _ (ext_refl _)).mono ?_;rintro e1 w1 ⟨rfl,hx1⟩
  go_wp2_with fail
  refine (hSP _ hx1).mono ?_;rintro e2 w2 ⟨B,rfl,hx2,hB,hO⟩
  have X2:=ext_trans hx1 hx2
  have HO:=Lib.hid hO
  have HL:=Lib.hid hlen
  clear hFO hSP hx1 hx2 hO hlen hB
  go_wp2_with fail
  have HOK0 : Hid (∀ j,j < 0 → okI ss j = true):=Lib.hid (fun j hj=>absurd hj (Nat.not_lt_zero _))
  go_loopw [4,19] (fun n y wr=>∃ i : Nat,i ≤ 4 ∧ y = .int .i64 i ∧ n = .int .i64 (newN ss i) ∧ Ext w2 wr ∧ Hid (∀ j,j < i → okI ss j = true)) (fun _ y _=>4 - (intOf y).toNat)
  case atStart=>exact ⟨0,by omega,rfl,rfl,ext_refl _,HOK0⟩
  case round =>
   clear HOK0
   obtain ⟨i,hi,rfl,rfl,hX,HI⟩:=hrel
   by_cases hlt : i < 4
   ·have hO:=HO.out.ext hX
    have hil : i < ss.length:=by have:=HL.out;omega
    obtain ⟨c0,c1⟩:=hO.two' hil
    rw [Nat.zero_add] at c0 c1
    have cf:=hO.frozen
    have hsp:=spn_get hil
    rw [hsp] at c0 c1
    have HN:=Lib.hid (newN_succ ss i hil)
    have hcut : ∀ w' : World,(Instr.slice 145 (.slice (some ⟨B,0,none⟩) 4 4) none (some (.int .i64 i)) none).run Tryz.prog w' = .ok (.slice (some ⟨B,0,none⟩) i 4) w':=fun w'=>by
     rw [run_slice_h w' 145 (some ⟨B,0,none⟩) 4 4 (by kernel_rfl) .i64 i (by omega) (by omega)]
     rw [show (sizeOf (Tryz.prog.elem 145)).run Tryz.prog w' = .ok 2 w' by kernel_rfl]
     simp only [Result.andThen,sliced,Int.toNat_natCast,Nat.sub_zero]
     split <;> simp [Addr.add]
    have HO2:=Lib.hid hO
    have HSZ:=Lib.hid hX.size
    clear hsp hO
    obtain ⟨lo,hh,hs⟩ : ∃ lo hh,spn ss i = (lo,hh):=⟨_,_,rfl⟩
    rw [hs] at c0 c1 HN
    dsimp only at c0 c1 HN
    have HS:=Lib.hid hs
    clear hs
    obtain ⟨nw,hnw⟩ : ∃ nw,newN ss i = nw:=⟨_,rfl⟩
    rw [hnw] at HN ⊢
    clear hnw
    by_cases hgt : nw < hh
    ·have HNX : Hid (newN ss (i + 1) = hh):=Lib.hid (by rw [HN.out,if_pos hgt])
     have XB : Ext w2 (wr.alloc (.cells #[.int .i64 lo,.int .i64 hh] 148)):=ext_alloc hX _
     have GI : (wr.alloc (.cells #[.int .i64 lo,.int .i64 hh] 148)).heap[wr.heap.size]? = some (.cells #[.int .i64 lo,.int .i64 hh] 148 (0,0)):=hg_new rfl
     have hI:=HI.out
     clear HN
     go_wp2_with fail
     have HK0 : Hid (∀ j,j < 0 → ovl (spn ss i) (spn ss j) = false):=Lib.hid (fun j hj=>absurd hj (Nat.not_lt_zero _))
     obtain ⟨wo,rfl⟩ : ∃ wo : World,wo = wr:=⟨_,rfl⟩
     go_loopw [32] (fun y wr2=>∃ k : Nat,k ≤ i ∧ y = .int .i64 k ∧ Ext w2 wr2 ∧ wr2.heap[wo.heap.size]? = some (.cells #[.int .i64 lo,.int .i64 hh] 148 (0,0)) ∧ Hid (∀ j,j < k → ovl (spn ss i) (spn ss j) = false)) (fun y _=>i - (intOf y).toNat)
     case atStart=>exact ⟨0,by omega,rfl,XB,GI,HK0⟩
     case round =>
      clear HK0 XB GI c0 c1 cf
      obtain ⟨k,hk,rfl,hX3,G6,HK⟩:=hrel
      by_cases hki : k < i
      ·have hO:=HO.out.ext hX3
       have hkl : k < ss.length:=by have:=HL.out;omega
       obtain ⟨d0,d1⟩:=hO.two' hkl
       rw [Nat.zero_add,spn_get hkl] at d0 d1
       obtain ⟨lo2,hh2,hs2⟩ : ∃ lo hh,spn ss k = (lo,hh):=⟨_,_,rfl⟩
       rw [hs2] at d0 d1
       dsimp only at d0 d1
       have hov : ovl (spn ss i) (spn ss k) = (decide (0 < hh) && decide (0 < hh2) && decide (lo2 ≤ hh) && decide (lo ≤ hh2)):=by rw [HS.out,hs2];rfl
       have HOV:=Lib.hid hov
       obtain ⟨g6,gf6⟩:=cellsK G6
       have l6:=heap_lt G6
       clear hO hs2 hov
       by_cases h1 : 0 < hh
       ·by_cases h2 : 0 < hh2
        ·by_cases h3 : lo2 ≤ hh
         ·by_cases h4 : lo ≤ hh2
          ·have hA : okI ss i = false:=by
            unfold okI;rw [← Bool.not_eq_true,List.all_eq_true];intro hh';have:=hh' k (List.mem_range.2 hki)
            rw [HOV.out] at this;simp [h1,h2,h3,h4] at this
           have hA2:=(HBI i hlt hA).out
           subst hA2
           clear HOV hA
           go_wp2_with fail
           go_ret
           exact ⟨rfl,ext_trans X2 (ext_alloc hX3 _)⟩
          ·have HK2 : Hid (∀ j,j < k + 1 → ovl (spn ss i) (spn ss j) = false):=Lib.hid (fun j hj=>by
            by_cases e : j = k
            ·subst e;rw [HOV.out];simp only [Bool.and_eq_false_iff,decide_eq_false_iff_not];omega
            ·exact HK.out j (by omega))
           clear HOV HK
           go_wp2_with fail
           go_roundw
           case rel=>exact ⟨k + 1,by omega,by go_num,ext_alloc hX3 _,hg_alloc G6,HK2⟩
           case measure=>simp [intOf];omega
         ·have HK2 : Hid (∀ j,j < k + 1 → ovl (spn ss i) (spn ss j) = false):=Lib.hid (fun j hj=>by
           by_cases e : j = k
           ·subst e;rw [HOV.out];simp only [Bool.and_eq_false_iff,decide_eq_false_iff_not];omega
           ·exact HK.out j (by omega))
          clear HOV HK
          go_wp2_with fail
          go_roundw
          case rel=>exact ⟨k + 1,by omega,by go_num,ext_alloc hX3 _,hg_alloc G6,HK2⟩
          case measure=>simp [intOf];omega
        ·have HK2 : Hid (∀ j,j < k + 1 → ovl (spn ss i) (spn ss j) = false):=Lib.hid (fun j hj=>by
          by_cases e : j = k
          ·subst e;rw [HOV.out];simp only [Bool.and_eq_false_iff,decide_eq_false_iff_not];omega
          ·exact HK.out j (by omega))
         clear HOV HK
         go_wp2_with fail
         go_roundw
         case rel=>exact ⟨k + 1,by omega,by go_num,ext_alloc hX3 _,hg_alloc G6,HK2⟩
         case measure=>simp [intOf];omega
       ·have HK2 : Hid (∀ j,j < k + 1 → ovl (spn ss i) (spn ss j) = false):=Lib.hid (fun j hj=>by
         by_cases e : j = k
         ·subst e;rw [HOV.out];simp only [Bool.and_eq_false_iff,decide_eq_false_iff_not];omega
         ·exact HK.out j (by omega))
        clear HOV HK
        go_wp2_with fail
        go_roundw
        case rel=>exact ⟨k + 1,by omega,by go_num,ext_alloc hX3 _,hg_alloc G6,HK2⟩
        case measure=>simp [intOf];omega
      ·obtain rfl : k = i:=by omega
       have HI2 : Hid (∀ j,j < k + 1 → okI ss j = true):=Lib.hid (fun j hj=>by
        by_cases e : j = k
        ·subst e;unfold okI;rw [List.all_eq_true];intro m hm;rw [HK.out m (List.mem_range.1 hm)];rfl
        ·exact hI j (by omega))
       clear HK hI HI
       go_wp2_with fail
       go_roundw
       case rel=>exact ⟨k + 1,by omega,by go_num,by rw [HNX.out],hX3,HI2⟩
       case measure=>simp [intOf];omega
    ·have HNX : Hid (newN ss (i + 1) = nw):=Lib.hid (by rw [HN.out,if_neg hgt])
     have XB : Ext w2 (wr.alloc (.cells #[.int .i64 lo,.int .i64 hh] 148)):=ext_alloc hX _
     have GI : (wr.alloc (.cells #[.int .i64 lo,.int .i64 hh] 148)).heap[wr.heap.size]? = some (.cells #[.int .i64 lo,.int .i64 hh] 148 (0,0)):=hg_new rfl
     have hI:=HI.out
     clear HN
     go_wp2_with fail
     have HK0 : Hid (∀ j,j < 0 → ovl (spn ss i) (spn ss j) = false):=Lib.hid (fun j hj=>absurd hj (Nat.not_lt_zero _))
     obtain ⟨wo,rfl⟩ : ∃ wo : World,wo = wr:=⟨_,rfl⟩
     go_loopw [32] (fun y wr2=>∃ k : Nat,k ≤ i ∧ y = .int .i64 k ∧ Ext w2 wr2 ∧ wr2.heap[wo.heap.size]? = some (.cells #[.int .i64 lo,.int .i64 hh] 148 (0,0)) ∧ Hid (∀ j,j < k → ovl (spn ss i) (spn ss j) = false)) (fun y _=>i - (intOf y).toNat)
     case atStart=>exact ⟨0,by omega,rfl,XB,GI,HK0⟩
     case round =>
      clear HK0 XB GI c0 c1 cf
      obtain ⟨k,hk,rfl,hX3,G6,HK⟩:=hrel
      by_cases hki : k < i
      ·have hO:=HO.out.ext hX3
       have hkl : k < ss.length:=by have:=HL.out;omega
       obtain ⟨d0,d1⟩:=hO.two' hkl
       rw [Nat.zero_add,spn_get hkl] at d0 d1
       obtain ⟨lo2,hh2,hs2⟩ : ∃ lo hh,spn ss k = (lo,hh):=⟨_,_,rfl⟩
       rw [hs2] at d0 d1
       dsimp only at d0 d1
       have hov : ovl (spn ss i) (spn ss k) = (decide (0 < hh) && decide (0 < hh2) && decide (lo2 ≤ hh) && decide (lo ≤ hh2)):=by rw [HS.out,hs2];rfl
       have HOV:=Lib.hid hov
       obtain ⟨g6,gf6⟩:=cellsK G6
       have l6:=heap_lt G6
       clear hO hs2 hov
       by_cases h1 : 0 < hh
       ·by_cases h2 : 0 < hh2
        ·by_cases h3 : lo2 ≤ hh
         ·by_cases h4 : lo ≤ hh2
          ·have hA : okI ss i = false:=by
            unfold okI;rw [← Bool.not_eq_true,List.all_eq_true];intro hh';have:=hh' k (List.mem_range.2 hki)
            rw [HOV.out] at this;simp [h1,h2,h3,h4] at this
           have hA2:=(HBI i hlt hA).out
           subst hA2
           clear HOV hA
           go_wp2_with fail
           go_ret
           exact ⟨rfl,ext_trans X2 (ext_alloc hX3 _)⟩
          ·have HK2 : Hid (∀ j,j < k + 1 → ovl (spn ss i) (spn ss j) = false):=Lib.hid (fun j hj=>by
            by_cases e : j = k
            ·subst e;rw [HOV.out];simp only [Bool.and_eq_false_iff,decide_eq_false_iff_not];omega
            ·exact HK.out j (by omega))
           clear HOV HK
           go_wp2_with fail
           go_roundw
           case rel=>exact ⟨k + 1,by omega,by go_num,ext_alloc hX3 _,hg_alloc G6,HK2⟩
           case measure=>simp [intOf];omega
         ·have HK2 : Hid (∀ j,j < k + 1 → ovl (spn ss i) (spn ss j) = false):=Lib.hid (fun j hj=>by
           by_cases e : j = k
           ·subst e;rw [HOV.out];simp only [Bool.and_eq_false_iff,decide_eq_false_iff_not];omega
           ·exact HK.out j (by omega))
          clear HOV HK
          go_wp2_with fail
          go_roundw
          case rel=>exact ⟨k + 1,by omega,by go_num,ext_alloc hX3 _,hg_alloc G6,HK2⟩
          case measure=>simp [intOf];omega
        ·have HK2 : Hid (∀ j,j < k + 1 → ovl (spn ss i) (spn ss j) = false):=Lib.hid (fun j hj=>by
          by_cases e : j = k
          ·subst e;rw [HOV.out];simp only [Bool.and_eq_false_iff,decide_eq_false_iff_not];omega
          ·exact HK.out j (by omega))
         clear HOV HK
         go_wp2_with fail
         go_roundw
         case rel=>exact ⟨k + 1,by omega,by go_num,ext_alloc hX3 _,hg_alloc G6,HK2⟩
         case measure=>simp [intOf];omega
       ·have HK2 : Hid (∀ j,j < k + 1 → ovl (spn ss i) (spn ss j) = false):=Lib.hid (fun j hj=>by
         by_cases e : j = k
         ·subst e;rw [HOV.out];simp only [Bool.and_eq_false_iff,decide_eq_false_iff_not];omega
         ·exact HK.out j (by omega))
        clear HOV HK
        go_wp2_with fail
        go_roundw
        case rel=>exact ⟨k + 1,by omega,by go_num,ext_alloc hX3 _,hg_alloc G6,HK2⟩
        case measure=>simp [intOf];omega
      ·obtain rfl : k = i:=by omega
       have HI2 : Hid (∀ j,j < k + 1 → okI ss j = true):=Lib.hid (fun j hj=>by
        by_cases e : j = k
        ·subst e;unfold okI;rw [List.all_eq_true];intro m hm;rw [HK.out m (List.mem_range.1 hm)];rfl
        ·exact hI j (by omega))
       clear HK hI HI
       go_wp2_with fail
       go_roundw
       case rel=>exact ⟨k + 1,by omega,by go_num,by rw [HNX.out],hX3,HI2⟩
       case measure=>simp [intOf];omega
   ·obtain rfl : i = 4:=by omega
    have HE1:=HE HI.out
    rw [show ((4 : Nat) : Int) = 4 from rfl]
    obtain ⟨nw,hnw⟩ : ∃ nw,newN ss 4 = nw:=⟨_,rfl⟩
    rw [hnw]
    have HNW:=Lib.hid hnw
    clear hnw HBI HI HE
    go_wp2_with fail
    have HOK0 : Hid (∀ j,j < 0 → okP f ss j = true):=Lib.hid (fun j hj=>absurd hj (Nat.not_lt_zero _))
    go_loopw [9,62] (fun n y wr=>∃ i : Nat,i ≤ 4 ∧ y = .int .i64 i ∧ n = .int .i64 (cntP f i) ∧ Ext w2 wr ∧ Hid (∀ j,j < i → okP f ss j = true)) (fun _ y _=>4 - (intOf y).toNat)
    case atStart=>exact ⟨0,by omega,rfl,rfl,hX,HOK0⟩
    case round =>
     clear HOK0 hX
     obtain ⟨i,hi,rfl,rfl,hX,HI⟩:=hrel
     by_cases hlt : i < 4
     ·have hil : i < ss.length:=by have:=HL.out;omega
      have hif : i < f.length:=by have:=H4.out;omega
      obtain ⟨c0,c1⟩:=(HO.out.ext hX).two' hil
      rw [Nat.zero_add,spn_get hil] at c0 c1
      obtain ⟨b,o,pv,rfl,hb,hpp,h0,h1⟩:=h.at2 hif
      have hb' : b < w.heap.size:=hb
      obtain ⟨pa,pcap,rfl⟩:=hpp.form
      obtain ⟨hc,hf⟩:=bcell (ext_trans X2 hX)
      have hblk : blk f i = f[i]:=by unfold blk;rw [List.getD_eq_getElem?_getD,List.getElem?_eq_getElem hif];rfl
      have hcs:=cntP_succ f i hif
      have hpu:=fun (w' : World) (hx : Ext wr w')=>partlyUsed_c (.slice pa f[i].pages.length pcap) f[i].pages f[i].worn w' (hpp.ext (ext_trans (ext_trans X2 hX) hx)) (HP.out f[i] (List.getElem_mem _))
      have hok : okP f ss i = !(partB f[i].pages && decide (0 < (spn ss i).2) && decide ((spn ss i).2 < nw)):=by unfold okP;rw [hblk,HNW.out]
      rw [hblk] at hcs
      obtain ⟨cb0,cb1⟩:=cntP_bd f i
      obtain ⟨lo,hh,hs⟩ : ∃ lo hh,spn ss i = (lo,hh):=⟨_,_,rfl⟩
      rw [hs] at c0 c1 hok
      dsimp only at c0 c1 hok
      generalize partB f[i].pages = pb at *
      have HCS:=Lib.hid hcs
      have HOK:=Lib.hid hok
      have l1:=cell_lt c1
      clear hs hblk hcs hok
      go_wp2_with fail
      refine (hpu _ (ext_alloc (ext_refl _) _)).mono ?_;rintro e3 w3 ⟨rfl,hx3⟩
      have X3:=ext_trans (ext_alloc (ext_refl wr) _) hx3
      have d1:=cell_ext X3 c1
      clear hpu hc hf h0 h1 c0 c1 hx3
      cases pb
      ·have HK2 : Hid (∀ j,j < i + 1 → okP f ss j = true):=Lib.hid (fun j hj=>by
        by_cases e : j = i
        ·subst e;rw [HOK.out];simp only [Bool.not_eq_true',Bool.and_eq_false_iff,decide_eq_false_iff_not,Bool.true_and,Bool.false_and];first | done | omega
        ·exact HI.out j (by omega))
       clear HOK HI
       go_wp2_with fail
       go_roundw
       case rel=>exact ⟨i + 1,by omega,by go_num,by rw [HCS.out];simp,ext_trans hX X3,HK2⟩
       case measure=>simp [intOf];omega
      ·by_cases h1 : 0 < hh
       ·by_cases h2 : hh < nw
        ·have hA : okP f ss i = false:=by rw [HOK.out];simp [h1,h2]
         have hA2:=(HBP i hlt hA).out
         subst hA2
         clear HOK hA
         go_wp2_with fail
         go_ret
         exact ⟨rfl,ext_trans (ext_trans X2 hX) X3⟩
        ·have HK2 : Hid (∀ j,j < i + 1 → okP f ss j = true):=Lib.hid (fun j hj=>by
          by_cases e : j = i
          ·subst e;rw [HOK.out];simp only [Bool.not_eq_true',Bool.and_eq_false_iff,decide_eq_false_iff_not,Bool.true_and,Bool.false_and];first | done | omega
          ·exact HI.out j (by omega))
         clear HOK HI
         go_wp2_with fail
         go_roundw
         case rel=>exact ⟨i + 1,by omega,by go_num,by rw [HCS.out];simp,ext_trans hX X3,HK2⟩
         case measure=>simp [intOf];omega
       ·have HK2 : Hid (∀ j,j < i + 1 → okP f ss j = true):=Lib.hid (fun j hj=>by
         by_cases e : j = i
         ·subst e;rw [HOK.out];simp only [Bool.not_eq_true',Bool.and_eq_false_iff,decide_eq_false_iff_not,Bool.true_and,Bool.false_and];first | done | omega
         ·exact HI.out j (by omega))
        clear HOK HI
        go_wp2_with fail
        go_roundw
        case rel=>exact ⟨i + 1,by omega,by go_num,by rw [HCS.out];simp,ext_trans hX X3,HK2⟩
        case measure=>simp [intOf];omega
     ·obtain rfl : i = 4:=by omega
      have hA:=(HE1 HI.out).out
      obtain ⟨cb0,cb1⟩:=cntP_bd f 4
      subst hA
      go_wp2_with fail
      go_ret
      exact ⟨rfl,ext_trans X2 hX⟩
 ·have hs : orderB f = false:=by unfold orderB;rw [Bool.not_eq_true] at hok;rw [hok];rfl
  rw [Bool.not_eq_true] at hok
  rw [hok] at hFO
  rw [hs]
  clear hs hok
  obtain ⟨a,cap,rfl⟩:=h.form
  go_enter Tryz.func72,Tryz.ntmps72
  go_wp2_with fail
  refine (hFO _ (ext_refl _)).mono ?_;rintro e1 w1 ⟨rfl,hx1⟩
  go_wp2_with fail
  go_ret
  exact ⟨rfl,hx1⟩
end Go.Bu
namespace Go.Bu
open Go Go.RowKit Go.Plan Go.Proofs Go.Shelf
attribute [local go_sem] Oper.semAt_some
def lastL (xs : List Spot) (a : Int) : Rec:=xs.foldl (fun r x=>lastStep a r x.2.2) rec0
theorem lastL_snoc (xs : List Spot) (x : Spot) (a : Int) : lastL (xs ++ [x]) a = lastStep a (lastL xs a) x.2.2:=by unfold lastL;rw [List.foldl_append];rfl
theorem spB_pages (i : Nat) (ps : List Page) : (spB i ps ps.length).map (·.2.2) = ps:=by
 unfold spB
 rw [List.map_map]
 apply List.ext_getElem
 ·simp
 ·intro k h1 h2
  simp [List.getElem?_eq_getElem h2]
theorem spF_pages (f : List Block) : ∀ i,i ≤ f.length → (spF f i).map (·.2.2) = (f.take i).flatMap (·.pages):=by
 intro i
 induction i with
 | zero=>intro _;rfl
 | succ i ih=>intro h;rw [spF_succ f i (by omega),List.map_append,ih (by omega),spB_pages,← take_snoc f i (by omega),List.flatMap_append];simp
theorem lastL_all (f : List Block) (a : Int) : lastL (spF f f.length) a = last f a:=by
 have h:=spF_pages f f.length (Nat.le_refl _)
 rw [List.take_length] at h
 have h1 : lastL (spF f f.length) a = ((spF f f.length).map (·.2.2)).foldl (lastStep a) rec0:=by unfold lastL;rw [List.foldl_map]
 rw [h1,h,List.foldl_flatMap];rfl
theorem lastL_zero (xs : List Spot) (a : Int) : lastL xs a = rec0 ∨ 0 < (lastL xs a).seq:=by
 have : ∀ (xs : List Spot) (r : Rec),(r = rec0 ∨ 0 < r.seq) → (xs.foldl (fun r x=>lastStep a r x.2.2) r = rec0 ∨ 0 < (xs.foldl (fun r x=>lastStep a r x.2.2) r).seq):=by
  intro xs
  induction xs with
  | nil=>exact fun r h=>h
  | cons x xs ih =>
   intro r h
   rw [List.foldl_cons]
   refine ih _ ?_
   unfold lastStep
   split
   ·rename_i hc
    rcases h with rfl | h
    ·have : (0 : Int) < x.2.2.r.seq:=hc.2.2
     exact .inr this
    ·exact .inr (by omega)
   ·exact h
 exact this xs rec0 (.inl rfl)
def lastG (l : Int → Rec) (a : Int) : Option Value:=if 0 < (l a).seq then some (recA (l a)) else none
theorem lastG_get {xs : List Spot} (a : Int) : (lastG (lastL xs) a).getD (recA rec0) = recA (lastL xs a):=by
 unfold lastG
 rcases lastL_zero xs a with h | h
 ·rw [h];rfl
 ·rw [if_pos h];rfl
theorem lastG_none {xs : List Spot} {x : Spot} (h : ¬ (x.2.2.state = 1 ∧ (lastL xs x.2.2.r.addr).seq < x.2.2.r.seq)) : lastG (lastL (xs ++ [x])) = lastG (lastL xs):=by
 funext a
 have : lastL (xs ++ [x]) a = lastL xs a:=by
  rw [lastL_snoc];unfold lastStep
  rw [if_neg]
  rintro ⟨h1,h2,h3⟩
  exact h ⟨h1,by rw [h2];exact h3⟩
 unfold lastG;rw [this]
theorem lastG_some {xs : List Spot} {x : Spot} (h1 : x.2.2.state = 1) (h2 : (lastL xs x.2.2.r.addr).seq < x.2.2.r.seq) : (fun z=>if z = x.2.2.r.addr then some (recA x.2.2.r) else lastG (lastL xs) z) = lastG (lastL (xs ++ [x])):=by
 funext a
 by_cases ha : a = x.2.2.r.addr
 ·subst ha
  have h0 : 0 < x.2.2.r.seq:=by
   rcases lastL_zero xs x.2.2.r.addr with h | h
   ·rw [h] at h2;exact h2
   ·omega
  have e : lastStep x.2.2.r.addr (lastL xs x.2.2.r.addr) x.2.2 = x.2.2.r:=by unfold lastStep;exact if_pos ⟨h1,rfl,h2⟩
  rw [if_pos rfl];unfold lastG;rw [lastL_snoc,e,if_pos h0]
 ·have e : lastStep a (lastL xs a) x.2.2 = lastL xs a:=by unfold lastStep;exact if_neg (fun h=>ha h.2.1.symm)
  rw [if_neg ha];unfold lastG;rw [lastL_snoc,e]
theorem pageOk_addr {p : Page} (h : pageOkB p = true) : 0 ≤ p.r.addr ∧ p.r.addr ≤ 6:=by
 unfold pageOkB at h
 by_cases hs : p.state = 1
 ·rw [if_pos hs] at h
  simp only [recOkB,Bool.and_eq_true,inB_iff] at h
  omega
 ·rw [if_neg hs] at h
  simp only [recZ,Bool.and_eq_true,beq_iff_eq] at h
  omega
theorem Chg.of_grown {w w' : World} {b : Nat} (h : w.grownBy w' (some b)) : Chg [b] w w':=⟨h.os,h.tape,h.output,h.size,fun k hk hn=>h.block k hk fun e=>by cases e;exact hn (by simp)⟩
theorem wpListIn_mapUpd {F : Fence} {n : Nat} {P : Program} {k e t : TypeId} {w : World} {b m : Nat} {g : Int → Option Value} {ops : Array Oper} {rest : List Oper} {o : Oper} {a : Act} {Q : Exit → Act → World → Prop} (hg : o.guard = none) (mm x v : Operand) (hop : o.op = Op.mapUpdate t mm x v)
  (hk : P.underlying k = some (.int .i64)) (ht : P.underlying t = some (.map k e)) (hm : a.eval mm = .map (some b)) (h : MapOf P k w b m g) (hn : m < maxLen) {y : Int} (hx : a.eval x = .int .i64 y) (hy : (Lit.int .i64 y).wf = true) {val : Value} (hv : a.eval v = val)
  (hK : ∀ w',MapOf P k w' b (m + 1) (fun z=>if z = y then some val else g z) → w.grownBy w' (some b) → wpListIn F n P ops Q rest (a.put o.dst undef) w') : wpListIn F n P ops Q (o :: rest) a w:=by
 refine wpListIn_plain hg fun K' hK'=>?_
 obtain ⟨w',hrun,r1,r2⟩:=h.update hk ht hn hy val
 unfold Oper.wpIn
 refine ⟨?_,?_⟩
 ·simp [Oper.about,hop]
 ·rw [Oper.semAt_plain F _ _ (by rw [hop];intro c h;cases h)]
  simp [execOp,hop,hm,hx,hv,hrun,Result.andThen,Oper.uponIn]
  exact hK' _ _ (hK w' r1 r2)
def LastΦ (w : World) (l : Int → Rec) (e : Ending) (w' : World) : Prop:=∃ b n,e = .returned (.map (some b)) ∧ Ext w w' ∧ w.heap.size ≤ b ∧ MapOf Tryz.prog 3 w' b n (lastG l)
set_option maxRecDepth 20000 in
set_option maxHeartbeats 4000000 in
theorem lastRecords_c (v : Value) (f : List Block) (w : World) (h : Flash (Old w) w v f) (h4 : f.length = 4) (hp : ∀ b ∈ f,b.pages.length ≤ 1048576) (hs : ∀ b ∈ f,∀ p ∈ b.pages,pageOkB p = true) :
  Calls Tryz.prog 52 #[v] w (LastΦ w (last f)):=by
 obtain ⟨a,cap,rfl⟩:=h.form
 rw [h4] at h ⊢
 have H4:=Lib.hid h4
 have HP:=Lib.hid hp
 have HS:=Lib.hid hs
 clear hp hs h4
 have hmm:=@run_makeMap Tryz.prog
 have hfld : ∀ (w : World) (a b c d : Int),(Instr.field 77 (.agg #[.int .i64 a,.int .i64 b,.int .i64 c,.int .i64 d]) 1).run Tryz.prog w = .ok (.int .i64 b) w:=fun _ _ _ _ _=>by kernel_rfl
 refine (callsIn_wide (n:=9)).1 ?_
 refine callsIn_of_wp_marks Tryz.func52 rfl trivial ?_ rfl
 simp only [Tryz.ntmps52,List.size_toArray,List.length_cons,List.length_nil,Nat.reduceAdd,Nat.reduceSub,Array.replicate_succ,Array.replicate_zero,List.push_toArray,List.append_toArray,List.nil_append,List.cons_append]
 gi_wp2_with (refine ⟨trivial,?_⟩;gi_at_call 90;refine (callsIn_wide.2 (eachPage_c _ _ _ _)).mono ?_;rintro e w' ⟨rfl,rfl⟩)
 clear hmm
 have XW : Ext w (((w.alloc (.map #[] 0)).alloc (.cells #[.map (some w.heap.size)] 89)).alloc (.cells #[.slice a 4 cap] 23)):=ext_alloc (ext_alloc (ext_alloc (ext_refl _) _) _) _
 obtain ⟨W0,hW0⟩ : ∃ W0,((w.alloc (.map #[] 0)).alloc (.cells #[.map (some w.heap.size)] 89)).alloc (.cells #[.slice a 4 cap] 23) = W0:=⟨_,rfl⟩
 have G0 : MapOf Tryz.prog 3 W0 w.heap.size 0 (fun _=>none):=by rw [← hW0];exact ((MapOf.made _ _ w).alloc2).alloc2
 have G1 : W0.heap[w.heap.size + 1]? = some (.cells #[.map (some w.heap.size)] 89 (0,0)):=by rw [← hW0];exact hg_alloc (hg_new (by simp))
 have G2 : W0.heap[w.heap.size + 2]? = some (.cells #[.slice a 4 cap] 23 (0,0)):=by rw [← hW0];exact hg_new (by simp)
 have hs0 : W0.heap.size = w.heap.size + 3:=by rw [← hW0];simp
 rw [hW0] at XW ⊢
 have HD : ∀ i,(i < w.heap.size ∨ i = w.heap.size + 2) → i < W0.heap.size:=fun i hi=>by omega
 have HS0:=Lib.hid hs0
 clear hs0 hW0
 have hN : (spF f f.length).length ≤ 4194304:=by
  have : ∀ i,i ≤ f.length → (spF f i).length ≤ i * 1048576:=by
   intro i;induction i with
   | zero=>intro _;simp [spF]
   | succ i ih=>intro hi;rw [spF_len_succ f i (by omega)];have:=ih (by omega);have:=HP.out f[i] (List.getElem_mem _);omega
  have:=this f.length (Nat.le_refl _);have:=H4.out;omega
 have HN:=Lib.hid hN
 clear hN
 refine wpIn_rangeFunc_ownH rfl (by omega) (gf:=125) (lb:=#[.pointer (some ⟨w.heap.size + 2,0,none⟩)]) rfl trivial (enters_of Tryz.func125 (by kernel_rfl) rfl)
  (each_stops 8 (by omega) (fun i=>i < w.heap.size ∨ i = w.heap.size + 2) (w.heap.size + 2) (.slice a 4 cap) f W0 (cell_block G2 0) (.inr rfl) HD (Sl.same blockE_kept h (same_old XW) (fun b hb=>.inl hb)) (by rw [H4.out];omega) HP.out)
  (fun h k=>h.trans k) (fun W l o o' hl _ _ _=>KpD.put HD W l o o' hl) (Below.refl _ _) (fun _=>rfl)
  (fun pre W=>(∃ n,n ≤ pre.length ∧ MapOf Tryz.prog 3 W w.heap.size n (lastG (lastL (pre.map (·.1))))) ∧ W.heap[w.heap.size + 1]? = some (.cells #[.map (some w.heap.size)] 89 (0,0)) ∧ Ext w W ∧ W0.heap.size ≤ W.heap.size)
  (fun _ _ _=>False) ?hI (fun _ _ _ _ _ h _ _=>h.elim) ?h0
  (fun x a' W=>∃ By,W0.heap.size ≤ By ∧ W.heap[By]? = some (.cells (pageC x.1.2.2).toArray 116 (0,0)) ∧
   a' = { tmps:=#[.slice a 4 cap,undef,.map none,.pointer (some ⟨w.heap.size + 1,0,none⟩),undef,.pointer (some ⟨By,0,none⟩),.map (some w.heap.size),.slice a 4 cap,.func (.func 125) #[] #[.pointer (some ⟨w.heap.size + 2,0,none⟩)],.agg #[.int .i64 x.1.1,.int .i64 x.1.2.1],pageA x.1.2.2,undef,undef,undef,undef,undef,undef,undef,undef,undef,undef,undef,undef,undef,undef,undef,undef,undef,undef,undef,undef,undef,undef],defers:=[] })
  ?hAx ?assign ?body ?done ?stop
 case hI =>
  rintro s X Y row ⟨⟨n,hn,h1⟩,h2,h3,h4⟩ hg hr
  have hx:=grown_ext h3 (fun g hg'=>by have:=(hr g hg').1;have:=XW.size;omega) hg
  exact ⟨⟨n,hn,h1.kept hg fun e=>by have:=(hr _ e.symm).1;have:=HS0.out;omega⟩,cells_own h2 hg hr,hx,Nat.le_trans h4 hg.size⟩
 case h0 =>
  refine ⟨⟨0,Nat.le_refl _,?_⟩,G1,XW,Nat.le_refl _⟩
  have : lastG (lastL (([] : List (SpotIn f)).map (·.1))) = fun _=>none:=by funext z;rfl
  rw [this];exact G0
 case hAx =>
  rintro x a' s X Y row ⟨By,h2,h4,h5⟩ hg hr
  exact ⟨By,h2,cells_own h4 hg hr,h5⟩
 case stop=>rintro D c pre W _ _ h;exact h.elim
 case assign =>
  rintro l pre ⟨⟨i,j,p⟩,hin⟩ W K ⟨⟨n,hn,h1⟩,h2,h3,h4⟩ hK
  simp only [encS]
  gi_wp2
  have hx : Ext W (W.alloc (.cells (pageC p).toArray 116)):=ext_alloc (ext_refl _) _
  exact hK _ _ ((KeepsOthers.alloc _ _).from _) (KpD.of_below hx fun b hb=>Nat.lt_of_lt_of_le (HD b hb) h4) ⟨⟨n,hn,h1.ext hx⟩,keep_ext hx h2,ext_trans h3 hx,Nat.le_trans h4 hx.size⟩
   ⟨W.heap.size,h4,hg_new rfl,rfl⟩
 case done =>
  rintro D xs W hD hS ⟨⟨n,hn,h1⟩,h2,h3,h4⟩ hK
  obtain ⟨g3,gf3⟩:=cellsK h2
  gi_wp2
  refine ⟨by simp,.inl ⟨_,_,rfl,run_takeDeferred hK,?_⟩⟩
  refine ⟨_,results_tmp rfl _ _ _,w.heap.size,n,rfl,?_,Nat.le_refl _,?_⟩
  ·exact grown_ext h3 (fun g hg=>by cases hg;have:=HS0.out;omega) (grownBy_putObj' W D _)
  ·have hl : lastL (xs.map (·.1)) = last f:=by funext z;rw [hS];exact lastL_all f z
   rw [hl] at h1
   exact h1.kept (grownBy_putObj' W D _) (by have:=HS0.out;simp;omega)
 case body =>
  rintro l pre ⟨⟨i,j,p⟩,hin⟩ a' W hl ⟨r,hr⟩ ⟨⟨n,hn,h1⟩,h2,h3,h4⟩ ⟨By,hB2,g5,rfl⟩ hlt
  have hpo : pageOkB p = true:=by
   obtain ⟨b,hb,hp⟩:=hin
   exact HS.out b (List.mem_of_getElem? hb) p (List.mem_of_getElem? hp)
  have hsq:=pageOk_seq hpo
  have had:=pageOk_addr hpo
  have hwf:=i64_wf (x:=p.r.addr) (by omega) (by omega)
  have hn2 : n < maxLen:=by have:=HN.out;unfold maxLen;omega
  have HM : Hid (((pre ++ [⟨(i,j,p),hin⟩] : List (SpotIn f)).map (·.1)) = pre.map (·.1) ++ [(i,j,p)]):=Lib.hid (by rw [List.map_append];rfl)
  have hlk:=h1.lookup (t:=89) Tryz.underlying3 Tryz.underlying89 (z:=recA rec0) (by rfl) hwf false
  rw [lastG_get] at hlk
  simp only [Bool.false_eq_true,if_false] at hlk
  dsimp only [recA] at hlk
  have HNO:=fun h=>Lib.hid (lastG_none (xs:=pre.map (·.1)) (x:=(i,j,p)) h)
  have HYES:=fun h h'=>Lib.hid (lastG_some (xs:=pre.map (·.1)) (x:=(i,j,p)) h h')
  dsimp only at HNO HYES
  generalize lastL (pre.map (·.1)) = ll at *
  dsimp only at g5
  obtain ⟨q5,qf5⟩:=cellsK g5
  obtain ⟨q3,qf3⟩:=cellsK h2
  by_cases hst : p.state = 1
  ·by_cases hgt : (ll p.r.addr).seq < p.r.seq
   ·have HM2:=HYES hst hgt
    have H1:=Lib.hid h1
    clear HNO HYES h1
    gi_wp2_with (gi_at_mapUpdate;refine wpListIn_mapUpd rfl _ _ _ rfl Tryz.underlying3 Tryz.underlying89 rfl H1.out hn2 rfl hwf (val:=recA p.r) rfl (fun w5 hM5 hg5=>?_))
    have hC:=Chg.of_grown hg5
    rw [HM2.out,← HM.out] at hM5
    clear hlk
    gi_wp2
    exact ⟨KeepsFrom.of_chg hC (by have:=HS0.out;simp;omega),KpD.of_chg hC (fun b hb=>⟨Nat.lt_of_lt_of_le (HD b hb) h4,by simp;omega⟩),⟨n + 1,by simp;omega,hM5⟩,hC.keep h2 (by simp),Chg.ext h3 hC (by simp),Nat.le_trans h4 hC.size⟩
   ·have HM2:=HNO (fun h=>hgt h.2)
    have H1:=Lib.hid h1
    clear HNO HYES h1
    gi_wp2
    refine ⟨(KeepsOthers.refl _).from _,⟨Nat.le_refl _,fun _ _=>rfl⟩,⟨n,by simp;omega,?_⟩,h2,h3,h4⟩
    rw [HM.out,HM2.out];exact H1.out
  ·have HM2:=HNO (fun h=>hst h.1)
   have H1:=Lib.hid h1
   clear HNO HYES h1
   gi_wp2
   refine ⟨(KeepsOthers.refl _).from _,⟨Nat.le_refl _,fun _ _=>rfl⟩,⟨n,by simp;omega,?_⟩,h2,h3,h4⟩
   rw [HM.out,HM2.out];exact H1.out
end Go.Bu
namespace Go.Bu
open Go Go.RowKit Go.Plan Go.Proofs
theorem isDirty_c (r : Rec) (w : World) : Calls Tryz.prog 73 #[recA r] w (Ret w (.bool (r.kind == 1))):=by
 go_enter Tryz.func73,Tryz.ntmps73
 go_wp2
 go_ret
 exact ⟨rfl,by go_grown⟩
theorem last_ok {f : List Block} (h : FlashOk f) (a : Int) : last f a = rec0 ∨ (recOkB (last f a) = true ∧ (last f a).addr = a):=by
 have key : ∀ (fs : List Block),(∀ b ∈ fs,∀ p ∈ b.pages,pageOkB p = true) → ∀ r : Rec,(r = rec0 ∨ (recOkB r = true ∧ r.addr = a)) → (fs.foldl (fun r b=>lastP a r b.pages) r = rec0 ∨ (recOkB (fs.foldl (fun r b=>lastP a r b.pages) r) = true ∧ (fs.foldl (fun r b=>lastP a r b.pages) r).addr = a)):=by
  intro fs hp r hr
  refine foldl_inv (fun r b=>lastP a r b.pages) (fun r=>r = rec0 ∨ (recOkB r = true ∧ r.addr = a)) fs r hr fun s b hb hs=>?_
  refine foldl_inv (lastStep a) (fun r=>r = rec0 ∨ (recOkB r = true ∧ r.addr = a)) b.pages s hs fun s p hpp hs=>?_
  unfold lastStep
  split
  ·rename_i hc
   have:=hp b hb p hpp
   unfold pageOkB at this
   rw [if_pos hc.1] at this
   exact .inr ⟨this,hc.2.1⟩
  ·exact hs
 exact key f (fun b hb=>h.pg hb) rec0 (.inl rfl)
set_option maxRecDepth 20000 in
set_option maxHeartbeats 4000000 in
theorem implStoreOk_c (fv dv : Value) (s : Store) (w : World) (h : StoreV w fv dv s) (hp : ∀ b ∈ s.flash,b.pages.length ≤ 1048576) (hd : s.disk.length ≤ 1048576) :
  Calls Tryz.prog 45 #[.agg #[fv,dv]] w (Ret w (.bool (storeOkB s))):=by
 have hFO:=fun (w' : World) (hx : Ext w w')=>implFindOrder_c fv s.flash w' (h.1.ext hx) hp
 have hD:=h.2
 obtain ⟨fa,fcap,hfv⟩:=h.1.form
 obtain ⟨da,dcap,rfl⟩:=h.2.form
 by_cases h6 : s.disk.length = 6
 ·by_cases hok : orderB s.flash = true
  ·have hF:=flashOk_iff.1 (orderB_ok hok)
   have hLR:=fun (w' : World) (hx : Ext w w')=>lastRecords_c fv s.flash w' (h.1.ext hx) hF.len hp (fun b hb=>hF.pg hb)
   obtain ⟨A,hA⟩ : ∃ A,diskScan s.flash 0 (s.disk.drop 0) = A:=⟨_,rfl⟩
   have hs : storeOkB s = A:=by unfold storeOkB;rw [hok,h6,← hA,List.drop_zero];rfl
   have HL:=Lib.hid (last_ok hF)
   rw [hs]
   have HA:=Lib.hid hA
   rw [hok] at hFO
   rw [h6] at hD
   rw [h6]
   have H6:=Lib.hid h6
   subst hfv
   clear hs hA hok hF h6 hp hd
   go_enter Tryz.func45,Tryz.ntmps45
   go_wp2_with fail
   refine (hFO _ (ext_alloc (ext_refl _) _)).mono ?_;rintro e1 w1 ⟨rfl,hx1⟩
   have X1:=ext_trans (ext_alloc (ext_refl w) _) hx1
   have G1:=keep_ext hx1 (hg_new (b:=w.heap.size) rfl)
   obtain ⟨g1,gf1⟩:=cellsK G1
   have l1:=heap_lt G1
   clear hFO hx1
   go_wp2_with fail
   refine (hLR _ X1).mono ?_;rintro e2 w2 ⟨B,n,rfl,hx2,hB,hM⟩
   have X2:=ext_trans X1 hx2
   replace G1:=keep_ext hx2 G1
   clear g1 gf1 l1
   obtain ⟨g1,gf1⟩:=cellsK G1
   have HM:=Lib.hid hM
   clear hLR hx2 hM hB X1
   go_wp2_with fail
   go_loopw [25] (fun y wr=>∃ i : Nat,i ≤ 6 ∧ y = .int .i64 i ∧ Ext w2 wr ∧ Hid (diskScan s.flash i (s.disk.drop i) = A)) (fun y _=>6 - (intOf y).toNat)
   case atStart=>exact ⟨0,by omega,rfl,ext_refl _,HA⟩
   case round =>
    clear HA G1 g1 gf1
    obtain ⟨i,hi,rfl,hX,HR⟩:=hrel
    by_cases hlt : i < 6
    ·have hil : i < s.disk.length:=by have:=H6.out;omega
     obtain ⟨b,o,rfl,hb,c0⟩:=hD.at1 hil
     have hb' : b < w.heap.size:=hb
     obtain ⟨hc,hf⟩:=bcell (ext_trans X2 hX)
     rw [diskScan_drop _ _ _ hil] at HR
     have hM:=HM.out.ext hX
     have hlk:=hM.lookup (t:=89) Tryz.underlying3 Tryz.underlying89 (z:=recA rec0) (by rfl) (i64_wf (x:=(i : Int) + 1) (by omega) (by omega)) true
     simp only [if_true] at hlk
     have hlo:=HL.out ((i : Int) + 1)
     unfold lastG at hlk
     generalize last s.flash ((i : Int) + 1) = r at *
     generalize s.disk[i] = d at *
     have HLK:=Lib.hid hlk
     have hbd : badDisk r d = (!inB d 0 9 || (decide (0 < r.seq) && r.kind == 2 && r.val != d)):=rfl
     have HBD:=Lib.hid hbd
     have X3:=ext_trans X2 hX
     clear hlk hM hbd HL
     cases hin : inB d 0 9
     ·have hA : false = A:=by have h:=HR.out;rw [HBD.out,hin] at h;exact h
      subst hA
      clear HR HBD HLK hlo
      go_wp2_with (go_at_call 74;refine (valOk_c _ _).mono ?_;rintro e w' ⟨rfl,rfl⟩)
      go_ret
      exact ⟨rfl,X3⟩
     ·have hlk:=HLK.out
      clear HLK
      by_cases h0 : 0 < r.seq
      ·rw [if_pos h0] at hlk
       simp only [Option.getD_some,Option.isSome_some] at hlk
       dsimp only [recA] at hlk
       have hk : r.kind = 1 ∨ r.kind = 2:=by
        rcases hlo with h | ⟨h,_⟩
        ·rw [h] at h0;exact absurd h0 (by decide)
        ·have:=recOkB_iff.1 h;omega
       obtain ⟨kb,hkb⟩ : ∃ kb,(r.kind == 1) = kb:=⟨_,rfl⟩
       have hdc:=fun w'=>isDirty_c r w'
       rw [hkb] at hdc
       dsimp only [recA] at hdc
       have XA : Ext w2 (wr.alloc (.cells #[.int .i64 r.kind,.int .i64 r.seq,.int .i64 r.addr,.int .i64 r.val] 77)):=ext_alloc hX _
       cases kb
       ·have hk2 : r.kind = 2:=by
         rcases hk with h | h
         ·rw [h] at hkb;cases hkb
         ·exact h
        by_cases hv : r.val = d
        ·subst hv
         have HR2 : Hid (diskScan s.flash (i + 1) (s.disk.drop (i + 1)) = A):=Lib.hid (by have h:=HR.out;rwa [if_neg (by rw [HBD.out,hin];simp)] at h)
         clear hkb hk2
         clear HR HBD hlo hk
         go_wp2_with (go_at_call 74;refine (valOk_c _ _).mono ?_;rw [hin];rintro e w' ⟨rfl,rfl⟩)
         refine (hdc _).mono ?_;rintro e5 w5 ⟨rfl,hx5⟩
         have G7:=keep_ext hx5 (hg_new (b:=wr.heap.size) rfl)
         obtain ⟨g7,gf7⟩:=cellsK G7
         have l7:=heap_lt G7
         have X5:=ext_trans XA hx5
         clear hdc hx5 hc hf c0 hlk XA
         go_wp2_with fail
         go_roundw
         case rel=>exact ⟨i + 1,by omega,by go_num,X5,HR2⟩
         case measure=>simp [intOf];omega
        ·have hA : false = A:=by have h:=HR.out;rw [if_pos (by rw [HBD.out,hin,hk2];simp [h0,hv])] at h;exact h
         subst hA
         clear HR HBD hlo hk hkb hk2
         go_wp2_with (go_at_call 74;refine (valOk_c _ _).mono ?_;rw [hin];rintro e w' ⟨rfl,rfl⟩)
         refine (hdc _).mono ?_;rintro e5 w5 ⟨rfl,hx5⟩
         have G7:=keep_ext hx5 (hg_new (b:=wr.heap.size) rfl)
         obtain ⟨g7,gf7⟩:=cellsK G7
         have l7:=heap_lt G7
         have X5:=ext_trans XA hx5
         clear hdc hx5 hc hf c0 hlk XA
         go_wp2_with fail
         go_ret
         exact ⟨rfl,ext_trans X2 X5⟩
       ·have hk1 : r.kind = 1:=by simpa using hkb
        have HR2 : Hid (diskScan s.flash (i + 1) (s.disk.drop (i + 1)) = A):=Lib.hid (by have h:=HR.out;rwa [if_neg (by rw [HBD.out,hin,hk1];simp)] at h)
        clear hkb hk1
        clear HR HBD hlo hk
        go_wp2_with (go_at_call 74;refine (valOk_c _ _).mono ?_;rw [hin];rintro e w' ⟨rfl,rfl⟩)
        refine (hdc _).mono ?_;rintro e5 w5 ⟨rfl,hx5⟩
        have G7:=keep_ext hx5 (hg_new (b:=wr.heap.size) rfl)
        obtain ⟨g7,gf7⟩:=cellsK G7
        have l7:=heap_lt G7
        have X5:=ext_trans XA hx5
        clear hdc hx5 hc hf c0 hlk XA
        go_wp2_with fail
        go_roundw
        case rel=>exact ⟨i + 1,by omega,by go_num,X5,HR2⟩
        case measure=>simp [intOf];omega
      ·rw [if_neg h0] at hlk
       simp only [Option.getD_none,Option.isSome_none] at hlk
       dsimp only [recA,rec0] at hlk
       have HR2 : Hid (diskScan s.flash (i + 1) (s.disk.drop (i + 1)) = A):=Lib.hid (by have h:=HR.out;rwa [if_neg (by rw [HBD.out,hin];simp [h0])] at h)
       clear HR HBD hlo h0
       go_wp2_with (go_at_call 74;refine (valOk_c _ _).mono ?_;rw [hin];rintro e w' ⟨rfl,rfl⟩)
       go_roundw
       case rel=>exact ⟨i + 1,by omega,by go_num,ext_alloc hX _,HR2⟩
       case measure=>simp [intOf];omega
    ·obtain rfl : i = 6:=by omega
     have hr:=HR.out
     rw [List.drop_eq_nil_of_le (by rw [H6.out];omega)] at hr
     have hr : true = A:=hr
     subst hr
     go_wp2_with fail
     go_ret
     exact ⟨rfl,ext_trans X2 hX⟩
  ·have hs : storeOkB s = false:=by unfold storeOkB;rw [Bool.not_eq_true] at hok;rw [hok];rfl
   rw [Bool.not_eq_true] at hok
   rw [hok] at hFO
   rw [hs,h6]
   subst hfv
   clear hs hok
   go_enter Tryz.func45,Tryz.ntmps45
   go_wp2_with fail
   refine (hFO _ (ext_alloc (ext_refl _) _)).mono ?_;rintro e1 w1 ⟨rfl,hx1⟩
   go_wp2_with fail
   go_ret
   exact ⟨rfl,ext_trans (ext_alloc (ext_refl w) _) hx1⟩
 ·have hs : storeOkB s = false:=by unfold storeOkB;rw [show (s.disk.length == 6) = false by simpa using h6];simp
  rw [hs]
  subst hfv
  have h6' : (s.disk.length != 6) = true:=by simpa using h6
  go_enter Tryz.func45,Tryz.ntmps45
  go_wp2_with fail
  go_ret
  exact ⟨rfl,ext_alloc (ext_refl w) _⟩
theorem implPairOk_c (f d g e : Value) (p : Pair) (w : World) (hA : StoreV w f d p.A) (hB : StoreV w g e p.B) (hpA : ∀ b ∈ p.A.flash,b.pages.length ≤ 1048576) (hpB : ∀ b ∈ p.B.flash,b.pages.length ≤ 1048576) (hdA : p.A.disk.length ≤ 1048576) (hdB : p.B.disk.length ≤ 1048576) :
  Calls Tryz.prog 20 #[.agg #[f,d,g,e,.int .i64 p.lost]] w (Ret w (.bool (inB p.lost 0 2 && (storeOkB p.A && storeOkB p.B)))):=by
 have hFA:=fun (w' : World) (hx : Ext w w')=>implStoreOk_c f d p.A w' (hA.ext hx) hpA hdA
 have hFB:=fun (w' : World) (hx : Ext w w')=>implStoreOk_c g e p.B w' (hB.ext hx) hpB hdB
 obtain ⟨a1,c1,rfl⟩:=hA.1.form
 obtain ⟨a2,c2,rfl⟩:=hA.2.form
 obtain ⟨a3,c3,rfl⟩:=hB.1.form
 obtain ⟨a4,c4,rfl⟩:=hB.2.form
 generalize storeOkB p.A = u at *
 generalize storeOkB p.B = v at *
 by_cases h1 : 0 ≤ p.lost
 ·by_cases h2 : p.lost ≤ 2
  ·have hi : inB p.lost 0 2 = true:=inB_iff.2 ⟨h1,h2⟩
   rw [hi]
   clear hi
   cases u
   ·go_enter Tryz.func20,Tryz.ntmps20
    go_wp2_with fail
    refine (hFA _ (ext_alloc (ext_refl _) _)).mono ?_;rintro e1 w1 ⟨rfl,hx1⟩
    go_wp2_with fail
    go_ret
    exact ⟨rfl,ext_trans (ext_alloc (ext_refl w) _) hx1⟩
   ·go_enter Tryz.func20,Tryz.ntmps20
    go_wp2_with fail
    refine (hFA _ (ext_alloc (ext_refl _) _)).mono ?_;rintro e1 w1 ⟨rfl,hx1⟩
    have G1:=keep_ext hx1 (hg_new (b:=w.heap.size) rfl)
    obtain ⟨g1,gf1⟩:=cellsK G1
    have l1:=heap_lt G1
    have X1:=ext_trans (ext_alloc (ext_refl w) _) hx1
    clear hFA
    go_wp2_with fail
    refine (hFB _ X1).mono ?_;rintro e2 w2 ⟨rfl,hx2⟩
    go_wp2_with fail
    go_ret
    exact ⟨rfl,ext_trans X1 hx2⟩
  ·have hi : inB p.lost 0 2 = false:=inB_no.2 (by omega)
   rw [hi]
   clear hi
   go_enter Tryz.func20,Tryz.ntmps20
   go_wp2_with fail
   go_ret
   exact ⟨rfl,ext_alloc (ext_refl w) _⟩
 ·have hi : inB p.lost 0 2 = false:=inB_no.2 (by omega)
  rw [hi]
  clear hi
  go_enter Tryz.func20,Tryz.ntmps20
  go_wp2_with fail
  go_ret
  exact ⟨rfl,ext_alloc (ext_refl w) _⟩
end Go.Bu
namespace Go.Bu
open Go Go.RowKit Go.Plan Go.Proofs
def Fin63 (s : Store) : Prop:=s.flash.length ≤ 9223372036854775807 ∧ (∀ b ∈ s.flash,b.pages.length ≤ 9223372036854775807) ∧ s.disk.length ≤ 9223372036854775807
def StoreIn (w : World) (v : Value) (s : Store) : Prop:=∃ f d,v = .agg #[f,d] ∧ StoreV w f d s ∧ Fin63 s
def PairIn (w : World) (v : Value) (p : Pair) : Prop:=∃ f d g e,v = .agg #[f,d,g,e,.int .i64 p.lost] ∧ (StoreV w f d p.A ∧ Fin63 p.A) ∧ StoreV w g e p.B ∧ Fin63 p.B
theorem opens_page : Opens Tryz.prog 187 (plain pageC):=by
 intro H enc w spare held fuel cs x h
 have hl:=len_at Tryz.underlying187 h (n:=5) (by kernel_rfl)
 match cs,hl with
 | [c0,c1,c2,c3,c4],_ =>
  obtain ⟨a,ha⟩:=int_at Tryz.underlying187 h 0 rfl cellsInt Tryz.underlying3
  obtain ⟨m,y,hy⟩:=field_at Tryz.underlying187 h 1 rfl (len:=4) (by kernel_rfl)
  obtain ⟨r,hr⟩:=opens_rec hy
  simp at ha hr
  subst ha
  obtain ⟨rfl,rfl,rfl,rfl⟩:=hr
  exact ⟨⟨a,r⟩,rfl⟩
def blockE2 : Enc Block:=fun D w b cs=>blockE D w b cs ∧ b.pages.length ≤ 9223372036854775807
theorem opens_block : Opens Tryz.prog 163 blockE2:=by
 intro H enc w spare held fuel cs x h
 have hl:=len_at Tryz.underlying163 h (n:=2) (by kernel_rfl)
 match cs,hl with
 | [c0,c1],_ =>
  obtain ⟨m,y,hy⟩:=field_at Tryz.underlying163 h 0 rfl (len:=1) (by kernel_rfl)
  obtain ⟨a,ha⟩:=int_at Tryz.underlying163 h 1 rfl cellsInt Tryz.underlying3
  simp at ha
  subst ha
  obtain ⟨ps,hps,hpl,_⟩:=open_sl (n:=5) Tryz.underlying161 (by kernel_rfl) (by omega) opens_page hy
  exact ⟨⟨ps,a⟩,⟨_,rfl,hps⟩,hpl⟩
theorem flash_of {D : Nat → Prop} {w : World} {v : Value} {f : List Block} (h : Sl 2 blockE2 D w v f) : Flash D w v f ∧ ∀ b ∈ f,b.pages.length ≤ 9223372036854775807:=by
 obtain ⟨a,cap,hv,hx⟩:=h
 refine ⟨⟨a,cap,hv,fun i x hi=>?_⟩,fun b hb=>?_⟩
 ·obtain ⟨b,o,cs,h1,h2,h3,h4⟩:=hx i x hi
  exact ⟨b,o,cs,h1,h2,h3.1,h4⟩
 ·obtain ⟨i,hi⟩:=List.mem_iff_getElem?.1 hb
  obtain ⟨_,_,_,_,_,h3,_⟩:=hx i b hi
  exact h3.2
theorem opens_store {fuel : Nat} {H : Type} {enc : TypeId × Value → H} {w : World} {spare : Nat → Bool} {held : Bool} {cs : List Value} {x : DataW H × List MemPlace}
  (h : DataW.trod enc Tryz.prog w 0 spare held fuel 49 cs = some x) : ∃ (s : Store) (f d : Value),cs = [f,d] ∧ StoreV w f d s ∧ Fin63 s:=by
 have hl:=len_at Tryz.underlying49 h (n:=2) (by kernel_rfl)
 match cs,hl with
 | [c0,c1],_ =>
  obtain ⟨m,y,hy⟩:=field_at Tryz.underlying49 h 0 rfl (len:=1) (by kernel_rfl)
  obtain ⟨m2,y2,hy2⟩:=field_at Tryz.underlying49 h 1 rfl (len:=1) (by kernel_rfl)
  obtain ⟨f,hf,hfl,_⟩:=open_sl (n:=2) Tryz.underlying47 (by kernel_rfl) (by omega) opens_block hy
  obtain ⟨d,hd,hdl,_⟩:=open_sl (n:=1) Tryz.underlying24 (by kernel_rfl) (by omega) opens_int hy2
  obtain ⟨hF,hp⟩:=flash_of hf
  exact ⟨⟨f,d⟩,c0,c1,rfl,⟨hF,hd⟩,hfl,hp,hdl⟩
set_option maxRecDepth 100000 in
theorem is_store {H : Type} {enc : TypeId × Value → H} {w : World} {r : Reach} {base : Nat} {v : Value} {d : DataW H} {ps : List MemPlace} (hv : Value.okWide Tryz.prog w r base 49 v) (h : DataW.Trod enc Tryz.prog w 0 (fun _=>true) true 49 v d ps) :
  ∃ s : Store,StoreIn w v s:=by
 obtain ⟨fuel,hf⟩:=h
 obtain ⟨s,f,d,hc,h1,h2⟩:=opens_store hf
 obtain ⟨cs,rfl,_⟩:=WideShapes.okWide_struct Tryz.underlying49 hv
 refine ⟨s,f,d,?_,h1,h2⟩
 have : cs = #[f,d]:=by rw [← Array.toList_inj];exact hc
 rw [this]
set_option maxRecDepth 100000 in
theorem is_pair {H : Type} {enc : TypeId × Value → H} {w : World} {r : Reach} {base : Nat} {v : Value} {d : DataW H} {ps : List MemPlace} (hv : Value.okWide Tryz.prog w r base 51 v) (h : DataW.Trod enc Tryz.prog w 0 (fun _=>true) true 51 v d ps) :
  ∃ p : Pair,PairIn w v p:=by
 obtain ⟨fuel,hf⟩:=h
 obtain ⟨cs,rfl,_⟩:=WideShapes.okWide_struct Tryz.underlying51 hv
 have hf : DataW.trod enc Tryz.prog w 0 (fun _=>true) true fuel 51 cs.toList = some (d,ps):=hf
 have hl:=len_at Tryz.underlying51 hf (n:=5) (by kernel_rfl)
 obtain ⟨m,y,hy⟩:=field_at Tryz.underlying51 hf 0 rfl (len:=2) (by kernel_rfl)
 obtain ⟨m2,y2,hy2⟩:=field_at Tryz.underlying51 hf 1 rfl (len:=2) (by kernel_rfl)
 obtain ⟨l,hlost⟩:=int_at Tryz.underlying51 hf 2 rfl cellsInt Tryz.underlying3
 obtain ⟨sa,f,d1,h1,h2,h3⟩:=opens_store hy
 obtain ⟨sb,g,e,h4,h5,h6⟩:=opens_store hy2
 obtain ⟨xs⟩:=cs
 match xs,hl with
 | [c0,c1,c2,c3,c4],_ =>
  simp at h1 h4 hlost
  obtain ⟨rfl,rfl⟩:=h1
  obtain ⟨rfl,rfl⟩:=h4
  subst hlost
  exact ⟨⟨sa,sb,l⟩,_,_,_,_,rfl,⟨h2,h3⟩,h5,h6⟩
def Small (s : Store) : Prop:=s.flash.length ≤ 1048576 ∧ (∀ b ∈ s.flash,b.pages.length ≤ 1048576) ∧ s.disk.length ≤ 1048576
def SzΦ (b : Int) (P : Prop) (v : Value) (w' : World) : Prop:=∃ r : Int,v = .int .i64 r ∧ (r < 0 ∨ (0 ≤ r ∧ r ≤ b ∧ P))
theorem szPageS_c (v : Value) (ps : List Page) (b : Int) (w : World) (h : Pages (Old w) w v ps) (hl : ps.length ≤ 9223372036854775807) (hb : 0 ≤ b ∧ b ≤ 1048576) :
  Calls Tryz.prog 143 #[v,.int .i64 b] w (RetP w (SzΦ b (ps.length ≤ 1048576))):=by
 obtain ⟨a,cap,rfl⟩:=h.form
 go_enter Tryz.func143,Tryz.ntmps143
 go_wp2
 all_goals
  try simp only [beq_iff_eq,Bool.not_eq_true,beq_eq_false_iff_ne,ne_eq,bne_iff_ne,bne_eq_false_iff_eq,decide_eq_true_eq,decide_eq_false_iff_not] at *
  go_ret
  first
  | exact ⟨_,rfl,ext_refl _,-1,rfl,.inl (by omega)⟩
  | exact ⟨_,rfl,ext_refl _,_,rfl,.inr ⟨by omega,by omega,by omega⟩⟩
theorem szIntS_c (v : Value) (ps : List Int) (b : Int) (w : World) (h : Ints (Old w) w v ps) (hl : ps.length ≤ 9223372036854775807) (hb : 0 ≤ b ∧ b ≤ 1048576) :
  Calls Tryz.prog 94 #[v,.int .i64 b] w (RetP w (SzΦ b (ps.length ≤ 1048576))):=by
 obtain ⟨a,cap,rfl⟩:=h.form
 go_enter Tryz.func94,Tryz.ntmps94
 go_wp2
 all_goals
  try simp only [beq_iff_eq,Bool.not_eq_true,beq_eq_false_iff_ne,ne_eq,bne_iff_ne,bne_eq_false_iff_eq,decide_eq_true_eq,decide_eq_false_iff_not] at *
  go_ret
  first
  | exact ⟨_,rfl,ext_refl _,-1,rfl,.inl (by omega)⟩
  | exact ⟨_,rfl,ext_refl _,_,rfl,.inr ⟨by omega,by omega,by omega⟩⟩
theorem szBlock_c (pv : Value) (x : Block) (b : Int) (w : World) (h : Pages (Old w) w pv x.pages) (hl : x.pages.length ≤ 9223372036854775807) (hb : 0 ≤ b ∧ b ≤ 1048576) :
  Calls Tryz.prog 127 #[.agg #[pv,.int .i64 x.worn],.int .i64 b] w (RetP w (SzΦ b (x.pages.length ≤ 1048576))):=by
 have hc:=fun (w' : World) (hx : Ext w w')=>szPageS_c pv x.pages b w' (h.ext hx) hl hb
 obtain ⟨a,cap,rfl⟩:=h.form
 go_enter Tryz.func127,Tryz.ntmps127
 go_wp2_with fail
 refine (hc _ (ext_alloc (ext_refl _) _)).mono ?_;rintro e w1 ⟨v1,rfl,hx1,r,rfl,hr⟩
 go_wp2_with fail
 all_goals
  try simp only [beq_iff_eq,Bool.not_eq_true,beq_eq_false_iff_ne,ne_eq,bne_iff_ne,bne_eq_false_iff_eq,decide_eq_true_eq,decide_eq_false_iff_not] at *
  go_ret
  first
  | exact ⟨_,rfl,ext_trans (ext_alloc (ext_refl _) _) hx1,-1,rfl,.inl (by omega)⟩
  | exact ⟨_,rfl,ext_trans (ext_alloc (ext_refl _) _) hx1,_,rfl,hr⟩
set_option maxHeartbeats 1000000 in
theorem szBlockS_c (v : Value) (f : List Block) (b : Int) (w : World) (h : Flash (Old w) w v f) (hl : f.length ≤ 9223372036854775807) (hp : ∀ b ∈ f,b.pages.length ≤ 9223372036854775807) (hb : 0 ≤ b ∧ b ≤ 1048576) :
  Calls Tryz.prog 93 #[v,.int .i64 b] w (RetP w (SzΦ b (f.length ≤ 1048576 ∧ ∀ x ∈ f,x.pages.length ≤ 1048576))):=by
 obtain ⟨a,cap,rfl⟩:=h.form
 have HP:=Lib.hid hp
 clear hp
 by_cases hneg : b - f.length < 0
 ·go_enter Tryz.func93,Tryz.ntmps93
  go_wp2
  go_ret
  exact ⟨_,rfl,ext_refl _,-1,rfl,.inl (by omega)⟩
 ·go_enter Tryz.func93,Tryz.ntmps93
  go_wp2
  have H0 : Hid (∀ x ∈ f.take 0,x.pages.length ≤ 1048576):=Lib.hid (fun x hx=>by simp at hx)
  go_loopw [1,5] (fun n y wr=>∃ (k : Nat) (m : Int),k ≤ f.length ∧ y = .int .i64 k ∧ n = .int .i64 m ∧ 0 ≤ m ∧ m ≤ b ∧ Ext w wr ∧ Hid (∀ x ∈ f.take k,x.pages.length ≤ 1048576)) (fun _ y _=>f.length - (intOf y).toNat)
  case atStart=>exact ⟨0,b - f.length,by omega,rfl,rfl,by omega,by omega,ext_refl _,H0⟩
  case round =>
   clear H0
   obtain ⟨k,m,hk,rfl,rfl,hm0,hm1,hX,HK⟩:=hrel
   by_cases hlt : k < f.length
   ·obtain ⟨b2,o,pv,rfl,hb2,hpp,e0,e1⟩:=h.at2 hlt
    have hb' : b2 < w.heap.size:=hb2
    obtain ⟨hc,hf⟩:=bcell hX
    obtain ⟨pa,pcap,rfl⟩:=hpp.form
    go_wp2_with fail
    refine (szBlock_c _ f[k] m _ (hpp.ext hX) (HP.out _ (List.getElem_mem _)) ⟨hm0,by omega⟩).mono ?_;rintro e w1 ⟨v1,rfl,hx1,r,rfl,hr⟩
    by_cases hr0 : r < 0
    ·go_wp2_with fail
     go_ret
     exact ⟨_,rfl,ext_trans hX hx1,-1,rfl,.inl (by omega)⟩
    ·have hrr:=hr.resolve_left hr0
     have HK2 : Hid (∀ x ∈ f.take (k + 1),x.pages.length ≤ 1048576):=Lib.hid (fun x hx=>by
      rw [← take_snoc f k hlt,List.mem_append] at hx
      rcases hx with hx | hx
      ·exact HK.out x hx
      ·simp at hx;subst hx;exact hrr.2.2)
     obtain ⟨r0,r1,_⟩:=hrr
     clear hr HK e0 e1 hc hf
     go_wp2_with fail
     go_roundw
     case rel=>exact ⟨k + 1,r,by omega,by go_num,rfl,r0,by omega,ext_trans hX hx1,HK2⟩
     case measure=>simp [intOf];omega
   ·obtain rfl : k = f.length:=by omega
    go_wp2_with fail
    go_ret
    exact ⟨_,rfl,hX,m,rfl,.inr ⟨hm0,hm1,by omega,by have:=HK.out;rwa [List.take_length] at this⟩⟩
theorem szStore_c (f d : Value) (s : Store) (b : Int) (w : World) (h : StoreV w f d s) (hF : Fin63 s) (hb : 0 ≤ b ∧ b ≤ 1048576) :
  Calls Tryz.prog 55 #[.agg #[f,d],.int .i64 b] w (RetP w (SzΦ b (Small s))):=by
 have hc1:=fun (w' : World) (hx : Ext w w')=>szBlockS_c f s.flash b w' (h.1.ext hx) hF.1 hF.2.1 hb
 have hc2:=fun (w' : World) (hx : Ext w w') (m : Int) (hm : 0 ≤ m ∧ m ≤ 1048576)=>szIntS_c d s.disk m w' (h.2.ext hx) hF.2.2 hm
 obtain ⟨a,cap,rfl⟩:=h.1.form
 obtain ⟨a2,cap2,rfl⟩:=h.2.form
 go_enter Tryz.func55,Tryz.ntmps55
 go_wp2_with fail
 refine (hc1 _ (ext_alloc (ext_refl _) _)).mono ?_;rintro e w1 ⟨v1,rfl,hx1,r,rfl,hr⟩
 have G1:=keep_ext hx1 (hg_new (b:=w.heap.size) rfl)
 obtain ⟨g1,gf1⟩:=cellsK G1
 have l1:=heap_lt G1
 have X1:=ext_trans (ext_alloc (ext_refl w) _) hx1
 clear hc1
 by_cases hr0 : r < 0
 ·go_wp2_with fail
  go_ret
  exact ⟨_,rfl,X1,-1,rfl,.inl (by omega)⟩
 ·obtain ⟨r0,r1,hP⟩:=hr.resolve_left hr0
  have HP:=Lib.hid hP
  clear hr hP
  go_wp2_with fail
  refine (hc2 _ X1 r ⟨r0,by omega⟩).mono ?_;rintro e w2 ⟨v2,rfl,hx2,m,rfl,hm⟩
  go_wp2_with fail
  all_goals
   try simp only [beq_iff_eq,Bool.not_eq_true,beq_eq_false_iff_ne,ne_eq,bne_iff_ne,bne_eq_false_iff_eq,decide_eq_true_eq,decide_eq_false_iff_not] at *
   go_ret
   first
   | exact ⟨_,rfl,ext_trans X1 hx2,-1,rfl,.inl (by omega)⟩
   | (obtain ⟨m0,m1,m2⟩:=hm.resolve_left (by omega);exact ⟨_,rfl,ext_trans X1 hx2,m,rfl,.inr ⟨m0,by omega,HP.out.1,HP.out.2,m2⟩⟩)
theorem szPair_c (f d g e : Value) (p : Pair) (b : Int) (w : World) (hA : StoreV w f d p.A) (hFA : Fin63 p.A) (hB : StoreV w g e p.B) (hFB : Fin63 p.B) (hb : 0 ≤ b ∧ b ≤ 1048576) :
  Calls Tryz.prog 25 #[.agg #[f,d,g,e,.int .i64 p.lost],.int .i64 b] w (RetP w (SzΦ b (Small p.A ∧ Small p.B))):=by
 have hc1:=fun (w' : World) (hx : Ext w w')=>szStore_c f d p.A b w' (hA.ext hx) hFA hb
 have hc2:=fun (w' : World) (hx : Ext w w') (m : Int) (hm : 0 ≤ m ∧ m ≤ 1048576)=>szStore_c g e p.B m w' (hB.ext hx) hFB hm
 obtain ⟨a1,n1,rfl⟩:=hA.1.form
 obtain ⟨a2,n2,rfl⟩:=hA.2.form
 obtain ⟨a3,n3,rfl⟩:=hB.1.form
 obtain ⟨a4,n4,rfl⟩:=hB.2.form
 go_enter Tryz.func25,Tryz.ntmps25
 go_wp2_with fail
 refine (hc1 _ (ext_alloc (ext_refl _) _)).mono ?_;rintro e w1 ⟨v1,rfl,hx1,r,rfl,hr⟩
 have G1:=keep_ext hx1 (hg_new (b:=w.heap.size) rfl)
 obtain ⟨g1,gf1⟩:=cellsK G1
 have l1:=heap_lt G1
 have X1:=ext_trans (ext_alloc (ext_refl w) _) hx1
 clear hc1
 by_cases hr0 : r < 0
 ·go_wp2_with fail
  go_ret
  exact ⟨_,rfl,X1,-1,rfl,.inl (by omega)⟩
 ·obtain ⟨r0,r1,hP⟩:=hr.resolve_left hr0
  have HP:=Lib.hid hP
  clear hr hP
  go_wp2_with fail
  refine (hc2 _ X1 r ⟨r0,by omega⟩).mono ?_;rintro e w2 ⟨v2,rfl,hx2,m,rfl,hm⟩
  go_wp2_with fail
  all_goals
   try simp only [beq_iff_eq,Bool.not_eq_true,beq_eq_false_iff_ne,ne_eq,bne_iff_ne,bne_eq_false_iff_eq,decide_eq_true_eq,decide_eq_false_iff_not] at *
   go_ret
   first
   | exact ⟨_,rfl,ext_trans X1 hx2,-1,rfl,.inl (by omega)⟩
   | (obtain ⟨m0,m1,m2⟩:=hm.resolve_left (by omega);exact ⟨_,rfl,ext_trans X1 hx2,m,rfl,.inr ⟨m0,by omega,HP.out,m2⟩⟩)
end Go.Bu
namespace Go.Bu
open Go Go.RowKit Go.Plan Go.Proofs
def Fits (xs ys : List Block) : Prop:=(xs.length ≤ 1048576 ∨ ys.length ≤ 1048576) ∧ ∀ (i : Nat) (h : i < xs.length) (h2 : i < ys.length),xs[i].pages.length ≤ 1048576 ∨ ys[i].pages.length ≤ 1048576
def FitsI (xs ys : List Int) : Prop:=xs.length ≤ 1048576 ∨ ys.length ≤ 1048576
theorem eqStore_c (f g d e : Value) (s t : Store) (w : World) (hf : Flash (Old w) w f s.flash) (hg : Flash (Old w) w g t.flash) (hd : Ints (Old w) w d s.disk) (he : Ints (Old w) w e t.disk) (hn : Fits s.flash t.flash) (hm : FitsI s.disk t.disk) :
  Calls Tryz.prog 57 #[.agg #[f,d],.agg #[g,e]] w (Ret w (.bool (storeEq s t))):=by
 have hE : ∀ o1 o2,Ext w ((w.alloc o1).alloc o2):=fun o1 o2=>ext_alloc (ext_alloc (ext_refl _) _) _
 have HE:=Lib.hid hE;clear hE
 go_enter Tryz.func57,Tryz.ntmps57
 go_wp2_with fail
 refine (eqBlockS_c _ _ s.flash t.flash _ (hf.ext (HE.out _ _)) (hg.ext (HE.out _ _)) hn.1 hn.2).mono ?_
 rintro e1 w1 ⟨rfl,hx⟩
 have hc:=(bcell hx).1
 have hX : Ext w w1:=ext_trans (HE.out _ _) hx
 go_wp2_with (go_at_call 98;refine (eqIntS_c _ _ s.disk t.disk _ (hd.ext hX) (he.ext hX) hm).mono ?_;rintro e2 w2 ⟨rfl,hx2⟩)
 ·go_ret
  exact ⟨by simp_all [storeEq,flashEq],hX⟩
 all_goals
  go_ret
  exact ⟨by simp_all [storeEq,flashEq,intsEq],ext_trans hX ‹_›⟩
theorem eqPair_c (f g d e f' g' d' e' : Value) (p q : Pair) (w : World) (hf : Flash (Old w) w f p.A.flash) (hg : Flash (Old w) w g q.A.flash) (hd : Ints (Old w) w d p.A.disk) (he : Ints (Old w) w e q.A.disk) (hn : Fits p.A.flash q.A.flash) (hm : FitsI p.A.disk q.A.disk)
  (hf' : Flash (Old w) w f' p.B.flash) (hg' : Flash (Old w) w g' q.B.flash) (hd' : Ints (Old w) w d' p.B.disk) (he' : Ints (Old w) w e' q.B.disk) (hn' : Fits p.B.flash q.B.flash) (hm' : FitsI p.B.disk q.B.disk) :
  Calls Tryz.prog 27 #[.agg #[f,d,f',d',.int .i64 p.lost],.agg #[g,e,g',e',.int .i64 q.lost]] w (Ret w (.bool (pairEq p q))):=by
 have hE : ∀ o1 o2,Ext w ((w.alloc o1).alloc o2):=fun o1 o2=>ext_alloc (ext_alloc (ext_refl _) _) _
 have HE:=Lib.hid hE;clear hE
 go_enter Tryz.func27,Tryz.ntmps27
 go_wp2_with fail
 refine (eqStore_c _ _ _ _ p.A q.A _ (hf.ext (HE.out _ _)) (hg.ext (HE.out _ _)) (hd.ext (HE.out _ _)) (he.ext (HE.out _ _)) hn hm).mono ?_
 rintro e1 w1 ⟨rfl,hx⟩
 have hc:=(bcell hx).1
 have hX : Ext w w1:=ext_trans (HE.out _ _) hx
 have hz0 : w.heap.size < w1.heap.size:=by have:=hx.size;simp at this;omega
 have hz1 : w.heap.size + 1 < w1.heap.size:=by have:=hx.size;simp at this;omega
 go_wp2_with (go_at_call 57;refine (eqStore_c _ _ _ _ p.B q.B _ (hf'.ext hX) (hg'.ext hX) (hd'.ext hX) (he'.ext hX) hn' hm').mono ?_;rintro e2 w2 ⟨rfl,hx2⟩;have hc2:=(bcell hx2).1)
 ·go_ret
  exact ⟨by simp_all [pairEq],hX⟩
 all_goals
  go_ret
  exact ⟨by simp_all [pairEq],ext_trans hX ‹_›⟩
set_option maxHeartbeats 1000000 in
theorem lqFlash_c (u v : Value) (xs ys : List Block) (w : World) (hp : Flash (Old w) w u xs) (hq : Flash (Old w) w v ys) (hn : xs.length ≤ 1048576 ∨ ys.length ≤ 1048576) (hnb : ∀ (i : Nat) (h : i < xs.length) (h2 : i < ys.length),xs[i].pages.length ≤ 1048576 ∨ ys[i].pages.length ≤ 1048576) :
  Calls Tryz.prog 51 #[u,v] w (Ret w (.bool (listEq blockEq xs ys))):=by
 obtain ⟨a,cap,rfl⟩:=hp.form
 obtain ⟨a2,cap2,rfl⟩:=hq.form
 by_cases hlen : xs.length = ys.length
 ·have hn1 : xs.length ≤ 1048576:=by omega
  clear hn
  have hne : (((xs.length : Nat) : Int) != ((ys.length : Nat) : Int)) = false:=by simp [hlen]
  have HL:=Lib.hid hlen;clear hlen;have HB:=Lib.hid hnb;clear hnb
  go_enter Tryz.func51,Tryz.ntmps51
  go_wp2
  clear hne
  go_loopw [5] (fun i wr=>∃ k : Nat,k ≤ xs.length ∧ i = .int .i64 k ∧ Ext w wr ∧ ∀ (i : Nat) (h1 : i < xs.length) (h2 : i < ys.length),i < k → blockEq xs[i] ys[i] = true) (fun i _=>xs.length - (intOf i).toNat)
  case atStart=>exact ⟨0,Nat.zero_le _,rfl,ext_refl _,fun _ _ _ h=>absurd h (Nat.not_lt_zero _)⟩
  case round =>
   obtain ⟨k,hk,rfl,hx,heq⟩:=hrel
   have HE:=Lib.hid heq;clear heq
   by_cases hlt : k < xs.length
   ·have hlt2 : k < ys.length:=by have:=HL.out;omega
    obtain ⟨b,o,pv,rfl,hb,hpp,h0,h1⟩:=(hp.ext hx).at2 hlt
    obtain ⟨b2,o2,qv,rfl,hb2,hqq,k0,k1⟩:=(hq.ext hx).at2 hlt2
    by_cases hw : xs[k].worn = ys[k].worn
    ·have hwb : (xs[k].worn != ys[k].worn) = false:=by simp [hw]
     have HW:=Lib.hid hw;clear hw
     go_wp2_with fail
     refine wp_region_ext [22] [0,1,2,3,4,5,6,7,8,9,10,11,12,13,14,15,16,17,18,19,20,21,22,23,24] [] [] (by kernel_rfl) (by kernel_rfl) ?late ?_
     case late=>exact fun f hf=>absurd hf List.not_mem_nil
     iterate 2
      refine Rob.y (v:=?_) rfl rfl (fun w1 hx hH=>?_) ?_;rotate_left
      ·go_simp;first | done | rfl | exact (Bool.not_not _).symm
      simp only [Act.put,slA,slB,slC]
     refine Rob.y (v:=?_) rfl rfl (fun w1 hx hH=>?_) ?_;rotate_left
     ·(have c0:=cell_ext hx h0;have d0:=cell_ext hx k0;have c1:=cell_ext hx h1;have d1:=cell_ext hx k1);go_simp;first | done | rfl
     simp only [Act.put,slA,slB,slC]
     refine Rob.y (v:=?_) rfl rfl (fun w1 hx hH=>?_) ?_;rotate_left
     ·go_simp;first | done | rfl | exact (Bool.not_not _).symm
     simp only [Act.put,slA,slB,slC]
     refine Rob.y (v:=?_) rfl rfl (fun w1 hx hH=>?_) ?_;rotate_left
     ·(have c0:=cell_ext hx h0;have d0:=cell_ext hx k0;have c1:=cell_ext hx h1;have d1:=cell_ext hx k1);go_simp;first | done | rfl
     simp only [Act.put,slA,slB,slC]
     iterate 2
      refine Rob.y (v:=?_) rfl rfl (fun w1 hx hH=>?_) ?_;rotate_left
      ·go_simp;first | done | rfl | exact (Bool.not_not _).symm
      simp only [Act.put,slA,slB,slC]
     refine Rob.y (v:=?_) rfl rfl (fun w1 hx hH=>?_) ?_;rotate_left
     ·(have c0:=cell_ext hx h0;have d0:=cell_ext hx k0;have c1:=cell_ext hx h1;have d1:=cell_ext hx k1);go_simp;first | done | rfl
     simp only [Act.put,slA,slB,slC]
     refine Rob.y (v:=?_) rfl rfl (fun w1 hx hH=>?_) ?_;rotate_left
     ·go_simp;first | done | rfl | exact (Bool.not_not _).symm
     simp only [Act.put,slA,slB,slC]
     refine Rob.y (v:=?_) rfl rfl (fun w1 hx hH=>?_) ?_;rotate_left
     ·(have c0:=cell_ext hx h0;have d0:=cell_ext hx k0;have c1:=cell_ext hx h1;have d1:=cell_ext hx k1);go_simp;first | done | rfl
     simp only [Act.put,slA,slB,slC]
     refine Rob.y (v:=?_) rfl rfl (fun w1 hx hH=>?_) ?_;rotate_left
     ·go_simp;first | done | rfl | exact (Bool.not_not _).symm
     simp only [Act.put,slA,slB,slC]
     refine Rob.yB (b:=?_) rfl rfl (fun w1 hx hH=>?_) (fun hb11=>?_) (fun hb11=>?_);rotate_left
     ·go_simp;first | done | rfl | exact (Bool.not_not _).symm
     focus
      try contradiction
      all_goals
       simp only [Act.put,slA,slB,slC]
       iterate 12
        refine Rob.no rfl rfl ?_
        simp only [Act.put,slA,slB,slC]
       refine Rob.y (v:=?_) rfl rfl (fun w1 hx hH=>?_) ?_;rotate_left
       ·go_simp;first | done | rfl | exact (Bool.not_not _).symm
       simp only [Act.put,slA,slB,slC]
     rotate_right
     focus
      try contradiction
      all_goals
       simp only [Act.put,slA,slB,slC]
       iterate 2
        refine Rob.yg (v:=?_) rfl rfl (fun w1 hx hH=>?_) ?_;rotate_left
        ·go_simp;first | done | rfl | exact (Bool.not_not _).symm
        simp only [Act.put,slA,slB,slC]
       refine Rob.yg (v:=?_) rfl rfl (fun w1 hx hH=>?_) ?_;rotate_left
       ·(have c0:=cell_ext hx h0;have d0:=cell_ext hx k0;have c1:=cell_ext hx h1;have d1:=cell_ext hx k1);go_simp;first | done | rfl
       simp only [Act.put,slA,slB,slC]
       refine Rob.yg (v:=?_) rfl rfl (fun w1 hx hH=>?_) ?_;rotate_left
       ·go_simp;first | done | rfl | exact (Bool.not_not _).symm
       simp only [Act.put,slA,slB,slC]
       refine Rob.yg (v:=?_) rfl rfl (fun w1 hx hH=>?_) ?_;rotate_left
       ·(have c0:=cell_ext hx h0;have d0:=cell_ext hx k0;have c1:=cell_ext hx h1;have d1:=cell_ext hx k1);go_simp;first | done | rfl
       simp only [Act.put,slA,slB,slC]
       iterate 2
        refine Rob.yg (v:=?_) rfl rfl (fun w1 hx hH=>?_) ?_;rotate_left
        ·go_simp;first | done | rfl | exact (Bool.not_not _).symm
        simp only [Act.put,slA,slB,slC]
       refine Rob.yg (v:=?_) rfl rfl (fun w1 hx hH=>?_) ?_;rotate_left
       ·(have c0:=cell_ext hx h0;have d0:=cell_ext hx k0;have c1:=cell_ext hx h1;have d1:=cell_ext hx k1);go_simp;first | done | rfl
       simp only [Act.put,slA,slB,slC]
       refine Rob.yg (v:=?_) rfl rfl (fun w1 hx hH=>?_) ?_;rotate_left
       ·go_simp;first | done | rfl | exact (Bool.not_not _).symm
       simp only [Act.put,slA,slB,slC]
       refine Rob.yg (v:=?_) rfl rfl (fun w1 hx hH=>?_) ?_;rotate_left
       ·(have c0:=cell_ext hx h0;have d0:=cell_ext hx k0;have c1:=cell_ext hx h1;have d1:=cell_ext hx k1);go_simp;first | done | rfl
       simp only [Act.put,slA,slB,slC]
       refine Rob.cv (.bool (listEq pageEq xs[k].pages ys[k].pages)) rfl rfl rfl (fun _ _=>ext_trans) (fun w1 hx hH=>?_) (fun lo22 hi22 hlo22 hhi22=>?_)
       ·unfold RunTo;go_simp;exact (lqPages_c pv qv xs[k].pages ys[k].pages _ (hpp.ext hx) (hqq.ext hx) (HB.out k hlt hlt2)).mono fun e w' h=>h.to
       simp only [Act.put,slA,slB,slC]
       refine Rob.yg (v:=?_) rfl rfl (fun w1 hx hH=>?_) ?_;rotate_left
       ·go_simp;first | done | rfl | exact (Bool.not_not _).symm
       simp only [Act.put,slA,slB,slC]
       refine Rob.y (v:=?_) rfl rfl (fun w1 hx hH=>?_) ?_;rotate_left
       ·go_simp;first | done | rfl | exact (Bool.not_not _).symm
       simp only [Act.put,slA,slB,slC]
     refine fin_nil (fun w1 hx1 _=>?_)
     clear h0 h1 k0 k1 hwb
     go_wp2
     ·have hf : listEq pageEq xs[k].pages ys[k].pages = false:=by simpa using ‹(!listEq pageEq xs[k].pages ys[k].pages) = true›
      go_ret
      exact ⟨by rw [listEq_no hlt hlt2 (by simp [blockEq,hf])];rfl,ext_trans hx hx1⟩
     ·have ht : blockEq xs[k] ys[k] = true:=by
       have : listEq pageEq xs[k].pages ys[k].pages = true:=by simpa using ‹(!listEq pageEq xs[k].pages ys[k].pages) = false›
       simp [blockEq,this,HW.out]
      go_roundw
      case rel=>exact ⟨k + 1,by omega,by go_num,ext_trans hx hx1,fun i h1 h2 hi=>by
       rcases Nat.lt_succ_iff_lt_or_eq.1 hi with h | rfl
       ·exact HE.out i h1 h2 h
       ·exact ht⟩
      case measure=>simp [intOf];omega
    ·have hwb : (xs[k].worn != ys[k].worn) = true:=by simp [hw]
     have HW:=Lib.hid hw;clear hw
     go_wp2_with fail
     refine wp_region_ext [22] [0,1,2,3,4,5,6,7,8,9,10,11,12,13,14,15,16,17,18,19,20,21,22,23,24] [] [] (by kernel_rfl) (by kernel_rfl) ?late ?_
     case late=>exact fun f hf=>absurd hf List.not_mem_nil
     iterate 2
      refine Rob.y (v:=?_) rfl rfl (fun w1 hx hH=>?_) ?_;rotate_left
      ·go_simp;first | done | rfl | exact (Bool.not_not _).symm
      simp only [Act.put,slA,slB,slC]
     refine Rob.y (v:=?_) rfl rfl (fun w1 hx hH=>?_) ?_;rotate_left
     ·(have c0:=cell_ext hx h0;have d0:=cell_ext hx k0;have c1:=cell_ext hx h1;have d1:=cell_ext hx k1);go_simp;first | done | rfl
     simp only [Act.put,slA,slB,slC]
     refine Rob.y (v:=?_) rfl rfl (fun w1 hx hH=>?_) ?_;rotate_left
     ·go_simp;first | done | rfl | exact (Bool.not_not _).symm
     simp only [Act.put,slA,slB,slC]
     refine Rob.y (v:=?_) rfl rfl (fun w1 hx hH=>?_) ?_;rotate_left
     ·(have c0:=cell_ext hx h0;have d0:=cell_ext hx k0;have c1:=cell_ext hx h1;have d1:=cell_ext hx k1);go_simp;first | done | rfl
     simp only [Act.put,slA,slB,slC]
     iterate 2
      refine Rob.y (v:=?_) rfl rfl (fun w1 hx hH=>?_) ?_;rotate_left
      ·go_simp;first | done | rfl | exact (Bool.not_not _).symm
      simp only [Act.put,slA,slB,slC]
     refine Rob.y (v:=?_) rfl rfl (fun w1 hx hH=>?_) ?_;rotate_left
     ·(have c0:=cell_ext hx h0;have d0:=cell_ext hx k0;have c1:=cell_ext hx h1;have d1:=cell_ext hx k1);go_simp;first | done | rfl
     simp only [Act.put,slA,slB,slC]
     refine Rob.y (v:=?_) rfl rfl (fun w1 hx hH=>?_) ?_;rotate_left
     ·go_simp;first | done | rfl | exact (Bool.not_not _).symm
     simp only [Act.put,slA,slB,slC]
     refine Rob.y (v:=?_) rfl rfl (fun w1 hx hH=>?_) ?_;rotate_left
     ·(have c0:=cell_ext hx h0;have d0:=cell_ext hx k0;have c1:=cell_ext hx h1;have d1:=cell_ext hx k1);go_simp;first | done | rfl
     simp only [Act.put,slA,slB,slC]
     refine Rob.y (v:=?_) rfl rfl (fun w1 hx hH=>?_) ?_;rotate_left
     ·go_simp;first | done | rfl | exact (Bool.not_not _).symm
     simp only [Act.put,slA,slB,slC]
     refine Rob.yB (b:=?_) rfl rfl (fun w1 hx hH=>?_) (fun hb11=>?_) (fun hb11=>?_);rotate_left
     ·go_simp;first | done | rfl | exact (Bool.not_not _).symm
     focus
      try contradiction
      all_goals
       simp only [Act.put,slA,slB,slC]
       iterate 12
        refine Rob.no rfl rfl ?_
        simp only [Act.put,slA,slB,slC]
       refine Rob.y (v:=?_) rfl rfl (fun w1 hx hH=>?_) ?_;rotate_left
       ·go_simp;first | done | rfl | exact (Bool.not_not _).symm
       simp only [Act.put,slA,slB,slC]
     rotate_right
     focus
      try contradiction
      all_goals
       simp only [Act.put,slA,slB,slC]
       iterate 12
        refine Rob.no rfl rfl ?_
        simp only [Act.put,slA,slB,slC]
       refine Rob.y (v:=?_) rfl rfl (fun w1 hx hH=>?_) ?_;rotate_left
       ·go_simp;first | done | rfl | exact (Bool.not_not _).symm
       simp only [Act.put,slA,slB,slC]
     refine fin_nil (fun w1 hx1 _=>?_)
     clear h0 h1 k0 k1 hwb
     go_wp2
     go_ret
     exact ⟨by rw [listEq_no hlt hlt2 (by simp [blockEq,HW.out])];rfl,ext_trans hx hx1⟩
   ·go_wp2
    go_ret
    exact ⟨by rw [listEq_mk HL.out fun i h1 h2=>HE.out i h1 h2 (by omega)];rfl,hx⟩
 ·have hne : (((xs.length : Nat) : Int) != ((ys.length : Nat) : Int)) = true:=by simp;omega
  go_enter Tryz.func51,Tryz.ntmps51
  go_wp2
  go_ret
  exact ⟨by rw [listEq_ne hlen];rfl,ext_refl _⟩
theorem lqStore_c (f g d e : Value) (s t : Store) (w : World) (hf : Flash (Old w) w f s.flash) (hg : Flash (Old w) w g t.flash) (hd : Ints (Old w) w d s.disk) (he : Ints (Old w) w e t.disk) (hn : Fits s.flash t.flash) (hm : FitsI s.disk t.disk) :
  Calls Tryz.prog 17 #[.agg #[f,d],.agg #[g,e]] w (Ret w (.bool (storeEq s t))):=by
 have hE : ∀ o1 o2,Ext w ((w.alloc o1).alloc o2):=fun o1 o2=>ext_alloc (ext_alloc (ext_refl _) _) _
 have HE:=Lib.hid hE;clear hE
 go_enter Tryz.func17,Tryz.ntmps17
 go_wp2_with fail
 refine (lqFlash_c _ _ s.flash t.flash _ (hf.ext (HE.out _ _)) (hg.ext (HE.out _ _)) hn.1 hn.2).mono ?_
 rintro e1 w1 ⟨rfl,hx⟩
 have hc:=(bcell hx).1
 have hX : Ext w w1:=ext_trans (HE.out _ _) hx
 go_wp2_with (go_at_call 19;refine (lqInts_c _ _ s.disk t.disk _ (hd.ext hX) (he.ext hX) hm).mono ?_;rintro e2 w2 ⟨rfl,hx2⟩)
 all_goals
  go_ret
  first
   | exact ⟨by simp_all [storeEq,flashEq,intsEq],ext_trans hX ‹_›⟩
   | exact ⟨by simp_all [storeEq,flashEq,intsEq],hX⟩
theorem lqPair_c (f g d e f' g' d' e' : Value) (p q : Pair) (w : World) (hf : Flash (Old w) w f p.A.flash) (hg : Flash (Old w) w g q.A.flash) (hd : Ints (Old w) w d p.A.disk) (he : Ints (Old w) w e q.A.disk) (hn : Fits p.A.flash q.A.flash) (hm : FitsI p.A.disk q.A.disk)
  (hf' : Flash (Old w) w f' p.B.flash) (hg' : Flash (Old w) w g' q.B.flash) (hd' : Ints (Old w) w d' p.B.disk) (he' : Ints (Old w) w e' q.B.disk) (hn' : Fits p.B.flash q.B.flash) (hm' : FitsI p.B.disk q.B.disk) :
  Calls Tryz.prog 12 #[.agg #[f,d,f',d',.int .i64 p.lost],.agg #[g,e,g',e',.int .i64 q.lost]] w (Ret w (.bool (pairEq p q))):=by
 have hE : ∀ o1 o2,Ext w ((w.alloc o1).alloc o2):=fun o1 o2=>ext_alloc (ext_alloc (ext_refl _) _) _
 have HE:=Lib.hid hE;clear hE
 by_cases hl : p.lost = q.lost
 ·have hl' : (p.lost == q.lost) = true:=by simp [hl]
  have HL:=Lib.hid hl;clear hl
  go_enter Tryz.func12,Tryz.ntmps12
  go_wp2_with fail
  refine (lqStore_c _ _ _ _ p.A q.A _ (hf.ext (HE.out _ _)) (hg.ext (HE.out _ _)) (hd.ext (HE.out _ _)) (he.ext (HE.out _ _)) hn hm).mono ?_
  rintro e1 w1 ⟨rfl,hx⟩
  have hc:=(bcell hx).1
  have hX : Ext w w1:=ext_trans (HE.out _ _) hx
  go_wp2_with (go_at_call 17;refine (lqStore_c _ _ _ _ p.B q.B _ (hf'.ext hX) (hg'.ext hX) (hd'.ext hX) (he'.ext hX) hn' hm').mono ?_;rintro e2 w2 ⟨rfl,hx2⟩;have hc2:=(bcell hx2).1;have hs:=hx.size)
  all_goals
   go_ret
   first
    | exact ⟨by simp_all [pairEq,HL.out],ext_trans hX ‹_›⟩
    | exact ⟨by simp_all [pairEq,HL.out],hX⟩
 ·have hl' : (p.lost == q.lost) = false:=by simp [hl]
  go_enter Tryz.func12,Tryz.ntmps12
  go_wp2_with fail
  go_ret
  exact ⟨by simp [pairEq,hl],HE.out _ _⟩
end Go.Bu
namespace Go.Bu
open Go Go.RowKit Go.Plan Go.Proofs
theorem listEq_refl' {α : Type} {eq : α → α → Bool} (h : ∀ x,eq x x = true) : ∀ xs : List α,listEq eq xs xs = true
 | []=>rfl
 | x :: xs=>by simp [listEq,h x,listEq_refl' h xs]
theorem storeEq_refl (s : Store) : storeEq s s = true:=by
 unfold storeEq flashEq intsEq
 rw [listEq_refl' (fun b=>by simp [blockEq,listEq_refl' (eq:=pageEq) (fun p=>by simp [pageEq,recEq]) b.pages]) s.flash,listEq_refl' (fun x=>by simp [intEq]) s.disk];rfl
theorem pairEq_refl (p : Pair) : pairEq p p = true:=by simp [pairEq,storeEq_refl]
theorem Small.fits {s : Store} (h : Small s) (f : List Block) : Fits s.flash f:=⟨.inl h.1,fun i hi _=>.inl (h.2.1 _ (List.getElem_mem hi))⟩
theorem Small.fits' {s : Store} (h : Small s) (f : List Block) : Fits f s.flash:=⟨.inr h.1,fun i _ hi=>.inr (h.2.1 _ (List.getElem_mem hi))⟩
theorem Small.fitsI {s : Store} (h : Small s) (d : List Int) : FitsI s.disk d:=.inl h.2.2
theorem Small.fitsI' {s : Store} (h : Small s) (d : List Int) : FitsI d s.disk:=.inr h.2.2
def pairOkB (p : Pair) : Bool:=inB p.lost 0 2 && (storeOkB p.A && storeOkB p.B)
theorem specPairOk_c (f d g e : Value) (p : Pair) (w : World) (hA : StoreV w f d p.A) (hB : StoreV w g e p.B) (hsA : p.A.flash.length ≤ 1048576) (hsB : p.B.flash.length ≤ 1048576) :
  Calls Tryz.prog 14 #[.agg #[f,d,g,e,.int .i64 p.lost]] w (Ret w (.bool (pairOkB p))):=by
 have hFA:=fun (w' : World) (hx : Ext w w')=>specStoreOk_c f d p.A w' (hA.ext hx) hsA
 have hFB:=fun (w' : World) (hx : Ext w w')=>specStoreOk_c g e p.B w' (hB.ext hx) hsB
 unfold pairOkB
 obtain ⟨a1,c1,rfl⟩:=hA.1.form
 obtain ⟨a2,c2,rfl⟩:=hA.2.form
 obtain ⟨a3,c3,rfl⟩:=hB.1.form
 obtain ⟨a4,c4,rfl⟩:=hB.2.form
 generalize storeOkB p.A = u at *
 generalize storeOkB p.B = v at *
 generalize hi : inB p.lost 0 2 = q at *
 cases u
 ·go_enter Tryz.func14,Tryz.ntmps14
  go_wp2_with fail
  refine (hFA _ (ext_alloc (ext_refl _) _)).mono ?_;rintro e1 w1 ⟨rfl,hx1⟩
  go_wp2_with fail
  go_ret
  exact ⟨by cases q <;> rfl,ext_trans (ext_alloc (ext_refl w) _) hx1⟩
 ·cases v
  ·go_enter Tryz.func14,Tryz.ntmps14
   go_wp2_with fail
   refine (hFA _ (ext_alloc (ext_refl _) _)).mono ?_;rintro e1 w1 ⟨rfl,hx1⟩
   have G1:=keep_ext hx1 (hg_new (b:=w.heap.size) rfl)
   obtain ⟨g1,gf1⟩:=cellsK G1
   have l1:=heap_lt G1
   have X1:=ext_trans (ext_alloc (ext_refl w) _) hx1
   clear hFA
   go_wp2_with fail
   refine (hFB _ X1).mono ?_;rintro e2 w2 ⟨rfl,hx2⟩
   go_wp2_with fail
   go_ret
   exact ⟨by cases q <;> rfl,ext_trans X1 hx2⟩
  ·go_enter Tryz.func14,Tryz.ntmps14
   go_wp2_with fail
   refine (hFA _ (ext_alloc (ext_refl _) _)).mono ?_;rintro e1 w1 ⟨rfl,hx1⟩
   have G1:=keep_ext hx1 (hg_new (b:=w.heap.size) rfl)
   obtain ⟨g1,gf1⟩:=cellsK G1
   have l1:=heap_lt G1
   have X1:=ext_trans (ext_alloc (ext_refl w) _) hx1
   clear hFA
   go_wp2_with fail
   refine (hFB _ X1).mono ?_;rintro e2 w2 ⟨rfl,hx2⟩
   replace G1:=keep_ext hx2 G1
   have X2:=ext_trans X1 hx2
   clear g1 gf1 l1 hFB
   obtain ⟨g1,gf1⟩:=cellsK G1
   have l1:=heap_lt G1
   go_wp2_with (go_at_call 44;refine (l6In_c _ _ _ _).mono ?_;rw [hi];rintro e w' ⟨rfl,rfl⟩)
   go_ret
   exact ⟨by cases q <;> rfl,X2⟩
end Go.Bu
namespace Go.Bu
open Go Go.RowKit Go.Plan Go.Proofs
def allS (s : Store) : List Int:=(List.range 6).map (readN s)
theorem allS_len (s : Store) : (allS s).length = 6:=by simp [allS]
def IntsOut (base : Nat) (w : World) (v : Value) (xs : List Int) : Prop:=(v = .slice none 0 0 ∧ xs = []) ∨ ∃ B,base ≤ B ∧ OwnInts w v xs B
theorem IntsOut.ext {base : Nat} {w w' : World} {v : Value} {xs : List Int} (h : IntsOut base w v xs) (hx : Ext w w') : IntsOut base w' v xs:=h.imp id fun ⟨B,h1,h2⟩=>⟨B,h1,h2.ext hx⟩
theorem IntsOut.ints {base : Nat} {w : World} {v : Value} {xs : List Int} (h : IntsOut base w v xs) : Ints (Old w) w v xs:=by
 rcases h with ⟨rfl,rfl⟩ | ⟨B,_,h⟩
 ·exact ⟨_,_,rfl,fun i x hi=>by cases hi⟩
 ·exact h.old
theorem IntsOut.weak {b b' : Nat} {w : World} {v : Value} {xs : List Int} (h : IntsOut b w v xs) (hb : b' ≤ b) : IntsOut b' w v xs:=h.imp id fun ⟨B,h1,h2⟩=>⟨B,Nat.le_trans hb h1,h2⟩
def IntsΦ (w : World) (xs : List Int) (e : Ending) (w' : World) : Prop:=∃ v,e = .returned v ∧ Ext w w' ∧ IntsOut w.heap.size w' v xs
def allV (s : Store) : List Int:=if storeOkB s = true then allS s else []
set_option maxRecDepth 20000 in
set_option maxHeartbeats 2000000 in
theorem implStoreAll_c (fv dv : Value) (s : Store) (w : World) (h : StoreV w fv dv s) (hp : ∀ b ∈ s.flash,b.pages.length ≤ 1048576) (hd : s.disk.length ≤ 1048576) :
  Calls Tryz.prog 18 #[.agg #[fv,dv]] w (IntsΦ w (allV s)):=by
 have hSO:=fun (w' : World) (hx : Ext w w')=>implStoreOk_c fv dv s w' (h.ext hx) hp hd
 unfold allV
 by_cases hok : storeOkB s = true
 ·have hF:=flashOk_iff.1 (storeOk_flash hok)
  have h6:=storeOk_disk hok
  have hLR:=fun (w' : World) (hx : Ext w w')=>lastRecords_c fv s.flash w' (h.1.ext hx) hF.len hp (fun b hb=>hF.pg hb)
  have hD:=h.2
  rw [hok] at hSO
  rw [if_pos hok]
  obtain ⟨fa,fcap,hfv⟩:=h.1.form
  obtain ⟨da,dcap,hdv⟩:=h.2.form
  rw [h6] at hdv
  subst hfv
  subst hdv
  have H6:=Lib.hid h6
  have hlz:=fun n : Nat=>lastL_zero (spF s.flash s.flash.length) ((n : Int) + 1)
  simp only [lastL_all] at hlz
  have HLZ:=Lib.hid hlz
  have hmk : ∀ w : World,(Instr.makeSlice 24 (.int .i64 6) (.int .i64 6)).run Tryz.prog w = .ok (.slice (some ⟨w.heap.size,0,none⟩) 6 6) (w.alloc (.cells #[.int .i64 0,.int .i64 0,.int .i64 0,.int .i64 0,.int .i64 0,.int .i64 0] 3)):=fun w=>by kernel_rfl
  have h60 : ∀ w : World,OwnAt 1 intC 3 (w.alloc (.cells #[.int .i64 0,.int .i64 0,.int .i64 0,.int .i64 0,.int .i64 0,.int .i64 0] 3)) w.heap.size 0 [0,0,0,0,0,0]:=by
   intro w
   refine ⟨_,alloc_get_new rfl,fun i x hx j u hu=>?_⟩
   have hi : i < 6:=(List.getElem?_eq_some_iff.1 hx).1
   have hj : j < 1:=by have:=(List.getElem?_eq_some_iff.1 hu).1;simpa using this
   obtain rfl : j = 0:=by omega
   rcases (show i = 0 ∨ i = 1 ∨ i = 2 ∨ i = 3 ∨ i = 4 ∨ i = 5 by omega) with rfl | rfl | rfl | rfl | rfl | rfl <;> (simp at hx;subst hx;simp at hu;subst hu;rfl)
  have H60:=Lib.hid h60
  clear hok hF h6 hp hd hlz h60
  go_enter Tryz.func18,Tryz.ntmps18
  go_wp2_with fail
  refine (hSO _ (ext_alloc (ext_refl _) _)).mono ?_;rintro e1 w1 ⟨rfl,hx1⟩
  have X1:=ext_trans (ext_alloc (ext_refl w) _) hx1
  have G1:=keep_ext hx1 (hg_new (b:=w.heap.size) rfl)
  obtain ⟨g1,gf1⟩:=cellsK G1
  have l1:=heap_lt G1
  clear hSO hx1
  go_wp2_with fail
  refine (hLR _ X1).mono ?_;rintro e2 w2 ⟨BM,n,rfl,hx2,hB,hM⟩
  have X2:=ext_trans X1 hx2
  have hs2:=X2.size
  replace G1:=keep_ext hx2 G1
  clear g1 gf1 l1
  obtain ⟨g1,gf1⟩:=cellsK G1
  have l1:=heap_lt G1
  have HM:=Lib.hid hM
  clear hLR hx2 hM hB X1
  go_wp2_with fail
  clear hmk
  have XA : Ext w2 (w2.alloc (.cells #[.int .i64 0,.int .i64 0,.int .i64 0,.int .i64 0,.int .i64 0,.int .i64 0] 3)):=ext_alloc (ext_refl _) _
  have hO:=H60.out w2
  have HV0 : Hid (∀ j,j < 0 → ([0,0,0,0,0,0] : List Int)[j]? = some (readN s j)):=Lib.hid (fun j hj=>absurd hj (Nat.not_lt_zero _))
  clear H60
  go_loopw [19] (fun y wr=>∃ (i : Nat) (vs : List Int),i ≤ 6 ∧ y = .int .i64 i ∧ Ext w2 wr ∧ OwnAt 1 intC 3 wr w2.heap.size 0 vs ∧ vs.length = 6 ∧ Hid (∀ j,j < i → vs[j]? = some (readN s j))) (fun y _=>6 - (intOf y).toNat)
  case atStart=>exact ⟨0,_,by omega,rfl,XA,hO,rfl,HV0⟩
  case round =>
   clear HV0 G1 g1 gf1 l1 XA hO
   obtain ⟨i,vs,hi,rfl,hX,hO,hl,HV⟩:=hrel
   by_cases hlt : i < 6
   ·have hil : i < s.disk.length:=by have:=H6.out;omega
    have hiv : i < vs.length:=by omega
    obtain ⟨b,o,rfl,hb,c0⟩:=hD.at1 hil
    have hb' : b < w.heap.size:=hb
    obtain ⟨hc,hf⟩:=bcell (ext_trans X2 hX)
    have hrd : readN s i = if 0 < (last s.flash ((i : Int) + 1)).seq then (last s.flash ((i : Int) + 1)).val else s.disk[i]:=by
     unfold readN;rw [List.getD_eq_getElem?_getD,List.getElem?_eq_getElem hil];rfl
    have HRD:=Lib.hid hrd
    have q0 : wr.cell? ⟨w2.heap.size,i,none⟩ = some (.int .i64 vs[i]):=by simpa using hO.cell (List.getElem?_eq_getElem hiv) (j:=0) rfl
    have qf:=hO.frozen
    have lO:=hO.lt
    generalize s.disk[i] = d at *
    have hS1:=OwnAt.set1 (n:=1) (enc:=intC) (fun _=>rfl) hO (k:=i) hiv (j:=0) (by omega) (.int .i64 d) d rfl
    simp only [Nat.zero_add,Nat.mul_one,Nat.add_zero] at hS1
    have X3 : Ext w2 (wr.setCell ⟨w2.heap.size,i,none⟩ (.int .i64 d)):=ext_set hX (Nat.le_refl _) _
    have hM3:=HM.out.ext X3
    have hlk:=hM3.lookup (t:=89) Tryz.underlying3 Tryz.underlying89 (z:=recA rec0) (by rfl) (i64_wf (x:=(i : Int) + 1) (by omega) (by omega)) true
    simp only [if_true] at hlk
    unfold lastG at hlk
    have hlo:=HLZ.out i
    generalize last s.flash ((i : Int) + 1) = r at *
    have HS1:=Lib.hid hS1
    clear hM3 hS1 hO HLZ
    by_cases h0 : 0 < r.seq
    ·rw [if_pos h0] at hlk
     simp only [Option.getD_some,Option.isSome_some] at hlk
     dsimp only [recA] at hlk
     have hS2:=OwnAt.set1 (n:=1) (enc:=intC) (fun _=>rfl) HS1.out (k:=i) (by simpa using hiv) (j:=0) (by omega) (.int .i64 r.val) r.val rfl
     simp only [Nat.zero_add,Nat.mul_one,Nat.add_zero,List.set_set] at hS2
     have HS2:=Lib.hid hS2
     have HV2 : Hid (∀ j,j < i + 1 → (vs.set i r.val)[j]? = some (readN s j)):=Lib.hid (fun j hj=>by
      by_cases e : j = i
      ·subst e;rw [List.getElem?_set_self hiv,HRD.out,if_pos h0]
      ·rw [List.getElem?_set_ne (Ne.symm e)];exact HV.out j (by omega))
     clear hS2 HV HRD hlo
     go_wp2_with fail
     go_roundw
     case rel=>exact ⟨i + 1,_,by omega,by go_num,ext_alloc (ext_set X3 (Nat.le_refl _) _) _,HS2.out.ext (ext_alloc (ext_refl _) _),by simpa using hl,HV2⟩
     case measure=>simp [intOf];omega
    ·rw [if_neg h0] at hlk
     simp only [Option.getD_none,Option.isSome_none] at hlk
     dsimp only [recA,rec0] at hlk
     have HV2 : Hid (∀ j,j < i + 1 → (vs.set i d)[j]? = some (readN s j)):=Lib.hid (fun j hj=>by
      by_cases e : j = i
      ·subst e;rw [List.getElem?_set_self hiv,HRD.out,if_neg h0]
      ·rw [List.getElem?_set_ne (Ne.symm e)];exact HV.out j (by omega))
     clear HV HRD hlo h0
     go_wp2_with fail
     go_roundw
     case rel=>exact ⟨i + 1,_,by omega,by go_num,ext_alloc X3 _,HS1.out.ext (ext_alloc (ext_refl _) _),by simpa using hl,HV2⟩
     case measure=>simp [intOf];omega
   ·obtain rfl : i = 6:=by omega
    go_wp2_with fail
    refine bodyPost_ret (v:=.slice (some ⟨w2.heap.size,0,none⟩) 6 6) (by simp [results,Tryz.results18,go_sem]) rfl ⟨_,rfl,ext_trans X2 hX,.inr ⟨w2.heap.size,hs2,3,0,0,by rw [allS_len],?_⟩⟩
    have : vs = allS s:=by
     apply List.ext_getElem?
     intro j
     by_cases hj : j < 6
     ·rw [HV.out j hj];unfold allS;simp [hj]
     ·rw [List.getElem?_eq_none (by omega),List.getElem?_eq_none (by rw [allS_len];omega)]
    rw [← this];exact hO
 ·rw [Bool.not_eq_true] at hok
  rw [hok] at hSO
  rw [if_neg (by rw [hok];simp)]
  obtain ⟨fa,fcap,rfl⟩:=h.1.form
  obtain ⟨da,dcap,rfl⟩:=h.2.form
  go_enter Tryz.func18,Tryz.ntmps18
  go_wp2_with fail
  refine (hSO _ (ext_alloc (ext_refl _) _)).mono ?_;rintro e1 w1 ⟨rfl,hx1⟩
  go_wp2_with fail
  go_ret
  exact ⟨_,rfl,ext_trans (ext_alloc (ext_refl w) _) hx1,.inl ⟨rfl,rfl⟩⟩
def pairAllV (p : Pair) : List Int:=if pairOkB p = true then (if p.lost = 1 then allS p.B else allS p.A) else []
theorem pairOk_iff {p : Pair} : pairOkB p = true ↔ (0 ≤ p.lost ∧ p.lost ≤ 2) ∧ storeOkB p.A = true ∧ storeOkB p.B = true:=by
 unfold pairOkB;simp only [Bool.and_eq_true,inB_iff]
theorem allV_ok {s : Store} (h : storeOkB s = true) : allV s = allS s:=by unfold allV;rw [if_pos h]
set_option maxRecDepth 20000 in
set_option maxHeartbeats 1000000 in
theorem implPairAll_c (f d g e : Value) (p : Pair) (w : World) (hA : StoreV w f d p.A) (hB : StoreV w g e p.B) (hsA : Small p.A) (hsB : Small p.B) :
  Calls Tryz.prog 33 #[.agg #[f,d,g,e,.int .i64 p.lost]] w (IntsΦ w (pairAllV p)):=by
 have hPO:=fun (w' : World) (hx : Ext w w')=>implPairOk_c f d g e p w' (hA.ext hx) (hB.ext hx) hsA.2.1 hsB.2.1 hsA.2.2 hsB.2.2
 have hSA:=fun (w' : World) (hx : Ext w w')=>implStoreAll_c f d p.A w' (hA.ext hx) hsA.2.1 hsA.2.2
 have hSB:=fun (w' : World) (hx : Ext w w')=>implStoreAll_c g e p.B w' (hB.ext hx) hsB.2.1 hsB.2.2
 rw [show (inB p.lost 0 2 && (storeOkB p.A && storeOkB p.B)) = pairOkB p from rfl] at hPO
 unfold pairAllV
 obtain ⟨a1,c1,rfl⟩:=hA.1.form
 obtain ⟨a2,c2,rfl⟩:=hA.2.form
 obtain ⟨a3,c3,rfl⟩:=hB.1.form
 obtain ⟨a4,c4,rfl⟩:=hB.2.form
 by_cases hok : pairOkB p = true
 ·obtain ⟨_,hokA,hokB⟩:=pairOk_iff.1 hok
  rw [hok] at hPO
  rw [if_pos hok]
  rw [allV_ok hokA] at hSA
  rw [allV_ok hokB] at hSB
  clear hok hokA hokB
  by_cases hl : p.lost = 1
  ·rw [if_pos hl,hl]
   rw [hl] at hPO
   clear hl
   go_enter Tryz.func33,Tryz.ntmps33
   go_wp2_with fail
   refine (hPO _ (ext_alloc (ext_refl _) _)).mono ?_;rintro e1 w1 ⟨rfl,hx1⟩
   have X1:=ext_trans (ext_alloc (ext_refl w) _) hx1
   have hs1:=X1.size
   have G1:=keep_ext hx1 (hg_new (b:=w.heap.size) rfl)
   obtain ⟨g1,gf1⟩:=cellsK G1
   have l1:=heap_lt G1
   clear hPO hx1
   go_wp2_with fail
   refine (hSB _ X1).mono ?_;rintro e2 w2 ⟨v2,rfl,hx2,hI⟩
   obtain ⟨a5,n5,rfl⟩:=hI.ints.form
   go_wp2_with fail
   go_ret
   exact ⟨_,rfl,ext_trans X1 hx2,hI.weak hs1⟩
  ·rw [if_neg hl]
   go_enter Tryz.func33,Tryz.ntmps33
   go_wp2_with fail
   refine (hPO _ (ext_alloc (ext_refl _) _)).mono ?_;rintro e1 w1 ⟨rfl,hx1⟩
   have X1:=ext_trans (ext_alloc (ext_refl w) _) hx1
   have hs1:=X1.size
   have G1:=keep_ext hx1 (hg_new (b:=w.heap.size) rfl)
   obtain ⟨g1,gf1⟩:=cellsK G1
   have l1:=heap_lt G1
   clear hPO hx1
   go_wp2_with fail
   refine (hSA _ X1).mono ?_;rintro e2 w2 ⟨v2,rfl,hx2,hI⟩
   obtain ⟨a5,n5,rfl⟩:=hI.ints.form
   go_wp2_with fail
   go_ret
   exact ⟨_,rfl,ext_trans X1 hx2,hI.weak hs1⟩
 ·rw [Bool.not_eq_true] at hok
  rw [hok] at hPO
  rw [if_neg (by rw [hok];simp)]
  clear hok
  go_enter Tryz.func33,Tryz.ntmps33
  go_wp2_with fail
  refine (hPO _ (ext_alloc (ext_refl _) _)).mono ?_;rintro e1 w1 ⟨rfl,hx1⟩
  go_wp2_with fail
  go_ret
  exact ⟨_,rfl,ext_trans (ext_alloc (ext_refl w) _) hx1,.inl ⟨rfl,rfl⟩⟩
end Go.Bu
namespace Go.Bu
open Go Go.RowKit Go.Plan Go.Proofs
abbrev IRow (base : Nat) (w : World) (v : Value) (xs : List Int) : Prop:=w.ownsRow base 3 1 v xs.length (xs.flatMap intC)
theorem IRow.empty {base : Nat} {w : World} {B : Nat} (h : w.heap[B]? = some (.cells #[] 3 (0,0))) (hb : base ≤ B) : IRow base w (.slice (some ⟨B,0,none⟩) 0 0) []:=⟨rfl,.inr ⟨B,0,#[],rfl,hb,h,Nat.le_refl _,by simp,rfl,rfl⟩⟩
theorem IRow.ext {base : Nat} {w w' : World} {v : Value} {xs : List Int} (h : IRow base w v xs) (hx : Ext w w') : IRow base w' v xs:=ownsRow_ext h hx
theorem IRow.own {base : Nat} {w : World} {v : Value} {xs : List Int} (h : IRow base w v xs) (h0 : xs ≠ []) : ∃ B,base ≤ B ∧ OwnInts w v xs B:=by
 obtain ⟨B,hB,ho⟩:=OwnT.of_owns (n:=1) (enc:=intC) (fun _=>rfl) h h0
 exact ⟨B,hB,_,ho⟩
theorem IRow.form {base : Nat} {w : World} {v : Value} {xs : List Int} (h : IRow base w v xs) : ∃ a cap,v = .slice a xs.length cap:=by
 obtain ⟨_,h2⟩:=h
 rcases h2 with ⟨rfl,h0⟩ | ⟨g,cap,cur,rfl,_⟩
 ·exact ⟨none,0,by rw [h0]⟩
 ·exact ⟨_,cap,rfl⟩
theorem own_none {w : World} {B : Nat} (h : w.heap[B]? = some (.cells #[] 3 (0,0))) : OwnInts w (.slice (some ⟨B,0,none⟩) 0 0) [] B:=⟨_,0,0,rfl,_,h,fun i x hx=>by simp at hx⟩
theorem wpList_appInt {w : World} {ops : Array Oper} {rest : List Oper} {o : Oper} {a : Act} {Q : Exit → Act → World → Prop} (hgd : o.guard = none) (s x : Operand)
  (ho : o.op = .call { callee:=.builtin .append,args:=#[s,x],argTypes:=#[24,24] }) {base : Nat} {v : Value} {xs : List Int} (hs : a.eval s = v) (hown : IRow base w v xs)
  {B : Nat} {y : Int} (hx : a.eval x = .slice (some ⟨B,0,none⟩) 1 1) (hB : w.heap[B]? = some (.cells #[.int .i64 y] 3 (0,0))) (hlen : xs.length ≤ 1000000) (hbase : base ≤ w.heap.size)
  (h : ∀ v' w',IRow base w' v' (xs ++ [y]) → w.grownBy w' v.ownBlock → wpList Tryz.prog ops Q rest (a.put o.dst v') w') : wpList Tryz.prog ops Q (o :: rest) a w:=by
 refine wpList_app hgd s x 24 ho base 3 1 8 Tryz.underlying24 (by kernel_rfl) (by omega) v xs.length (xs.flatMap intC) hs hown ⟨B,0,none⟩ 1 1 (intC y) hx rfl (fun j u hu=>?_) (by simp [Value.oneCell']) (by simp [maxLen];omega) (by omega) hbase (fun v' w' h1 h2=>h v' w' ?_ h2)
 ·rw [Addr.add_mid,cell_block hB,Nat.zero_add];simpa using hu
 ·show w'.ownsRow _ _ _ _ _ _
  rw [List.length_append,List.flatMap_append];simpa using h1
theorem allS_take (s : Store) (k : Nat) (h : k < 6) : (allS s).take k ++ [readN s k] = (allS s).take (k + 1):=by
 have:=take_snoc (allS s) k (by rw [allS_len];exact h)
 rw [← this];congr 2;unfold allS;simp
def IntsP (w : World) (xs : List Int) (e : Ending) (w' : World) : Prop:=∃ v B,e = .returned v ∧ Ext w w' ∧ w.heap.size ≤ B ∧ OwnInts w' v xs B
end Go.Bu
namespace Go.Bu
open Go Go.RowKit Go.Plan Go.Proofs
def mkPage (y : Int) : Page:=⟨y,⟨y + 1,y + 1 + 1,y + 1 + 1 + 1,y + 1 + 1 + 1 + 1⟩⟩
set_option maxHeartbeats 1000000 in
theorem markPageS_c (v : Value) (ps : List Page) (b : Nat) (x : Int) (w : World) (h : OwnPages w v ps b) (hn : ps.length ≤ 1048576) (hx0 : 0 ≤ x) (hx1 : x ≤ 1152921504606846976) :
  Calls Tryz.prog 130 #[v,.int .i64 x] w (fun e w'=>e = .returned (.int .i64 (x + 5 * ps.length)) ∧ Chg [b] w w' ∧ ∃ qs,OwnPages w' v qs b ∧ qs.length = ps.length ∧ ∀ i : Nat,i < ps.length → qs[i]? = some (mkPage (x + 5 * i))):=by
 obtain ⟨T,o,cap,rfl,hA⟩:=h
 go_enter Tryz.func130,Tryz.ntmps130
 go_wp2
 go_loopw [1,5] (fun y i wr=>∃ (k : Nat) (qs : List Page),k ≤ ps.length ∧ i = .int .i64 k ∧ y = .int .i64 (x + 5 * k) ∧ Chg [b] w wr ∧ OwnAt 5 pageC T wr b o qs ∧ qs.length = ps.length ∧ ∀ i : Nat,i < k → qs[i]? = some (mkPage (x + 5 * i))) (fun _ i _=>ps.length - (intOf i).toNat)
 case atStart=>exact ⟨0,ps,Nat.zero_le _,rfl,by simp,Chg.refl _ _,hA,rfl,fun i hi=>absurd hi (Nat.not_lt_zero _)⟩
 case round =>
  obtain ⟨k,qs,hk,rfl,rfl,hC,hO,hl,hq⟩:=hrel
  have HQ:=Lib.hid hq;clear hq
  by_cases hlt : k < ps.length
  ·obtain ⟨e0,e1,e2,e3,e4⟩:=hO.five (k:=k) (by omega)
   have ef:=hO.frozen
   have hS:=OwnAt.set (n:=5) (enc:=pageC) (fun _=>rfl) (by omega) hO (k:=k) (by omega) (mkPage (x + 5 * k))
   have HS:=Lib.hid hS;clear hS
   go_wp2
   refine ⟨⟨k + 1,qs.set k (mkPage (x + 5 * k)),by omega,by go_num,congrArg (Value.int .i64) (by omega),?_,HS.out,by rw [List.length_set];exact hl,fun i hi=>?_⟩,by simp [intOf];omega⟩
   ·exact ((((hC.set (.inl (by simp)) _).set (.inl (by simp)) _).set (.inl (by simp)) _).set (.inl (by simp)) _).set (.inl (by simp)) _
   ·by_cases hik : i = k
    ·subst hik;rw [List.getElem?_set_self (by omega)]
    ·rw [List.getElem?_set_ne (Ne.symm hik)];exact HQ.out i (by omega)
  ·obtain rfl : k = ps.length:=by omega
   go_wp2
   go_ret
   exact ⟨rfl,hC,qs,⟨T,o,cap,by rw [hl],hO⟩,hl,HQ.out⟩
set_option maxHeartbeats 1000000 in
theorem heldPageS_c (v : Value) (ps : List Page) (b : Nat) (x : Int) (w : World) (h : OwnPages w v ps b) (hn : ps.length ≤ 1048576) (hx0 : 0 ≤ x) (hx1 : x ≤ 1000000000) (hq : ∀ i : Nat,i < ps.length → ps[i]? = some (mkPage (x + 5 * i))) :
  Calls Tryz.prog 131 #[v,.int .i64 x] w (Ret w (.int .i64 (x + 5 * ps.length))):=by
 obtain ⟨T,o,cap,rfl,hA⟩:=h
 have HQ:=Lib.hid hq;clear hq
 go_enter Tryz.func131,Tryz.ntmps131
 go_wp2
 go_loop [1,5] (fun y i=>∃ (k : Nat),k ≤ ps.length ∧ i = .int .i64 k ∧ y = .int .i64 (x + 5 * k)) (fun _ i=>ps.length - (intOf i).toNat)
 case atStart=>exact ⟨0,Nat.zero_le _,rfl,by simp⟩
 case round =>
  obtain ⟨k,hk,rfl,rfl⟩:=hrel
  by_cases hlt : k < ps.length
  ·obtain ⟨e0,e1,e2,e3,e4⟩:=hA.five (k:=k) hlt
   have hp : ps[k] = mkPage (x + 5 * k):=by have:=HQ.out k hlt;rw [List.getElem?_eq_getElem hlt] at this;exact Option.some.inj this
   rw [hp] at e0 e1 e2 e3 e4
   simp only [mkPage] at e0 e1 e2 e3 e4
   clear hp
   go_wp2
   refine ⟨⟨k + 1,by omega,by go_num,congrArg (Value.int .i64) (by omega)⟩,by simp [intOf];omega⟩
  ·obtain rfl : k = ps.length:=by omega
   go_wp2
   go_ret
   exact ⟨rfl,ext_refl _⟩
def mkPages (y : Int) : List Page:=[mkPage y,mkPage (y + 5),mkPage (y + 10),mkPage (y + 15)]
def mkBlock (y : Int) : Block:=⟨mkPages y,y + 20⟩
theorem mkPages_of {qs : List Page} {y : Int} (hl : qs.length = 4) (hq : ∀ i : Nat,i < 4 → qs[i]? = some (mkPage (y + 5 * i))) : qs = mkPages y:=by
 match qs,hl with
 | [a,b,c,d],_ =>
  have h0:=hq 0 (by omega);have h1:=hq 1 (by omega);have h2:=hq 2 (by omega);have h3:=hq 3 (by omega)
  simp at h0 h1 h2 h3
  subst h0 h1 h2 h3
  rfl
theorem mkPages_get (y : Int) (i : Nat) (h : i < 4) : (mkPages y)[i]? = some (mkPage (y + 5 * i)):=by
 match i,h with
 | 0,_=>simp [mkPages]
 | 1,_=>rfl
 | 2,_=>rfl
 | 3,_=>rfl
def PagesAt (w : World) (rows : List (Value × Int)) (gs : List Block) (bs : List Nat) : Prop:=∀ (i : Nat) x r b,gs[i]? = some x → rows[i]? = some r → bs[i]? = some b → r.2 = x.worn ∧ OwnPages w r.1 x.pages b
set_option maxHeartbeats 1000000 in
theorem markBlockS_c (v : Value) (f : List Block) (B : Nat) (bs : List Nat) (x : Int) (w : World) (h : OwnFlash w v f B bs) (hnd : (B :: bs).Nodup) (hn : f.length ≤ 1000) (h4 : ∀ b ∈ f,b.pages.length = 4) (hx0 : 0 ≤ x) (hx1 : x ≤ 1000000) :
  Calls Tryz.prog 99 #[v,.int .i64 x] w (fun e w'=>e = .returned (.int .i64 (x + 21 * f.length)) ∧ Chg (B :: bs) w w' ∧ ∃ gs,OwnFlash w' v gs B bs ∧ gs.length = f.length ∧ ∀ i : Nat,i < f.length → gs[i]? = some (mkBlock (x + 21 * i))):=by
 obtain ⟨rows,⟨T,o,cap,rfl,hA⟩,hr,hb,hP⟩:=h
 rw [hr]
 have hBn : B ∉ bs:=(List.nodup_cons.1 hnd).1
 have hbn : bs.Nodup:=(List.nodup_cons.1 hnd).2
 have H4:=Lib.hid h4;clear h4
 have HP : Hid (PagesAt w rows f bs):=Lib.hid hP
 clear hP
 go_enter Tryz.func99,Tryz.ntmps99
 go_wp2
 go_loopw [1,5] (fun y i wr=>∃ (k : Nat) (rs : List (Value × Int)) (gs : List Block),k ≤ f.length ∧ i = .int .i64 k ∧ y = .int .i64 (x + 21 * k) ∧ Chg (B :: bs) w wr ∧ OwnAt 2 rowC T wr B o rs ∧ rs.length = f.length ∧ gs.length = f.length ∧ PagesAt wr rs gs bs ∧ (∀ b ∈ gs,b.pages.length = 4) ∧ ∀ i : Nat,i < k → gs[i]? = some (mkBlock (x + 21 * i))) (fun _ i _=>f.length - (intOf i).toNat)
 case atStart=>exact ⟨0,rows,f,Nat.zero_le _,rfl,by simp,Chg.refl _ _,hA,hr,rfl,HP.out,H4.out,fun i hi=>absurd hi (Nat.not_lt_zero _)⟩
 case round =>
  obtain ⟨k,rs,gs,hk,rfl,rfl,hC,hO,hl,hl2,hP,hg4,hq⟩:=hrel
  have HQ:=Lib.hid hq;clear hq
  have HG:=Lib.hid hg4;clear hg4
  by_cases hlt : k < f.length
  ·obtain ⟨e0,e1⟩:=hO.two (k:=k) (by omega)
   obtain ⟨hw,hpg⟩:=hP k gs[k] rs[k] bs[k] (List.getElem?_eq_getElem (by omega)) (List.getElem?_eq_getElem (by omega)) (List.getElem?_eq_getElem (by omega))
   have HPA:=Lib.hid hP;clear hP
   have hp4 : gs[k].pages.length = 4:=HG.out _ (List.getElem_mem _)
   go_wp2_with fail
   refine (markPageS_c _ gs[k].pages bs[k] _ _ hpg (by omega) (by omega) (by omega)).mono ?_;rintro e1 w1 ⟨rfl,hc1,qs,hO1,hl1,hq1⟩
   rw [hp4] at hq1 hl1
   rw [hp4]
   obtain rfl:=mkPages_of hl1 hq1
   clear hq1 hl1
   have hBk : B ≠ bs[k]:=fun e=>hBn (by rw [e];exact List.getElem_mem _)
   have hA1:=hO.chg hc1 (by simpa using hBk)
   obtain ⟨e0,e1⟩:=hA1.two (k:=k) (by omega)
   have ef:=hA1.frozen
   have hS:=OwnAt.set1 (n:=2) (enc:=rowC) (fun _=>rfl) hA1 (k:=k) (by omega) (j:=1) (by omega) (.int .i64 (x + 21 * k + 20)) (rs[k].1,x + 21 * k + 20) rfl
   have HS:=Lib.hid hS;clear hS
   have hC1 : Chg (B :: bs) w w1:=hC.trans (hc1.mono (by simp))
   have hBm : ∀ b ∈ bs,b ≠ B:=fun b hb e=>hBn (by rw [← e];exact hb)
   have hPn : ∀ u : Value,PagesAt (w1.setCell ⟨B,o + k * 2 + 1,none⟩ u) (rs.set k (rs[k].1,x + 21 * k + 20)) (gs.set k (mkBlock (x + 21 * k))) bs:=by
    intro u i y r b hy hr hbi
    have hbb:=hBm b (List.mem_of_getElem? hbi)
    by_cases hik : i = k
    ·subst hik
     rw [List.getElem?_set_self (by omega)] at hy hr
     obtain rfl:=Option.some.inj hy
     obtain rfl:=Option.some.inj hr
     rw [List.getElem?_eq_getElem (by omega)] at hbi
     obtain rfl:=Option.some.inj hbi
     exact ⟨rfl,hO1.keep (setCell_other hbb)⟩
    ·rw [List.getElem?_set_ne (Ne.symm hik)] at hy hr
     obtain ⟨h1,h2⟩:=HPA.out i y r b hy hr hbi
     refine ⟨h1,(h2.chg hc1 ?_).keep (setCell_other hbb)⟩
     simp only [List.mem_singleton]
     rintro rfl
     have hbl:=(List.getElem?_eq_some_iff.1 hbi).1
     exact hik (nodup_inj hbn hbi (List.getElem?_eq_getElem (by omega)))
   have HPN:=Lib.hid hPn;clear hPn
   go_wp2_with fail
   refine ⟨⟨k + 1,_,gs.set k (mkBlock (x + 21 * k)),by omega,by go_num,congrArg (Value.int .i64) (by omega),hC1.set (.inl (by simp)) _,HS.out,by rw [List.length_set];exact hl,by rw [List.length_set];exact hl2,HPN.out _,fun b hb=>?_,fun i hi=>?_⟩,by simp [intOf];omega⟩
   ·rcases List.mem_or_eq_of_mem_set hb with hb | rfl
    ·exact HG.out b hb
    ·rfl
   ·by_cases hik : i = k
    ·subst hik;rw [List.getElem?_set_self (by omega)]
    ·rw [List.getElem?_set_ne (Ne.symm hik)];exact HQ.out i (by omega)
  ·obtain rfl : k = f.length:=by omega
   go_wp2
   go_ret
   exact ⟨rfl,hC,gs,⟨rs,⟨T,o,cap,by rw [hl],hO⟩,by rw [hl,hl2],by rw [hb,hl2],hP⟩,hl2,HQ.out⟩
set_option maxHeartbeats 1000000 in
theorem heldBlockS_c (v : Value) (f : List Block) (B : Nat) (bs : List Nat) (x : Int) (w : World) (h : OwnFlash w v f B bs) (hn : f.length ≤ 1000) (hx0 : 0 ≤ x) (hx1 : x ≤ 1000000) (hq : ∀ i : Nat,i < f.length → f[i]? = some (mkBlock (x + 21 * i))) :
  Calls Tryz.prog 101 #[v,.int .i64 x] w (Ret w (.int .i64 (x + 21 * f.length))):=by
 obtain ⟨rows,⟨T,o,cap,rfl,hA⟩,hr,hb,hP⟩:=h
 rw [hr]
 have HP : Hid (PagesAt w rows f bs):=Lib.hid hP
 have HQ:=Lib.hid hq
 clear hP hq
 go_enter Tryz.func101,Tryz.ntmps101
 go_wp2
 go_loopw [1,5] (fun y i wr=>∃ (k : Nat),k ≤ f.length ∧ i = .int .i64 k ∧ y = .int .i64 (x + 21 * k) ∧ Ext w wr) (fun _ i _=>f.length - (intOf i).toNat)
 case atStart=>exact ⟨0,Nat.zero_le _,rfl,by simp,ext_refl _⟩
 case round =>
  obtain ⟨k,hk,rfl,rfl,hX⟩:=hrel
  by_cases hlt : k < f.length
  ·have hA1:=hA.ext hX
   obtain ⟨e0,e1⟩:=hA1.two (k:=k) (by omega)
   obtain ⟨hw,hpg⟩:=HP.out k f[k] rows[k] bs[k] (List.getElem?_eq_getElem (by omega)) (List.getElem?_eq_getElem (by omega)) (List.getElem?_eq_getElem (by omega))
   have hfk : f[k] = mkBlock (x + 21 * k):=by have:=HQ.out k hlt;rw [List.getElem?_eq_getElem hlt] at this;exact Option.some.inj this
   rw [hfk] at hw hpg
   rw [hw] at e1
   simp only [mkBlock] at e1 hpg
   clear hfk hw
   go_wp2_with fail
   refine (heldPageS_c _ (mkPages (x + 21 * k)) bs[k] _ _ (hpg.ext hX) (by simp [mkPages]) (by omega) (by omega) (fun i hi=>mkPages_get _ i (by simpa [mkPages] using hi))).mono ?_;rintro e1 w1 ⟨rfl,hx1⟩
   have hX1 : Ext w w1:=ext_trans hX hx1
   obtain ⟨e0,e1'⟩:=(hA.ext hX1).two (k:=k) (by omega)
   replace e1':=cell_ext hx1 e1
   clear e1
   have hlen : (mkPages (x + 21 * k)).length = 4:=rfl
   rw [hlen]
   clear hlen hpg
   go_wp2_with fail
   refine ⟨⟨k + 1,by omega,by go_num,congrArg (Value.int .i64) (by omega),hX1⟩,by simp [intOf];omega⟩
  ·obtain rfl : k = f.length:=by omega
   go_wp2
   go_ret
   exact ⟨rfl,hX⟩
end Go.Bu