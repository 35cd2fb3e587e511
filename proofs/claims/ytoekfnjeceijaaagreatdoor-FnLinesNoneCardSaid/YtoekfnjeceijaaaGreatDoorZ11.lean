/- Library calls of the console: strings.Split with one byte, strconv.Itoa of a small number; and the console's list. The console's list, a page's text, see. A page's text, see. The program's StoreDirty. The console's play. The console obeys a line. -/import Derived.Test.YtoekfnjeceijaaaGreatDoorZ10
import Derived.Test.YtoekfnjeceijaaaGreatDoorZ8
import Derived.Test.YtoekfnjeceijaaaGreatDoorZ5
import Derived.Test.YtoekfnjeceijaaaGreatDoorZ7
set_option maxHeartbeats 2000000
set_option linter.unusedVariables false
set_option linter.unusedSimpArgs false
namespace Go.Bu
open Go Go.RowKit Go.Plan Go.Proofs
theorem index_hit (c : UInt8) (s : Str) : Lib.index (c :: s) [c] = 0:=by rw [Lib.index];simp [List.isPrefixOf]
theorem index_miss {x c : UInt8} (h : x ≠ c) {s : Str} {j : Nat} (hj : Lib.index s [c] = j) : Lib.index (x :: s) [c] = ((j + 1 : Nat) : Int):=by
 have hp : ([c] : List UInt8).isPrefixOf (x :: s) = false:=by simp [List.isPrefixOf,Ne.symm h]
 rw [Lib.index,hp,hj,if_neg (by simp),if_neg (by simp)];rfl
theorem split_cut (c : UInt8) : ∀ s : Str,Lib.splitK [c] 0 (Lib.count s [c]) s = cut c s
 | []=>by rw [Lib.count_miss (by simp [Lib.index])];rfl
 | x :: s=>by
  have ih:=split_cut c s
  by_cases hx : x = c
  ·subst hx
   rw [Lib.count_cons_eq,Nat.add_comm,Lib.splitK,index_hit,cut_hit,if_neg (by decide)]
   simpa using ih
  ·rw [Lib.count_cons_ne x c s hx]
   obtain ⟨a,b,h1,h2⟩:=cut_miss hx s
   rw [h2]
   rw [h1] at ih
   cases hn : Lib.count s [c] with
   | zero =>
    rw [hn] at ih
    obtain ⟨rfl,rfl⟩:=List.cons.inj ih
    rfl
   | succ n =>
    have hne : Lib.index s [c] ≠ -1:=fun e=>by rw [Lib.count_miss e] at hn;omega
    have hge:=Lib.index_ge s [c]
    obtain ⟨j,hj⟩ : ∃ j : Nat,Lib.index s [c] = j:=⟨(Lib.index s [c]).toNat,by omega⟩
    rw [hn,Lib.splitK,hj,if_neg (by simp)] at ih
    rw [Lib.splitK,index_miss hx hj,if_neg (fun e=>by have:=beq_iff_eq.1 e;omega)]
    obtain ⟨h3,h4⟩:=List.cons.inj ih
    simp only [Int.toNat_natCast,Nat.add_zero,List.length_singleton,List.take_succ_cons,List.drop_succ_cons] at h3 h4 ⊢
    rw [h3,h4]
def StrsX (w : World) (xs : List Str) (e : Ending) (w' : World) : Prop:=∃ a,e = .returned (.slice a xs.length xs.length) ∧ Ext w w' ∧ Strs (fun b=>w.heap.size ≤ b ∧ b < w'.heap.size) w' (.slice a xs.length xs.length) xs
theorem split_x (l : Str) (c : UInt8) (hl : l.length ≤ 900000) (m : Int) (w : World) (hm : w.cell? ⟨1,0,none⟩ = some (.int .i64 m)) : Calls Tryz.prog 36 #[strV l,.string ⟨#[c]⟩] w (StrsX w (cut c l)):=by
 refine (Tryz.strings_Split ⟨l.toArray⟩ ⟨#[c]⟩ m w (by simp [ByteArray.size];omega) hm (Nat.le_refl 1)).mono ?_
 rintro e w' ⟨rfl,rfl⟩
 have h1:=Lib.splitB_data ⟨#[c]⟩ 0 (Lib.countB ⟨l.toArray⟩ ⟨#[c]⟩) ⟨l.toArray⟩
 have h2 : Lib.splitK [c] 0 (Lib.count l [c]) l = cut c l:=split_cut c l
 have h3 : (Lib.splitB ⟨#[c]⟩ 0 (Lib.countB ⟨l.toArray⟩ ⟨#[c]⟩) ⟨l.toArray⟩).map (·.data.toList) = cut c l:=by
  rw [h1];exact h2
 have h4 : (Lib.splitB ⟨#[c]⟩ 0 (Lib.countB ⟨l.toArray⟩ ⟨#[c]⟩) ⟨l.toArray⟩).map Value.string = (cut c l).map strV:=by
  rw [← h3,List.map_map];rfl
 have h5 : Lib.countB ⟨l.toArray⟩ ⟨#[c]⟩ + 1 = (cut c l).length:=by
  rw [← h3,List.length_map];exact (Lib.splitB_all ⟨#[c]⟩ (Nat.le_refl 1) 0 _ ⟨l.toArray⟩ rfl).symm
 rw [h5]
 refine ⟨some ⟨w.heap.size,0,none⟩,rfl,ext_alloc (ext_refl _) _,some ⟨w.heap.size,0,none⟩,(cut c l).length,rfl,fun i x hx=>⟨w.heap.size,0,strC x,rfl,⟨Nat.le_refl _,by simp⟩,rfl,fun j u hu=>?_⟩⟩
 obtain rfl : j = 0:=by
  cases j with
  | zero=>rfl
  | succ j=>simp at hu
 rw [h4,cell_block (hg_new rfl)]
 simp at hu ⊢
 exact ⟨x,hx,hu⟩
theorem split_c (l : Str) (c : UInt8) (hl : l.length ≤ 900000) (m : Int) (w : World) (hm : w.cell? ⟨1,0,none⟩ = some (.int .i64 m)) : Calls Tryz.prog 36 #[strV l,.string ⟨#[c]⟩] w (StrsB w (cut c l)):=
 (split_x l c hl m w hm).mono fun e w' ⟨a,h1,h2,h3⟩=>⟨_,h1,h2,h3⟩
theorem itoa_c (n : Int) (h : 0 ≤ n ∧ n < 100) (w : World) : Calls Tryz.prog 43 #[.int .i64 n] w fun e w'=>e = .returned (strV (decI n)) ∧ w' = w:=by
 obtain ⟨m,rfl⟩:=Int.eq_ofNat_of_zero_le h.1
 have:=Tryz.strconv_Itoa_small m (by have:=h.2;omega) w
 rw [decN_lib (by have:=h.2;omega)] at this
 rw [decI_nat];exact this
theorem itoa_r (n : Int) (h : 0 ≤ n ∧ n < 100) (w : World) : Calls Tryz.prog 43 #[.int .i64 n] w (Ret w (strV (decI n))):=(itoa_c n h w).mono fun e w' ⟨h1,h2⟩=>⟨h1,h2 ▸ ext_refl _⟩
end Go.Bu
namespace Go.Bu
open Go Go.RowKit Go.Plan Go.Proofs
section
variable {P : Program} {Q : Exit → Act → World → Prop} {a : Act} {w : World}
theorem wp_region_HT {l : List Oper} {id : Nat} (hm : P.follows .mixedOrders = true) (h : ∀ w',Ext w w' → True → wpAnyH P .any l.toArray Q (fun _=>True) l.toArray.size (Array.replicate l.toArray.size false) a w') : (Code.region id l.toArray true).wp P Q a w:=
 wp_region_held hm (h _ (ext_drew w) trivial)
end
def Off (C : Nat) (R : Option Nat) (w : World) (b : Nat) : Prop:=b < w.heap.size ∧ b ≠ C ∧ R ≠ some b
theorem Fr.same {C : Nat} {R R' : Option Nat} {w w' : World} (h : Fr C R w R' w') : Same (Off C R w) w w':=fun b hb=>h.block b hb.1 hb.2.1 fun e=>hb.2.2 e.symm
theorem Fr.cell {C : Nat} {R R' : Option Nat} {w w' : World} (h : Fr C R w R' w') {b o : Nat} {v : Value} (hb : Off C R w b) (hc : w.cell? ⟨b,o,none⟩ = some v) : w'.cell? ⟨b,o,none⟩ = some v:=by
 rw [cell_same h.same hb];exact hc
theorem BRet.mk {C : Nat} {R R' : Option Nat} {w w' : World} {f d : Value} {bs : Str} (h1 : Fr C R w R' w') (h2 : Con C w' f d bs R') : BRet C R w f d bs (.returned (.tuple #[])) w':=⟨rfl,R',h1,h2⟩
set_option maxRecDepth 20000 in
set_option maxHeartbeats 2000000 in
theorem list_c (C : Nat) (f d : Value) (bs word : Str) (R : Option Nat) (v : Value) (xs : List Int) (w : World) (h : Con C w f d bs R) (hv : Ints (Off C R w) w v xs) (hx : ∀ n ∈ xs,0 ≤ n ∧ n < 100) (hn : xs.length ≤ 1000) (hl : bs.length + word.length ≤ 500000) :
  Calls Tryz.prog 26 #[.pointer (some ⟨C,0,none⟩),strV word,v] w (BRet C R w f d (bs ++ numsS word xs)):=by
 have e : bs ++ numsS word xs = xs.foldl numG (bs ++ word) ++ [10]:=by
  have : ∀ (xs : List Int) (a b : Str),xs.foldl numG (a ++ b) = a ++ xs.foldl numG b:=by
   intro xs
   induction xs with
   | nil=>intro a b;rfl
   | cons x xs ih=>intro a b;rw [List.foldl_cons,List.foldl_cons,← ih];unfold numG;rw [List.append_assoc]
  rw [this,List.append_assoc];rfl
 rw [e]
 obtain ⟨A,hA⟩ : ∃ A,xs.foldl numG (bs ++ word) = A:=⟨_,rfl⟩
 rw [hA]
 have HA:=Lib.hid hA;clear hA e
 have HX:=Lib.hid hx;clear hx
 have HV:=Lib.hid hv
 obtain ⟨a,cap,rfl⟩:=hv.form
 clear hv
 go_enter Tryz.func26,Tryz.ntmps26
 go_wp2_with fail
 refine (writeString_c C f d bs word R w h (by omega)).mono ?_;rintro e1 w1 ⟨rfl,R1,hF1,hC1⟩
 have HF1:=Lib.hid hF1;have HC1:=Lib.hid hC1
 clear hF1 hC1 h
 go_wp2_with fail
 go_loopw [15] (fun y wr=>∃ (k : Nat) (s : Str) (R' : Option Nat),k ≤ xs.length ∧ y = .int .i64 (k : Int) ∧ Hid (Fr C R w R' wr) ∧ Hid (Con C wr f d s R') ∧ s.length ≤ 500000 + 4 * k ∧ Hid ((xs.drop k).foldl numG s = A)) (fun y _=>xs.length - (intOf y).toNat)
 case atStart=>exact ⟨0,_,R1,by omega,rfl,HF1,HC1,by simp;omega,HA⟩
 case round =>
  obtain ⟨k,s,R',hk,rfl,HF,HC,hsl,HR⟩:=hrel
  by_cases hlt : k < xs.length
  ·have hr:=HR.out
   rw [foldl_drop _ _ _ _ hlt] at hr
   have h3:=HX.out _ (List.getElem_mem hlt)
   obtain ⟨b,o,rfl,hb,hc⟩:=HV.out.at1 hlt
   have hc1:=HF.out.cell hb hc
   have hdl : (decI xs[k]).length ≤ 3:=decI_len (n:=xs[k]) ⟨h3.1,by omega⟩
   have hit:=fun w'=>itoa_c xs[k] h3 w'
   generalize xs[k] = x at *
   have ha:=str_addz (P:=Tryz.prog) (x:=[32]) (y:=decI x) (32 :: decI x) rfl (by simp;omega)
   have e2 : numG s x = s ++ 32 :: decI x:=rfl
   rw [e2] at hr
   generalize decI x = dx at *
   have HIT:=Lib.hid hit
   have HR2:=Lib.hid hr
   have hK:=HC.out
   have hfr:=HF.out
   clear hr e2 hit HR h3 hc
   go_wp2_with fail
   refine wp_region_HT (by kernel_rfl) (fun w0 hxx hx0=>?_)
   replace hK:=hK.ext hxx
   replace hfr:=hfr.trans (Fr.of_ext hxx)
   clear hxx
   refine wpAnyH_take (i:=0) (v:=?_) rfl (by kernel_rfl) (by kernel_rfl) (by kernel_rfl) (fun _ _ _ h=>h) (Or.inl ⟨by rfl,fun w1 hx=>?_⟩) hx0 ?_;rotate_left
   ·go_simp;first | done | rfl
   simp only [Act.put,List.getElem_toArray,List.getElem_cons_succ,List.getElem_cons_zero,slA,slB,slC]
   refine wpAnyH_take (i:=1) (v:=?_) rfl (by kernel_rfl) (by kernel_rfl) (by kernel_rfl) (fun _ _ _ h=>h) (Or.inl ⟨by rfl,fun w1 hx=>?_⟩) hx0 ?_;rotate_left
   ·go_simp;first | done | rfl
   simp only [Act.put,List.getElem_toArray,List.getElem_cons_succ,List.getElem_cons_zero,slA,slB,slC]
   refine wpAnyH_take (i:=2) (v:=?_) rfl (by kernel_rfl) (by kernel_rfl) (by kernel_rfl) (fun _ _ _ h=>h) (Or.inl ⟨by rfl,fun w1 hx=>?_⟩) hx0 ?_;rotate_left
   ·go_simp;first | done | rfl
   simp only [Act.put,List.getElem_toArray,List.getElem_cons_succ,List.getElem_cons_zero,slA,slB,slC]
   refine wpAnyH_take (i:=3) (v:=?_) rfl (by kernel_rfl) (by kernel_rfl) (by kernel_rfl) (fun _ _ _ h=>h) (Or.inl ⟨by rfl,fun w1 hx=>?_⟩) hx0 ?_;rotate_left
   ·go_simp;first | done | rfl
   simp only [Act.put,List.getElem_toArray,List.getElem_cons_succ,List.getElem_cons_zero,slA,slB,slC]
   refine wpAnyH_all (rs:=[4]) (by kernel_rfl) (by simp) (fun i hi=>?_)
   simp only [List.mem_cons,List.not_mem_nil,or_false] at hi
   subst hi
   refine anyH_op (R:=fun v w'=>v = strV dx ∧ w' = w0) rfl rfl ?_ (fun v w1 hR=>?_)
   ·unfold RunTo;go_simp;exact (HIT.out _).mono fun e w' h=>⟨_,h.1,rfl,h.2⟩
   obtain ⟨rfl,rfl⟩:=hR
   have hx1 : True:=trivial
   refine ⟨hx1,?_⟩
   simp only [Act.put,List.getElem_toArray,List.getElem_cons_succ,List.getElem_cons_zero,slA,slB,slC]
   refine wpAnyH_take (i:=5) (v:=?_) rfl (by kernel_rfl) (by kernel_rfl) (by kernel_rfl) (fun _ _ _ h=>h) (Or.inl ⟨by rfl,fun w1 hx=>?_⟩) hx1 ?_;rotate_left
   ·go_simp;first | done | rfl
   simp only [Act.put,List.getElem_toArray,List.getElem_cons_succ,List.getElem_cons_zero,slA,slB,slC]
   refine wpAnyH_all (rs:=[6]) (by kernel_rfl) (by simp) (fun i hi=>?_)
   simp only [List.mem_cons,List.not_mem_nil,or_false] at hi
   subst hi
   refine anyH_op (R:=fun v w'=>v = .tuple #[.int .i64 (32 :: dx).length,.nilIface] ∧ ∃ R2,Fr C R' w1 R2 w' ∧ Con C w' f d (s ++ 32 :: dx) R2) rfl rfl ?_ (fun v w2 hR=>?_)
   ·unfold RunTo;go_simp;exact (writeString_c C f d s (32 :: dx) R' _ hK (by simp;omega)).mono fun e w' h=>⟨_,h.1,rfl,h.2⟩
   obtain ⟨rfl,R2,hF2,hC2⟩:=hR
   have hx2 : True:=trivial
   replace hfr:=hfr.trans hF2
   refine ⟨hx2,?_⟩
   simp only [Act.put,List.getElem_toArray,List.getElem_cons_succ,List.getElem_cons_zero,slA,slB,slC]
   refine wpAnyH_done (by kernel_rfl) ?_ _
   go_wp2_with fail
   go_roundw
   case rel=>exact ⟨k + 1,_,R2,by omega,by go_num,Lib.hid hfr,Lib.hid hC2,by simp;omega,HR2⟩
   case measure=>simp [intOf];omega
  ·obtain rfl : k = xs.length:=by omega
   have hr:=HR.out
   rw [List.drop_length,List.foldl_nil] at hr
   subst hr
   go_wp2_with fail
   refine (writeString_c C f d s [10] R' _ HC.out (by simp;omega)).mono ?_;rintro e5 w5 ⟨rfl,R5,hF5,hC5⟩
   have hfin:=BRet.mk (HF.out.trans hF5) hC5
   clear hF5 hC5
   go_wp2_with fail
   go_end0
   exact hfin
end Go.Bu
namespace Go.Bu
open Go Go.RowKit Go.Plan Go.Proofs
section
variable {P : Program} {Q : Exit → Act → World → Prop} {a : Act} {w : World}
theorem wp_region_HB {B : Nat} {ob : Obj} (hB : w.heap[B]? = some ob) {l : List Oper} {id : Nat} (hm : P.follows .mixedOrders = true) (h : ∀ w',Ext w w' → w'.heap[B]? = some ob → wpAnyH P .any l.toArray Q (fun w=>w.heap[B]? = some ob) l.toArray.size (Array.replicate l.toArray.size false) a w') : (Code.region id l.toArray true).wp P Q a w:=
 wp_region_held hm (h _ (ext_drew w) (keep_ext (ext_drew w) hB))
end
def pageX (p : Page) : Str:=if p.state = 0 then [45] else if p.state = 2 then [63] else (if p.r.kind = 1 then 100 else 99) :: (decI p.r.addr ++ decI p.r.val)
theorem pageX_eq (p : Page) : pageS p = 32 :: pageX p:=by
 unfold pageS pageX
 split
 ·rfl
 ·split <;> rfl
set_option maxRecDepth 20000 in
set_option maxHeartbeats 1000000 in
theorem pageText_c (p : Page) (h : PageT p) (w : World) : Calls Tryz.prog 81 #[pageA p] w (Ret w (strV (pageX p))):=by
 have hee:=pageX_eq p
 rcases pageT_cases h with ⟨h1,e⟩ | ⟨h1,e⟩ | ⟨h1,x,hk,e,ha,hv⟩
 ·have e2 : pageX p = [45]:=by unfold pageX;rw [if_pos h1]
  rw [e2];clear e e2 h hee
  obtain ⟨st,rk,rs,ra,rv⟩:=p
  dsimp only at h1
  subst h1
  go_enter Tryz.func81,Tryz.ntmps81
  go_wp2_with fail
  go_ret
  exact ⟨rfl,ext_alloc (ext_refl _) _⟩
 ·have e2 : pageX p = [63]:=by unfold pageX;rw [if_neg (by omega),if_pos h1]
  rw [e2];clear e e2 h hee
  obtain ⟨st,rk,rs,ra,rv⟩:=p
  dsimp only at h1
  subst h1
  go_enter Tryz.func81,Tryz.ntmps81
  go_wp2_with fail
  go_ret
  exact ⟨rfl,ext_alloc (ext_refl _) _⟩
 ·obtain ⟨st,rk,rs,ra,rv⟩:=p
  dsimp only at *
  subst h1
  have hda:=itoa_r ra ⟨by omega,by omega⟩
  have hdv:=itoa_r rv ⟨by omega,by omega⟩
  have hla:=decI_len (n:=ra) ⟨by omega,by omega⟩
  have hlv:=decI_len (n:=rv) ⟨by omega,by omega⟩
  have hdt:=fun w'=>isDirty_c ⟨rk,rs,ra,rv⟩ w'
  dsimp only at hdt
  have ha2:=str_addz (P:=Tryz.prog) (x:=[x]) (y:=decI ra) (x :: decI ra) rfl (by simp;omega)
  have ha3:=str_addz (P:=Tryz.prog) (x:=x :: decI ra) (y:=decI rv) (x :: (decI ra ++ decI rv)) rfl (by simp;omega)
  obtain ⟨q,hq⟩ : ∃ q,(rk == 1) = q:=⟨_,rfl⟩
  have hqx : q = true ∧ x = 100 ∨ q = false ∧ x = 99:=by
   rcases hk with ⟨h1,rfl⟩ | ⟨h1,rfl⟩
   ·left;exact ⟨by rw [← hq,h1];rfl,rfl⟩
   ·right;exact ⟨by rw [← hq,h1];rfl,rfl⟩
  have e2 : pageX ⟨1,rk,rs,ra,rv⟩ = x :: (decI ra ++ decI rv):=by
   rw [e] at hee;exact (List.cons.inj hee).2.symm
  rw [e2]
  rw [hq] at hdt
  clear e e2 hee h hk hq ha hv
  generalize decI ra = da at *
  generalize decI rv = dv at *
  go_enter Tryz.func81,Tryz.ntmps81
  go_wp2_with fail
  have G0:=hg_new (w:=w) (b:=w.heap.size) (x:=.cells #[.int .i64 1,.int .i64 rk,.int .i64 rs,.int .i64 ra,.int .i64 rv] 102) rfl
  refine (hdt _).mono ?_;rintro e1 w1 ⟨rfl,hx1⟩
  have G1:=keep_ext hx1 G0
  have X1:=ext_trans (ext_alloc (ext_refl w) _) hx1
  clear hx1 hdt G0
  rcases hqx with ⟨rfl,rfl⟩ | ⟨rfl,rfl⟩
  all_goals
   go_wp2_with fail
   refine wp_region_H (by kernel_rfl) (fun w0 hx0=>?_)
   refine wpAnyH_take (i:=0) (v:=?_) rfl (by kernel_rfl) (by kernel_rfl) (by kernel_rfl) (fun _ _ _ h=>h) (Or.inl ⟨by rfl,fun w1 hx=>?_⟩) hx0 ?_;rotate_left
   ·go_simp;first | done | rfl
   simp only [Act.put,List.getElem_toArray,List.getElem_cons_succ,List.getElem_cons_zero,slA,slB,slC]
   refine wpAnyH_take (i:=1) (v:=?_) rfl (by kernel_rfl) (by kernel_rfl) (by kernel_rfl) (fun _ _ _ h=>h) (Or.inl ⟨by rfl,fun w1 hx=>?_⟩) hx0 ?_;rotate_left
   ·go_simp;first | done | rfl
   simp only [Act.put,List.getElem_toArray,List.getElem_cons_succ,List.getElem_cons_zero,slA,slB,slC]
   refine wpAnyH_take (i:=2) (v:=?_) rfl (by kernel_rfl) (by kernel_rfl) (by kernel_rfl) (fun _ _ _ h=>h) (Or.inl ⟨by rfl,fun w1 hx=>?_⟩) hx0 ?_;rotate_left
   ·go_simp;first | done | rfl
   simp only [Act.put,List.getElem_toArray,List.getElem_cons_succ,List.getElem_cons_zero,slA,slB,slC]
   refine wpAnyH_take (i:=3) (v:=?_) rfl (by kernel_rfl) (by kernel_rfl) (by kernel_rfl) (fun _ _ _ h=>h) (Or.inl ⟨by rfl,fun w1 hx=>?_⟩) hx0 ?_;rotate_left
   ·(obtain ⟨z0,zf0⟩:=cellsK (keep_ext hx G1));go_simp;first | done | rfl
   simp only [Act.put,List.getElem_toArray,List.getElem_cons_succ,List.getElem_cons_zero,slA,slB,slC]
   refine wpAnyH_take (i:=6) (v:=?_) rfl (by kernel_rfl) (by kernel_rfl) (by kernel_rfl) (fun _ _ _ h=>h) (Or.inl ⟨by rfl,fun w1 hx=>?_⟩) hx0 ?_;rotate_left
   ·go_simp;first | done | rfl
   simp only [Act.put,List.getElem_toArray,List.getElem_cons_succ,List.getElem_cons_zero,slA,slB,slC]
   refine wpAnyH_take (i:=7) (v:=?_) rfl (by kernel_rfl) (by kernel_rfl) (by kernel_rfl) (fun _ _ _ h=>h) (Or.inl ⟨by rfl,fun w1 hx=>?_⟩) hx0 ?_;rotate_left
   ·go_simp;first | done | rfl
   simp only [Act.put,List.getElem_toArray,List.getElem_cons_succ,List.getElem_cons_zero,slA,slB,slC]
   refine wpAnyH_take (i:=8) (v:=?_) rfl (by kernel_rfl) (by kernel_rfl) (by kernel_rfl) (fun _ _ _ h=>h) (Or.inl ⟨by rfl,fun w1 hx=>?_⟩) hx0 ?_;rotate_left
   ·(obtain ⟨z0,zf0⟩:=cellsK (keep_ext hx G1));go_simp;first | done | rfl
   simp only [Act.put,List.getElem_toArray,List.getElem_cons_succ,List.getElem_cons_zero,slA,slB,slC]
   refine wpAnyH_all (rs:=[4]) (by kernel_rfl) (by simp) (fun i hi=>?_)
   simp only [List.mem_cons,List.not_mem_nil,or_false] at hi
   subst hi
   refine anyH_call (strV da) rfl rfl ?_ (fun w1 hx=>ext_trans hx0 hx) (fun w1 hxx hx1=>?_)
   ·unfold RunTo;go_simp;exact (hda _).mono fun e w' h=>h.to
   clear hxx
   simp only [Act.put,List.getElem_toArray,List.getElem_cons_succ,List.getElem_cons_zero,slA,slB,slC]
   refine wpAnyH_take (i:=5) (v:=?_) rfl (by kernel_rfl) (by kernel_rfl) (by kernel_rfl) (fun _ _ _ h=>h) (Or.inl ⟨by rfl,fun w1 hx=>?_⟩) hx1 ?_;rotate_left
   ·go_simp;first | done | rfl
   simp only [Act.put,List.getElem_toArray,List.getElem_cons_succ,List.getElem_cons_zero,slA,slB,slC]
   refine wpAnyH_all (rs:=[9]) (by kernel_rfl) (by simp) (fun i hi=>?_)
   simp only [List.mem_cons,List.not_mem_nil,or_false] at hi
   subst hi
   refine anyH_call (strV dv) rfl rfl ?_ (fun w1 hx=>ext_trans hx1 hx) (fun w2 hxx hx2=>?_)
   ·unfold RunTo;go_simp;exact (hdv _).mono fun e w' h=>h.to
   clear hxx
   simp only [Act.put,List.getElem_toArray,List.getElem_cons_succ,List.getElem_cons_zero,slA,slB,slC]
   refine wpAnyH_take (i:=10) (v:=?_) rfl (by kernel_rfl) (by kernel_rfl) (by kernel_rfl) (fun _ _ _ h=>h) (Or.inl ⟨by rfl,fun w1 hx=>?_⟩) hx2 ?_;rotate_left
   ·go_simp;first | done | rfl
   simp only [Act.put,List.getElem_toArray,List.getElem_cons_succ,List.getElem_cons_zero,slA,slB,slC]
   refine wpAnyH_take (i:=11) (v:=?_) rfl (by kernel_rfl) (by kernel_rfl) (by kernel_rfl) (fun _ _ _ h=>h) (Or.inl ⟨by rfl,fun w1 hx=>?_⟩) hx2 ?_;rotate_left
   ·go_simp;first | done | rfl
   simp only [Act.put,List.getElem_toArray,List.getElem_cons_succ,List.getElem_cons_zero,slA,slB,slC]
   refine wpAnyH_done (by kernel_rfl) ?_ _
   go_wp2_with fail
   go_ret
   exact ⟨rfl,ext_trans X1 hx2⟩
set_option maxRecDepth 20000 in
set_option maxHeartbeats 4000000 in
theorem see_c (C : Nat) (f d : Value) (bs : Str) (R : Option Nat) (fl : List Block) (w : World) (h : Con C w f d bs R) (hf : Flash (Off C R w) w f fl) (hT : FlashT fl) (hl : bs.length ≤ 500000) :
  Calls Tryz.prog 58 #[.pointer (some ⟨C,0,none⟩)] w (BRet C R w f d (bs ++ flashS fl)):=by
 have e : bs ++ flashS fl = fl.foldl blG bs:=by
  have : ∀ (xs : List Block) (a b : Str),xs.foldl blG (a ++ b) = a ++ xs.foldl blG b:=by
   intro xs
   induction xs with
   | nil=>intro a b;rfl
   | cons x xs ih=>intro a b;rw [List.foldl_cons,List.foldl_cons,← ih];unfold blG;rw [List.append_assoc]
  rw [show flashS fl = fl.foldl blG [] from rfl,← this,List.append_nil]
 rw [e]
 obtain ⟨A,hA⟩ : ∃ A,fl.foldl blG bs = A:=⟨_,rfl⟩
 rw [hA]
 have HA:=Lib.hid hA;clear hA e
 have HT:=Lib.hid hT;clear hT
 have HF:=Lib.hid hf
 obtain ⟨a,cap,rfl⟩:=hf.form
 have hlf:=HT.out.len
 have H0:=Lib.hid h
 obtain ⟨p0,v0,_,hC,_⟩:=h
 obtain ⟨c0,cf0⟩:=cellsK hC
 clear hf
 go_enter Tryz.func58,Tryz.ntmps58
 go_wp2_with fail
 clear c0 cf0 hC
 go_loopw [12] (fun y wr=>∃ (k : Nat) (s : Str) (R' : Option Nat),k ≤ fl.length ∧ y = .int .i64 (k : Int) ∧ s.length ≤ 500000 + 40 * k ∧ Hid ((fl.drop k).foldl blG s = A) ∧ Hid (Fr C R w R' wr) ∧ Hid (Con C wr (.slice a fl.length cap) d s R')) (fun y _=>fl.length - (intOf y).toNat)
 case atStart=>exact ⟨0,bs,R,by omega,rfl,by omega,HA,Lib.hid (Fr.refl _ _ _),H0⟩
 case round =>
  obtain ⟨k,s,R',hk,rfl,hsl,HR,HFr,HC⟩:=hrel
  by_cases hlt : k < fl.length
  ·have hr:=HR.out
   rw [foldl_drop _ _ _ _ hlt,blG_eq] at hr
   have hmem:=List.getElem_mem hlt
   have hw:=HT.out.worn _ hmem
   have hpl:=HT.out.pages _ hmem
   have hpt:=HT.out.page _ hmem
   obtain ⟨b,o,pv,rfl,hb,hpp,h0,h1⟩:=HF.out.at2 hlt
   have h0':=HFr.out.cell hb h0
   have h1':=HFr.out.cell hb h1
   generalize fl[k] = bk at *
   obtain ⟨ps,worn⟩:=bk
   dsimp only at *
   have hdl:=decI_len (n:=worn) ⟨by omega,by omega⟩
   have hit:=fun w'=>itoa_c worn ⟨by omega,by omega⟩ w'
   generalize decI worn = dx at *
   have HIT:=Lib.hid hit;have HPP:=Lib.hid hpp;have HPT:=Lib.hid hpt;have HR1:=Lib.hid hr
   obtain ⟨pa,pcap,rfl⟩:=hpp.form
   have hfr:=HFr.out
   have hK:=HC.out
   clear hit hpp hpt hr hw h0 h1 HR
   go_wp2_with fail
   have hCl:=hK.lt
   have hRl:=hK.row
   have G3:=hg_new (w:=wr) (b:=wr.heap.size) (x:=.cells #[.slice pa ps.length pcap,.int .i64 worn] 104) rfl
   replace hK:=hK.ext (ext_alloc (ext_refl _) (.cells #[.slice pa ps.length pcap,.int .i64 worn] 104))
   replace hfr:=hfr.trans (Fr.of_ext (ext_alloc (ext_refl _) (.cells #[.slice pa ps.length pcap,.int .i64 worn] 104)))
   have hBC : wr.heap.size ≠ C:=by omega
   have hBR : R' ≠ some wr.heap.size:=fun e=>by have:=hRl _ e;omega
   clear hCl hRl h0' h1'
   refine wp_region_HB G3 (by kernel_rfl) (fun w0 hxx hx0=>?_)
   replace hK:=hK.ext hxx
   replace hfr:=hfr.trans (Fr.of_ext hxx)
   clear hxx
   refine wpAnyH_take (i:=0) (v:=?_) rfl (by kernel_rfl) (by kernel_rfl) (by kernel_rfl) (fun _ _ _ h=>h) (Or.inl ⟨by rfl,fun w1 hx=>?_⟩) hx0 ?_;rotate_left
   ·go_simp;first | done | rfl
   simp only [Act.put,List.getElem_toArray,List.getElem_cons_succ,List.getElem_cons_zero,slA,slB,slC]
   refine wpAnyH_take (i:=1) (v:=?_) rfl (by kernel_rfl) (by kernel_rfl) (by kernel_rfl) (fun _ _ _ h=>h) (Or.inl ⟨by rfl,fun w1 hx=>?_⟩) hx0 ?_;rotate_left
   ·(obtain ⟨z3,zf3⟩:=cellsK hx);go_simp;first | done | rfl
   simp only [Act.put,List.getElem_toArray,List.getElem_cons_succ,List.getElem_cons_zero,slA,slB,slC]
   refine wpAnyH_take (i:=2) (v:=?_) rfl (by kernel_rfl) (by kernel_rfl) (by kernel_rfl) (fun _ _ _ h=>h) (Or.inl ⟨by rfl,fun w1 hx=>?_⟩) hx0 ?_;rotate_left
   ·go_simp;first | done | rfl
   simp only [Act.put,List.getElem_toArray,List.getElem_cons_succ,List.getElem_cons_zero,slA,slB,slC]
   refine wpAnyH_take (i:=3) (v:=?_) rfl (by kernel_rfl) (by kernel_rfl) (by kernel_rfl) (fun _ _ _ h=>h) (Or.inl ⟨by rfl,fun w1 hx=>?_⟩) hx0 ?_;rotate_left
   ·go_simp;first | done | rfl
   simp only [Act.put,List.getElem_toArray,List.getElem_cons_succ,List.getElem_cons_zero,slA,slB,slC]
   refine wpAnyH_take (i:=4) (v:=?_) rfl (by kernel_rfl) (by kernel_rfl) (by kernel_rfl) (fun _ _ _ h=>h) (Or.inl ⟨by rfl,fun w1 hx=>?_⟩) hx0 ?_;rotate_left
   ·(obtain ⟨z3,zf3⟩:=cellsK hx);go_simp;first | done | rfl
   simp only [Act.put,List.getElem_toArray,List.getElem_cons_succ,List.getElem_cons_zero,slA,slB,slC]
   refine wpAnyH_all (rs:=[5]) (by kernel_rfl) (by simp) (fun i hi=>?_)
   simp only [List.mem_cons,List.not_mem_nil,or_false] at hi
   subst hi
   refine anyH_op (R:=fun v w'=>v = strV dx ∧ w' = w0) rfl rfl ?_ (fun v w1 hR=>?_)
   ·unfold RunTo;go_simp;exact (HIT.out _).mono fun e w' h=>⟨_,h.1,rfl,h.2⟩
   obtain ⟨rfl,rfl⟩:=hR
   have hx1:=hx0
   refine ⟨hx1,?_⟩
   simp only [Act.put,List.getElem_toArray,List.getElem_cons_succ,List.getElem_cons_zero,slA,slB,slC]
   refine wpAnyH_all (rs:=[6]) (by kernel_rfl) (by simp) (fun i hi=>?_)
   simp only [List.mem_cons,List.not_mem_nil,or_false] at hi
   subst hi
   refine anyH_op (R:=fun v w'=>v = .tuple #[.int .i64 dx.length,.nilIface] ∧ ∃ R2,Fr C R' w1 R2 w' ∧ Con C w' (.slice (some ⟨b,o,none⟩) fl.length cap) d (s ++ dx) R2) rfl rfl ?_ (fun v w2 hR=>?_)
   ·unfold RunTo;go_simp;exact (writeString_c C _ d s dx R' _ hK (by omega)).mono fun e w' h=>⟨_,h.1,rfl,h.2⟩
   obtain ⟨rfl,R2,hF2,hC2⟩:=hR
   have hx2:=hF2.keep hx1 hBC hBR
   replace hfr:=hfr.trans hF2
   clear hK hF2
   refine ⟨hx2,?_⟩
   simp only [Act.put,List.getElem_toArray,List.getElem_cons_succ,List.getElem_cons_zero,slA,slB,slC]
   refine wpAnyH_done (by kernel_rfl) ?_ _
   clear G3 hBC hBR
   obtain ⟨z3,zf3⟩:=cellsK hx2
   go_wp2_with fail
   clear z3 zf3
   have HC2:=Lib.hid hC2;have HF2:=Lib.hid hfr
   have hl1 : (s ++ dx).length ≤ 500000 + 40 * k + 3:=by simp;omega
   clear hC2 hfr
   go_loopw [26] (fun y wr=>∃ (j : Nat) (q : Str) (R3 : Option Nat),j ≤ ps.length ∧ y = .int .i64 (j : Int) ∧ q.length ≤ 500000 + 40 * k + 3 + 8 * j ∧ Hid ((fl.drop (k + 1)).foldl blG ((ps.drop j).foldl pgG q ++ [10]) = A) ∧ Hid (Fr C R w R3 wr) ∧ Hid (Con C wr (.slice (some ⟨b,o,none⟩) fl.length cap) d q R3)) (fun y _=>ps.length - (intOf y).toNat)
   case atStart=>exact ⟨0,s ++ dx,R2,by omega,rfl,by omega,HR1,HF2,HC2⟩
   case round =>
    clear HC2 HF2 hl1 HR1
    obtain ⟨j,q,R3,hj,rfl,hql,HR,HFq,HCq⟩:=hrel
    by_cases hlj : j < ps.length
    ·have hr:=HR.out
     rw [foldl_drop _ _ _ _ hlj] at hr
     have hpo:=HPT.out _ (List.getElem_mem hlj)
     have hpc:=fun w'=>pageText_c _ hpo w'
     have hps:=pageS_len hpo
     obtain ⟨b2,o2,rfl,hb2,c0,c1,c2,c3,c4⟩:=HPP.out.at5 hlj
     replace c0:=HFq.out.cell hb2 c0
     replace c1:=HFq.out.cell hb2 c1
     replace c2:=HFq.out.cell hb2 c2
     replace c3:=HFq.out.cell hb2 c3
     replace c4:=HFq.out.cell hb2 c4
     have epx:=pageX_eq ps[j]
     generalize ps[j] = p at *
     rw [epx] at hps
     have e2 : pgG q p = q ++ 32 :: pageX p:=by unfold pgG;rw [epx]
     rw [e2] at hr
     obtain ⟨px,hpx⟩ : ∃ px,pageX p = px:=⟨_,rfl⟩
     rw [hpx] at hr hps hpc
     have ha:=str_addz (P:=Tryz.prog) (x:=[32]) (y:=px) (32 :: px) rfl (by simp at hps ⊢;omega)
     have hl2 : (q ++ 32 :: px).length ≤ 500000 + 40 * k + 3 + 8 * (j + 1):=by simp at hps ⊢;omega
     have HL2:=Lib.hid hl2;have HR2:=Lib.hid hr;have HPC:=Lib.hid hpc
     have hfr:=HFq.out
     have hK:=HCq.out
     have hCl:=hK.lt
     have hRl:=hK.row
     clear hr e2 epx hpx hpo hpc HR hl2
     obtain ⟨st,rk,rs,ra,rv⟩:=p
     dsimp only [pageA] at *
     go_wp2_with fail
     have G5:=hg_new (w:=wr) (b:=wr.heap.size) (x:=.cells #[.int .i64 st,.int .i64 rk,.int .i64 rs,.int .i64 ra,.int .i64 rv] 102) rfl
     replace hK:=hK.ext (ext_alloc (ext_refl _) (.cells #[.int .i64 st,.int .i64 rk,.int .i64 rs,.int .i64 ra,.int .i64 rv] 102))
     replace hfr:=hfr.trans (Fr.of_ext (ext_alloc (ext_refl _) (.cells #[.int .i64 st,.int .i64 rk,.int .i64 rs,.int .i64 ra,.int .i64 rv] 102)))
     have hBC : wr.heap.size ≠ C:=by omega
     have hBR : R3 ≠ some wr.heap.size:=fun e=>by have:=hRl _ e;omega
     clear hCl hRl c0 c1 c2 c3 c4
     refine wp_region_HB G5 (by kernel_rfl) (fun w0 hxx hx0=>?_)
     replace hK:=hK.ext hxx
     replace hfr:=hfr.trans (Fr.of_ext hxx)
     clear hxx
     refine wpAnyH_take (i:=0) (v:=?_) rfl (by kernel_rfl) (by kernel_rfl) (by kernel_rfl) (fun _ _ _ h=>h) (Or.inl ⟨by rfl,fun w1 hx=>?_⟩) hx0 ?_;rotate_left
     ·go_simp;first | done | rfl
     simp only [Act.put,List.getElem_toArray,List.getElem_cons_succ,List.getElem_cons_zero,slA,slB,slC]
     refine wpAnyH_take (i:=1) (v:=?_) rfl (by kernel_rfl) (by kernel_rfl) (by kernel_rfl) (fun _ _ _ h=>h) (Or.inl ⟨by rfl,fun w1 hx=>?_⟩) hx0 ?_;rotate_left
     ·(obtain ⟨z5,zf5⟩:=cellsK hx);go_simp;first | done | rfl
     simp only [Act.put,List.getElem_toArray,List.getElem_cons_succ,List.getElem_cons_zero,slA,slB,slC]
     refine wpAnyH_take (i:=2) (v:=?_) rfl (by kernel_rfl) (by kernel_rfl) (by kernel_rfl) (fun _ _ _ h=>h) (Or.inl ⟨by rfl,fun w1 hx=>?_⟩) hx0 ?_;rotate_left
     ·go_simp;first | done | rfl
     simp only [Act.put,List.getElem_toArray,List.getElem_cons_succ,List.getElem_cons_zero,slA,slB,slC]
     refine wpAnyH_take (i:=3) (v:=?_) rfl (by kernel_rfl) (by kernel_rfl) (by kernel_rfl) (fun _ _ _ h=>h) (Or.inl ⟨by rfl,fun w1 hx=>?_⟩) hx0 ?_;rotate_left
     ·(obtain ⟨z5,zf5⟩:=cellsK hx);go_simp;first | done | rfl
     simp only [Act.put,List.getElem_toArray,List.getElem_cons_succ,List.getElem_cons_zero,slA,slB,slC]
     refine wpAnyH_all (rs:=[4]) (by kernel_rfl) (by simp) (fun i hi=>?_)
     simp only [List.mem_cons,List.not_mem_nil,or_false] at hi
     subst hi
     refine anyH_call (strV px) rfl rfl ?_ (fun w1 hx=>keep_ext hx hx0) (fun w1 hxx hx1=>?_)
     ·unfold RunTo;go_simp;exact (HPC.out _).mono fun e w' h=>h.to
     replace hK:=hK.ext hxx
     replace hfr:=hfr.trans (Fr.of_ext hxx)
     clear hxx
     simp only [Act.put,List.getElem_toArray,List.getElem_cons_succ,List.getElem_cons_zero,slA,slB,slC]
     refine wpAnyH_take (i:=5) (v:=?_) rfl (by kernel_rfl) (by kernel_rfl) (by kernel_rfl) (fun _ _ _ h=>h) (Or.inl ⟨by rfl,fun w1 hx=>?_⟩) hx1 ?_;rotate_left
     ·go_simp;first | done | rfl
     simp only [Act.put,List.getElem_toArray,List.getElem_cons_succ,List.getElem_cons_zero,slA,slB,slC]
     refine wpAnyH_all (rs:=[6]) (by kernel_rfl) (by simp) (fun i hi=>?_)
     simp only [List.mem_cons,List.not_mem_nil,or_false] at hi
     subst hi
     refine anyH_op (R:=fun v w'=>v = .tuple #[.int .i64 (32 :: px).length,.nilIface] ∧ ∃ R2,Fr C R3 w1 R2 w' ∧ Con C w' (.slice (some ⟨b,o,none⟩) fl.length cap) d (q ++ 32 :: px) R2) rfl rfl ?_ (fun v w2 hR=>?_)
     ·unfold RunTo;go_simp;exact (writeString_c C _ d q (32 :: px) R3 _ hK (by simp at hps ⊢;omega)).mono fun e w' h=>⟨_,h.1,rfl,h.2⟩
     obtain ⟨rfl,R4,hF2,hC2⟩:=hR
     have hx2:=hF2.keep hx1 hBC hBR
     replace hfr:=hfr.trans hF2
     clear hK hF2
     refine ⟨hx2,?_⟩
     simp only [Act.put,List.getElem_toArray,List.getElem_cons_succ,List.getElem_cons_zero,slA,slB,slC]
     refine wpAnyH_done (by kernel_rfl) ?_ _
     clear G5 hBC hBR
     go_wp2_with fail
     go_roundw
     case rel=>exact ⟨j + 1,_,R4,by omega,by go_num,HL2.out,HR2,Lib.hid hfr,Lib.hid hC2⟩
     case measure=>simp [intOf];omega
    ·obtain rfl : j = ps.length:=by omega
     have hr:=HR.out
     rw [List.drop_length,List.foldl_nil] at hr
     have HR2:=Lib.hid hr
     have hfr:=HFq.out
     have hK:=HCq.out
     clear hr HR HFq HCq
     go_wp2_with fail
     refine (writeString_c C _ d q [10] R3 _ hK (by simp;omega)).mono ?_;rintro e5 w5 ⟨rfl,R5,hF5,hC5⟩
     have HF5:=Lib.hid (hfr.trans hF5);have HC5:=Lib.hid hC5
     clear hF5 hC5 hfr hK
     have hl2 : (q ++ [10]).length ≤ 500000 + 40 * (k + 1):=by simp;omega
     go_wp2_with fail
     go_roundw
     case rel=>exact ⟨k + 1,_,R5,by omega,by go_num,by omega,HR2,HF5,HC5⟩
     case measure=>simp [intOf];omega
  ·obtain rfl : k = fl.length:=by omega
   have hr:=HR.out
   rw [List.drop_length,List.foldl_nil] at hr
   subst hr
   go_wp2_with fail
   go_end0
   exact BRet.mk HFr.out HC.out
end Go.Bu
namespace Go.Bu
open Go Go.RowKit Go.Plan Go.Proofs
theorem IRow.weak {b b' : Nat} {w : World} {v : Value} {xs : List Int} (h : IRow b w v xs) (hb : b' ≤ b) : IRow b' w v xs:=by
 refine ⟨h.1,h.2.imp id ?_⟩
 rintro ⟨g,cap,cur,a1,a2,a3⟩
 exact ⟨g,cap,cur,a1,Nat.le_trans hb a2,a3⟩
def IntsN (w : World) (xs : List Int) (e : Ending) (w' : World) : Prop:=∃ v,e = .returned v ∧ Ext w w' ∧ IRow w.heap.size w' v xs
theorem IRow.off {C : Nat} {R : Option Nat} {w w' : World} {v : Value} {xs : List Int} (h : IRow w.heap.size w' v xs) (hC : C < w.heap.size) (hR : ∀ g,R = some g → g < w.heap.size) : Ints (Off C R w') w' v xs:=by
 by_cases h0 : xs = []
 ·subst h0
  obtain ⟨a,cap,hv⟩:=h.form
  exact ⟨a,cap,hv,fun i x hx=>by simp at hx⟩
 ·obtain ⟨B,hB,T,hO⟩:=h.own h0
  exact hO.sl ⟨hO.lt,by omega,fun e=>by have:=hR _ e;omega⟩
set_option maxRecDepth 20000 in
set_option maxHeartbeats 4000000 in
theorem implStoreDirty_c (fv dv : Value) (s : Store) (w : World) (h : StoreV w fv dv s) (hok : storeOkB s = true) : Calls Tryz.prog 59 #[.agg #[fv,dv]] w (IntsN w (dirtyL s)):=by
 have hp:=(StoreV.small (w:=w) (f:=fv) (d:=dv) hok).2.1
 have hd:=(StoreV.small (w:=w) (f:=fv) (d:=dv) hok).2.2
 have hSO:=fun (w' : World) (hx : Ext w w')=>implStoreOk_c fv dv s w' (h.ext hx) hp hd
 rw [hok] at hSO
 have hF:=flashOk_iff.1 (storeOk_flash hok)
 have hLR:=fun (w' : World) (hx : Ext w w')=>lastRecords_c fv s.flash w' (h.1.ext hx) hF.len hp (fun b hb=>hF.pg hb)
 obtain ⟨fa,fcap,rfl⟩:=h.1.form
 obtain ⟨da,dcap,rfl⟩:=h.2.form
 have hlz:=fun n : Nat=>lastL_zero (spF s.flash s.flash.length) ((n : Int) + 1)
 simp only [lastL_all] at hlz
 have HLZ:=Lib.hid hlz
 clear h hok hF hp hd hlz
 have hq : dirtyL s = ((addrs6.take 6).filter fun (n : Nat)=>dirtyB s ((n : Int) + 1)).map (fun (n : Nat)=>(n : Int) + 1):=rfl
 rw [hq]
 have HTK:=Lib.hid fun (k : Nat) (h : k < 6)=>dirtyL_take s k h
 have HLN:=Lib.hid fun (k : Nat) (h : k ≤ 6)=>dirtyL_len s k h
 obtain ⟨DL,hDL⟩ : ∃ DL : Nat → List Int,∀ k,((addrs6.take k).filter fun (n : Nat)=>dirtyB s ((n : Int) + 1)).map (fun (n : Nat)=>(n : Int) + 1) = DL k:=⟨_,fun _=>rfl⟩
 have h00 : DL 0 = []:=by rw [← hDL];rfl
 simp only [hDL] at HTK HLN ⊢
 clear hDL hq
 have HID:=Lib.hid fun (r : Rec) (w' : World)=>isDirty_c r w'
 go_enter Tryz.func59,Tryz.ntmps59
 go_wp2_with fail
 refine (hSO _ (ext_alloc (ext_refl _) _)).mono ?_;rintro e1 w1 ⟨rfl,hx1⟩
 have X1:=ext_trans (ext_alloc (ext_refl w) _) hx1
 have G1:=keep_ext hx1 (hg_new (b:=w.heap.size) rfl)
 obtain ⟨g1,gf1⟩:=cellsK G1
 have l1:=heap_lt G1
 clear hSO hx1
 go_wp2_with fail
 refine (hLR _ X1).mono ?_;rintro e2 w2 ⟨BM,n,rfl,hx2,hB,hM⟩
 have X2:=ext_trans X1 hx2
 have HM:=Lib.hid hM
 clear hLR hx2 hM hB X1 G1 g1 gf1 l1
 go_wp2_with fail
 go_loopw [5,6] (fun v y wr=>∃ (k : Nat),k ≤ 6 ∧ y = .int .i64 ((k : Int) + 1) ∧ Ext w2 wr ∧ IRow w2.heap.size wr v (DL k)) (fun _ y _=>7 - (intOf y).toNat)
 case atStart=>exact ⟨0,by omega,rfl,ext_refl _,by rw [h00];exact ⟨rfl,.inl ⟨rfl,rfl⟩⟩⟩
 case round =>
  clear h00
  obtain ⟨k,hk,rfl,hX,hI⟩:=hrel
  by_cases hlt : k < 6
  ·have HI:=Lib.hid hI
   have hst:=HTK.out k hlt
   have hln:=HLN.out k (by omega)
   have hM3:=HM.out.ext hX
   have hlk:=hM3.lookup (t:=75) Tryz.underlying3 Tryz.underlying75 (z:=recA rec0) (by rfl) (i64_wf (x:=(k : Int) + 1) (by omega) (by omega)) true
   simp only [if_true] at hlk
   unfold lastG at hlk
   have hlo:=HLZ.out k
   unfold dirtyB at hst
   generalize last s.flash ((k : Int) + 1) = r at *
   have X2r:=ext_trans X2 hX
   clear hM3 hI
   by_cases h0 : 0 < r.seq
   ·rw [if_pos h0] at hlk
    simp only [Option.getD_some,Option.isSome_some] at hlk
    have hid:=fun w'=>HID.out r w'
    rw [decide_eq_true h0,Bool.true_and] at hst
    cases hkd : (r.kind == 1)
    ·rw [hkd,if_neg (by simp),List.append_nil] at hst
     rw [hkd] at hid
     have HST:=Lib.hid hst;have HD:=Lib.hid hid
     clear hst hkd hid hlo
     dsimp only [recA] at *
     go_wp2_with fail
     refine (HD.out _).mono ?_;rintro e3 w3 ⟨rfl,hx3⟩
     have hx:=ext_trans (by go_grown : Ext wr _) hx3
     have X3:=ext_trans hX hx
     have HI2:=Lib.hid (HI.out.ext hx)
     clear hx hx3
     go_wp2_with fail
     go_roundw
     case rel=>exact ⟨k + 1,by omega,by go_num,X3,by rw [HST.out];exact HI2.out⟩
     case measure=>simp [intOf];omega
    ·rw [hkd,if_pos rfl] at hst
     rw [hkd] at hid
     have HST:=Lib.hid hst;have HD:=Lib.hid hid
     clear hst hkd hid hlo
     dsimp only [recA] at *
     go_wp2_with fail
     refine (HD.out _).mono ?_;rintro e3 w3 ⟨rfl,hx3⟩
     have hx:=ext_trans (by go_grown : Ext wr _) hx3
     have X3:=ext_trans hX hx
     have hs3:=X3.size
     have HI2:=Lib.hid (HI.out.ext hx)
     clear hx hx3
     go_wp2_with (refine wpList_appInt rfl _ _ rfl rfl (HI2.out.ext (ext_alloc (ext_refl _) _)) (y:=(k : Int) + 1) rfl (hg_new rfl) (by omega) (by simp;omega) (fun v' w' hS' hg=>?_))
     go_roundw
     case rel=>exact ⟨k + 1,by omega,by go_num,ext_grown (ext_alloc X3 _) (HI2.out.ext (ext_alloc (ext_refl _) _)) hg,by rw [HST.out];exact hS'⟩
     case measure=>simp [intOf];omega
   ·rw [if_neg h0] at hlk
    simp only [Option.getD_none,Option.isSome_none] at hlk
    rw [decide_eq_false h0,Bool.false_and,if_neg (by simp),List.append_nil] at hst
    have HST:=Lib.hid hst
    clear hst hlo
    dsimp only [recA,rec0] at *
    go_wp2_with fail
    go_roundw
    case rel=>exact ⟨k + 1,by omega,by go_num,ext_alloc hX _,by rw [HST.out];exact HI.out.ext (ext_alloc (ext_refl _) _)⟩
    case measure=>simp [intOf];omega
  ·obtain rfl : k = 6:=by omega
   obtain ⟨a1,c1,hv1⟩:=hI.form
   have HI:=Lib.hid hI
   subst hv1
   clear hI
   have X3:=ext_trans X2 hX
   go_wp2_with fail
   go_ret
   exact ⟨_,rfl,X3,HI.out.weak X2.size⟩
end Go.Bu
namespace Go.Bu
open Go Go.RowKit Go.Plan Go.Proofs
def PlayQ (s : Store) (lo hi : Nat) (v : Value) (w : World) : Prop:=∃ f d M,v = .agg #[f,d] ∧ OwnStore w f d s M ∧ ∀ b ∈ M,lo ≤ b
theorem PlayQ.ext {s : Store} {lo hi : Nat} {v : Value} {w w' : World} (h : PlayQ s lo hi v w) (hx : Ext w w') : PlayQ s lo hi v w':=by
 obtain ⟨f,d,M,h1,h2,h3⟩:=h;exact ⟨f,d,M,h1,h2.ext hx,h3⟩
def PlayE (w : World) (s : Store) (en : Ending) (w' : World) : Prop:=∃ v,en = .returned v ∧ RetC w (PlayQ s) v w'
theorem PlayE.to {w w' : World} {s : Store} {en : Ending} (h : PlayE w s en w') : ∃ v,en = .returned v ∧ RetC w (PlayQ s) v w':=h
theorem playQ_c (g e : Value) (s : Store) (ev : Event) (w : World) (hB : StoreV w g e s) (hok : storeOkB s = true) (hc : -9223372036854775808 ≤ ev.c ∧ ev.c ≤ 9223372036854775807) :
  Calls Tryz.prog 80 #[.agg #[g,e],eventA ev] w (PlayE w (playDoS s ev)):=by
 refine (implPlayDo_c g e s ev w hB (StoreV.small (w:=w) (f:=g) (d:=e) hok) hc).mono ?_
 rintro en w' ⟨v,M,rfl,hx,hL,hM⟩
 refine ⟨v,rfl,hx,?_⟩
 unfold doV at hL
 rw [if_pos hok] at hL
 rcases hL with ⟨_,h0,_⟩ | ⟨f,d,h1,h2,_⟩
 ·have h6:=((storeOk_P hok).play ev).disk
  rw [h0] at h6;cases h6
 ·exact ⟨f,d,M,h1,h2,hM⟩
def ConS (C : Nat) (w : World) (s : Store) (bs : Str) (R : Option Nat) : Prop:=∃ f d L,Con C w f d bs R ∧ OwnStore w f d s L ∧ ∀ b ∈ L,b ≠ C ∧ R ≠ some b
def BRetS (C : Nat) (R : Option Nat) (w : World) (s : Store) (bs : Str) (e : Ending) (w' : World) : Prop:=e = .returned (.tuple #[]) ∧ ∃ R',Fr C R w R' w' ∧ ConS C w' s bs R'
theorem ConS.ext {C : Nat} {w w' : World} {s : Store} {bs : Str} {R : Option Nat} (h : ConS C w s bs R) (hx : Ext w w') : ConS C w' s bs R:=by
 obtain ⟨f,d,L,h1,h2,h3⟩:=h;exact ⟨f,d,L,h1.ext hx,h2.ext hx,h3⟩
theorem OwnStore.fr {C : Nat} {w w' : World} {f d : Value} {s : Store} {L : List Nat} {R R' : Option Nat} (h : OwnStore w f d s L) (hL : ∀ b ∈ L,b ≠ C ∧ R ≠ some b) (hF : Fr C R w R' w') : OwnStore w' f d s L ∧ ∀ b ∈ L,b ≠ C ∧ R' ≠ some b:=
 ⟨h.keep fun b hb=>hF.block b (h.lt b hb) (hL b hb).1 fun e=>(hL b hb).2 e.symm,fun b hb=>⟨(hL b hb).1,fun e=>by
  rcases hF.row b e with e | e
  ·exact (hL b hb).2 e
  ·have:=h.lt b hb;omega⟩⟩
set_option maxRecDepth 20000 in
set_option maxHeartbeats 2000000 in
theorem play_c (C : Nat) (s : Store) (bs : Str) (R : Option Nat) (ev : Event) (w : World) (h : ConS C w s bs R) (hok : storeOkB s = true) (hc : -9223372036854775808 ≤ ev.c ∧ ev.c ≤ 9223372036854775807) :
  Calls Tryz.prog 57 #[.pointer (some ⟨C,0,none⟩),eventA ev] w (BRetS C R w (playDoS s ev) bs):=by
 obtain ⟨f,d,L,hK,hO,hL⟩:=h
 have hne:=hK.ne
 have hlt:=hK.lt
 have hrl:=hK.row
 have hpl:=fun (w' : World) (hx : Ext w w')=>playQ_c f d s ev w' (hO.ext hx).v hok hc
 have HPL:=Lib.hid hpl
 have HK:=Lib.hid hK
 obtain ⟨p0,v0,hp0,hC,hown,hv0⟩:=hK
 have h0:=hown.lt
 obtain ⟨ek,ea,eb,ec,et⟩:=ev
 dsimp only [eventA] at *
 generalize playDoS s ⟨ek,ea,eb,ec,et⟩ = s2 at *
 clear hO hL hc hpl
 go_enter Tryz.func57,Tryz.ntmps57
 go_wp2_with fail
 have G1:=hg_new (w:=w) (b:=w.heap.size) (x:=.cells #[.int .i64 ek,.int .i64 ea,.int .i64 eb,.int .i64 ec,.bool et] 83) rfl
 have GC:=hg_alloc (x:=.cells #[.int .i64 ek,.int .i64 ea,.int .i64 eb,.int .i64 ec,.bool et] 83) hC
 have XA : Ext w (w.alloc (.cells #[.int .i64 ek,.int .i64 ea,.int .i64 eb,.int .i64 ec,.bool et] 83)):=ext_alloc (ext_refl _) _
 refine wp_region_ext [6] [0,1,2,3,4,5,6,7,8] [] [9] (by kernel_rfl) (by kernel_rfl) ?late ?_
 case late=>exact fun f hf=>absurd hf List.not_mem_nil
 iterate 2
  refine Rob.y (v:=?_) rfl rfl (fun w1 hx hH=>?_) ?_;rotate_left
  ·go_simp;first | done | rfl | exact (Bool.not_not _).symm
  simp only [Act.put,slA,slB,slC]
 refine Rob.y (v:=?_) rfl rfl (fun w1 hx hH=>?_) ?_;rotate_left
 ·(have hE : Ext _ w1:=(by first | exact hx | exact hx.1);obtain ⟨z1,zf1⟩:=cellsK (keep_ext hE G1);obtain ⟨zc,zcf⟩:=cellsK (keep_ext hE GC));go_simp;first | done | rfl
 simp only [Act.put,slA,slB,slC]
 refine Rob.y (v:=?_) rfl rfl (fun w1 hx hH=>?_) ?_;rotate_left
 ·go_simp;first | done | rfl | exact (Bool.not_not _).symm
 simp only [Act.put,slA,slB,slC]
 iterate 2
  refine Rob.y (v:=?_) rfl rfl (fun w1 hx hH=>?_) ?_;rotate_left
  ·(have hE : Ext _ w1:=(by first | exact hx | exact hx.1);obtain ⟨z1,zf1⟩:=cellsK (keep_ext hE G1);obtain ⟨zc,zcf⟩:=cellsK (keep_ext hE GC));go_simp;first | done | rfl
  simp only [Act.put,slA,slB,slC]
 refine Rob.c ((PlayQ s2)) rfl rfl rfl (fun _ _=>ext_trans) (fun _ _ _ _ _=>fun h hx=>PlayQ.ext h hx) (fun w1 hx hH=>?_) (fun lo6 hi6 v6 hlo6 hhi6 hv6=>?_)
 ·unfold RunTo;go_simp;exact ((HPL.out _ (ext_trans XA hx))).mono fun e w' h=>h.to
 simp only [Act.put,slA,slB,slC]
 obtain ⟨_,f6,d6,M6,rfl,hO6,hM6⟩:=hv6
 refine Rob.y (v:=?_) rfl rfl (fun w1 hx hH=>?_) ?_;rotate_left
 ·(have hE : Ext _ w1:=(by first | exact hx | exact hx.1);obtain ⟨z1,zf1⟩:=cellsK (keep_ext hE G1);obtain ⟨zc,zcf⟩:=cellsK (keep_ext hE GC));go_simp;first | done | rfl
 simp only [Act.put,slA,slB,slC]
 refine Rob.y (v:=?_) rfl rfl (fun w1 hx hH=>?_) ?_;rotate_left
 ·go_simp;first | done | rfl | exact (Bool.not_not _).symm
 simp only [Act.put,slA,slB,slC]
 refine fin_tail (fun w3 hx3 _=>?_)
 simp only [dstOf,List.getElem?_cons_succ,List.getElem?_cons_zero,Option.bind_some,Act.put,slA,slB,slC,List.filterMap_cons,List.filterMap_nil]
 obtain ⟨hx3,f',d',M,hfd,hO3,hM3⟩:=hx3
 injection hfd with hfd
 obtain ⟨rfl,rfl⟩ : f6 = f' ∧ d6 = d':=by simpa using hfd
 have GC3:=keep_ext hx3 GC
 have XW:=ext_trans XA hx3
 obtain ⟨z3,zf3⟩:=cellsK GC3
 obtain ⟨fa,fm,fc,da,dm,dc,rfl,rfl⟩:=hO3.forms
 have hM4 : ∀ b ∈ M,w.heap.size ≤ b:=fun b hb=>by have:=hM3 b hb;have:=XA.size;omega
 refine wpList_plain rfl (fun K hK=>?_)
 go_simp
 refine hK _ _ ?_
 clear hK K
 refine wpList_nil ?_
 go_wp2_with fail
 go_end0
 have hF : Fr C R w R ((w3.setCell ⟨C,0,none⟩ (.slice fa fm fc)).setCell ⟨C,1,none⟩ (.slice da dm dc)):=((Fr.of_ext XW).set 0 _).set 1 _
 refine ⟨rfl,R,hF,_,_,M,⟨p0,v0,hp0,hgo (hg_here (hg_here GC3)) rfl,?_,hv0⟩,hO3.keep (fun b hb=>?_),fun b hb=>⟨fun e=>by have:=hM4 b hb;omega,fun e=>by have:=hrl _ e;have:=hM4 b hb;omega⟩⟩
 ·refine hown.kept (row:=some C) ⟨hF.os,hF.tape,hF.output,hF.size,fun k hk hn=>?_⟩ (.inr (by rw [hv0];exact hne))
  have hkC : k ≠ C:=fun e=>hn (by rw [e])
  rw [Below.heap_setCell _ _ _ _ hkC,Below.heap_setCell _ _ _ _ hkC]
  exact XW.block k hk
 ·have hbC : b ≠ C:=fun e=>by have:=hM4 b hb;omega
  rw [Below.heap_setCell _ _ _ _ hbC,Below.heap_setCell _ _ _ _ hbC]
end Go.Bu
namespace Go.Bu
open Go Go.RowKit Go.Plan Go.Proofs
theorem numF_le : ∀ (s : Str) (n : Int),0 ≤ n → -1 ≤ numF n s ∧ numF n s ≤ (n + 1) * 10 ^ s.length - 1
 | [],n,h=>by unfold numF;simp;omega
 | x :: s,n,h=>by
  unfold numF
  have hp : (0 : Int) < 10 ^ s.length:=Int.pow_pos (by decide)
  have e : (n + 1) * 10 ^ (x :: s).length = (10 * n + 10) * 10 ^ s.length:=by rw [List.length_cons,Int.pow_succ];rw [show (10 * n + 10 : Int) = (n + 1) * 10 by omega,Int.mul_assoc,Int.mul_comm (10 ^ s.length) 10]
  split
  ·refine ⟨by omega,?_⟩
   rw [e]
   have : 0 < (10 * n + 10) * (10 : Int) ^ s.length:=Int.mul_pos (by omega) hp
   omega
  ·rename_i hx
   have ih:=numF_le s (10 * n + ((x.toNat : Int) - 48)) (by omega)
   refine ⟨ih.1,Int.le_trans ih.2 ?_⟩
   rw [e]
   have : (10 * n + ((x.toNat : Int) - 48) + 1) * (10 : Int) ^ s.length ≤ (10 * n + 10) * 10 ^ s.length:=Int.mul_le_mul_of_nonneg_right (by omega) (Int.le_of_lt hp)
   omega
theorem numB_le (s : Str) : -1 ≤ numB s ∧ numB s ≤ 999:=by
 unfold numB
 split
 ·omega
 ·have h:=numF_le s 0 (by omega)
  have hl : s.length ≤ 3:=by omega
  have : (10 : Int) ^ s.length ≤ 1000:=by rcases (show s.length = 0 ∨ s.length = 1 ∨ s.length = 2 ∨ s.length = 3 by omega) with h | h | h | h <;> rw [h] <;> decide
  omega
theorem atS_le (ws : List Str) (k : Nat) : -1 ≤ atS ws k ∧ atS ws k ≤ 999:=by rw [atS_word];exact numB_le _
theorem OwnFlash.flashD {w : World} {v : Value} {f : List Block} {B : Nat} {bs : List Nat} (h : OwnFlash w v f B bs) (D : Nat → Prop) (hD : ∀ b ∈ B :: bs,D b) : Flash D w v f:=by
 obtain ⟨rows,⟨T,o,cap,hv,c,hc,hi⟩,h2,h3,h4⟩:=h
 refine ⟨some ⟨B,o,none⟩,f.length + cap,by rw [hv,h2],fun i x hx=>?_⟩
 have hil : i < f.length:=(List.getElem?_eq_some_iff.1 hx).1
 obtain ⟨h5,h6⟩:=h4 i x rows[i] bs[i] hx (List.getElem?_eq_getElem (by omega)) (List.getElem?_eq_getElem (by omega))
 refine ⟨B,o,rowC rows[i],rfl,hD B (by simp),⟨rows[i].1,by rw [← h5],?_⟩,fun j u hu=>?_⟩
 ·obtain ⟨T',h7⟩:=h6
  exact h7.sl (hD _ (List.mem_cons_of_mem _ (List.getElem_mem _)))
 ·rw [cell_block hc]
  exact hi i rows[i] (List.getElem?_eq_getElem (by omega)) j u hu
theorem OwnStore.offs {C : Nat} {R : Option Nat} {w : World} {f d : Value} {s : Store} {L : List Nat} (h : OwnStore w f d s L) (hL : ∀ b ∈ L,b ≠ C ∧ R ≠ some b) : Flash (Off C R w) w f s.flash ∧ Ints (Off C R w) w d s.disk:=by
 have hlt:=h.lt
 obtain ⟨B,bs,D,rfl,h1,T,h2⟩:=h
 exact ⟨h1.flashD _ fun b hb=>⟨hlt b (by simp at hb ⊢;rcases hb with h | h <;> simp [h]),hL b (by simp at hb ⊢;rcases hb with h | h <;> simp [h])⟩,h2.sl ⟨hlt D (by simp),hL D (by simp)⟩⟩
theorem disk_tiny {s : Store} (h : storeOkB s = true) : ∀ n ∈ s.disk,0 ≤ n ∧ n < 100:=fun n hn=>by
 obtain ⟨k,hk,rfl⟩:=List.mem_iff_getElem.1 hn
 have:=((storeOk_iff.1 h).disk k _ (List.getElem?_eq_getElem hk)).val
 exact ⟨by omega,by omega⟩
theorem dirtyL_tiny (s : Store) : ∀ n ∈ dirtyL s,0 ≤ n ∧ n < 100:=fun n hn=>by
 obtain ⟨k,hk,rfl⟩:=List.mem_map.1 hn
 have:=(List.mem_filter.1 hk).1
 have : k < 6:=by
  have h : ∀ k ∈ addrs6,k < 6:=by decide
  exact h k this
 exact ⟨by omega,by omega⟩
def ObeyQ (C : Nat) (R : Option Nat) (w : World) (s : Store) (bs l : Str) (e : Ending) (w' : World) : Prop:=
 BRetS C R w (lineDo s l).1 (bs ++ (lineDo s l).2) e w' ∨ (lineDo s l = (s,wWhat) ∧ (∃ x,e = .panicked [{ v:=.iface 70 (.agg #[.string x]),recovered:=false }]) ∧ ∃ R',Fr C R w R' w' ∧ ConS C w' s bs R')
set_option maxRecDepth 20000 in
set_option maxHeartbeats 8000000 in
theorem obey_c (C : Nat) (s : Store) (bs l : Str) (R : Option Nat) (w : World) (m : Int) (h : ConS C w s bs R) (hok : storeOkB s = true) (hw : ∀ b ∈ s.flash,b.worn ≤ 75) (hm : w.cell? ⟨1,0,none⟩ = some (.int .i64 m)) (hl : l.length ≤ 1000) (hb : bs.length ≤ 400000) :
  Calls Tryz.prog 42 #[.pointer (some ⟨C,0,none⟩),strV l] w (ObeyQ C R w s bs l):=by
 have hsp:=split_c l 32 (by omega) m w hm
 have hcl : (cut 32 l).length ≤ 1000000:=by have:=cut_len 32 l;omega
 have hsz:=cut_size 32 l
 have hwl : ∀ k,(wordS (cut 32 l) k).length ≤ 1000000:=fun k=>by
  unfold wordS
  cases hk : (cut 32 l)[k]? with
  | none=>simp
  | some x =>
   have:=piece_len (cut 32 l) x (List.mem_of_getElem? hk)
   simp;omega
 have hat:=fun (k : Nat) (hk : k ≤ 100) (v : Value) (w' : World) (hs : Strs (Old w') w' v (cut 32 l))=>numberAt_c v (cut 32 l) k hk hcl (hwl k) w' hs
 have hpl:=fun (ev : Event) (w' : World) (hs : ConS C w' s bs R) (hc : -1 ≤ ev.c ∧ ev.c ≤ 999)=>play_c C s bs R ev w' hs hok ⟨by omega,by omega⟩
 have hAL:=fun k=>atS_le (cut 32 l) k
 have HS:=Lib.hid h;have HSP:=Lib.hid hsp;have HAT:=Lib.hid hat;have HPL:=Lib.hid hpl;have HAL:=Lib.hid hAL;have HOK:=Lib.hid hok;have HW:=Lib.hid hw
 clear h hsp hat hpl hAL hok hw hm hcl hwl hsz
 obtain ⟨w0,rest,hcw⟩ : ∃ w0 rest,cut 32 l = w0 :: rest:=by
  cases hh : cut 32 l with
  | nil=>exact absurd hh (cut_ne 32 l)
  | cons a b=>exact ⟨a,b,rfl⟩
 unfold ObeyQ lineDo
 rw [hcw] at HSP HAT HAL ⊢
 clear hcw hl
 obtain ⟨n,hn⟩ : ∃ n,rest.length + 1 = n:=⟨_,rfl⟩
 have hn0 : 0 < n:=by omega
 have hw0 : ∀ (v : Value) (w' : World),Strs (Old w') w' v (w0 :: rest) → ∃ b o cap,v = .slice (some ⟨b,o,none⟩) n cap ∧ b < w'.heap.size ∧ w'.cell? ⟨b,o,none⟩ = some (.string ⟨w0.toArray⟩):=by
  intro v w' hs
  obtain ⟨a,cap,rfl⟩:=hs.form
  obtain ⟨b,o,rfl,hb,hc⟩:=hs.at1 (k:=0) (by simp)
  exact ⟨b,o,cap,by rw [← hn];rfl,hb,hc⟩
 have HW0:=Lib.hid hw0;clear hw0 hn
 obtain ⟨a1,ha1⟩ : ∃ a,atS (w0 :: rest) 1 = a:=⟨_,rfl⟩
 obtain ⟨a2,ha2⟩ : ∃ a,atS (w0 :: rest) 2 = a:=⟨_,rfl⟩
 obtain ⟨a3,ha3⟩ : ∃ a,atS (w0 :: rest) 3 = a:=⟨_,rfl⟩
 have hAt1:=fun v w' hs=>HAT.out 1 (by omega) v w' hs
 have hAt2:=fun v w' hs=>HAT.out 2 (by omega) v w' hs
 have hAt3:=fun v w' hs=>HAT.out 3 (by omega) v w' hs
 have hA3:=HAL.out 3
 rw [ha1] at hAt1;rw [ha2] at hAt2;rw [ha3] at hAt3 hA3
 have HA1:=Lib.hid hAt1;have HA2:=Lib.hid hAt2;have HA3:=Lib.hid hAt3
 clear HAT HAL hAt1 hAt2 hAt3
 by_cases c1 : w0 = wPut
 ·rw [wd1 s (ws:=w0 :: rest) c1]
  unfold evPut
  rw [ha1,ha2]
  have hq1 : (w0 == [112,117,116]) = true:=by rw [c1];rfl
  clear c1
  go_enter Tryz.func42,Tryz.ntmps42
  go_wp2_with fail
  refine HSP.out.mono ?_;rintro e1 w1 ⟨v1,rfl,hx1,hS1⟩
  have hS1' : Strs (Old w1) w1 v1 (w0 :: rest):=Sl.same (plain_kept _) hS1 (fun _ _=>rfl) fun b hb=>hb.2
  obtain ⟨wb,wo,wc,rfl,hwb,c0⟩:=HW0.out _ _ hS1'
  have HS1:=Lib.hid hS1'
  clear hS1 hS1'
  go_wp2_with fail
  refine (HA1.out _ _ HS1.out).mono ?_;rintro e2 w2 ⟨rfl,hx2⟩
  have HS2:=Lib.hid (HS1.out.ext hx2)
  replace c0:=cell_ext hx2 c0
  have X2:=ext_trans hx1 hx2
  clear hx1 hx2 HS1 hwb
  go_wp2_with fail
  refine (HA2.out _ _ HS2.out).mono ?_;rintro e3 w3 ⟨rfl,hx3⟩
  have HS3:=Lib.hid (HS2.out.ext hx3)
  replace c0:=cell_ext hx3 c0
  have X3:=ext_trans X2 hx3
  clear hx3 HS2 X2
  go_wp2_with fail
  refine (HPL.out ⟨1,a1,a2,60,false⟩ _ (HS.out.ext X3) (by dsimp only;omega)).mono ?_;rintro e5 w5 ⟨rfl,R5,hF5,hS5⟩
  have HF5:=Lib.hid ((Fr.of_ext X3 (C:=C) (R:=R)).trans hF5);have HS5:=Lib.hid hS5
  clear hF5 hS5
  go_wp2_with fail
  go_end0
  exact .inl ⟨rfl,R5,HF5.out,by rw [List.append_nil];exact HS5.out⟩
 have hq1 : (w0 == [112,117,116]) = false:=beq_eq_false_iff_ne.2 c1
 by_cases c2 : w0 = wFall
 ·rw [wd2 s (ws:=w0 :: rest) c1 c2]
  unfold evFall
  rw [ha1,ha2,ha3]
  have hq2 : (w0 == [102,97,108,108]) = true:=by rw [c2];rfl
  have hq3 : (w0 == [102,108,117,115,104]) = false:=by rw [c2];rfl
  have hq4 : (w0 == [102,105,108,108]) = false:=by rw [c2];rfl
  clear c1 c2
  go_enter Tryz.func42,Tryz.ntmps42
  go_wp2_with fail
  refine HSP.out.mono ?_;rintro e1 w1 ⟨v1,rfl,hx1,hS1⟩
  have hS1' : Strs (Old w1) w1 v1 (w0 :: rest):=Sl.same (plain_kept _) hS1 (fun _ _=>rfl) fun b hb=>hb.2
  obtain ⟨wb,wo,wc,rfl,hwb,c0⟩:=HW0.out _ _ hS1'
  have HS1:=Lib.hid hS1'
  clear hS1 hS1'
  go_wp2_with fail
  refine (HA1.out _ _ HS1.out).mono ?_;rintro e2 w2 ⟨rfl,hx2⟩
  have HS2:=Lib.hid (HS1.out.ext hx2)
  replace c0:=cell_ext hx2 c0
  have X2:=ext_trans hx1 hx2
  clear hx1 hx2 HS1 hwb
  go_wp2_with fail
  refine (HA2.out _ _ HS2.out).mono ?_;rintro e3 w3 ⟨rfl,hx3⟩
  have HS3:=Lib.hid (HS2.out.ext hx3)
  replace c0:=cell_ext hx3 c0
  have X3:=ext_trans X2 hx3
  clear hx3 HS2 X2
  go_wp2_with fail
  refine (HA3.out _ _ HS3.out).mono ?_;rintro e4 w4 ⟨rfl,hx4⟩
  replace X3:=ext_trans X3 hx4
  clear hx4
  go_wp2_with fail
  refine (HPL.out ⟨1,a1,a2,a3,true⟩ _ (HS.out.ext X3) (by dsimp only;omega)).mono ?_;rintro e5 w5 ⟨rfl,R5,hF5,hS5⟩
  have HF5:=Lib.hid ((Fr.of_ext X3 (C:=C) (R:=R)).trans hF5);have HS5:=Lib.hid hS5
  clear hF5 hS5
  go_wp2_with fail
  go_end0
  exact .inl ⟨rfl,R5,HF5.out,by rw [List.append_nil];exact HS5.out⟩
 have hq2 : (w0 == [102,97,108,108]) = false:=beq_eq_false_iff_ne.2 c2
 by_cases c3 : w0 = wFlush
 ·rw [wd3 s (ws:=w0 :: rest) c1 c2 c3]
  unfold evFlush
  rw [ha1]
  have hq3 : (w0 == [102,108,117,115,104]) = true:=by rw [c3];rfl
  clear c1 c2 c3
  go_enter Tryz.func42,Tryz.ntmps42
  go_wp2_with fail
  refine HSP.out.mono ?_;rintro e1 w1 ⟨v1,rfl,hx1,hS1⟩
  have hS1' : Strs (Old w1) w1 v1 (w0 :: rest):=Sl.same (plain_kept _) hS1 (fun _ _=>rfl) fun b hb=>hb.2
  obtain ⟨wb,wo,wc,rfl,hwb,c0⟩:=HW0.out _ _ hS1'
  have HS1:=Lib.hid hS1'
  clear hS1 hS1'
  go_wp2_with fail
  refine (HA1.out _ _ HS1.out).mono ?_;rintro e2 w2 ⟨rfl,hx2⟩
  have HS2:=Lib.hid (HS1.out.ext hx2)
  replace c0:=cell_ext hx2 c0
  have X2:=ext_trans hx1 hx2
  clear hx1 hx2 HS1 hwb
  go_wp2_with fail
  refine (HA2.out _ _ HS2.out).mono ?_;rintro e3 w3 ⟨rfl,hx3⟩
  have HS3:=Lib.hid (HS2.out.ext hx3)
  replace c0:=cell_ext hx3 c0
  have X3:=ext_trans X2 hx3
  clear hx3 HS2 X2
  go_wp2_with fail
  refine (HPL.out ⟨2,a1,0,60,false⟩ _ (HS.out.ext X3) (by dsimp only;omega)).mono ?_;rintro e5 w5 ⟨rfl,R5,hF5,hS5⟩
  have HF5:=Lib.hid ((Fr.of_ext X3 (C:=C) (R:=R)).trans hF5);have HS5:=Lib.hid hS5
  clear hF5 hS5
  go_wp2_with fail
  go_end0
  exact .inl ⟨rfl,R5,HF5.out,by rw [List.append_nil];exact HS5.out⟩
 have hq3 : (w0 == [102,108,117,115,104]) = false:=beq_eq_false_iff_ne.2 c3
 by_cases c4 : w0 = wFill
 ·rw [wd4 s (ws:=w0 :: rest) c1 c2 c3 c4]
  unfold evFill
  rw [ha1]
  have hq4 : (w0 == [102,105,108,108]) = true:=by rw [c4];rfl
  clear c1 c2 c3 c4
  go_enter Tryz.func42,Tryz.ntmps42
  go_wp2_with fail
  refine HSP.out.mono ?_;rintro e1 w1 ⟨v1,rfl,hx1,hS1⟩
  have hS1' : Strs (Old w1) w1 v1 (w0 :: rest):=Sl.same (plain_kept _) hS1 (fun _ _=>rfl) fun b hb=>hb.2
  obtain ⟨wb,wo,wc,rfl,hwb,c0⟩:=HW0.out _ _ hS1'
  have HS1:=Lib.hid hS1'
  clear hS1 hS1'
  go_wp2_with fail
  refine (HA1.out _ _ HS1.out).mono ?_;rintro e2 w2 ⟨rfl,hx2⟩
  have HS2:=Lib.hid (HS1.out.ext hx2)
  replace c0:=cell_ext hx2 c0
  have X2:=ext_trans hx1 hx2
  clear hx1 hx2 HS1 hwb
  go_wp2_with fail
  refine (HA2.out _ _ HS2.out).mono ?_;rintro e3 w3 ⟨rfl,hx3⟩
  have HS3:=Lib.hid (HS2.out.ext hx3)
  replace c0:=cell_ext hx3 c0
  have X3:=ext_trans X2 hx3
  clear hx3 HS2 X2
  go_wp2_with fail
  refine (HPL.out ⟨3,a1,0,60,false⟩ _ (HS.out.ext X3) (by dsimp only;omega)).mono ?_;rintro e5 w5 ⟨rfl,R5,hF5,hS5⟩
  have HF5:=Lib.hid ((Fr.of_ext X3 (C:=C) (R:=R)).trans hF5);have HS5:=Lib.hid hS5
  clear hF5 hS5
  go_wp2_with fail
  go_end0
  exact .inl ⟨rfl,R5,HF5.out,by rw [List.append_nil];exact HS5.out⟩
 have hq4 : (w0 == [102,105,108,108]) = false:=beq_eq_false_iff_ne.2 c4
 by_cases c5 : w0 = wAll
 ·rw [wd5 s (ws:=w0 :: rest) c1 c2 c3 c4 c5]
  have hq5 : (w0 == [97,108,108]) = true:=by rw [c5];rfl
  clear c1 c2 c3 c4 c5
  rw [show playAllS s = playDoS s ⟨4,0,0,0,false⟩ from rfl]
  go_enter Tryz.func42,Tryz.ntmps42
  go_wp2_with fail
  refine HSP.out.mono ?_;rintro e1 w1 ⟨v1,rfl,hx1,hS1⟩
  have hS1' : Strs (Old w1) w1 v1 (w0 :: rest):=Sl.same (plain_kept _) hS1 (fun _ _=>rfl) fun b hb=>hb.2
  obtain ⟨wb,wo,wc,rfl,hwb,c0⟩:=HW0.out _ _ hS1'
  have HS1:=Lib.hid hS1'
  clear hS1 hS1'
  go_wp2_with fail
  refine (HA1.out _ _ HS1.out).mono ?_;rintro e2 w2 ⟨rfl,hx2⟩
  have HS2:=Lib.hid (HS1.out.ext hx2)
  replace c0:=cell_ext hx2 c0
  have X2:=ext_trans hx1 hx2
  clear hx1 hx2 HS1 hwb
  go_wp2_with fail
  refine (HA2.out _ _ HS2.out).mono ?_;rintro e3 w3 ⟨rfl,hx3⟩
  have HS3:=Lib.hid (HS2.out.ext hx3)
  replace c0:=cell_ext hx3 c0
  have X3:=ext_trans X2 hx3
  clear hx3 HS2 X2
  go_wp2_with fail
  refine (HPL.out ⟨4,0,0,0,false⟩ _ (HS.out.ext X3) (by dsimp only;omega)).mono ?_;rintro e5 w5 ⟨rfl,R5,hF5,hS5⟩
  have HF5:=Lib.hid ((Fr.of_ext X3 (C:=C) (R:=R)).trans hF5);have HS5:=Lib.hid hS5
  clear hF5 hS5
  go_wp2_with fail
  go_end0
  exact .inl ⟨rfl,R5,HF5.out,by rw [List.append_nil];exact HS5.out⟩
 have hq5 : (w0 == [97,108,108]) = false:=beq_eq_false_iff_ne.2 c5
 by_cases c6 : w0 = wSee
 ·rw [wd6 s (ws:=w0 :: rest) c1 c2 c3 c4 c5 c6]
  have hq6 : (w0 == [115,101,101]) = true:=by rw [c6];rfl
  clear c1 c2 c3 c4 c5 c6
  go_enter Tryz.func42,Tryz.ntmps42
  go_wp2_with fail
  refine HSP.out.mono ?_;rintro e1 w1 ⟨v1,rfl,hx1,hS1⟩
  have hS1' : Strs (Old w1) w1 v1 (w0 :: rest):=Sl.same (plain_kept _) hS1 (fun _ _=>rfl) fun b hb=>hb.2
  obtain ⟨wb,wo,wc,rfl,hwb,c0⟩:=HW0.out _ _ hS1'
  have HS1:=Lib.hid hS1'
  clear hS1 hS1'
  go_wp2_with fail
  refine (HA1.out _ _ HS1.out).mono ?_;rintro e2 w2 ⟨rfl,hx2⟩
  have HS2:=Lib.hid (HS1.out.ext hx2)
  replace c0:=cell_ext hx2 c0
  have X2:=ext_trans hx1 hx2
  clear hx1 hx2 HS1 hwb
  go_wp2_with fail
  refine (HA2.out _ _ HS2.out).mono ?_;rintro e3 w3 ⟨rfl,hx3⟩
  have HS3:=Lib.hid (HS2.out.ext hx3)
  replace c0:=cell_ext hx3 c0
  have X3:=ext_trans X2 hx3
  clear hx3 HS2 X2
  obtain ⟨f,d,L,hK,hO,hL⟩:=HS.out.ext X3
  have hoff:=(OwnStore.offs hO hL).1
  have hsee:=see_c C f d bs R s.flash w3 hK hoff (flashT_of HOK.out HW.out) (by omega)
  have HSE:=Lib.hid hsee;have HO:=Lib.hid hO;have HL:=Lib.hid hL
  clear hoff hsee hO hL hK
  go_wp2_with fail
  refine HSE.out.mono ?_;rintro e5 w5 ⟨rfl,R5,hF5,hC5⟩
  have HF5:=Lib.hid hF5;have HC5:=Lib.hid hC5
  clear hF5 hC5
  go_wp2_with fail
  go_end0
  obtain ⟨hO5,hL5⟩:=OwnStore.fr HO.out HL.out HF5.out
  exact .inl ⟨rfl,R5,(Fr.of_ext X3).trans HF5.out,f,d,L,HC5.out,hO5,hL5⟩
 have hq6 : (w0 == [115,101,101]) = false:=beq_eq_false_iff_ne.2 c6
 by_cases c7 : w0 = wDisk
 ·rw [wd7 s (ws:=w0 :: rest) c1 c2 c3 c4 c5 c6 c7]
  have hq7 : (w0 == [100,105,115,107]) = true:=by rw [c7];rfl
  clear c1 c2 c3 c4 c5 c6 c7
  go_enter Tryz.func42,Tryz.ntmps42
  go_wp2_with fail
  refine HSP.out.mono ?_;rintro e1 w1 ⟨v1,rfl,hx1,hS1⟩
  have hS1' : Strs (Old w1) w1 v1 (w0 :: rest):=Sl.same (plain_kept _) hS1 (fun _ _=>rfl) fun b hb=>hb.2
  obtain ⟨wb,wo,wc,rfl,hwb,c0⟩:=HW0.out _ _ hS1'
  have HS1:=Lib.hid hS1'
  clear hS1 hS1'
  go_wp2_with fail
  refine (HA1.out _ _ HS1.out).mono ?_;rintro e2 w2 ⟨rfl,hx2⟩
  have HS2:=Lib.hid (HS1.out.ext hx2)
  replace c0:=cell_ext hx2 c0
  have X2:=ext_trans hx1 hx2
  clear hx1 hx2 HS1 hwb
  go_wp2_with fail
  refine (HA2.out _ _ HS2.out).mono ?_;rintro e3 w3 ⟨rfl,hx3⟩
  have HS3:=Lib.hid (HS2.out.ext hx3)
  replace c0:=cell_ext hx3 c0
  have X3:=ext_trans X2 hx3
  clear hx3 HS2 X2
  obtain ⟨f,d,L,hK,hO,hL⟩:=HS.out.ext X3
  have hoff:=(OwnStore.offs hO hL).2
  have hsee:=list_c C f d bs wDisk R d s.disk w3 hK hoff (disk_tiny HOK.out) (by have:=storeOk_disk HOK.out;omega) (by have : wDisk.length = 4:=rfl;omega)
  obtain ⟨p0,v0,_,hC,_⟩:=hK
  obtain ⟨zc,zf⟩:=cellsK hC
  obtain ⟨fa,fm,fc,da,dm,dc,rfl,rfl⟩:=hO.forms
  have HSE:=Lib.hid hsee;have HO:=Lib.hid hO;have HL:=Lib.hid hL
  clear hoff hsee hO hL hC
  go_wp2_with fail
  refine HSE.out.mono ?_;rintro e5 w5 ⟨rfl,R5,hF5,hC5⟩
  have HF5:=Lib.hid hF5;have HC5:=Lib.hid hC5
  clear hF5 hC5
  go_wp2_with fail
  go_end0
  obtain ⟨hO5,hL5⟩:=OwnStore.fr HO.out HL.out HF5.out
  exact .inl ⟨rfl,R5,(Fr.of_ext X3).trans HF5.out,_,_,L,HC5.out,hO5,hL5⟩
 have hq7 : (w0 == [100,105,115,107]) = false:=beq_eq_false_iff_ne.2 c7
 by_cases c8 : w0 = wDirty
 ·rw [wd8 s (ws:=w0 :: rest) c1 c2 c3 c4 c5 c6 c7 c8]
  have hq8 : (w0 == [100,105,114,116,121]) = true:=by rw [c8];rfl
  clear c1 c2 c3 c4 c5 c6 c7 c8
  go_enter Tryz.func42,Tryz.ntmps42
  go_wp2_with fail
  refine HSP.out.mono ?_;rintro e1 w1 ⟨v1,rfl,hx1,hS1⟩
  have hS1' : Strs (Old w1) w1 v1 (w0 :: rest):=Sl.same (plain_kept _) hS1 (fun _ _=>rfl) fun b hb=>hb.2
  obtain ⟨wb,wo,wc,rfl,hwb,c0⟩:=HW0.out _ _ hS1'
  have HS1:=Lib.hid hS1'
  clear hS1 hS1'
  go_wp2_with fail
  refine (HA1.out _ _ HS1.out).mono ?_;rintro e2 w2 ⟨rfl,hx2⟩
  have HS2:=Lib.hid (HS1.out.ext hx2)
  replace c0:=cell_ext hx2 c0
  have X2:=ext_trans hx1 hx2
  clear hx1 hx2 HS1 hwb
  go_wp2_with fail
  refine (HA2.out _ _ HS2.out).mono ?_;rintro e3 w3 ⟨rfl,hx3⟩
  have HS3:=Lib.hid (HS2.out.ext hx3)
  replace c0:=cell_ext hx3 c0
  have X3:=ext_trans X2 hx3
  clear hx3 HS2 X2
  obtain ⟨f,d,L,hK,hO,hL⟩:=HS.out.ext X3
  have hsd:=implStoreDirty_c f d s w3 hO.v HOK.out
  have HK:=Lib.hid hK
  have hlt:=hK.lt
  have hrw:=hK.row
  obtain ⟨p0,v0,_,hC,_⟩:=hK
  obtain ⟨zc,zf⟩:=cellsK hC
  obtain ⟨fa,fm,fc,da,dm,dc,rfl,rfl⟩:=hO.forms
  have HSD:=Lib.hid hsd
  clear hsd hC
  go_wp2_with fail
  refine HSD.out.mono ?_;rintro e4 w4 ⟨v4,rfl,hx4,hI4⟩
  have hsee:=list_c C _ _ bs wDirty R v4 (dirtyL s) w4 (HK.out.ext hx4) (hI4.off hlt hrw) (dirtyL_tiny s) (by have:=(dirtyL_small s).2;omega) (by have : wDirty.length = 5:=rfl;omega)
  have HSE:=Lib.hid hsee;have HO:=Lib.hid (hO.ext hx4);have HL:=Lib.hid hL
  replace X3:=ext_trans X3 hx4
  clear hsee hx4 hI4 hO hL zc zf
  go_wp2_with fail
  refine HSE.out.mono ?_;rintro e5 w5 ⟨rfl,R5,hF5,hC5⟩
  have HF5:=Lib.hid hF5;have HC5:=Lib.hid hC5
  clear hF5 hC5
  go_wp2_with fail
  go_end0
  obtain ⟨hO5,hL5⟩:=OwnStore.fr HO.out HL.out HF5.out
  exact .inl ⟨rfl,R5,(Fr.of_ext X3).trans HF5.out,_,_,L,HC5.out,hO5,hL5⟩
 have hq8 : (w0 == [100,105,114,116,121]) = false:=beq_eq_false_iff_ne.2 c8
 rw [wd9 s (ws:=w0 :: rest) c1 c2 c3 c4 c5 c6 c7 c8]
 clear c1 c2 c3 c4 c5 c6 c7 c8
 go_enter Tryz.func42,Tryz.ntmps42
 go_wp2_with fail
 refine HSP.out.mono ?_;rintro e1 w1 ⟨v1,rfl,hx1,hS1⟩
 have hS1' : Strs (Old w1) w1 v1 (w0 :: rest):=Sl.same (plain_kept _) hS1 (fun _ _=>rfl) fun b hb=>hb.2
 obtain ⟨wb,wo,wc,rfl,hwb,c0⟩:=HW0.out _ _ hS1'
 have HS1:=Lib.hid hS1'
 clear hS1 hS1'
 go_wp2_with fail
 refine (HA1.out _ _ HS1.out).mono ?_;rintro e2 w2 ⟨rfl,hx2⟩
 have HS2:=Lib.hid (HS1.out.ext hx2)
 replace c0:=cell_ext hx2 c0
 have X2:=ext_trans hx1 hx2
 clear hx1 hx2 HS1 hwb
 go_wp2_with fail
 refine (HA2.out _ _ HS2.out).mono ?_;rintro e3 w3 ⟨rfl,hx3⟩
 have HS3:=Lib.hid (HS2.out.ext hx3)
 replace c0:=cell_ext hx3 c0
 have X3:=ext_trans X2 hx3
 clear hx3 HS2 X2
 go_wp2_with fail
 have hpn : ∀ w : World,(Instr.panic (.iface 70 (.agg #[.string ⟨w0.toArray⟩]))).run Tryz.prog w = .halt (.panic (.iface 70 (.agg #[.string ⟨w0.toArray⟩]))) w:=fun _=>rfl
 rw [hpn]
 simp only [Result.andThen]
 rw [Oper.upon_panic]
 go_wp2_with fail
 exact ⟨rfl,.inr ⟨trivial,⟨_,rfl⟩,R,Fr.of_ext X3,HS.out.ext X3⟩⟩
end Go.Bu