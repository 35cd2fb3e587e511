/- The console's builder: (*strings.Builder).copyCheck, WriteString, String at the console's third cell. -/import Derived.Test.YtoekfnjeceijaaaGreatDoorZ9
import Derived.Lib.FrozenHead
import Derived.Lib.Builder
import Derived.Lib.UnsafeStr
import Derived.Laws.Externs
set_option maxHeartbeats 2000000
set_option linter.unusedVariables false
set_option linter.unusedSimpArgs false
namespace Go.Bu
open Go Go.RowKit Go.Plan Go.Proofs
structure Fr (C : Nat) (R : Option Nat) (w : World) (R' : Option Nat) (w' : World) : Prop where
 os : w'.os = w.os
 tape : w'.tape = w.tape
 output : w'.output = w.output
 size : w.heap.size ≤ w'.heap.size
 block : ∀ k,k < w.heap.size → k ≠ C → some k ≠ R → w'.heap[k]? = w.heap[k]?
 row : ∀ g,R' = some g → R = some g ∨ w.heap.size ≤ g
theorem Fr.refl (C : Nat) (R : Option Nat) (w : World) : Fr C R w R w:=⟨rfl,rfl,rfl,Nat.le_refl _,fun _ _ _ _=>rfl,fun _ h=>.inl h⟩
theorem Fr.trans {C : Nat} {R R1 R2 : Option Nat} {w w1 w2 : World} (h : Fr C R w R1 w1) (k : Fr C R1 w1 R2 w2) : Fr C R w R2 w2:=
 ⟨k.os.trans h.os,k.tape.trans h.tape,k.output.trans h.output,Nat.le_trans h.size k.size,
  fun i hi hc hr=>(k.block i (Nat.lt_of_lt_of_le hi h.size) hc fun e=>by rcases h.row i e.symm with e2 | e2;exact hr e2.symm;omega).trans (h.block i hi hc hr),
  fun g hg=>by rcases k.row g hg with e | e;exact h.row g e;exact .inr (Nat.le_trans h.size e)⟩
theorem Fr.of_ext {C : Nat} {R : Option Nat} {w w' : World} (h : Ext w w') : Fr C R w R w':=⟨h.os,h.tape,h.output,h.size,fun k hk _ _=>h.block k hk,fun _ h=>.inl h⟩
theorem Fr.set {C : Nat} {R R' : Option Nat} {w w' : World} (h : Fr C R w R' w') (o : Nat) (u : Value) : Fr C R w R' (w'.setCell ⟨C,o,none⟩ u):=
 ⟨h.os,h.tape,h.output,by rw [setCell_size];exact h.size,fun k hk hc hr=>by rw [Below.heap_setCell _ _ _ _ (fun e=>hc e)];exact h.block k hk hc hr,h.row⟩
theorem Fr.keep {C : Nat} {R R' : Option Nat} {w w' : World} {b : Nat} {o : Obj} (h : Fr C R w R' w') (hb : w.heap[b]? = some o) (hc : b ≠ C) (hr : R ≠ some b) : w'.heap[b]? = some o:=by
 rw [h.block b (heap_lt hb) hc fun e=>hr e.symm];exact hb
theorem Fr.ext {C : Nat} {R' : Option Nat} {w0 w w' : World} (h : Fr C none w R' w') (hx : Ext w0 w) (hC : w0.heap.size ≤ C) : Ext w0 w':=
 hx.trans ⟨h.os,h.tape,h.output,h.size,fun k hk=>h.block k (Nat.lt_of_lt_of_le hk hx.size) (by omega) (by simp)⟩
abbrev tCon : Nat:=48
abbrev tU8 : Nat:=5
def Con (C : Nat) (w : World) (f d : Value) (bs : Str) (R : Option Nat) : Prop:=
 ∃ p v,(p = .pointer none ∨ p = .pointer (some ⟨C,2,none⟩)) ∧ w.heap[C]? = some (.cells #[f,d,p,v] tCon (0,0)) ∧ w.ownsRowF 0 tU8 1 v bs.length (Lib.byteCells bs) ∧ v.ownBlock = R
def ConU (C : Nat) (w : World) (f d : Value) (bs : Str) (R : Option Nat) : Prop:=
 ∃ v,w.heap[C]? = some (.cells #[f,d,.pointer (some ⟨C,2,none⟩),v] tCon (0,0)) ∧ w.ownsRowF 0 tU8 1 v bs.length (Lib.byteCells bs) ∧ v.ownBlock = R
theorem ConU.con {C : Nat} {w : World} {f d : Value} {bs : Str} {R : Option Nat} (h : ConU C w f d bs R) : Con C w f d bs R:=by
 obtain ⟨v,h1,h2,h3⟩:=h;exact ⟨_,v,.inr rfl,h1,h2,h3⟩
theorem Con.lt {C : Nat} {w : World} {f d : Value} {bs : Str} {R : Option Nat} (h : Con C w f d bs R) : C < w.heap.size:=by
 obtain ⟨p,v,_,h1,_⟩:=h;exact heap_lt h1
theorem Con.ne {C : Nat} {w : World} {f d : Value} {bs : Str} {R : Option Nat} (h : Con C w f d bs R) : R ≠ some C:=by
 obtain ⟨p,v,_,h1,h2,h3⟩:=h
 rw [← h3];exact Lib.ownBlock_neF h2 h1 (by decide)
theorem Con.row {C : Nat} {w : World} {f d : Value} {bs : Str} {R : Option Nat} (h : Con C w f d bs R) : ∀ g,R = some g → g < w.heap.size:=by
 obtain ⟨p,v,_,h1,h2,h3⟩:=h
 intro g hg;exact (h2.lt g (h3.trans hg)).2
theorem extGrown {w w' : World} (h : Ext w w') : w.grownBy w' none:=⟨h.os,h.tape,h.output,h.size,fun k hk _=>h.block k hk⟩
theorem Con.ext {C : Nat} {w w' : World} {f d : Value} {bs : Str} {R : Option Nat} (h : Con C w f d bs R) (hx : Ext w w') : Con C w' f d bs R:=by
 obtain ⟨p,v,h0,h1,h2,h3⟩:=h
 exact ⟨p,v,h0,keep_ext hx h1,h2.kept (extGrown hx) (by cases v.ownBlock <;> simp),h3⟩
def BRet (C : Nat) (R : Option Nat) (w : World) (f d : Value) (bs : Str) (e : Ending) (w' : World) : Prop:=e = .returned (.tuple #[]) ∧ ∃ R',Fr C R w R' w' ∧ Con C w' f d bs R'
set_option maxRecDepth 20000 in
set_option maxHeartbeats 2000000 in
theorem copyCheck_c (C : Nat) (f d : Value) (bs : Str) (R : Option Nat) (w : World) (h : Con C w f d bs R) :
  Calls Tryz.prog 55 #[.pointer (some ⟨C,2,none⟩)] w fun e w'=>e = .returned (.tuple #[]) ∧ Fr C R w R w' ∧ ConU C w' f d bs R:=by
 have hz : (Tryz.prog.info? 46).map (·.size) = some 2:=by kernel_rfl
 obtain ⟨j,hj,hjs⟩:=Option.map_eq_some_iff.1 hz
 have hne:=h.ne
 obtain ⟨p,v,hp,hC,hown,hR⟩:=h
 have c0 : w.cell? ⟨C,2,none⟩ = some p:=by rw [cell_block hC];rfl
 have f0 : w.frozen? ⟨C,2,none⟩ = false:=frozen_block hC 2
 rcases hp with rfl | rfl
 ·have hsh : w.shape? C = some (tCon,4):=by simp [World.shape?,hC]
  go_enter Tryz.func55,Tryz.ntmps55
  go_wp2_with fail
  rw [Lib.run_to_unsafe w ⟨C,2,none⟩ (t:=46) (by kernel_rfl) (by kernel_rfl) hj (by rw [hjs];decide) hsh (show 2 < 4 by decide)]
  simp only [Result.andThen]
  rw [Oper.upon_value]
  go_wp2_with fail
  rw [run_callFunc_extern Tryz.func78 (by kernel_rfl) (by kernel_rfl) (by kernel_rfl) (e:=Extern.AbiNoEscape.same) (by kernel_rfl)]
  rw [Lib.run_noEscape]
  simp only [Result.andThen]
  rw [Oper.upon_value]
  go_wp2_with fail
  rw [Lib.run_from_unsafe w ⟨C,2,none⟩ (u:=46) (by kernel_rfl) (by kernel_rfl) hj hsh (by kernel_rfl)]
  simp only [Result.andThen]
  rw [Oper.upon_value]
  go_wp2_with fail
  go_end0
  refine ⟨rfl,(Fr.refl _ _ _).set 2 _,v,hgo (hg_here hC) rfl,?_,hR⟩
  exact hown.kept (row:=some C) ⟨rfl,rfl,rfl,by rw [setCell_size];exact Nat.le_refl _,fun k _ hk=>Below.heap_setCell _ _ _ _ (fun e=>hk (by simp [e]))⟩ (.inr (by rw [hR];exact hne))
 ·go_enter Tryz.func55,Tryz.ntmps55
  go_wp2_with fail
  rw [Lib.run_neq_ptr_same w _ (te:=46) (by kernel_rfl) hj]
  go_wp2_with fail
  go_end0
  exact ⟨rfl,Fr.refl _ _ _,v,hC,hown,hR⟩
theorem run_append_new (w : World) (t u ty e : TypeId) (i : TypeInfo) (ht : Tryz.prog.underlying t = some (.slice e)) (hu : Tryz.prog.underlying u = some .string) (hi : Tryz.prog.info? e = some i) (hz : i.zero = some (.int .u8 0))
  (hsize : i.size = 1) (hby : i.bytes = 1) (v : Value) (n : Nat) (xs : List Value) (hown : w.ownsRowF 0 e 1 v n xs) (s : ByteArray) (h63 : n + s.size ≤ maxLen) (hbytes : n + s.size ≤ 140737488355328) :
  ∃ v' w',(Builtin.append_ #[t,u] ty #[v,.string s]).run Tryz.prog w = .ok v' w' ∧ w'.ownsRowF 0 e 1 v' (n + s.size) (xs ++ Lib.strCells s) ∧ w.grownBy w' v.ownBlock ∧ ∀ g,v'.ownBlock = some g → v.ownBlock = some g ∨ w.heap.size ≤ g:=by
 rcases hown.2 with ⟨rfl,rfl⟩ | ⟨g,cap,cur,fz,rfl,hbg,hg,hfz,hnc,hcm,hcs,htake⟩
 ·obtain ⟨v',w',h1,h2,h3,h4⟩:=Lib.run_append_own_stringF (P:=Tryz.prog) w w.heap.size t u ty e i ht hu hi hz hsize hby (.slice none 0 0) 0 xs ⟨hown.1,.inl ⟨rfl,rfl⟩⟩ s h63 hbytes (Nat.le_refl _)
  refine ⟨v',w',h1,?_,h3,fun g hg=>.inr (h2.lt g hg).1⟩
  refine ⟨h2.1,h2.2.imp id ?_⟩
  rintro ⟨g,cap,cur,fz,a1,_,a2⟩
  exact ⟨g,cap,cur,fz,a1,Nat.zero_le _,a2⟩
 ·by_cases hroom : n + s.size ≤ cap
  ·obtain ⟨v',w',h1,h2,h3,h4⟩:=Lib.run_append_own_stringF (P:=Tryz.prog) w 0 t u ty e i ht hu hi hz hsize hby _ n xs hown s h63 hbytes (Nat.zero_le _)
   have hr:=Lib.run_append_room_stringF (P:=Tryz.prog) w t u ty e i ht hu hi hsize g n cap cur fz hg (by simpa using hfz) s hroom (by rw [hcs];omega)
   rw [hr] at h1
   injection h1 with h1 h1'
   subst h1
   exact ⟨_,w',by rw [hr,h1'],h2,h3,fun g' hg'=>.inl hg'⟩
  ·have hxl : xs.length = n:=by simpa using hown.1
   have hsmall : n + s.size ≤ 9223372036854775807:=by simp only [maxLen] at h63;omega
   have holds : ∀ j u,xs[j]? = some u → w.cell? ((⟨g,0,none⟩ : Addr).add j) = some u:=hown.cells (g:=g) rfl
   have hr:=Lib.run_append_grow_string (P:=Tryz.prog) w t u ty e i (.int .u8 0) ht hu hi hz ⟨g,0,none⟩ n cap xs (by rw [hsize];simpa using hxl) holds s (by omega) (by omega) (by rw [hby];exact growslice_fits (by omega) (by omega))
   obtain ⟨v',w',h1,h2,h3,h4⟩:=Lib.run_append_own_stringF (P:=Tryz.prog) w 0 t u ty e i ht hu hi hz hsize hby _ n xs hown s h63 hbytes (Nat.zero_le _)
   rw [hr] at h1
   injection h1 with h1 h1'
   subst h1
   refine ⟨_,w',by rw [hr,h1'],h2,h3,fun g' hg'=>.inr ?_⟩
   simp [Value.ownBlock] at hg'
   omega
theorem wpList_append_new {ops : Array Oper} {rest : List Oper} {o : Oper} {a : Act} {w : World} {Q : Exit → Act → World → Prop} (hgd : o.guard = none) (sl x : Operand)
  (ho : o.op = .call { callee:=.builtin .append,args:=#[sl,x],argTypes:=#[22,9] })
  (v : Value) (n : Nat) (xs : List Value) (hs : a.eval sl = v) (hown : w.ownsRowF 0 tU8 1 v n xs) (s : ByteArray) (hx : a.eval x = .string s) (hb : n + s.size ≤ 1000000)
  (h : ∀ v' w',w'.ownsRowF 0 tU8 1 v' (n + s.size) (xs ++ Lib.strCells s) → w.grownBy w' v.ownBlock → (∀ g,v'.ownBlock = some g → v.ownBlock = some g ∨ w.heap.size ≤ g) → wpList Tryz.prog ops Q rest (a.put o.dst v') w') : wpList Tryz.prog ops Q (o :: rest) a w:=by
 have hi0 : (Tryz.prog.info? tU8).map (fun i=>(i.zero,i.size,i.bytes)) = some (some (.int .u8 0),1,1):=by kernel_rfl
 obtain ⟨i0,hi,hz0,hz1,hz2⟩:=info_parts hi0
 refine wpList_plain hgd fun K hK=>?_
 obtain ⟨v',w',hr,h2,h3,h4⟩:=run_append_new w 22 9 o.type tU8 i0 (by kernel_rfl) (by kernel_rfl) hi hz0 hz1 hz2 v n xs hown s (by unfold maxLen;omega) (by omega)
 unfold Oper.wp execOp
 simp only [ho,resolve,invoke,builtin,Sem.run_bind,Sem.run_pure,Result.andThen_ok,List.map_toArray,List.map_cons,List.map_nil,hs,hx,hr]
 exact hK _ _ (h v' w' h2 h3 h4)
set_option maxRecDepth 20000 in
set_option maxHeartbeats 2000000 in
theorem writeString_c (C : Nat) (f d : Value) (bs s : Str) (R : Option Nat) (w : World) (h : Con C w f d bs R) (hl : bs.length + s.length ≤ 1000000) :
  Calls Tryz.prog 41 #[.pointer (some ⟨C,2,none⟩),strV s] w fun e w'=>e = .returned (.tuple #[.int .i64 s.length,.nilIface]) ∧ ∃ R',Fr C R w R' w' ∧ Con C w' f d (bs ++ s) R':=by
 go_enter Tryz.func41,Tryz.ntmps41
 go_wp2_with fail
 refine (copyCheck_c C f d bs R w h).mono ?_;rintro e w1 ⟨rfl,hF1,hU1⟩
 have hne:=hU1.con.ne
 obtain ⟨v,hC,hown,hR⟩:=hU1
 have c0 : w1.cell? ⟨C,2,none⟩ = some (.pointer (some ⟨C,2,none⟩)):=by rw [cell_block hC];rfl
 have c1 : w1.cell? ⟨C,3,none⟩ = some v:=by rw [cell_block hC];rfl
 go_wp2_with (at_builtin;refine wpList_append_new rfl _ _ rfl v bs.length _ rfl hown ⟨s.toArray⟩ rfl ?c3 ?_)
 case c3=>exact hl
 intro v' w2 hown' hgrow hnew
 have hC2 : w2.heap[C]? = some (.cells #[f,d,.pointer (some ⟨C,2,none⟩),v] tCon (0,0)):=by
  rw [hgrow.block C (heap_lt hC) (fun e=>hne e.symm)];exact hC
 have d0 : w2.cell? ⟨C,2,none⟩ = some (.pointer (some ⟨C,2,none⟩)):=by rw [cell_block hC2];rfl
 have d1 : w2.cell? ⟨C,3,none⟩ = some v:=by rw [cell_block hC2];rfl
 have f1 : w2.frozen? ⟨C,3,none⟩ = false:=frozen_block hC2 3
 obtain ⟨ao,n',cap,rfl⟩ : ∃ ao n' cap,v' = .slice ao n' cap:=by
  rcases hown'.2 with ⟨hv,_⟩ | ⟨g,cap,cur,fz,hv,_⟩
  ·exact ⟨_,_,_,hv⟩
  ·exact ⟨_,_,_,hv⟩
 go_wp2_with fail
 refine bodyPost_ret (v:=.tuple #[.int .i64 s.length,.nilIface]) (by simp [results,Tryz.results41,go_sem]) rfl ?_
 have hFr : Fr C R w (Value.ownBlock (.slice ao n' cap)) w2:=by
  refine hF1.trans ⟨hgrow.os,hgrow.tape,hgrow.output,hgrow.size,fun k hk _ hr=>hgrow.block k hk hr,fun g hg=>hnew g hg⟩
 have hneC:=Lib.ownBlock_neF hown' hC2 (by decide)
 refine ⟨rfl,_,hFr.set 3 _,_,_,.inr rfl,hgo (hg_here hC2) rfl,?_,rfl⟩
 have h0:=hown'.kept (row:=some C) (w':=w2.setCell ⟨C,3,none⟩ (.slice ao n' cap)) ⟨rfl,rfl,rfl,by rw [setCell_size];exact Nat.le_refl _,fun k _ hk=>Below.heap_setCell _ _ _ _ (fun e=>hk (by simp [e]))⟩ (.inr hneC)
 rw [List.length_append,Lib.byteCells_append]
 exact h0
set_option maxRecDepth 20000 in
set_option maxHeartbeats 2000000 in
theorem bldString_c (C : Nat) (f d : Value) (bs : Str) (R : Option Nat) (w : World) (h : Con C w f d bs R) (h0 : bs ≠ []) :
  Calls Tryz.prog 28 #[.pointer (some ⟨C,2,none⟩)] w fun e w'=>e = .returned (strV bs) ∧ Fr C R w R w':=by
 obtain ⟨p,v,hp,hC,hown,hR⟩:=h
 have hl0 : bs.length ≠ 0:=by simpa using h0
 obtain ⟨g,cap,cur,fz,rfl,hbg,hg,hfz,hnc,hcm,hcs,htake⟩ : ∃ g cap cur fz,v = .slice (some ⟨g,0,none⟩) bs.length cap ∧ 0 ≤ g ∧ w.heap[g]? = some (.cells cur tU8 fz) ∧ fz.2 ≤ bs.length * 1 ∧ bs.length ≤ cap ∧ cap ≤ maxLen ∧ cur.size = cap * 1 ∧ cur.toList.take (bs.length * 1) = Lib.byteCells bs:=by
  rcases hown.2 with ⟨_,hz⟩ | ⟨g,cap,cur,fz,hv,r⟩
  ·exact absurd hz hl0
  ·exact ⟨g,cap,cur,fz,hv,r⟩
 have c1 : w.drew.cell? ⟨C,3,none⟩ = some (.slice (some ⟨g,0,none⟩) bs.length cap):=by
  have : w.drew.heap[C]? = some (.cells #[f,d,p,.slice (some ⟨g,0,none⟩) bs.length cap] tCon (0,0)):=hC
  rw [cell_block this];rfl
 have hSD : (Builtin.unsafeSliceData_ #[22] 80 #[.slice (some ⟨g,0,none⟩) bs.length cap]).run Tryz.prog w.drew = .ok (.pointer (some ⟨g,0,none⟩)) w.drew:=
  Lib.run_unsafeSliceData_row _ _ _ _ _ _ (by omega)
 have hUS : (Builtin.unsafeString_ #[80,3] 9 #[.pointer (some ⟨g,0,none⟩),.int .i64 bs.length]).run Tryz.prog w.drew = .ok (.string ⟨bs.toArray⟩) (w.drew.freeze ⟨g,0,none⟩ bs.length):=by
  refine Lib.run_unsafeString_row w.drew 80 3 9 tU8 (by kernel_rfl) (by kernel_rfl) g cur.size (by have hg' : w.drew.heap[g]? = some (.cells cur tU8 fz):=hg;simp [World.shape?,hg']) bs h0 (by omega) (by unfold maxLen at hcm;omega) ?_
  intro j x hx
  exact hown.cells (g:=g) rfl j (.int .u8 x.toNat) (by simp [Lib.byteCells,hx])
 have hfr : Fr C R w R (w.drew.freeze ⟨g,0,none⟩ bs.length):=by
  unfold World.freeze
  split
  ·exact Fr.of_ext (ext_drew w)
  ·refine ⟨rfl,rfl,rfl,Nat.le_of_eq (Array.size_modify).symm,fun k hk hc hr=>?_,fun _ h=>.inl h⟩
   simp only [Array.getElem?_modify]
   rw [if_neg (fun e=>hr (by rw [← hR,← e];rfl))];rfl
 clear hC hown hR hg hfz hcs htake
 go_enter Tryz.func28,Tryz.ntmps28
 go_wp2_with fail
 go_region
 all_goals (go_wp2;exact bodyPost_ret (v:=strV bs) (by simp [results,Tryz.results28,go_sem]) rfl ⟨rfl,hfr⟩)
end Go.Bu